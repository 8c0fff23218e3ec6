/- FrameTorn: of what is said that is cut, or of which a byte is another one, nothing is read: the walk of the law. -/
import Derived.Test.YtcfdplmapdgfmaaFrCut
import Derived.Deep.RegionHeld3
set_option linter.unusedVariables false
set_option linter.unusedSimpArgs false
namespace Go.Proofs.Ytcfdplmapdgfmaa.Mine
open Go.RowKit Go.Proofs.YtcfdplmapdgfmaaW.PrintWords

theorem wpAnyH_weak {P : Program} {ops : Array Oper} {Q : Exit → Act → World → Prop} {md : Region.Mode} {S S' : World → Prop} (hSS : ∀ w, S' w → S w) : ∀ (fuel : Nat) (listed : Array Bool) (a : Act) (w : World), wpAnyH P md ops Q S' fuel listed a w → wpAnyH P md ops Q S fuel listed a w
  | 0, _, _, _, h => h
  | fuel + 1, _, _, _, h => ⟨h.1, fun i hi => wpOp_mono (fun a' w' h' => ⟨hSS _ h'.1, wpAnyH_weak hSS fuel _ a' w' h'.2⟩) (h.2 i hi)⟩
theorem conv_one (W : World) (g : Nat) (n : Int) (h : W.cell? ⟨g, 0, none⟩ = some (.int .u8 n)) : (convert 46 9 (.slice (some ⟨g, 0, none⟩) 1 1)).run Try.prog W = .ok (.string (sb [n.toNat])) W := by
  have := run_convert_bytes_arg (P := Try.prog) W 46 5 Try.underlying46 Try.underlying5 g 0 1 1 [n] rfl (fun i hi => by
    have : i = 0 := by omega
    subst this; exact h) 9 Try.underlying9
  rw [this]
  congr 2
theorem conv_nat (W : World) (g n : Nat) (h : W.cell? ⟨g, 0, none⟩ = some (.int .u8 (n : Int))) : (convert 46 9 (.slice (some ⟨g, 0, none⟩) 1 1)).run Try.prog W = .ok (.string (sb [n])) W := conv_one W g n h
theorem byte_cell (W : World) (n : Int) : ((W.alloc (.cells #[.int .u8 n] 5)).drew).cell? ⟨W.heap.size, 0, none⟩ = some (.int .u8 n) := (blk_cell (w := W.alloc (.cells #[.int .u8 n] 5)) (blk_new W _) 0).trans rfl
theorem tmod_k (at_ : Int) (L : Nat) (hL : 0 < L) : ∃ k : Nat, k < L ∧ Int.tmod (Int.tmod at_ (L : Int) + (L : Int)) (L : Int) = (k : Int) ∧ -(L : Int) < Int.tmod at_ (L : Int) ∧ Int.tmod at_ (L : Int) < (L : Int) := by
  have h1 : Int.tmod at_ (L : Int) < (L : Int) := Int.tmod_lt_of_pos _ (by omega)
  have h2 : -(L : Int) < Int.tmod at_ (L : Int) := by
    rcases Int.le_total 0 at_ with h | h
    · have := Int.tmod_nonneg (L : Int) h; omega
    · have e : Int.tmod at_ (L : Int) = -Int.tmod (-at_) (L : Int) := by rw [Int.neg_tmod]; omega
      have := Int.tmod_lt_of_pos (-at_) (show (0 : Int) < (L : Int) by omega)
      omega
  have h3 : 0 ≤ Int.tmod (Int.tmod at_ (L : Int) + (L : Int)) (L : Int) := Int.tmod_nonneg _ (by omega)
  have h4 : Int.tmod (Int.tmod at_ (L : Int) + (L : Int)) (L : Int) < (L : Int) := Int.tmod_lt_of_pos _ (by omega)
  exact ⟨(Int.tmod (Int.tmod at_ (L : Int) + (L : Int)) (L : Int)).toNat, by omega, by omega, h2, h1⟩
set_option maxRecDepth 100000 in
set_option maxHeartbeats 8000000 in
theorem frameTorn_calls (x : SayP) (v : Value) (at_ : Int) (w : World) (hv : SayV w v x) (ha : 0 ≤ x.ask) :
    Calls Try.prog 5 #[v, .int .i64 at_] w fun e w' => e = .returned (.bool true) ∧ Below w.heap.size w w' := by
  obtain ⟨s, hs⟩ : ∃ s, s = cutP x := ⟨_, rfl⟩
  have hcut := fun (W : World) (hW : SayV W v x) => cut_calls x v W hW
  rw [← hs] at hcut
  have has : 0 ≤ s.ask := by rw [hs]; exact ha
  have HCUT := Lib.hid hcut
  have HV := Lib.hid hv
  clear hs hcut
  obtain ⟨A2, c2, A3, c3, A4, c4, rfl, hrest⟩ := hv
  clear hrest
  go_enter Try.func5, Try.ntmps5
  go_wp2_with fail
  refine (HCUT.out _ (HV.out.below (below_alloc (Below.refl _ _) _))).mono ?_
  rintro e1 w1 ⟨v1, rfl, hv1, hb1⟩
  have hb1w : Below w.heap.size w w1 := below_step (below_alloc (Below.refl _ _) _) hb1
  have HV1 := Lib.hid hv1
  obtain ⟨B2, d2, B3, d3, B4, d4, rfl, hrest⟩ := hv1
  have HB1 := Lib.hid hb1w
  clear hrest hb1 hb1w HCUT HV
  go_wp2_with fail
  refine (frEncode_calls s _ _ (HV1.out.below (below_alloc (Below.refl _ _) _)) has).mono ?_
  rintro e2 w2 ⟨rfl, hb2⟩
  have HB2 := Lib.hid (below_step (below_alloc HB1.out _) hb2)
  clear hb2 HB1
  by_cases h0 : checkP s = 0
  case neg =>
    rw [if_neg h0]
    obtain ⟨z, hz⟩ : ∃ z, z = checkP s := ⟨_, rfl⟩
    rw [← hz]
    have hzb : (z != 0) = true := by rw [hz]; simpa using h0
    clear hz h0
    go_wp2_with fail
    refine (frAwake_calls _).mono ?_
    rintro e3 w3 ⟨rfl, hb3⟩
    have HB3 := Lib.hid (below_step HB2.out hb3)
    clear hb3
    go_wp2_with fail
    refine (frAwake_calls _).mono ?_
    rintro e4 w4 ⟨rfl, hb4⟩
    have HB4 := Lib.hid (below_step HB3.out hb4)
    clear hb4
    go_wp2_with fail
    go_ret
    exact ⟨by simp, HB4.out⟩
  case pos =>
  rw [if_pos h0, h0]
  obtain ⟨b, hb⟩ : ∃ b, b = sb (encP s) := ⟨_, rfl⟩
  rw [← hb]
  have hlen := encP_len s has h0
  have hbs : bs b = encP s := by rw [hb]; exact bs_sb _ (encP_lt s h0)
  have hbz : b.size ≤ 60100 := by rw [hb, sb_size]; exact hlen
  have hbp : 0 < b.size := by rw [hb, sb_size]; unfold encP; rw [frame_length]; omega
  have hd0 : (decP (bs b)).2 = 0 := by rw [hbs, dec_enc s has h0]
  obtain ⟨k, hk, hkm, hm1, hm2⟩ := tmod_k at_ b.size hbp
  have hcutz := torn_cut (bs b) (bs_lt b) hd0 k (by rw [bs_length]; exact hk)
  obtain ⟨c, hc, hd, hbt⟩ := bt_bs b k hk
  have hsplit : bs b = (bs b).take k ++ c :: (bs b).drop (k + 1) := by rw [← hd, List.take_append_drop]
  have hx1 : c ^^^ 1 < 256 := Nat.xor_lt_two_pow (n := 8) (by omega) (by omega)
  have hne : c ≠ c ^^^ 1 := by
    intro h
    have h2 : c ^^^ 0 = c ^^^ 1 := by rw [Nat.xor_zero]; exact h
    have := xor_inj_left h2
    omega
  have hflip := torn_flip (bs b) (bs_lt b) hd0 ((bs b).take k) ((bs b).drop (k + 1)) c (c ^^^ 1) hsplit hx1 hne
  have HX := Lib.hid (And.intro hcutz (And.intro hflip (And.intro hbt (And.intro hx1 hc))))
  clear h0 hb hlen hbs hd0 hcutz hflip hd hsplit hx1 hne hbt hc
  have hbne : ((b.size : Int) == 0) = false := by rw [beq_eq_false_iff_ne]; omega
  go_wp2_with fail
  refine (frAwake_calls _).mono ?_
  rintro e3 w3 ⟨rfl, hb3⟩
  have HB3 := Lib.hid (below_step HB2.out hb3)
  clear hb3 HB2
  go_wp2_with fail
  refine (frDecode_calls (b.extract 0 k) _ (by rw [ByteArray.size_extract]; omega)).mono ?_
  rintro e4 w4 ⟨v4, rfl, hv4, hb4⟩
  obtain ⟨E2, f2, E3, f3, E4, f4, rfl, hrest⟩ := hv4
  have hz1 : (decP (bs (b.extract 0 k))).2 ≠ 0 := by
    rw [bs_extract]; simpa using HX.out.1
  obtain ⟨z1, hz1e⟩ : ∃ z, z = (decP (bs (b.extract 0 k))).2 := ⟨_, rfl⟩
  rw [← hz1e] at hz1 ⊢
  have hz1b : (z1 != 0) = true := by simpa using hz1
  have HB4 := Lib.hid (below_step HB3.out hb4)
  clear hrest hz1 hz1e hb4 HB3
  go_wp2_with fail
  have hkle : k ≤ b.size := by omega
  have hki : (k : Int) < (b.size : Int) := by omega
  have hki0 : (0 : Int) ≤ (k : Int) := by omega
  have hk1 : (k : Int) + 1 ≤ (b.size : Int) := by omega
  have hk1n : k + 1 ≤ b.size := by omega
  have hk01 : (0 : Int) ≤ (k : Int) + 1 := by omega
  have hw1 : IntKind.i64.wrap ((k : Int) + 1) = (k : Int) + 1 := by rw [IntKind.wrap_i64]; omega
  have hbk : ((b[k]'hk).toNat) = c := by
    have := bt_at b (k : Int) (by simpa using hk)
    rw [HX.out.2.2.1] at this
    exact Int.ofNat.inj this
  have hxor : bits .xor .u8 (c : Int) 1 = ((c ^^^ 1 : Nat) : Int) := u8_xor_nat c 1 HX.out.2.2.2.2 (by omega)
  obtain ⟨box, hbox⟩ : ∃ o : Obj, o = .cells zeroC 26 (0, 0) := ⟨_, rfl⟩
  have hb20 : (sb [c ^^^ 1]).size = 1 := by rw [sb_size]; rfl
  have hs1 : (b.extract 0 k).size = k := by rw [ByteArray.size_extract]; omega
  have hs2 : (b.extract (k + 1) b.size).size = b.size - (k + 1) := by rw [ByteArray.size_extract]; omega
  have hs3 : ¬ ((b.extract 0 k).size + (sb [c ^^^ 1]).size > 9223372036854775807) := by omega
  have hs4 : ¬ ((b.extract 0 k ++ sb [c ^^^ 1]).size + (b.extract (k + 1) b.size).size > 9223372036854775807) := by rw [ByteArray.size_append]; omega
  have hs3' : ¬ (9223372036854775807 < k + (sb [c ^^^ 1]).size) := by omega
  have hs4' : ¬ (9223372036854775807 < k + (sb [c ^^^ 1]).size + (b.size - (k + 1))) := by omega
  have hs5 : (b.extract 0 k ++ sb [c ^^^ 1] ++ b.extract (k + 1) b.size).size ≤ 1000000 := by rw [ByteArray.size_append, ByteArray.size_append]; omega
  have hbs5 : (decP (bs (b.extract 0 k ++ sb [c ^^^ 1] ++ b.extract (k + 1) b.size))).2 ≠ 0 := by
    have := HX.out.2.1
    rw [bs_append, bs_append, bs_sb [c ^^^ 1] (by intro x hx; rw [List.mem_singleton] at hx; have := HX.out.2.2.2.1; omega), bs_extract, bs_extract]
    simpa [List.take_of_length_le, bs_length] using this
  obtain ⟨z2, hz2e⟩ : ∃ z, z = (decP (bs (b.extract 0 k ++ sb [c ^^^ 1] ++ b.extract (k + 1) b.size))).2 := ⟨_, rfl⟩
  have hz2b : (z2 != 0) = true := by rw [hz2e]; simpa using hbs5
  have HDEC := Lib.hid (fun W : World => frDecode_calls (b.extract 0 k ++ sb [c ^^^ 1] ++ b.extract (k + 1) b.size) W hs5)
  rw [← hz2e] at HDEC
  clear hbs5 hz2e hs5 hs1 hs2 hb20 hbox box
  have hbw4 := fun o => below_alloc HB4.out o
  generalize hW4 : World.alloc w4 _ = W4
  have HW4 : Hid (Below w.heap.size w W4) := Lib.hid (hW4 ▸ hbw4 _)
  clear hW4 hbw4
  rename_i Q0 K0 hK0
  refine wp_region_held_drew (S := fun _ => True) (by kernel_rfl) trivial (fun hHeld => ?_)
  refine wpAnyH_take (i := 0) (v := ?v0x1) rfl (by kernel_rfl) (by kernel_rfl) (by kernel_rfl) (fun _ _ _ h => h) (Or.inl ⟨by rfl, ?y0x1⟩) (by first | trivial | assumption) ?r0x1
  case y0x1 => (intro w' hSw; go_simp; try (with_reducible rfl))
  try simp only [Act.put, List.setIfInBounds_toArray, List.set_cons_zero, List.set_cons_succ]
  refine wpAnyH_take (i := 1) (v := ?v1x2) rfl (by kernel_rfl) (by kernel_rfl) (by kernel_rfl) (fun _ _ _ h => h) (Or.inl ⟨by rfl, ?y1x2⟩) (by first | trivial | assumption) ?r1x2
  case y1x2 => (intro w' hSw; go_simp; try (with_reducible rfl))
  try simp only [Act.put, List.setIfInBounds_toArray, List.set_cons_zero, List.set_cons_succ]
  refine wpAnyH_take (i := 2) (v := ?v2x3) rfl (by kernel_rfl) (by kernel_rfl) (by kernel_rfl) (fun _ _ _ h => h) (Or.inl ⟨by rfl, ?y2x3⟩) (by first | trivial | assumption) ?r2x3
  case y2x3 => (intro w' hSw; go_simp; try (with_reducible rfl))
  try simp only [Act.put, List.setIfInBounds_toArray, List.set_cons_zero, List.set_cons_succ]
  refine wpAnyH_take (i := 3) (v := ?v3x4) rfl (by kernel_rfl) (by kernel_rfl) (by kernel_rfl) (fun _ _ _ h => h) (Or.inl ⟨by rfl, ?y3x4⟩) (by first | trivial | assumption) ?r3x4
  case y3x4 => (intro w' hSw; go_simp; try (with_reducible rfl))
  try simp only [Act.put, List.setIfInBounds_toArray, List.set_cons_zero, List.set_cons_succ]
  refine wpAnyH_take (i := 4) (v := ?v4x5) rfl (by kernel_rfl) (by kernel_rfl) (by kernel_rfl) (fun _ _ _ h => h) (Or.inl ⟨by rfl, ?y4x5⟩) (by first | trivial | assumption) ?r4x5
  case y4x5 => (intro w' hSw; go_simp; try (with_reducible rfl))
  try simp only [Act.put, List.setIfInBounds_toArray, List.set_cons_zero, List.set_cons_succ]
  refine wpAnyH_take (i := 5) (v := ?v5x6) rfl (by kernel_rfl) (by kernel_rfl) (by kernel_rfl) (fun _ _ _ h => h) (Or.inl ⟨by rfl, ?y5x6⟩) (by first | trivial | assumption) ?r5x6
  case y5x6 => (intro w' hSw; go_simp; try (with_reducible rfl))
  try simp only [Act.put, List.setIfInBounds_toArray, List.set_cons_zero, List.set_cons_succ]
  refine wpAnyH_take (i := 6) (v := ?v6x7) rfl (by kernel_rfl) (by kernel_rfl) (by kernel_rfl) (fun _ _ _ h => h) (Or.inl ⟨by rfl, ?y6x7⟩) (by first | trivial | assumption) ?r6x7
  case y6x7 => (intro w' hSw; go_simp; try (with_reducible rfl))
  try simp only [Act.put, List.setIfInBounds_toArray, List.set_cons_zero, List.set_cons_succ]
  refine wpAnyH_take (i := 10) (v := ?v10x8) rfl (by kernel_rfl) (by kernel_rfl) (by kernel_rfl) (fun _ _ _ h => h) (Or.inl ⟨by rfl, ?y10x8⟩) (by first | trivial | assumption) ?r10x8
  case y10x8 => (intro w' hSw; go_simp; try (with_reducible rfl))
  try simp only [Act.put, List.setIfInBounds_toArray, List.set_cons_zero, List.set_cons_succ]
  refine wpAnyH_take (i := 11) (v := ?v11x9) rfl (by kernel_rfl) (by kernel_rfl) (by kernel_rfl) (fun _ _ _ h => h) (Or.inl ⟨by rfl, ?y11x9⟩) (by first | trivial | assumption) ?r11x9
  case y11x9 => (intro w' hSw; go_simp; try (with_reducible rfl))
  try simp only [Act.put, List.setIfInBounds_toArray, List.set_cons_zero, List.set_cons_succ]
  refine wpAnyH_take (i := 12) (v := ?v12x10) rfl (by kernel_rfl) (by kernel_rfl) (by kernel_rfl) (fun _ _ _ h => h) (Or.inl ⟨by rfl, ?y12x10⟩) (by first | trivial | assumption) ?r12x10
  case y12x10 => (intro w' hSw; go_simp; try (with_reducible rfl))
  try simp only [Act.put, List.setIfInBounds_toArray, List.set_cons_zero, List.set_cons_succ]
  refine wpAnyH_take (i := 13) (v := ?v13x11) rfl (by kernel_rfl) (by kernel_rfl) (by kernel_rfl) (fun _ _ _ h => h) (Or.inl ⟨by rfl, ?y13x11⟩) (by first | trivial | assumption) ?r13x11
  case y13x11 => (intro w' hSw; go_simp; try (with_reducible rfl))
  try simp only [Act.put, List.setIfInBounds_toArray, List.set_cons_zero, List.set_cons_succ]
  refine wpAnyH_ready (rs := [7, 19]) (by kernel_rfl) (by simp) ?_
  refine AllReadyH.cons rfl (fun K hK => ?_) ?_
  · go_simp
    refine hK.out _ _ trivial (fun hHeld2 => ?_)
    clear hK K
    try simp only [Act.put, List.setIfInBounds_toArray, List.set_cons_zero, List.set_cons_succ]
    have hby : ((W4.alloc (.cells #[.int .u8 ((c ^^^ 1 : Nat) : Int)] 5 (0, 0))).drew).heap[W4.heap.size]? = some (.cells #[.int .u8 ((c ^^^ 1 : Nat) : Int)] 5 (0, 0)) := blk_new W4 _
    have hbel := below_drew (below_alloc HW4.out (.cells #[.int .u8 ((c ^^^ 1 : Nat) : Int)] 5 (0, 0)))
    generalize (World.alloc W4 _).drew = W5 at hby hbel ⊢
    generalize W4.heap.size = g at hby ⊢
    have HW5 := Lib.hid hbel
    have HY := Lib.hid hby
    clear hbel hby
    refine wpAnyH_weak (S' := fun w' => w'.cell? ⟨g, 0, none⟩ = some (.int .u8 ((c ^^^ 1 : Nat) : Int))) (fun _ _ => trivial) _ _ _ _ ?_
    have hcell : W5.cell? ⟨g, 0, none⟩ = some (.int .u8 ((c ^^^ 1 : Nat) : Int)) := (blk_cell HY.out 0).trans rfl
    refine wpAnyH_take (i := 8) (v := ?v8x18) rfl (by kernel_rfl) (by kernel_rfl) (by kernel_rfl) (fun _ _ _ h => h) (Or.inl ⟨by rfl, ?y8x18⟩) (by first | trivial | assumption) ?r8x18
    case y8x18 => (intro w' hSw; have hc := conv_nat w' _ _ hSw; go_simp; (try with_reducible rfl))
    try simp only [Act.put, List.setIfInBounds_toArray, List.set_cons_zero, List.set_cons_succ]
    refine wpAnyH_take (i := 9) (v := ?v9x19) rfl (by kernel_rfl) (by kernel_rfl) (by kernel_rfl) (fun _ _ _ h => h) (Or.inl ⟨by rfl, ?y9x19⟩) (by first | trivial | assumption) ?r9x19
    case y9x19 => (intro w' hSw; go_simp; try (with_reducible rfl))
    try simp only [Act.put, List.setIfInBounds_toArray, List.set_cons_zero, List.set_cons_succ]
    refine wpAnyH_take (i := 14) (v := ?v14x20) rfl (by kernel_rfl) (by kernel_rfl) (by kernel_rfl) (fun _ _ _ h => h) (Or.inl ⟨by rfl, ?y14x20⟩) (by first | trivial | assumption) ?r14x20
    case y14x20 => (intro w' hSw; go_simp; try (with_reducible rfl))
    try simp only [Act.put, List.setIfInBounds_toArray, List.set_cons_zero, List.set_cons_succ]
    clear hcell
    refine wpAnyH_ready (rs := [15, 19]) (by kernel_rfl) (by simp) ?_
    refine AllReadyH.cons rfl (fun K hK => ?_) ?_
    · go_simp
      refine (HDEC.out _).mono ?_
      rintro e6 W6 ⟨v6, rfl, hv6, hb6⟩
      obtain ⟨G2, g2, G3, g3, G4, g4, rfl, hrest⟩ := hv6
      have hb : Below W5.heap.size W5 W6 := ⟨hb6.os, hb6.tape, hb6.output, hb6.size, hb6.block⟩
      have hby := blk_below HY.out hb
      have hbel := below_step HW5.out hb
      refine hK.out _ _ ((blk_cell hby 0).trans rfl) (fun hHeld2 => ?_)
      clear hK K
      try simp only [Act.put, List.setIfInBounds_toArray, List.set_cons_zero, List.set_cons_succ]
      generalize (decP (bs (b.extract 0 k ++ sb [c ^^^ 1] ++ b.extract (k + 1) b.size))).1 = y
      clear hrest hb hb6 HY HDEC
      have HW6 := Lib.hid hbel
      have HY := Lib.hid hby
      clear hbel hby
      have hcell : W6.cell? ⟨g, 0, none⟩ = some (.int .u8 ((c ^^^ 1 : Nat) : Int)) := (blk_cell HY.out 0).trans rfl
      refine wpAnyH_take (i := 16) (v := ?v16x12) rfl (by kernel_rfl) (by kernel_rfl) (by kernel_rfl) (fun _ _ _ h => h) (Or.inl ⟨by rfl, ?y16x12⟩) (by first | trivial | assumption) ?r16x12
      case y16x12 => (intro w' hSw; go_simp; try (with_reducible rfl))
      try simp only [Act.put, List.setIfInBounds_toArray, List.set_cons_zero, List.set_cons_succ]
      refine wpAnyH_take (i := 17) (v := ?v17x13) rfl (by kernel_rfl) (by kernel_rfl) (by kernel_rfl) (fun _ _ _ h => h) (Or.inl ⟨by rfl, ?y17x13⟩) (by first | trivial | assumption) ?r17x13
      case y17x13 => (intro w' hSw; go_simp; try (with_reducible rfl))
      try simp only [Act.put, List.setIfInBounds_toArray, List.set_cons_zero, List.set_cons_succ]
      refine wpAnyH_take (i := 18) (v := ?v18x14) rfl (by kernel_rfl) (by kernel_rfl) (by kernel_rfl) (fun _ _ _ h => h) (Or.inl ⟨by rfl, ?y18x14⟩) (by first | trivial | assumption) ?r18x14
      case y18x14 => (intro w' hSw; go_simp; try (with_reducible rfl))
      try simp only [Act.put, List.setIfInBounds_toArray, List.set_cons_zero, List.set_cons_succ]
      clear hcell
      refine wpAnyH_ready (rs := [19]) (by kernel_rfl) (by simp) ?_
      refine AllReadyH.cons rfl (fun K hK => ?_) AllReadyH.nil
      go_simp
      refine hK.out _ _ ((blk_cell (blk_alloc HY.out (.cells zeroC 26 (0, 0))) 0).trans rfl) (fun hHeld2 => ?_)
      clear hK K
      try simp only [Act.put, List.setIfInBounds_toArray, List.set_cons_zero, List.set_cons_succ]
      have hbx : ((W6.alloc (.cells zeroC 26 (0, 0)))).heap[W6.heap.size]? = some (.cells zeroC 26 (0, 0)) := blk_new W6 _
      have hbel :=  (below_alloc HW6.out (.cells zeroC 26 (0, 0)))
      have hBge : w.heap.size ≤ W6.heap.size := HW6.out.size
      have hby : ((W6.alloc (.cells zeroC 26 (0, 0)))).heap[g]? = some (.cells #[.int .u8 ((c ^^^ 1 : Nat) : Int)] 5 (0, 0)) := blk_alloc HY.out _
      have hne : W6.heap.size ≠ g := (Nat.ne_of_lt (blk_lt HY.out)).symm
      unfold zeroC sayC nilV at hbx hbel hby
      generalize (World.alloc W6 _) = W7 at hby hbx hbel ⊢
      generalize W6.heap.size = B at hne hbx hBge ⊢
      have HW7 := Lib.hid hbel
      have HX : Hid (W7.heap[B]? = some (.cells zeroC 26 (0, 0))) := Lib.hid hbx
      have HBG := Lib.hid hBge
      clear hbel hbx hBge
      clear HY
      have HY := Lib.hid hby
      clear hby
      refine wpAnyH_ready (rs := [20]) (by kernel_rfl) (by simp) ?_
      refine AllReadyH.cons rfl (fun K hK => ?_) AllReadyH.nil
      obtain ⟨c0, c1, c2', c3', c4', c5, c6, c7, c8⟩ := rb_cells HX.out
      unfold nilV at c2' c3' c4'
      have f0 := blk_frozen HX.out 0
      have f1 := blk_frozen HX.out 1
      have f2' := blk_frozen HX.out 2
      have f3' := blk_frozen HX.out 3
      have f4' := blk_frozen HX.out 4
      have f5 := blk_frozen HX.out 5
      have f6 := blk_frozen HX.out 6
      have f7 := blk_frozen HX.out 7
      have f8 := blk_frozen HX.out 8
      go_simp
      clear c0 c1 c2' c3' c4' c5 c6 c7 c8 f0 f1 f2' f3' f4' f5 f6 f7 f8
      refine hK.out _ _ ((blk_cell ((nine_keep _ B _ _ _ _ _ _ _ _ _).blk HY.out hne.symm (by simp)) 0).trans rfl) (fun hHeld2 => ?_)
      have HW9 := Lib.hid (nine_below HW7.out HBG.out (.int .i64 y.kind) (.int .u64 y.ask) (.slice G2 y.ids.length g2) (.slice G3 y.no.length g3) (.slice G4 y.refs.length g4) (.string y.ticket) (.int .i64 y.n) (.int .i64 y.of) (.string y.data))
      clear hK K
      try simp only [Act.put, List.setIfInBounds_toArray, List.set_cons_zero, List.set_cons_succ]
      refine wpAnyH_ready (rs := [21]) (by kernel_rfl) (by simp) ?_
      refine AllReadyH.cons rfl (fun K hK => ?_) AllReadyH.nil
      go_simp
      refine hK.out _ _ hHeld2 (fun hHeld3 => ?_)
      clear hK K
      try simp only [Act.put, List.setIfInBounds_toArray, List.set_cons_zero, List.set_cons_succ]
      refine wpAnyH_done (by kernel_rfl) ?_ _
      refine hK0 _ _ ?_
      go_wp2_with fail
      go_ret
      exact ⟨by simp, HW9.out⟩
    refine AllReadyH.cons rfl (fun K hK => ?_) AllReadyH.nil
    go_simp
    refine hK.out _ _ ((blk_cell (blk_alloc HY.out (.cells zeroC 26 (0, 0))) 0).trans rfl) (fun hHeld2 => ?_)
    clear hK K
    try simp only [Act.put, List.setIfInBounds_toArray, List.set_cons_zero, List.set_cons_succ]
    have hbx : ((W5.alloc (.cells zeroC 26 (0, 0)))).heap[W5.heap.size]? = some (.cells zeroC 26 (0, 0)) := blk_new W5 _
    have hbel :=  (below_alloc HW5.out (.cells zeroC 26 (0, 0)))
    have hBge : w.heap.size ≤ W5.heap.size := HW5.out.size
    have hby : ((W5.alloc (.cells zeroC 26 (0, 0)))).heap[g]? = some (.cells #[.int .u8 ((c ^^^ 1 : Nat) : Int)] 5 (0, 0)) := blk_alloc HY.out _
    have hne : W5.heap.size ≠ g := (Nat.ne_of_lt (blk_lt HY.out)).symm
    unfold zeroC sayC nilV at hbx hbel hby
    generalize (World.alloc W5 _) = W6 at hby hbx hbel ⊢
    generalize W5.heap.size = B at hne hbx hBge ⊢
    have HW6 := Lib.hid hbel
    have HX : Hid (W6.heap[B]? = some (.cells zeroC 26 (0, 0))) := Lib.hid hbx
    have HBG := Lib.hid hBge
    clear hbel hbx hBge
    clear HY
    have HY := Lib.hid hby
    clear hby
    refine wpAnyH_ready (rs := [15]) (by kernel_rfl) (by simp) ?_
    refine AllReadyH.cons rfl (fun K hK => ?_) AllReadyH.nil
    go_simp
    refine (HDEC.out _).mono ?_
    rintro e6 W7 ⟨v6, rfl, hv6, hb6⟩
    obtain ⟨G2, g2, G3, g3, G4, g4, rfl, hrest⟩ := hv6
    have hb : Below W6.heap.size W6 W7 := ⟨hb6.os, hb6.tape, hb6.output, hb6.size, hb6.block⟩
    have hby := blk_below HY.out hb
    have hbel := below_step HW6.out hb
    refine hK.out _ _ ((blk_cell hby 0).trans rfl) (fun hHeld2 => ?_)
    clear hK K
    try simp only [Act.put, List.setIfInBounds_toArray, List.set_cons_zero, List.set_cons_succ]
    have hbx := blk_below HX.out hb
    clear HX
    have HX := Lib.hid hbx
    clear hbx
    generalize (decP (bs (b.extract 0 k ++ sb [c ^^^ 1] ++ b.extract (k + 1) b.size))).1 = y
    clear hrest hb hb6 HY HDEC
    have HW7 := Lib.hid hbel
    have HY := Lib.hid hby
    clear hbel hby
    have hcell : W7.cell? ⟨g, 0, none⟩ = some (.int .u8 ((c ^^^ 1 : Nat) : Int)) := (blk_cell HY.out 0).trans rfl
    refine wpAnyH_take (i := 16) (v := ?v16x15) rfl (by kernel_rfl) (by kernel_rfl) (by kernel_rfl) (fun _ _ _ h => h) (Or.inl ⟨by rfl, ?y16x15⟩) (by first | trivial | assumption) ?r16x15
    case y16x15 => (intro w' hSw; go_simp; try (with_reducible rfl))
    try simp only [Act.put, List.setIfInBounds_toArray, List.set_cons_zero, List.set_cons_succ]
    refine wpAnyH_take (i := 17) (v := ?v17x16) rfl (by kernel_rfl) (by kernel_rfl) (by kernel_rfl) (fun _ _ _ h => h) (Or.inl ⟨by rfl, ?y17x16⟩) (by first | trivial | assumption) ?r17x16
    case y17x16 => (intro w' hSw; go_simp; try (with_reducible rfl))
    try simp only [Act.put, List.setIfInBounds_toArray, List.set_cons_zero, List.set_cons_succ]
    refine wpAnyH_take (i := 18) (v := ?v18x17) rfl (by kernel_rfl) (by kernel_rfl) (by kernel_rfl) (fun _ _ _ h => h) (Or.inl ⟨by rfl, ?y18x17⟩) (by first | trivial | assumption) ?r18x17
    case y18x17 => (intro w' hSw; go_simp; try (with_reducible rfl))
    try simp only [Act.put, List.setIfInBounds_toArray, List.set_cons_zero, List.set_cons_succ]
    clear hcell
    refine wpAnyH_ready (rs := [20]) (by kernel_rfl) (by simp) ?_
    refine AllReadyH.cons rfl (fun K hK => ?_) AllReadyH.nil
    obtain ⟨c0, c1, c2', c3', c4', c5, c6, c7, c8⟩ := rb_cells HX.out
    unfold nilV at c2' c3' c4'
    have f0 := blk_frozen HX.out 0
    have f1 := blk_frozen HX.out 1
    have f2' := blk_frozen HX.out 2
    have f3' := blk_frozen HX.out 3
    have f4' := blk_frozen HX.out 4
    have f5 := blk_frozen HX.out 5
    have f6 := blk_frozen HX.out 6
    have f7 := blk_frozen HX.out 7
    have f8 := blk_frozen HX.out 8
    go_simp
    clear c0 c1 c2' c3' c4' c5 c6 c7 c8 f0 f1 f2' f3' f4' f5 f6 f7 f8
    refine hK.out _ _ ((blk_cell ((nine_keep _ B _ _ _ _ _ _ _ _ _).blk HY.out hne.symm (by simp)) 0).trans rfl) (fun hHeld2 => ?_)
    have HW9 := Lib.hid (nine_below HW7.out HBG.out (.int .i64 y.kind) (.int .u64 y.ask) (.slice G2 y.ids.length g2) (.slice G3 y.no.length g3) (.slice G4 y.refs.length g4) (.string y.ticket) (.int .i64 y.n) (.int .i64 y.of) (.string y.data))
    clear hK K
    try simp only [Act.put, List.setIfInBounds_toArray, List.set_cons_zero, List.set_cons_succ]
    refine wpAnyH_ready (rs := [21]) (by kernel_rfl) (by simp) ?_
    refine AllReadyH.cons rfl (fun K hK => ?_) AllReadyH.nil
    go_simp
    refine hK.out _ _ hHeld2 (fun hHeld3 => ?_)
    clear hK K
    try simp only [Act.put, List.setIfInBounds_toArray, List.set_cons_zero, List.set_cons_succ]
    refine wpAnyH_done (by kernel_rfl) ?_ _
    refine hK0 _ _ ?_
    go_wp2_with fail
    go_ret
    exact ⟨by simp, HW9.out⟩
  refine AllReadyH.cons rfl (fun K hK => ?_) AllReadyH.nil
  go_simp
  refine hK.out _ _ trivial (fun hHeld2 => ?_)
  clear hK K
  try simp only [Act.put, List.setIfInBounds_toArray, List.set_cons_zero, List.set_cons_succ]
  have hbx : ((W4.alloc (.cells zeroC 26 (0, 0))).drew).heap[W4.heap.size]? = some (.cells zeroC 26 (0, 0)) := blk_new W4 _
  have hbel := below_drew (below_alloc HW4.out (.cells zeroC 26 (0, 0)))
  have hBge : w.heap.size ≤ W4.heap.size := HW4.out.size
  unfold zeroC sayC nilV at hbx hbel 
  generalize (World.alloc W4 _).drew = W5 at hbx hbel ⊢
  generalize W4.heap.size = B at hbx hBge ⊢
  have HW5 := Lib.hid hbel
  have HX : Hid (W5.heap[B]? = some (.cells zeroC 26 (0, 0))) := Lib.hid hbx
  have HBG := Lib.hid hBge
  clear hbel hbx hBge
  refine wpAnyH_ready (rs := [7]) (by kernel_rfl) (by simp) ?_
  refine AllReadyH.cons rfl (fun K hK => ?_) AllReadyH.nil
  go_simp
  refine hK.out _ _ trivial (fun hHeld2 => ?_)
  clear hK K
  try simp only [Act.put, List.setIfInBounds_toArray, List.set_cons_zero, List.set_cons_succ]
  have hby : ((W5.alloc (.cells #[.int .u8 ((c ^^^ 1 : Nat) : Int)] 5 (0, 0)))).heap[W5.heap.size]? = some (.cells #[.int .u8 ((c ^^^ 1 : Nat) : Int)] 5 (0, 0)) := blk_new W5 _
  have hbel :=  (below_alloc HW5.out (.cells #[.int .u8 ((c ^^^ 1 : Nat) : Int)] 5 (0, 0)))
  have hbx : ((W5.alloc (.cells #[.int .u8 ((c ^^^ 1 : Nat) : Int)] 5 (0, 0)))).heap[B]? = some (.cells zeroC 26 (0, 0)) := blk_alloc HX.out _
  have hne : B ≠ W5.heap.size := Nat.ne_of_lt (blk_lt HX.out)
  have hBge : w.heap.size ≤ B := HBG.out
  generalize (World.alloc W5 _) = W6 at hbx hby hbel ⊢
  generalize W5.heap.size = g at hne hby ⊢
  have HW6 := Lib.hid hbel
  have HY := Lib.hid hby
  clear hbel hby
  clear HX
  have HX := Lib.hid hbx
  clear hbx
  refine wpAnyH_weak (S' := fun w' => w'.cell? ⟨g, 0, none⟩ = some (.int .u8 ((c ^^^ 1 : Nat) : Int))) (fun _ _ => trivial) _ _ _ _ ?_
  have hcell : W6.cell? ⟨g, 0, none⟩ = some (.int .u8 ((c ^^^ 1 : Nat) : Int)) := (blk_cell HY.out 0).trans rfl
  refine wpAnyH_take (i := 8) (v := ?v8x24) rfl (by kernel_rfl) (by kernel_rfl) (by kernel_rfl) (fun _ _ _ h => h) (Or.inl ⟨by rfl, ?y8x24⟩) (by first | trivial | assumption) ?r8x24
  case y8x24 => (intro w' hSw; have hc := conv_nat w' _ _ hSw; go_simp; (try with_reducible rfl))
  try simp only [Act.put, List.setIfInBounds_toArray, List.set_cons_zero, List.set_cons_succ]
  refine wpAnyH_take (i := 9) (v := ?v9x25) rfl (by kernel_rfl) (by kernel_rfl) (by kernel_rfl) (fun _ _ _ h => h) (Or.inl ⟨by rfl, ?y9x25⟩) (by first | trivial | assumption) ?r9x25
  case y9x25 => (intro w' hSw; go_simp; try (with_reducible rfl))
  try simp only [Act.put, List.setIfInBounds_toArray, List.set_cons_zero, List.set_cons_succ]
  refine wpAnyH_take (i := 14) (v := ?v14x26) rfl (by kernel_rfl) (by kernel_rfl) (by kernel_rfl) (fun _ _ _ h => h) (Or.inl ⟨by rfl, ?y14x26⟩) (by first | trivial | assumption) ?r14x26
  case y14x26 => (intro w' hSw; go_simp; try (with_reducible rfl))
  try simp only [Act.put, List.setIfInBounds_toArray, List.set_cons_zero, List.set_cons_succ]
  clear hcell
  refine wpAnyH_ready (rs := [15]) (by kernel_rfl) (by simp) ?_
  refine AllReadyH.cons rfl (fun K hK => ?_) AllReadyH.nil
  go_simp
  refine (HDEC.out _).mono ?_
  rintro e6 W7 ⟨v6, rfl, hv6, hb6⟩
  obtain ⟨G2, g2, G3, g3, G4, g4, rfl, hrest⟩ := hv6
  have hb : Below W6.heap.size W6 W7 := ⟨hb6.os, hb6.tape, hb6.output, hb6.size, hb6.block⟩
  have hby := blk_below HY.out hb
  have hbel := below_step HW6.out hb
  refine hK.out _ _ ((blk_cell hby 0).trans rfl) (fun hHeld2 => ?_)
  clear hK K
  try simp only [Act.put, List.setIfInBounds_toArray, List.set_cons_zero, List.set_cons_succ]
  have hbx := blk_below HX.out hb
  clear HX
  have HX := Lib.hid hbx
  clear hbx
  generalize (decP (bs (b.extract 0 k ++ sb [c ^^^ 1] ++ b.extract (k + 1) b.size))).1 = y
  clear hrest hb hb6 HY HDEC
  have HW7 := Lib.hid hbel
  have HY := Lib.hid hby
  clear hbel hby
  have hcell : W7.cell? ⟨g, 0, none⟩ = some (.int .u8 ((c ^^^ 1 : Nat) : Int)) := (blk_cell HY.out 0).trans rfl
  refine wpAnyH_take (i := 16) (v := ?v16x21) rfl (by kernel_rfl) (by kernel_rfl) (by kernel_rfl) (fun _ _ _ h => h) (Or.inl ⟨by rfl, ?y16x21⟩) (by first | trivial | assumption) ?r16x21
  case y16x21 => (intro w' hSw; go_simp; try (with_reducible rfl))
  try simp only [Act.put, List.setIfInBounds_toArray, List.set_cons_zero, List.set_cons_succ]
  refine wpAnyH_take (i := 17) (v := ?v17x22) rfl (by kernel_rfl) (by kernel_rfl) (by kernel_rfl) (fun _ _ _ h => h) (Or.inl ⟨by rfl, ?y17x22⟩) (by first | trivial | assumption) ?r17x22
  case y17x22 => (intro w' hSw; go_simp; try (with_reducible rfl))
  try simp only [Act.put, List.setIfInBounds_toArray, List.set_cons_zero, List.set_cons_succ]
  refine wpAnyH_take (i := 18) (v := ?v18x23) rfl (by kernel_rfl) (by kernel_rfl) (by kernel_rfl) (fun _ _ _ h => h) (Or.inl ⟨by rfl, ?y18x23⟩) (by first | trivial | assumption) ?r18x23
  case y18x23 => (intro w' hSw; go_simp; try (with_reducible rfl))
  try simp only [Act.put, List.setIfInBounds_toArray, List.set_cons_zero, List.set_cons_succ]
  clear hcell
  refine wpAnyH_ready (rs := [20]) (by kernel_rfl) (by simp) ?_
  refine AllReadyH.cons rfl (fun K hK => ?_) AllReadyH.nil
  obtain ⟨c0, c1, c2', c3', c4', c5, c6, c7, c8⟩ := rb_cells HX.out
  unfold nilV at c2' c3' c4'
  have f0 := blk_frozen HX.out 0
  have f1 := blk_frozen HX.out 1
  have f2' := blk_frozen HX.out 2
  have f3' := blk_frozen HX.out 3
  have f4' := blk_frozen HX.out 4
  have f5 := blk_frozen HX.out 5
  have f6 := blk_frozen HX.out 6
  have f7 := blk_frozen HX.out 7
  have f8 := blk_frozen HX.out 8
  go_simp
  clear c0 c1 c2' c3' c4' c5 c6 c7 c8 f0 f1 f2' f3' f4' f5 f6 f7 f8
  refine hK.out _ _ ((blk_cell ((nine_keep _ B _ _ _ _ _ _ _ _ _).blk HY.out hne.symm (by simp)) 0).trans rfl) (fun hHeld2 => ?_)
  have HW9 := Lib.hid (nine_below HW7.out HBG.out (.int .i64 y.kind) (.int .u64 y.ask) (.slice G2 y.ids.length g2) (.slice G3 y.no.length g3) (.slice G4 y.refs.length g4) (.string y.ticket) (.int .i64 y.n) (.int .i64 y.of) (.string y.data))
  clear hK K
  try simp only [Act.put, List.setIfInBounds_toArray, List.set_cons_zero, List.set_cons_succ]
  refine wpAnyH_ready (rs := [21]) (by kernel_rfl) (by simp) ?_
  refine AllReadyH.cons rfl (fun K hK => ?_) AllReadyH.nil
  go_simp
  refine hK.out _ _ hHeld2 (fun hHeld3 => ?_)
  clear hK K
  try simp only [Act.put, List.setIfInBounds_toArray, List.set_cons_zero, List.set_cons_succ]
  refine wpAnyH_done (by kernel_rfl) ?_ _
  refine hK0 _ _ ?_
  go_wp2_with fail
  go_ret
  exact ⟨by simp, HW9.out⟩
end Go.Proofs.Ytcfdplmapdgfmaa.Mine
