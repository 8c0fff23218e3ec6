import Derived.Test.YtcfdplmapdgfmaaUPTx0
namespace Go.Proofs.Ytcfdplmapdgfmaa.PT
open List renaming setIfInBounds_toArray → q1, set_cons_zero → q2, set_cons_succ → q3
open Go.RowKit Go.Proofs.YtcfdplmapdgfmaaW.PrintWords Go.Proofs.YtcfdplmapdgfmaaW.PrintLast Go.Proofs.YtcfdplmapdgfmaaW.PrintMore
attribute [local go_sem] z13 z14 max_two min_two z15 z17 z18 z19   -- for this text's walks alone
set_option linter.unusedVariables false
set_option linter.unusedSimpArgs false
def z1g.f (a0 : ByteArray) : Option (Int × Int × Int) := if a0.size ≤ 140737488351232 then some ((Mine.unnum (Mine.bs a0)).1, (Mine.unnum (Mine.bs a0)).2.1, (Mine.unnum (Mine.bs a0)).2.2) else none
theorem z1g.calls (a0 : ByteArray) (r1 : Int) (r2 : Int) (r3 : Int) (w : World) (h : z1g.f a0 = some (r1, r2, r3)) :
  Calls Try.prog 66 #[.string a0] w fun e w' => e = .returned (.tuple #[.int .u64 r1, .int .i64 r2, .int .i64 r3]) ∧ Below w.heap.size w w' := by
 unfold z1g.f at h
 split at h
 ·simp only [Option.some.injEq, Prod.mk.injEq] at h
  obtain ⟨rfl, rfl, rfl⟩ := h
  exact Mine.unnum_calls _ _ ‹_›
 ·cases h
def IsS174 (w0 W : World) (g : Nat) (f0 : ByteArray) (f1 : Int) : Prop := W.heap[g]? = some (.cells #[.string f0, .int .i64 f1] 174 (0, 0)) ∧ w0.heap.size ≤ g
theorem IsS174.grown {w0 W : World} {g : Nat} {f0 : ByteArray} {f1 : Int} {W1 : World} {row : Option Nat} (h : IsS174 w0 W g f0 f1) (hw : W.grownBy W1 row) (hne : some g ≠ row) : IsS174 w0 W1 g f0 f1 := by
 obtain ⟨hb, hg⟩ := h
 exact ⟨blk_grown hb hw hne, hg⟩
theorem IsS174.fresh {w0 W : World} {g : Nat} {f0 : ByteArray} {f1 : Int} (h : IsS174 w0 W g f0 f1) : ∀ k, W.heap.size ≤ k → k ≠ g := by
 obtain ⟨hb, hg⟩ := h
 exact Kd.freshB hb
theorem IsS174.kept {w0 W : World} {g : Nat} {f0 : ByteArray} {f1 : Int} {W1 : World} {S : Nat → Prop} (h : IsS174 w0 W g f0 f1) (hk : Kept W W1 S) (hne : ¬ S g) : IsS174 w0 W1 g f0 f1 := by
 obtain ⟨hb, hg⟩ := h
 exact ⟨blk_kept hb hk hne, hg⟩
theorem IsS174.below {w0 W : World} {g : Nat} {f0 : ByteArray} {f1 : Int} {W1 : World} (h : IsS174 w0 W g f0 f1) (hw : Below W.heap.size W W1) : IsS174 w0 W1 g f0 f1 := h.grown (grown_of_below hw none) (by simp)
theorem IsS174.alloc {w0 W : World} {g : Nat} {f0 : ByteArray} {f1 : Int} (h : IsS174 w0 W g f0 f1) (o : Obj) : IsS174 w0 (W.alloc o) g f0 f1 := h.below (z03 (Below.refl _ _) o)
theorem IsS174.drewN {w0 W : World} {g : Nat} {f0 : ByteArray} {f1 : Int} (h : IsS174 w0 W g f0 f1) (m : Nat) : IsS174 w0 (W.drewN m) g f0 f1 := h
theorem IsS174.drew {w0 W : World} {g : Nat} {f0 : ByteArray} {f1 : Int} (h : IsS174 w0 W g f0 f1) : IsS174 w0 W.drew g f0 f1 := h
theorem IsS174.at_ {w0 W : World} {g : Nat} {f0 : ByteArray} {f1 : Int} {w' : World} {m : Nat} (hq : W.drewN m = w') (h : IsS174 w0 W g f0 f1) : IsS174 w0 w' g f0 f1 := by subst hq; exact IsS174.drewN h m
theorem IsS174.apart {w0 W : World} {g : Nat} {f0 : ByteArray} {f1 : Int} {α : Type} {d : Kd α} {e : Nat} {base : Nat} {ok : Nat → Prop} {v : Value} {xs : List α} (h : IsS174 w0 W g f0 f1) (ho : d.R e W base ok v xs) (ht : ∀ q, q ∈ e :: d.E → q ≠ 174) : d.R e W base (fun k => ok k ∧ k ≠ g) v xs := by
 obtain ⟨hb, hg⟩ := h
 exact Kd.R_types ho hb ht
theorem IsS174.own_ne {w0 W : World} {g : Nat} {f0 : ByteArray} {f1 : Int} {α : Type} {d : Kd α} {e : Nat} {base : Nat} {ok : Nat → Prop} {v : Value} {xs : List α} (h : IsS174 w0 W g f0 f1) (ho : d.R e W base ok v xs) (ht : e ≠ 174) : some g ≠ v.ownBlock := by
 obtain ⟨hb, hg⟩ := h
 exact Kd.R_ne ho hb ht
theorem IsS174.lt {w0 W : World} {g : Nat} {f0 : ByteArray} {f1 : Int} (h : IsS174 w0 W g f0 f1) : g < W.heap.size := by
 obtain ⟨hb, hg⟩ := h
 exact blk_lt hb
theorem IsS174.ge {w0 W : World} {g : Nat} {f0 : ByteArray} {f1 : Int} (h : IsS174 w0 W g f0 f1) : w0.heap.size ≤ g := by
 obtain ⟨hb, hg⟩ := h
 exact hg
theorem IsS174.far {w0 W : World} {g : Nat} {f0 : ByteArray} {f1 : Int} {p : Addr} (h : IsS174 w0 W g f0 f1) (hne : g ≠ p.block) (u : Value) : IsS174 w0 (W.setCell p u) g f0 f1 := by
 obtain ⟨hb, hg⟩ := h
 exact ⟨blk_far hb hne u, hg⟩
theorem z10 {W : World} {g : Nat} {f0 : ByteArray} {f1 : Int} (h : W.heap[g]? = some (.cells #[.string f0, .int .i64 f1] 174 (0, 0))) : W.cell? ⟨g, 0, none⟩ = some (.string f0) := (z0a h 0).trans rfl
theorem IsS174.set_0 {w0 W : World} {g : Nat} {f0 : ByteArray} {f1 : Int} (h : IsS174 w0 W g f0 f1) (x : ByteArray) : IsS174 w0 (W.setCell ⟨g, 0, none⟩ (.string x)) g x f1 := by
 obtain ⟨hb, hg⟩ := h
 exact ⟨by simpa using blk_set hb 0 (.string x), hg⟩
theorem z0z {W : World} {g : Nat} {f0 : ByteArray} {f1 : Int} (h : W.heap[g]? = some (.cells #[.string f0, .int .i64 f1] 174 (0, 0))) : W.cell? ⟨g, 1, none⟩ = some (.int .i64 f1) := (z0a h 1).trans rfl
theorem IsS174.set_1 {w0 W : World} {g : Nat} {f0 : ByteArray} {f1 : Int} (h : IsS174 w0 W g f0 f1) (x : Int) : IsS174 w0 (W.setCell ⟨g, 1, none⟩ (.int .i64 x)) g f0 x := by
 obtain ⟨hb, hg⟩ := h
 exact ⟨by simpa using blk_set hb 1 (.int .i64 x), hg⟩
theorem IsS174.new (w0 W : World) (f0 : ByteArray) (f1 : Int) (hB : Below w0.heap.size w0 W) : IsS174 w0 (W.alloc (.cells #[.string f0, .int .i64 f1] 174)) W.heap.size f0 f1 := ⟨by simpa using heap_alloc_new W _, hB.size⟩
def z0e.j0 : Nat → Int → Int → Int → ByteArray → Int → Option (Int × ByteArray × Int)
 | 0, _, _, _, _, _ => none
 | k + 1, x1, x5, x6, x1000, x1001 => if x1001 = 0 then (if 0 ≤ x6 then (if x6 ≤ (x1000.size : Int) then (if x5 > (IntKind.u64.wrap (x1)) then (some (0, x1000.extract (x6 : Int).toNat x1000.size, 6)) else (some (wrap64 (x5), x1000.extract (x6 : Int).toNat x1000.size, x1001))) else (none)) else (none)) else (some (0, x1000, x1001))
def z0e.f (k : Nat) (s0_0 : ByteArray) (s0_1 : Int) (a1 : Int) : Option (Int × ByteArray × Int) := (z1g.f s0_0).bind fun bt101 => (if s0_1 = 0 then (z0e.j0 k a1 bt101.1 bt101.2.1 s0_0 bt101.2.2) else (z0e.j0 k a1 bt101.1 bt101.2.1 s0_0 s0_1))
theorem z0e.mono_l : ∀ k, (∀ y0 y1 y2 y3 y4, LeO (z0e.j0 k y0 y1 y2 y3 y4) (z0e.j0 (k + 1) y0 y1 y2 y3 y4))
 | 0 => fun _ _ _ _ _ r h => by simp [z0e.j0] at h
 | k + 1 => by
  have ih0 := z0e.mono_l k
  ·intro y0 y1 y2 y3 y4
   unfold z0e.j0
   repeat' first
   | (with_reducible exact ih0 _ _ _ _ _)
   | (with_reducible exact LeO.refl _)
   | (with_reducible exact LeO.none _)
   | (with_reducible refine LeO.ite ?_ ?_)
   | (with_reducible refine LeO.bind ?_ (fun _ => ?_))
   | exact ih0 _ _ _ _ _
   | exact LeO.none _
   | refine LeO.ite ?_ ?_
   | refine LeO.bind ?_ (fun _ => ?_)
theorem z0e.mono : ∀ a0 a1 a2 k, LeO (z0e.f k a0 a1 a2) (z0e.f (k + 1) a0 a1 a2) := by
 intro a0 a1 a2 k
 have ih0 := z0e.mono_l k
 unfold z0e.f
 repeat' first
   | (with_reducible exact ih0 _ _ _ _ _)
   | (with_reducible exact LeO.refl _)
   | (with_reducible exact LeO.none _)
   | (with_reducible refine LeO.ite ?_ ?_)
   | (with_reducible refine LeO.bind ?_ (fun _ => ?_))
   | exact ih0 _ _ _ _ _
   | exact LeO.none _
   | refine LeO.ite ?_ ?_
   | refine LeO.bind ?_ (fun _ => ?_)
set_option maxHeartbeats 8000000 in
set_option maxRecDepth 100000 in
theorem z0e.calls (k : Nat) (g : Nat) (s0_0 : ByteArray) (s0_1 : Int) (a1 : Int) (r1 : Int) (r2 : ByteArray) (r3 : Int) (w0 w : World) (hI : IsS174 w0 w g s0_0 s0_1) (hB : Below w0.heap.size w0 w) (h : z0e.f k s0_0 s0_1 a1 = some (r1, r2, r3)) :
  Calls Try.prog 104 #[.pointer (some ⟨g, 0, none⟩), .int .i64 a1] w fun e w' => e = .returned (.int .i64 r1) ∧ IsS174 w0 w' g r2 r3 ∧ Below w0.heap.size w0 w' ∧ KeepBut w w' g none := by
 have HI0 := z00.mk hI
 have HK := z00.mk (KeepBut.refl w g none)
 have HL := z00.mk hB.size
 clear hI
 have HW0 := z00.mk hB.size
 have HB := z00.mk hB
 clear hB
 have H : ((z1g.f s0_0).bind fun bt101 => (if s0_1 = 0 then (z0e.j0 k a1 bt101.1 bt101.2.1 s0_0 bt101.2.2) else (z0e.j0 k a1 bt101.1 bt101.2.1 s0_0 s0_1))) = some (r1, r2, r3) := h
 clear h
 replace H := Option.bind_eq_some_iff.mp H
 obtain ⟨⟨t101, t102, t103⟩, A30, H⟩ := H
 replace H : (if s0_1 = 0 then (z0e.j0 k a1 t101 t102 s0_0 t103) else (z0e.j0 k a1 t101 t102 s0_0 s0_1)) = some (r1, r2, r3) := H
 have A3 := z00.mk A30
 clear A30
 have HC4 := z00.mk H
 clear H
 obtain ⟨HGz5, hgz5⟩ := HI0.out
 have hcz5_0 := z10 HGz5
 have hcz5_1 := z0z HGz5
 have hfz5_0 := z0b HGz5 0
 have hfz5_1 := z0b HGz5 1
 clear HGz5 hgz5
 go_enter Try.func104, Try.ntmps104
 go_upto_if 21 with (first | ((with_reducible refine gate_callee (f := 66) rfl ?_); refine goesL_ (some 13) rfl rfl Try.func66 (by kernel_rfl) rfl #[.string s0_0] rfl (by (try simp only [List.map_toArray, List.map_cons, List.map_nil]); first | done | rfl | (simp only [List.length_drop, List.length_take]; rfl)) ?_; (with_reducible refine (z1g.calls s0_0 t101 t102 t103 _ A3.out).mono ?_); rintro e w6 ⟨rfl, hb⟩; refine ⟨_, rfl, ?_⟩; have n0_ := z00.mk (IsS174.below (by repeat (first | (with_reducible first | exact HI0.out | apply IsS174.alloc | apply IsS174.drewN | apply IsS174.drew | apply IsS174.set_0 | apply IsS174.set_1) | exact HI0.out)) hb); have n1_ := z00.mk (KeepBut.trans (by repeat (first | (with_reducible first | exact HK.out | apply KeepBut.set_ | apply z1c | apply z1e | apply z1d) | exact HK.out)) (KeepBut.of_below hb g none) (.inl rfl)); have n2_ := z00.mk (z07 (by repeat (first | (with_reducible first | exact HB.out | apply z03 | apply z05 | apply z06 | refine z1b ?_ (IsS174.ge HI0.out)) | exact HB.out)) hb); clear HI0; clear HK; clear HB; have HI0 := n0_; have HK := n1_; have HB := n2_; clear n0_ n1_ n2_; (try clear hb); (try clear hb2); (try clear hk); (try clear hi); obtain ⟨HGz7, hgz7⟩ := HI0.out; have hcz7_0 := z10 HGz7; have hcz7_1 := z0z HGz7; have hfz7_0 := z0b HGz7 0; have hfz7_1 := z0b HGz7 1; clear HGz7 hgz7))
 (try simp only [Act.put, q1, q2, q3])
 go_cut [] (fun wc => ∃ (kq : Nat) (x1001_3 : Int), z00 (z0e.j0 kq a1 t101 t102 s0_0 x1001_3 = some (r1, r2, r3)) ∧ z00 (kq ≤ k) ∧ z00 (IsS174 w0 wc g s0_0 x1001_3) ∧ z00 (KeepBut w wc g none) ∧ z00 (Below w0.heap.size w0 wc))
 case first =>
  have H := HC4.out
  clear HC4
  by_cases c8 : s0_1 = 0
  ·rw [if_pos c8] at H
   have c8b0 : (s0_1 == 0) = true := beq_iff_eq.mpr c8
   have c8b1 : (s0_1 != 0) = false := bne_eq_false_iff_eq.mpr c8
   clear c8
   (first | rw [c8b0] | (simp only [i64_w, i32_w]; rw [c8b0]) | skip)
   have H' := z00.mk H
   clear H
   obtain ⟨HGz9, hgz9⟩ := HI0.out
   have hcz9_0 := z10 HGz9
   have hcz9_1 := z0z HGz9
   have hfz9_0 := z0b HGz9 0
   have hfz9_1 := z0b HGz9 1
   clear HGz9 hgz9
   go_wp2
   go_meet
   case rel => exact ⟨_, (t103), H', ⟨by first | omega | exact Nat.le_refl _⟩, ⟨by repeat (first | (with_reducible first | exact HI0.out | apply IsS174.alloc | apply IsS174.drewN | apply IsS174.drew | apply IsS174.set_0 | apply IsS174.set_1) | exact HI0.out)⟩, ⟨by repeat (first | (with_reducible first | exact HK.out | apply KeepBut.set_ | apply z1c | apply z1e | apply z1d) | exact HK.out)⟩, ⟨by repeat (first | (with_reducible first | exact HB.out | apply z03 | apply z05 | apply z06 | refine z1b ?_ (IsS174.ge HI0.out)) | exact HB.out)⟩⟩
  ·rw [if_neg c8] at H
   have c8b0 : (s0_1 == 0) = false := beq_eq_false_iff_ne.mpr c8
   have c8b1 : (s0_1 != 0) = true := bne_iff_ne.mpr c8
   (first | rw [c8b0] | (simp only [i64_w, i32_w]; rw [c8b0]) | skip)
   have H' := z00.mk H
   clear H
   go_wp2
   go_meet
   case rel => exact ⟨_, (s0_1), H', ⟨by first | omega | exact Nat.le_refl _⟩, ⟨by repeat (first | (with_reducible first | exact HI0.out | apply IsS174.alloc | apply IsS174.drewN | apply IsS174.drew | apply IsS174.set_0 | apply IsS174.set_1) | exact HI0.out)⟩, ⟨by repeat (first | (with_reducible first | exact HK.out | apply KeepBut.set_ | apply z1c | apply z1e | apply z1d) | exact HK.out)⟩, ⟨by repeat (first | (with_reducible first | exact HB.out | apply z03 | apply z05 | apply z06 | refine z1b ?_ (IsS174.ge HI0.out)) | exact HB.out)⟩⟩
 case rest =>
  clear HC4
  try clear c1
  try clear p2
  try clear c6
  try clear c8
  try clear c8b0
  try clear c8b1
  try clear hcz5_0
  try clear hcz5_1
  try clear hcz7_0
  try clear hcz7_1
  try clear hcz9_0
  try clear hcz9_1
  try clear hfz5_0
  try clear hfz5_1
  try clear hfz7_0
  try clear hfz7_1
  try clear hfz9_0
  try clear hfz9_1
  obtain ⟨kq, x1001_3, HA, HJ3, HI0, HK, HB⟩ := hcut
  cases kq with
  | zero => exact absurd HA.out (by simp [z0e.j0])
  | succ kj3 =>
   have H := HA.out
   clear HA
   simp only [z0e.j0] at H
   by_cases c10 : x1001_3 = 0
   ·rw [if_pos c10] at H
    have c10b0 : (x1001_3 == 0) = true := beq_iff_eq.mpr c10
    have c10b1 : (x1001_3 != 0) = false := bne_eq_false_iff_eq.mpr c10
    clear c10
    by_cases c11 : 0 ≤ t102
    ·rw [if_pos c11] at H
     have c11b0 := eq_true c11
     have c11b1 : decide (0 ≤ t102) = true := decide_eq_true c11
     clear c11
     by_cases c12 : t102 ≤ (s0_0.size : Int)
     ·rw [if_pos c12] at H
      have c12b0 := eq_true c12
      have c12b1 : decide (t102 ≤ (s0_0.size : Int)) = true := decide_eq_true c12
      clear c12
      by_cases c13 : t101 > (IntKind.u64.wrap (a1))
      ·rw [if_pos c13] at H
       have c13b0 : decide ((IntKind.u64.wrap (a1)) < t101) = true := decide_eq_true c13
       clear c13
       simp only [Option.some.injEq, Prod.mk.injEq] at H
       obtain ⟨rfl, rfl, rfl⟩ := H
       obtain ⟨HGz14, hgz14⟩ := HI0.out
       have hcz14_0 := z10 HGz14
       have hcz14_1 := z0z HGz14
       have hfz14_0 := z0b HGz14 0
       have hfz14_1 := z0b HGz14 1
       clear HGz14 hgz14
       go_wp2
       go_ret
       exact ⟨by first | rfl | (simp [z0o, z0p] <;> rfl) | (simp [*, z0o, z0p] <;> rfl), by repeat (first | (with_reducible first | exact HI0.out | apply IsS174.alloc | apply IsS174.drewN | apply IsS174.drew | apply IsS174.set_0 | apply IsS174.set_1) | exact HI0.out), by repeat (first | (with_reducible first | exact HB.out | apply z03 | apply z05 | apply z06 | refine z1b ?_ (IsS174.ge HI0.out)) | exact HB.out), by repeat (first | (with_reducible first | exact HK.out | apply KeepBut.set_ | apply z1c | apply z1e | apply z1d) | exact HK.out)⟩
      ·rw [if_neg c13] at H
       have c13b0 : decide ((IntKind.u64.wrap (a1)) < t101) = false := decide_eq_false c13
       clear c13
       simp only [Option.some.injEq, Prod.mk.injEq] at H
       obtain ⟨rfl, rfl, rfl⟩ := H
       obtain ⟨HGz15, hgz15⟩ := HI0.out
       have hcz15_0 := z10 HGz15
       have hcz15_1 := z0z HGz15
       have hfz15_0 := z0b HGz15 0
       have hfz15_1 := z0b HGz15 1
       clear HGz15 hgz15
       go_wp2
       go_ret
       exact ⟨by first | rfl | (simp [z0o, z0p] <;> rfl) | (simp [*, z0o, z0p] <;> rfl), by repeat (first | (with_reducible first | exact HI0.out | apply IsS174.alloc | apply IsS174.drewN | apply IsS174.drew | apply IsS174.set_0 | apply IsS174.set_1) | exact HI0.out), by repeat (first | (with_reducible first | exact HB.out | apply z03 | apply z05 | apply z06 | refine z1b ?_ (IsS174.ge HI0.out)) | exact HB.out), by repeat (first | (with_reducible first | exact HK.out | apply KeepBut.set_ | apply z1c | apply z1e | apply z1d) | exact HK.out)⟩
     ·rw [if_neg c12] at H
      exact absurd H (by simp)
    ·rw [if_neg c11] at H
     exact absurd H (by simp)
   ·rw [if_neg c10] at H
    have c10b0 : (x1001_3 == 0) = false := beq_eq_false_iff_ne.mpr c10
    have c10b1 : (x1001_3 != 0) = true := bne_iff_ne.mpr c10
    simp only [Option.some.injEq, Prod.mk.injEq] at H
    obtain ⟨rfl, rfl, rfl⟩ := H
    obtain ⟨HGz16, hgz16⟩ := HI0.out
    have hcz16_0 := z10 HGz16
    have hcz16_1 := z0z HGz16
    have hfz16_0 := z0b HGz16 0
    have hfz16_1 := z0b HGz16 1
    clear HGz16 hgz16
    go_wp2
    go_ret
    exact ⟨by first | rfl | (simp [z0o, z0p] <;> rfl) | (simp [*, z0o, z0p] <;> rfl), by repeat (first | (with_reducible first | exact HI0.out | apply IsS174.alloc | apply IsS174.drewN | apply IsS174.drew | apply IsS174.set_0 | apply IsS174.set_1) | exact HI0.out), by repeat (first | (with_reducible first | exact HB.out | apply z03 | apply z05 | apply z06 | refine z1b ?_ (IsS174.ge HI0.out)) | exact HB.out), by repeat (first | (with_reducible first | exact HK.out | apply KeepBut.set_ | apply z1c | apply z1e | apply z1d) | exact HK.out)⟩
def z0k.j0 : Nat → Int → Bool → ByteArray → Int → Option (ByteArray × ByteArray × Int)
 | 0, _, _, _, _ => none
 | k + 1, x1, x19, x1000, x1001 => if x19 = true then (if 4 = 0 then (if 0 ≤ x1 then (if x1 ≤ (x1000.size : Int) then (some (x1000.extract 0 (x1 : Int).toNat, x1000.extract (x1 : Int).toNat x1000.size, 4)) else (none)) else (none)) else (some ((⟨#[]⟩ : ByteArray), x1000, 4))) else (if x1001 = 0 then (if 0 ≤ x1 then (if x1 ≤ (x1000.size : Int) then (some (x1000.extract 0 (x1 : Int).toNat, x1000.extract (x1 : Int).toNat x1000.size, x1001)) else (none)) else (none)) else (some ((⟨#[]⟩ : ByteArray), x1000, x1001)))
def z0k.f (k : Nat) (s0_0 : ByteArray) (s0_1 : Int) (a1 : Int) : Option (ByteArray × ByteArray × Int) := if s0_1 = 0 then (z0k.j0 k a1 (decide (a1 > (s0_0.size : Int))) s0_0 s0_1) else (z0k.j0 k a1 false s0_0 s0_1)
theorem z0k.mono_l : ∀ k, (∀ y0 y1 y2 y3, LeO (z0k.j0 k y0 y1 y2 y3) (z0k.j0 (k + 1) y0 y1 y2 y3))
 | 0 => fun _ _ _ _ r h => by simp [z0k.j0] at h
 | k + 1 => by
  have ih0 := z0k.mono_l k
  ·intro y0 y1 y2 y3
   unfold z0k.j0
   repeat' first
   | (with_reducible exact ih0 _ _ _ _)
   | (with_reducible exact LeO.refl _)
   | (with_reducible exact LeO.none _)
   | (with_reducible refine LeO.ite ?_ ?_)
   | (with_reducible refine LeO.bind ?_ (fun _ => ?_))
   | exact ih0 _ _ _ _
   | exact LeO.none _
   | refine LeO.ite ?_ ?_
   | refine LeO.bind ?_ (fun _ => ?_)
theorem z0k.mono : ∀ a0 a1 a2 k, LeO (z0k.f k a0 a1 a2) (z0k.f (k + 1) a0 a1 a2) := by
 intro a0 a1 a2 k
 have ih0 := z0k.mono_l k
 unfold z0k.f
 repeat' first
   | (with_reducible exact ih0 _ _ _ _)
   | (with_reducible exact LeO.refl _)
   | (with_reducible exact LeO.none _)
   | (with_reducible refine LeO.ite ?_ ?_)
   | (with_reducible refine LeO.bind ?_ (fun _ => ?_))
   | exact ih0 _ _ _ _
   | exact LeO.none _
   | refine LeO.ite ?_ ?_
   | refine LeO.bind ?_ (fun _ => ?_)
set_option maxHeartbeats 8000000 in
set_option maxRecDepth 100000 in
theorem z0k.calls (k : Nat) (g : Nat) (s0_0 : ByteArray) (s0_1 : Int) (a1 : Int) (r1 : ByteArray) (r2 : ByteArray) (r3 : Int) (w0 w : World) (hI : IsS174 w0 w g s0_0 s0_1) (hB : Below w0.heap.size w0 w) (h : z0k.f k s0_0 s0_1 a1 = some (r1, r2, r3)) :
  Calls Try.prog 105 #[.pointer (some ⟨g, 0, none⟩), .int .i64 a1] w fun e w' => e = .returned (.string r1) ∧ IsS174 w0 w' g r2 r3 ∧ Below w0.heap.size w0 w' ∧ KeepBut w w' g none := by
 have HI0 := z00.mk hI
 have HK := z00.mk (KeepBut.refl w g none)
 have HL := z00.mk hB.size
 clear hI
 have HW0 := z00.mk hB.size
 have HB := z00.mk hB
 clear hB
 have H : (if s0_1 = 0 then (z0k.j0 k a1 (decide (a1 > (s0_0.size : Int))) s0_0 s0_1) else (z0k.j0 k a1 false s0_0 s0_1)) = some (r1, r2, r3) := h
 clear h
 have HC3 := z00.mk H
 clear H
 go_enter Try.func105, Try.ntmps105
 go_upto_region 1 with (fail)
 go_cut [19] (fun v19 wc => ∃ (kq : Nat) (x19_2 : Bool), v19 = .bool x19_2 ∧ z00 (z0k.j0 kq a1 x19_2 s0_0 s0_1 = some (r1, r2, r3)) ∧ z00 (kq ≤ k) ∧ z00 (IsS174 w0 wc g s0_0 s0_1) ∧ z00 (KeepBut w wc g none) ∧ z00 (Below w0.heap.size w0 wc))
 case first =>
  have H := HC3.out
  clear HC3
  by_cases c4 : s0_1 = 0
  ·rw [if_pos c4] at H
   have c4b0 : (s0_1 == 0) = true := beq_iff_eq.mpr c4
   have c4b1 : (s0_1 != 0) = false := bne_eq_false_iff_eq.mpr c4
   clear c4
   (first | rw [c4b0] | (simp only [i64_w, i32_w]; rw [c4b0]) | skip)
   have H' := z00.mk H
   clear H
   obtain ⟨HGz5, hgz5⟩ := HI0.out
   have hcz5_0 := z10 HGz5
   have hcz5_1 := z0z HGz5
   have hfz5_0 := z0b HGz5 0
   have hfz5_1 := z0b HGz5 1
   clear HGz5 hgz5
   go_wp2
   go_meet
   case rel => exact ⟨_, (decide (a1 > (s0_0.size : Int))), (by first | rfl | (simp; done) | (simp [*]; done)), H', ⟨by first | omega | exact Nat.le_refl _⟩, ⟨by repeat (first | (with_reducible first | exact HI0.out | apply IsS174.alloc | apply IsS174.drewN | apply IsS174.drew | apply IsS174.set_0 | apply IsS174.set_1) | exact HI0.out)⟩, ⟨by repeat (first | (with_reducible first | exact HK.out | apply KeepBut.set_ | apply z1c | apply z1e | apply z1d) | exact HK.out)⟩, ⟨by repeat (first | (with_reducible first | exact HB.out | apply z03 | apply z05 | apply z06 | refine z1b ?_ (IsS174.ge HI0.out)) | exact HB.out)⟩⟩
  ·rw [if_neg c4] at H
   have c4b0 : (s0_1 == 0) = false := beq_eq_false_iff_ne.mpr c4
   have c4b1 : (s0_1 != 0) = true := bne_iff_ne.mpr c4
   (first | rw [c4b0] | (simp only [i64_w, i32_w]; rw [c4b0]) | skip)
   have H' := z00.mk H
   clear H
   obtain ⟨HGz6, hgz6⟩ := HI0.out
   have hcz6_0 := z10 HGz6
   have hcz6_1 := z0z HGz6
   have hfz6_0 := z0b HGz6 0
   have hfz6_1 := z0b HGz6 1
   clear HGz6 hgz6
   go_wp2
   go_meet
   case rel => exact ⟨_, (false), (by first | rfl | (simp; done) | (simp [*]; done)), H', ⟨by first | omega | exact Nat.le_refl _⟩, ⟨by repeat (first | (with_reducible first | exact HI0.out | apply IsS174.alloc | apply IsS174.drewN | apply IsS174.drew | apply IsS174.set_0 | apply IsS174.set_1) | exact HI0.out)⟩, ⟨by repeat (first | (with_reducible first | exact HK.out | apply KeepBut.set_ | apply z1c | apply z1e | apply z1d) | exact HK.out)⟩, ⟨by repeat (first | (with_reducible first | exact HB.out | apply z03 | apply z05 | apply z06 | refine z1b ?_ (IsS174.ge HI0.out)) | exact HB.out)⟩⟩
 case rest =>
  clear HC3
  try clear c1
  try clear p2
  try clear c4
  try clear c4b0
  try clear c4b1
  try clear hcz5_0
  try clear hcz5_1
  try clear hcz6_0
  try clear hcz6_1
  try clear hfz5_0
  try clear hfz5_1
  try clear hfz6_0
  try clear hfz6_1
  obtain ⟨kq, x19_2, rfl, HA, HJ2, HI0, HK, HB⟩ := hcut
  cases kq with
  | zero => exact absurd HA.out (by simp [z0k.j0])
  | succ kj2 =>
   have H := HA.out
   clear HA
   simp only [z0k.j0] at H
   by_cases c7 : x19_2 = true
   ·subst c7
    have H1 : (if 4 = 0 then (if 0 ≤ a1 then (if a1 ≤ (s0_0.size : Int) then (some (s0_0.extract 0 (a1 : Int).toNat, s0_0.extract (a1 : Int).toNat s0_0.size, 4)) else (none)) else (none)) else (some ((⟨#[]⟩ : ByteArray), s0_0, 4))) = some (r1, r2, r3) := by rw [if_pos rfl] at H; exact H
    clear H
    have H := H1
    clear H1
    by_cases c8 : 4 = 0
    ·exact absurd c8 (by decide)
    ·rw [if_neg c8] at H
     have c8b0 : (4 == 0) = false := beq_eq_false_iff_ne.mpr c8
     have c8b1 : (4 != 0) = true := bne_iff_ne.mpr c8
     simp only [Option.some.injEq, Prod.mk.injEq] at H
     obtain ⟨rfl, rfl, rfl⟩ := H
     obtain ⟨HGz14, hgz14⟩ := HI0.out
     have hcz14_0 := z10 HGz14
     have hcz14_1 := z0z HGz14
     have hfz14_0 := z0b HGz14 0
     have hfz14_1 := z0b HGz14 1
     clear HGz14 hgz14
     go_wp2
     go_ret
     exact ⟨by first | rfl | (simp [z0o, z0p] <;> rfl) | (simp [*, z0o, z0p] <;> rfl), by repeat (first | (with_reducible first | exact HI0.out | apply IsS174.alloc | apply IsS174.drewN | apply IsS174.drew | apply IsS174.set_0 | apply IsS174.set_1) | exact HI0.out), by repeat (first | (with_reducible first | exact HB.out | apply z03 | apply z05 | apply z06 | refine z1b ?_ (IsS174.ge HI0.out)) | exact HB.out), by repeat (first | (with_reducible first | exact HK.out | apply KeepBut.set_ | apply z1c | apply z1e | apply z1d) | exact HK.out)⟩
   ·replace c7 := Bool.eq_false_iff.mpr c7
    subst c7
    have H1 : (if s0_1 = 0 then (if 0 ≤ a1 then (if a1 ≤ (s0_0.size : Int) then (some (s0_0.extract 0 (a1 : Int).toNat, s0_0.extract (a1 : Int).toNat s0_0.size, s0_1)) else (none)) else (none)) else (some ((⟨#[]⟩ : ByteArray), s0_0, s0_1))) = some (r1, r2, r3) := by rw [if_neg (show ¬ (false = true) by decide)] at H; exact H
    clear H
    have H := H1
    clear H1
    by_cases c15 : s0_1 = 0
    ·rw [if_pos c15] at H
     have c15b0 : (s0_1 == 0) = true := beq_iff_eq.mpr c15
     have c15b1 : (s0_1 != 0) = false := bne_eq_false_iff_eq.mpr c15
     clear c15
     by_cases c16 : 0 ≤ a1
     ·rw [if_pos c16] at H
      have c16b0 := eq_true c16
      have c16b1 : decide (0 ≤ a1) = true := decide_eq_true c16
      clear c16
      by_cases c17 : a1 ≤ (s0_0.size : Int)
      ·rw [if_pos c17] at H
       have c17b0 := eq_true c17
       have c17b1 : decide (a1 ≤ (s0_0.size : Int)) = true := decide_eq_true c17
       clear c17
       have c18b0 := eq_true (of_decide_eq_true (by first | (with_reducible assumption) | assumption) : 0 ≤ a1)
       have c19b0 := eq_true (of_decide_eq_true (by first | (with_reducible assumption) | assumption) : a1 ≤ (s0_0.size : Int))
       simp only [Option.some.injEq, Prod.mk.injEq] at H
       obtain ⟨rfl, rfl, rfl⟩ := H
       obtain ⟨HGz20, hgz20⟩ := HI0.out
       have hcz20_0 := z10 HGz20
       have hcz20_1 := z0z HGz20
       have hfz20_0 := z0b HGz20 0
       have hfz20_1 := z0b HGz20 1
       clear HGz20 hgz20
       go_wp2
       go_ret
       exact ⟨by first | rfl | (simp [z0o, z0p] <;> rfl) | (simp [*, z0o, z0p] <;> rfl), by repeat (first | (with_reducible first | exact HI0.out | apply IsS174.alloc | apply IsS174.drewN | apply IsS174.drew | apply IsS174.set_0 | apply IsS174.set_1) | exact HI0.out), by repeat (first | (with_reducible first | exact HB.out | apply z03 | apply z05 | apply z06 | refine z1b ?_ (IsS174.ge HI0.out)) | exact HB.out), by repeat (first | (with_reducible first | exact HK.out | apply KeepBut.set_ | apply z1c | apply z1e | apply z1d) | exact HK.out)⟩
      ·rw [if_neg c17] at H
       exact absurd H (by simp)
     ·rw [if_neg c16] at H
      exact absurd H (by simp)
    ·rw [if_neg c15] at H
     have c15b0 : (s0_1 == 0) = false := beq_eq_false_iff_ne.mpr c15
     have c15b1 : (s0_1 != 0) = true := bne_iff_ne.mpr c15
     simp only [Option.some.injEq, Prod.mk.injEq] at H
     obtain ⟨rfl, rfl, rfl⟩ := H
     obtain ⟨HGz21, hgz21⟩ := HI0.out
     have hcz21_0 := z10 HGz21
     have hcz21_1 := z0z HGz21
     have hfz21_0 := z0b HGz21 0
     have hfz21_1 := z0b HGz21 1
     clear HGz21 hgz21
     go_wp2
     go_ret
     exact ⟨by first | rfl | (simp [z0o, z0p] <;> rfl) | (simp [*, z0o, z0p] <;> rfl), by repeat (first | (with_reducible first | exact HI0.out | apply IsS174.alloc | apply IsS174.drewN | apply IsS174.drew | apply IsS174.set_0 | apply IsS174.set_1) | exact HI0.out), by repeat (first | (with_reducible first | exact HB.out | apply z03 | apply z05 | apply z06 | refine z1b ?_ (IsS174.ge HI0.out)) | exact HB.out), by repeat (first | (with_reducible first | exact HK.out | apply KeepBut.set_ | apply z1c | apply z1e | apply z1d) | exact HK.out)⟩
end Go.Proofs.Ytcfdplmapdgfmaa.PT
