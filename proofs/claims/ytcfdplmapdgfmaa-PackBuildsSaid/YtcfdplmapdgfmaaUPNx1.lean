import Derived.Test.YtcfdplmapdgfmaaUPNx0
namespace Go.Proofs.Ytcfdplmapdgfmaa.PN
open Go.RowKit Go.Proofs.YtcfdplmapdgfmaaW.PrintWords Go.Proofs.YtcfdplmapdgfmaaW.PrintLast Go.Proofs.YtcfdplmapdgfmaaW.PrintMore
attribute [local go_sem] z13 z14 max_two min_two z15 z17 z18 z19   -- for this text's walks alone
set_option linter.unusedVariables false
set_option linter.unusedSimpArgs false
def z0h.l0 : Nat → Int → List Int → Option (ByteArray)
 | 0, _, _ => none
 | k + 1, x0, x3 => if x0 > 0 then ((some (([(((Int.tmod (IntKind.u64.wrap (x0 - 1)) 128) % 256) + 128) % 256] : List Int) : List Int)).bind fun y104 => (if y104.length + x3.length < 140737488355328 then (z0h.l0 k (IntKind.u64.wrap (Int.tdiv (IntKind.u64.wrap (x0 - 1)) 128)) (y104 ++ x3)) else (none))) else (some (strOfNums x3))
def z0h.f (k : Nat) (a0 : Int) : Option (ByteArray) := z0h.l0 k (IntKind.u64.wrap (Int.tdiv a0 128)) (([(Int.tmod a0 128) % 256] : List Int))
theorem z0h.mono_l : ∀ k, (∀ y0 y1, LeO (z0h.l0 k y0 y1) (z0h.l0 (k + 1) y0 y1))
 | 0 => fun _ _ r h => by simp [z0h.l0] at h
 | k + 1 => by
  have ih0 := z0h.mono_l k
  ·intro y0 y1
   unfold z0h.l0
   repeat' first
   | (with_reducible exact ih0 _ _)
   | (with_reducible exact LeO.refl _)
   | (with_reducible exact LeO.none _)
   | (with_reducible refine LeO.ite ?_ ?_)
   | (with_reducible refine LeO.bind ?_ (fun _ => ?_))
   | exact ih0 _ _
   | exact LeO.none _
   | refine LeO.ite ?_ ?_
   | refine LeO.bind ?_ (fun _ => ?_)
theorem z0h.mono : ∀ a0 k, LeO (z0h.f k a0) (z0h.f (k + 1) a0) := by
 intro a0 k
 have ih0 := z0h.mono_l k
 unfold z0h.f
 repeat' first
   | (with_reducible exact ih0 _ _)
   | (with_reducible exact LeO.refl _)
   | (with_reducible exact LeO.none _)
   | (with_reducible refine LeO.ite ?_ ?_)
   | (with_reducible refine LeO.bind ?_ (fun _ => ?_))
   | exact ih0 _ _
   | exact LeO.none _
   | refine LeO.ite ?_ ?_
   | refine LeO.bind ?_ (fun _ => ?_)
set_option maxHeartbeats 8000000 in
set_option maxRecDepth 100000 in
theorem z0h.calls (k : Nat) (a0 : Int) (r : ByteArray) (w : World) (h : z0h.f k a0 = some r) :
  Calls Try.prog 40 #[.int .u64 a0] w fun e w' => e = .returned (.string r) ∧ Below w.heap.size w w' := by
 have HB := z00.mk (Below.refl w.heap.size w)
 have H : (z0h.l0 k (IntKind.u64.wrap (Int.tdiv a0 128)) (([(Int.tmod a0 128) % 256] : List Int))) = some r := h
 clear h
 obtain ⟨y101, hy101⟩ : ∃ y_ : List Int, y_ = (([(Int.tmod a0 128) % 256] : List Int)) := ⟨_, rfl⟩
 replace H : (z0h.l0 k (IntKind.u64.wrap (Int.tdiv a0 128)) y101) = some r := by first | (rw [hy101]; with_reducible exact H) | (have H2_ := (Option.bind_some _ _).symm.trans H; rw [hy101]; with_reducible exact H2_) | (have H2_ := (Option.bind_some _ _).symm.trans H; with_reducible exact H2_) | with_reducible exact H | (rw [hy101]; exact H) | exact H
 have Ny101 := z00.mk hy101
 clear hy101
 have H' := z00.mk H
 clear H
 go_enter Try.func40, Try.ntmps40
 go_wp2_with (first | ((with_reducible refine gate_dst (N := 7) rfl ?_); refine Kd.R_lit (Kd.int .u8) _ 5 ?hg (N := 7) ?hd (xs := ([(Int.tmod a0 128) % 256] : List Int)) (inner := [.int .u8 ((Int.tmod a0 128) % 256)]) (ok := fun _ => True) (okp := fun _ => True) ?hr ?hp (fun _ hk => hk) trivial (Below.refl _ _) (Nat.le_refl _) (by simp) ?_; (case hd => rfl); (case hg => rfl); (case hr => first | (go_simp; done) | (go_simp; rfl)); (case hp => exact (Reps.one (show Kd.M (Kd.int .u8) _ _ _ ((Int.tmod a0 128) % 256) [.int .u8 ((Int.tmod a0 128) % 256)] from rfl) (Reps.none _ _))); intro v102 w2 ho3 hb hg_ hnew_; clear hg_ hnew_; (first | rw [← Ny101.out] at ho3 | (simp only [Int.reduceToNat] at ho3; rw [← Ny101.out] at ho3)); have n0_ := z00.mk (Kd.R_lower ho3 (below_size (by repeat (first | (with_reducible first | exact HB.out | apply z03 | apply z05 | apply z06) | exact HB.out | exact Below.refl _ _)))); have n1_ := z00.mk (z07 (by repeat (first | (with_reducible first | exact HB.out | apply z03 | apply z05 | apply z06) | exact HB.out | exact Below.refl _ _)) hb); clear HB; have HO103 := n0_; have HB := n1_; clear n0_ n1_; clear hb ho3))
 go_loopg [0, 3] k (fun kq v0 v3 w' => ∃ (x0_1 : Int) (x3_1 : List Int), v0 = .int .u64 x0_1 ∧ z00 (z0h.l0 kq x0_1 x3_1 = some r) ∧ z00 (kq ≤ k) ∧ z00 (Kd.R (Kd.int .u8) 5 w' w.heap.size (fun _ => True) v3 x3_1) ∧ z00 (Below w.heap.size w w'))
 case atStart => exact ⟨(IntKind.u64.wrap (Int.tdiv a0 128)), (y101), (by first | rfl | (simp; done) | (simp [*]; done)), H', ⟨Nat.le_refl _⟩, ⟨by (with_reducible repeat (first | apply Kd.z0q | apply Kd.R_drewN | apply Kd.R_drew)); exact HO103.out⟩, ⟨by repeat (first | (with_reducible first | exact HB.out | apply z03 | apply z05 | apply z06) | exact HB.out | exact Below.refl _ _)⟩⟩
 case round =>
  clear H'
  try clear p2
  obtain ⟨x0_1, x3_1, rfl, HA, HK1, HO_3, HB⟩ := hrel
  cases gk with
  | zero => exact absurd HA.out (by simp [z0h.l0])
  | succ k1 =>
   have H := HA.out
   clear HA
   simp only [z0h.l0] at H
   by_cases c4 : x0_1 > 0
   ·rw [if_pos c4] at H
    have c4b0 : decide (0 < x0_1) = true := decide_eq_true c4
    clear c4
    obtain ⟨y104, hy104⟩ : ∃ y_ : List Int, y_ = (([(((Int.tmod (IntKind.u64.wrap (x0_1 - 1)) 128) % 256) + 128) % 256] : List Int)) := ⟨_, rfl⟩
    replace H : (if y104.length + x3_1.length < 140737488355328 then (z0h.l0 k1 (IntKind.u64.wrap (Int.tdiv (IntKind.u64.wrap (x0_1 - 1)) 128)) (y104 ++ x3_1)) else (none)) = some r := by first | (rw [hy104]; with_reducible exact H) | (have H2_ := (Option.bind_some _ _).symm.trans H; rw [hy104]; with_reducible exact H2_) | (have H2_ := (Option.bind_some _ _).symm.trans H; with_reducible exact H2_) | with_reducible exact H | (rw [hy104]; exact H) | exact H
    have Ny104 := z00.mk hy104
    clear hy104
    by_cases c5 : y104.length + x3_1.length < 140737488355328
    ·rw [if_pos c5] at H
     have LMc5 := z00.mk c5
     clear c5
     obtain ⟨y107, hy107⟩ : ∃ y_ : List Int, y_ = (y104 ++ x3_1) := ⟨_, rfl⟩
     replace H : (z0h.l0 k1 (IntKind.u64.wrap (Int.tdiv (IntKind.u64.wrap (x0_1 - 1)) 128)) y107) = some r := by first | (rw [hy107]; with_reducible exact H) | (have H2_ := (Option.bind_some _ _).symm.trans H; rw [hy107]; with_reducible exact H2_) | (have H2_ := (Option.bind_some _ _).symm.trans H; with_reducible exact H2_) | with_reducible exact H | (rw [hy107]; exact H) | exact H
     have Ny107 := z00.mk hy107
     clear hy107
     have H' := z00.mk H
     clear H
     go_wp2_with (first | ((with_reducible refine gate_dst (N := 20) rfl ?_); refine Kd.R_lit (Kd.int .u8) _ 5 ?hg (N := 20) ?hd (xs := ([(((Int.tmod (IntKind.u64.wrap (x0_1 - 1)) 128) % 256) + 128) % 256] : List Int)) (inner := [.int .u8 ((((Int.tmod (IntKind.u64.wrap (x0_1 - 1)) 128) % 256) + 128) % 256)]) (ok := fun _ => True) (okp := fun _ => True) ?hr ?hp (fun _ hk => hk) trivial (Below.refl _ _) (Nat.le_refl _) (by simp) ?_; (case hd => rfl); (case hg => rfl); (case hr => first | (go_simp; done) | (go_simp; rfl)); (case hp => exact (Reps.one (show Kd.M (Kd.int .u8) _ _ _ ((((Int.tmod (IntKind.u64.wrap (x0_1 - 1)) 128) % 256) + 128) % 256) [.int .u8 ((((Int.tmod (IntKind.u64.wrap (x0_1 - 1)) 128) % 256) + 128) % 256)] from rfl) (Reps.none _ _))); intro v105 w6 ho7 hb hg_ hnew_; clear hg_ hnew_; (first | rw [← Ny104.out] at ho7 | (simp only [Int.reduceToNat] at ho7; rw [← Ny104.out] at ho7)); have n0_ := z00.mk (Kd.R_elder' (by (with_reducible repeat (first | apply Kd.z0q | apply Kd.R_drewN | apply Kd.R_drew)); exact HO_3.out) (Kd.R_base ho7) hb); have n1_ := z00.mk (Kd.R_lower (Kd.R_new' ho7 (Kd.R_lt (by (with_reducible repeat (first | apply Kd.z0q | apply Kd.R_drewN | apply Kd.R_drew)); exact HO_3.out))) (below_size (by repeat (first | (with_reducible first | exact HB.out | apply z03 | apply z05 | apply z06) | exact HB.out | exact Below.refl _ _)))); have n2_ := z00.mk (z07 (by repeat (first | (with_reducible first | exact HB.out | apply z03 | apply z05 | apply z06) | exact HB.out | exact Below.refl _ _)) hb); clear HO_3; clear HB; have HO_3 := n0_; have HO106 := n1_; have HB := n2_; clear n0_ n1_ n2_; clear hb ho7; obtain ⟨Ao9, co9, eo9⟩ := Kd.R_slice HO_3.out; subst eo9) | ((with_reducible refine gate_builtin (b := .append) (xs := #[.tmp 20, .tmp 21]) rfl ?_); at_builtin; refine Kd.R_append_rows (Kd.int .u8) (w0 := w) w.heap.size rfl (.tmp 20) (.tmp 21) 46 5 (.int .u8 0) 1 rfl Try.underlying46 info5 rfl (by decide) (by omega) v105 y104 x3_1 _ _ _ (fun k_ => some k_ ≠ (.slice Ao9 x3_1.length co9 : Value).ownBlock) (fun _ => False) rfl rfl ?aO ?aR (fun _ _ h => h) (fun _ h => h.elim) ?aF ?aB ?aS ?aL ?_; (case aR => repeat (first | exact (Kd.R_reads' HO_3.out).2.2 | (with_reducible refine Kd.C_alloc ?_ _) | (with_reducible refine Kd.C_drewN ?_ _) | (with_reducible refine Kd.C_drew ?_))); (case aB => exact (by repeat (first | (with_reducible first | exact HB.out | apply z03 | apply z05 | apply z06) | exact HB.out | exact Below.refl _ _))); (case aF => exact (fun k_ hk => Kd.fresh' (Kd.R_lt (by (with_reducible repeat (first | apply Kd.z0q | apply Kd.R_drewN | apply Kd.R_drew)); exact HO_3.out)) k_ hk)); (case aO => exact (by (with_reducible repeat (first | apply Kd.z0q | apply Kd.R_drewN | apply Kd.R_drew)); exact Kd.R_mono HO106.out (fun _ hk => hk.2))); (case aS => exact (below_size (by repeat (first | (with_reducible first | exact HB.out | apply z03 | apply z05 | apply z06) | exact HB.out | exact Below.refl _ _)))); (case aL => have := LMc5.out; omega); intro v108 w8 ho hb hg hat; rw [← Ny107.out] at ho; have n0_ := z00.mk (Kd.R_after (ok := (fun _ => True)) (by (with_reducible repeat (first | apply Kd.z0q | apply Kd.R_drewN | apply Kd.R_drew)); exact HO_3.out) hg hat); have n1_ := z00.mk (hb); have n2_ := z00.mk (ho); clear HO_3; clear HB; clear HO106; have HO_3 := n0_; have HB := n1_; have HO109 := n2_; clear n0_ n1_ n2_; clear ho hb hg hat))
     go_roundg k1
     case measure => have := HK1.out; omega
     case rel => exact ⟨(IntKind.u64.wrap (Int.tdiv (IntKind.u64.wrap (x0_1 - 1)) 128)), (y107), (by first | rfl | (simp; done) | (simp [*]; done)), H', ⟨by have := HK1.out; omega⟩, ⟨by (with_reducible repeat (first | apply Kd.z0q | apply Kd.R_drewN | apply Kd.R_drew)); exact Kd.R_mono HO109.out (fun _ hk => trivial)⟩, ⟨by repeat (first | (with_reducible first | exact HB.out | apply z03 | apply z05 | apply z06) | exact HB.out | exact Below.refl _ _)⟩⟩
    ·rw [if_neg c5] at H
     exact absurd H (by simp)
   ·rw [if_neg c4] at H
    have c4b0 : decide (0 < x0_1) = false := decide_eq_false c4
    clear c4
    obtain rfl := Option.some.inj H
    have hcv10 := own_string (P := Try.prog) Try.underlying46 Try.underlying5 Try.underlying9 (Kd.own_of_R HO_3.out)
    go_wp2
    go_ret
    exact ⟨by first | rfl | (simp [z0o, z0p] <;> rfl) | (simp [*, z0o, z0p] <;> rfl), by repeat (first | (with_reducible first | exact HB.out | apply z03 | apply z05 | apply z06) | exact HB.out | exact Below.refl _ _)⟩
mutual
def z02.j1 : Nat → Int → Int → Int → Option (ByteArray)
 | 0, _, _, _ => none
 | k + 1, x0, x3, x5 => z02.l1 k (IntKind.u64.wrap (x0 - x5)) x3 (⟨#[]⟩ : ByteArray) 0
def z02.l1 : Nat → Int → Int → ByteArray → Int → Option (ByteArray)
 | 0, _, _, _, _ => none
 | k + 1, x0, x3, x6, x7 => if x7 < x3 then (if x7 > 0 then ((some (([(((Int.tmod x0 128) % 256) + 128) % 256] : List Int) : List Int)).bind fun y121 => (if (strOfNums y121).size + x6.size ≤ 9223372036854775807 then (z02.l1 k (IntKind.u64.wrap (Int.tdiv x0 128)) x3 ((strOfNums y121) ++ x6) (wrap64 (x7 + 1))) else (none))) else ((some (([(Int.tmod x0 128) % 256] : List Int) : List Int)).bind fun y124 => (if (strOfNums y124).size + x6.size ≤ 9223372036854775807 then (z02.l1 k (IntKind.u64.wrap (Int.tdiv x0 128)) x3 ((strOfNums y124) ++ x6) (wrap64 (x7 + 1))) else (none)))) else (some x6)
def z02.l0 : Nat → Int → Int → Int → Int → Option (ByteArray)
 | 0, _, _, _, _ => none
 | k + 1, x0, x3, x4, x5 => if x3 < 10 then (if (IntKind.u64.wrap (x0 - x5)) ≥ x4 then (z02.l0 k x0 (wrap64 (x3 + 1)) (IntKind.u64.wrap (x4 * 128)) (IntKind.u64.wrap (x5 + x4))) else (z02.j1 k x0 x3 x5)) else (z02.j1 k x0 x3 x5)
end
def z02.f (k : Nat) (a0 : Int) : Option (ByteArray) := z02.l0 k a0 1 128 0
theorem z02.mono_l : ∀ k, (∀ y0 y1 y2, LeO (z02.j1 k y0 y1 y2) (z02.j1 (k + 1) y0 y1 y2)) ∧ (∀ y0 y1 y2 y3, LeO (z02.l1 k y0 y1 y2 y3) (z02.l1 (k + 1) y0 y1 y2 y3)) ∧ (∀ y0 y1 y2 y3, LeO (z02.l0 k y0 y1 y2 y3) (z02.l0 (k + 1) y0 y1 y2 y3))
 | 0 => ⟨fun _ _ _ r h => by simp [z02.j1] at h, fun _ _ _ _ r h => by simp [z02.l1] at h, fun _ _ _ _ r h => by simp [z02.l0] at h⟩
 | k + 1 => by
  obtain ⟨ih0, ih1, ih2⟩ := z02.mono_l k
  refine ⟨?_, ?_, ?_⟩
  ·intro y0 y1 y2
   unfold z02.j1
   repeat' first
   | (with_reducible exact ih0 _ _ _)
   | (with_reducible exact ih1 _ _ _ _)
   | (with_reducible exact ih2 _ _ _ _)
   | (with_reducible exact LeO.refl _)
   | (with_reducible exact LeO.none _)
   | (with_reducible refine LeO.ite ?_ ?_)
   | (with_reducible refine LeO.bind ?_ (fun _ => ?_))
   | exact ih0 _ _ _
   | exact ih1 _ _ _ _
   | exact ih2 _ _ _ _
   | exact LeO.none _
   | refine LeO.ite ?_ ?_
   | refine LeO.bind ?_ (fun _ => ?_)
  ·intro y0 y1 y2 y3
   unfold z02.l1
   repeat' first
   | (with_reducible exact ih0 _ _ _)
   | (with_reducible exact ih1 _ _ _ _)
   | (with_reducible exact ih2 _ _ _ _)
   | (with_reducible exact LeO.refl _)
   | (with_reducible exact LeO.none _)
   | (with_reducible refine LeO.ite ?_ ?_)
   | (with_reducible refine LeO.bind ?_ (fun _ => ?_))
   | exact ih0 _ _ _
   | exact ih1 _ _ _ _
   | exact ih2 _ _ _ _
   | exact LeO.none _
   | refine LeO.ite ?_ ?_
   | refine LeO.bind ?_ (fun _ => ?_)
  ·intro y0 y1 y2 y3
   unfold z02.l0
   repeat' first
   | (with_reducible exact ih0 _ _ _)
   | (with_reducible exact ih1 _ _ _ _)
   | (with_reducible exact ih2 _ _ _ _)
   | (with_reducible exact LeO.refl _)
   | (with_reducible exact LeO.none _)
   | (with_reducible refine LeO.ite ?_ ?_)
   | (with_reducible refine LeO.bind ?_ (fun _ => ?_))
   | exact ih0 _ _ _
   | exact ih1 _ _ _ _
   | exact ih2 _ _ _ _
   | exact LeO.none _
   | refine LeO.ite ?_ ?_
   | refine LeO.bind ?_ (fun _ => ?_)
theorem z02.mono : ∀ a0 k, LeO (z02.f k a0) (z02.f (k + 1) a0) := by
 intro a0 k
 obtain ⟨ih0, ih1, ih2⟩ := z02.mono_l k
 unfold z02.f
 repeat' first
   | (with_reducible exact ih0 _ _ _)
   | (with_reducible exact ih1 _ _ _ _)
   | (with_reducible exact ih2 _ _ _ _)
   | (with_reducible exact LeO.refl _)
   | (with_reducible exact LeO.none _)
   | (with_reducible refine LeO.ite ?_ ?_)
   | (with_reducible refine LeO.bind ?_ (fun _ => ?_))
   | exact ih0 _ _ _
   | exact ih1 _ _ _ _
   | exact ih2 _ _ _ _
   | exact LeO.none _
   | refine LeO.ite ?_ ?_
   | refine LeO.bind ?_ (fun _ => ?_)
set_option maxHeartbeats 8000000 in
set_option maxRecDepth 100000 in
theorem z02.calls (k : Nat) (a0 : Int) (r : ByteArray) (w : World) (h : z02.f k a0 = some r) :
  Calls Try.prog 51 #[.int .u64 a0] w fun e w' => e = .returned (.string r) ∧ Below w.heap.size w w' := by
 have HB := z00.mk (Below.refl w.heap.size w)
 have H : (z02.l0 k a0 1 128 0) = some r := h
 clear h
 have HC2 := z00.mk H
 clear H
 go_enter Try.func51, Try.ntmps51
 go_upto_block 0 with (fail)
 go_cut [3, 5] (fun v3 v5 wc => ∃ (kq : Nat) (x3_1 : Int) (x5_1 : Int), v3 = .int .i64 x3_1 ∧ v5 = .int .u64 x5_1 ∧ z00 (z02.j1 kq a0 x3_1 x5_1 = some r) ∧ z00 (kq ≤ k) ∧ z00 (Below w.heap.size w wc))
 case first =>
  have H := HC2.out
  clear HC2
  have H' := z00.mk H
  clear H
  go_wp2
  go_loopg [3, 4, 5] k (fun kq v3 v4 v5 w' => ∃ (x3_1 : Int) (x4_1 : Int) (x5_1 : Int), v3 = .int .i64 x3_1 ∧ v4 = .int .u64 x4_1 ∧ v5 = .int .u64 x5_1 ∧ z00 (z02.l0 kq a0 x3_1 x4_1 x5_1 = some r) ∧ z00 (kq ≤ k) ∧ z00 (Below w.heap.size w w'))
  case atStart => exact ⟨(1), (128), (0), (by first | rfl | (simp; done) | (simp [*]; done)), (by first | rfl | (simp; done) | (simp [*]; done)), (by first | rfl | (simp; done) | (simp [*]; done)), H', ⟨Nat.le_refl _⟩, ⟨by repeat (first | (with_reducible first | exact HB.out | apply z03 | apply z05 | apply z06) | exact HB.out | exact Below.refl _ _)⟩⟩
  case round =>
   clear H'
   try clear p2
   obtain ⟨x3_1, x4_1, x5_1, rfl, rfl, rfl, HA, HK1, HB⟩ := hrel
   cases gk with
   | zero => exact absurd HA.out (by simp [z02.l0])
   | succ k1 =>
    have H := HA.out
    clear HA
    simp only [z02.l0] at H
    by_cases c3 : x3_1 < 10
    ·rw [if_pos c3] at H
     have c3b0 : decide (x3_1 < 10) = true := decide_eq_true c3
     clear c3
     (first | rw [c3b0] | (simp only [i64_w, i32_w]; rw [c3b0]) | skip)
     by_cases c4 : (IntKind.u64.wrap (a0 - x5_1)) ≥ x4_1
     ·rw [if_pos c4] at H
      have c4b0 : decide (x4_1 ≤ (IntKind.u64.wrap (a0 - x5_1))) = true := decide_eq_true c4
      clear c4
      have H' := z00.mk H
      clear H
      go_wp2
      go_roundg k1
      case measure => have := HK1.out; omega
      case rel => exact ⟨(wrap64 (x3_1 + 1)), (IntKind.u64.wrap (x4_1 * 128)), (IntKind.u64.wrap (x5_1 + x4_1)), (by first | rfl | (simp; done) | (simp [*]; done)), (by first | rfl | (simp; done) | (simp [*]; done)), (by first | rfl | (simp; done) | (simp [*]; done)), H', ⟨by have := HK1.out; omega⟩, ⟨by repeat (first | (with_reducible first | exact HB.out | apply z03 | apply z05 | apply z06) | exact HB.out | exact Below.refl _ _)⟩⟩
     ·rw [if_neg c4] at H
      have c4b0 : decide (x4_1 ≤ (IntKind.u64.wrap (a0 - x5_1))) = false := decide_eq_false c4
      clear c4
      have H' := z00.mk H
      clear H
      go_wp2
      go_meet
      case rel => exact ⟨_, (x3_1), (x5_1), (by first | rfl | (simp; done) | (simp [*]; done)), (by first | rfl | (simp; done) | (simp [*]; done)), H', ⟨by have := HK1.out; first | omega | exact Nat.le_refl _⟩, ⟨by repeat (first | (with_reducible first | exact HB.out | apply z03 | apply z05 | apply z06) | exact HB.out | exact Below.refl _ _)⟩⟩
    ·rw [if_neg c3] at H
     have c3b0 : decide (x3_1 < 10) = false := decide_eq_false c3
     clear c3
     (first | rw [c3b0] | (simp only [i64_w, i32_w]; rw [c3b0]) | skip)
     have H' := z00.mk H
     clear H
     go_wp2
     go_meet
     case rel => exact ⟨_, (x3_1), (x5_1), (by first | rfl | (simp; done) | (simp [*]; done)), (by first | rfl | (simp; done) | (simp [*]; done)), H', ⟨by have := HK1.out; first | omega | exact Nat.le_refl _⟩, ⟨by repeat (first | (with_reducible first | exact HB.out | apply z03 | apply z05 | apply z06) | exact HB.out | exact Below.refl _ _)⟩⟩
 case rest =>
  clear HC2
  try clear p2
  try clear c3
  try clear c3b0
  try clear c4
  try clear c4b0
  try clear p2
  obtain ⟨kq, x3_1, x5_1, rfl, rfl, HA, HJ1, HB⟩ := hcut
  cases kq with
  | zero => exact absurd HA.out (by simp [z02.j1])
  | succ kj1 =>
   have H := HA.out
   clear HA
   simp only [z02.j1] at H
   have H' := z00.mk H
   clear H
   go_wp2
   go_loopg [0, 6, 7] kj1 (fun kq v0 v6 v7 w' => ∃ (x0_2 : Int) (x6_2 : ByteArray) (x7_2 : Int), v0 = .int .u64 x0_2 ∧ v6 = .string x6_2 ∧ v7 = .int .i64 x7_2 ∧ z00 (z02.l1 kq x0_2 x3_1 x6_2 x7_2 = some r) ∧ z00 (kq ≤ kj1) ∧ z00 (Below w.heap.size w w'))
   case atStart => exact ⟨(IntKind.u64.wrap (a0 - x5_1)), ((⟨#[]⟩ : ByteArray)), (0), (by first | rfl | (simp; done) | (simp [*]; done)), (by first | rfl | (simp; done) | (simp [*]; done)), (by first | rfl | (simp; done) | (simp [*]; done)), H', ⟨Nat.le_refl _⟩, ⟨by repeat (first | (with_reducible first | exact HB.out | apply z03 | apply z05 | apply z06) | exact HB.out | exact Below.refl _ _)⟩⟩
   case round =>
    clear H'
    try clear p2
    try clear c3
    try clear c3b0
    try clear c4
    try clear c4b0
    try clear p2
    obtain ⟨x0_2, x6_2, x7_2, rfl, rfl, rfl, HA, HK2, HB⟩ := hrel
    cases gk with
    | zero => exact absurd HA.out (by simp [z02.l1])
    | succ k2 =>
     have H := HA.out
     clear HA
     simp only [z02.l1] at H
     by_cases c5 : x7_2 < x3_1
     ·rw [if_pos c5] at H
      have c5b0 : decide (x7_2 < x3_1) = true := decide_eq_true c5
      clear c5
      by_cases c6 : x7_2 > 0
      ·rw [if_pos c6] at H
       have c6b0 : decide (0 < x7_2) = true := decide_eq_true c6
       clear c6
       obtain ⟨y121, hy121⟩ : ∃ y_ : List Int, y_ = (([(((Int.tmod x0_2 128) % 256) + 128) % 256] : List Int)) := ⟨_, rfl⟩
       replace H : (if (strOfNums y121).size + x6_2.size ≤ 9223372036854775807 then (z02.l1 k2 (IntKind.u64.wrap (Int.tdiv x0_2 128)) x3_1 ((strOfNums y121) ++ x6_2) (wrap64 (x7_2 + 1))) else (none)) = some r := by first | (rw [hy121]; with_reducible exact H) | (have H2_ := (Option.bind_some _ _).symm.trans H; rw [hy121]; with_reducible exact H2_) | (have H2_ := (Option.bind_some _ _).symm.trans H; with_reducible exact H2_) | with_reducible exact H | (rw [hy121]; exact H) | exact H
       have Ny121 := z00.mk hy121
       clear hy121
       by_cases c7 : (strOfNums y121).size + x6_2.size ≤ 9223372036854775807
       ·rw [if_pos c7] at H
        have c7b0 := eq_true c7
        have c7b1 : decide ((strOfNums y121).size + x6_2.size ≤ 9223372036854775807) = true := decide_eq_true c7
        try have c7b2 : (9223372036854775807 < (strOfNums y121).size + x6_2.size) = False := eq_false (Nat.not_lt.2 c7)
        clear c7
        have H' := z00.mk H
        clear H
        go_wp2_with (first | ((with_reducible refine gate_dst (N := 41) rfl ?_); refine Kd.R_lit (Kd.int .u8) _ 5 ?hg (N := 41) ?hd (xs := ([(((Int.tmod x0_2 128) % 256) + 128) % 256] : List Int)) (inner := [.int .u8 ((((Int.tmod x0_2 128) % 256) + 128) % 256)]) (ok := fun _ => True) (okp := fun _ => True) ?hr ?hp (fun _ hk => hk) trivial (Below.refl _ _) (Nat.le_refl _) (by simp) ?_; (case hd => rfl); (case hg => rfl); (case hr => first | (go_simp; done) | (go_simp; rfl)); (case hp => exact (Reps.one (show Kd.M (Kd.int .u8) _ _ _ ((((Int.tmod x0_2 128) % 256) + 128) % 256) [.int .u8 ((((Int.tmod x0_2 128) % 256) + 128) % 256)] from rfl) (Reps.none _ _))); intro v122 w8 ho9 hb hg_ hnew_; clear hg_ hnew_; (first | rw [← Ny121.out] at ho9 | (simp only [Int.reduceToNat] at ho9; rw [← Ny121.out] at ho9)); have n0_ := z00.mk (Kd.R_lower ho9 (below_size (by repeat (first | (with_reducible first | exact HB.out | apply z03 | apply z05 | apply z06) | exact HB.out | exact Below.refl _ _)))); have n1_ := z00.mk (z07 (by repeat (first | (with_reducible first | exact HB.out | apply z03 | apply z05 | apply z06) | exact HB.out | exact Below.refl _ _)) hb); clear HB; have HO123 := n0_; have HB := n1_; clear n0_ n1_; clear hb ho9; have hcv10 := own_string (P := Try.prog) Try.underlying46 Try.underlying5 Try.underlying9 (Kd.own_of_R HO123.out)))
        go_roundg k2
        case measure => have := HJ1.out; have := HK2.out; omega
        case rel => exact ⟨(IntKind.u64.wrap (Int.tdiv x0_2 128)), ((strOfNums y121) ++ x6_2), (wrap64 (x7_2 + 1)), (by first | rfl | (simp; done) | (simp [*]; done)), (by first | rfl | (simp; done) | (simp [*]; done)), (by first | rfl | (simp; done) | (simp [*]; done)), H', ⟨by have := HJ1.out; have := HK2.out; omega⟩, ⟨by repeat (first | (with_reducible first | exact HB.out | apply z03 | apply z05 | apply z06) | exact HB.out | exact Below.refl _ _)⟩⟩
       ·rw [if_neg c7] at H
        exact absurd H (by simp)
      ·rw [if_neg c6] at H
       have c6b0 : decide (0 < x7_2) = false := decide_eq_false c6
       clear c6
       obtain ⟨y124, hy124⟩ : ∃ y_ : List Int, y_ = (([(Int.tmod x0_2 128) % 256] : List Int)) := ⟨_, rfl⟩
       replace H : (if (strOfNums y124).size + x6_2.size ≤ 9223372036854775807 then (z02.l1 k2 (IntKind.u64.wrap (Int.tdiv x0_2 128)) x3_1 ((strOfNums y124) ++ x6_2) (wrap64 (x7_2 + 1))) else (none)) = some r := by first | (rw [hy124]; with_reducible exact H) | (have H2_ := (Option.bind_some _ _).symm.trans H; rw [hy124]; with_reducible exact H2_) | (have H2_ := (Option.bind_some _ _).symm.trans H; with_reducible exact H2_) | with_reducible exact H | (rw [hy124]; exact H) | exact H
       have Ny124 := z00.mk hy124
       clear hy124
       by_cases c11 : (strOfNums y124).size + x6_2.size ≤ 9223372036854775807
       ·rw [if_pos c11] at H
        have c11b0 := eq_true c11
        have c11b1 : decide ((strOfNums y124).size + x6_2.size ≤ 9223372036854775807) = true := decide_eq_true c11
        try have c11b2 : (9223372036854775807 < (strOfNums y124).size + x6_2.size) = False := eq_false (Nat.not_lt.2 c11)
        clear c11
        have H' := z00.mk H
        clear H
        go_wp2_with (first | ((with_reducible refine gate_dst (N := 41) rfl ?_); refine Kd.R_lit (Kd.int .u8) _ 5 ?hg (N := 41) ?hd (xs := ([(Int.tmod x0_2 128) % 256] : List Int)) (inner := [.int .u8 ((Int.tmod x0_2 128) % 256)]) (ok := fun _ => True) (okp := fun _ => True) ?hr ?hp (fun _ hk => hk) trivial (Below.refl _ _) (Nat.le_refl _) (by simp) ?_; (case hd => rfl); (case hg => rfl); (case hr => first | (go_simp; done) | (go_simp; rfl)); (case hp => exact (Reps.one (show Kd.M (Kd.int .u8) _ _ _ ((Int.tmod x0_2 128) % 256) [.int .u8 ((Int.tmod x0_2 128) % 256)] from rfl) (Reps.none _ _))); intro v125 w12 ho13 hb hg_ hnew_; clear hg_ hnew_; (first | rw [← Ny124.out] at ho13 | (simp only [Int.reduceToNat] at ho13; rw [← Ny124.out] at ho13)); have n0_ := z00.mk (Kd.R_lower ho13 (below_size (by repeat (first | (with_reducible first | exact HB.out | apply z03 | apply z05 | apply z06) | exact HB.out | exact Below.refl _ _)))); have n1_ := z00.mk (z07 (by repeat (first | (with_reducible first | exact HB.out | apply z03 | apply z05 | apply z06) | exact HB.out | exact Below.refl _ _)) hb); clear HB; have HO126 := n0_; have HB := n1_; clear n0_ n1_; clear hb ho13; have hcv14 := own_string (P := Try.prog) Try.underlying46 Try.underlying5 Try.underlying9 (Kd.own_of_R HO126.out)))
        go_roundg k2
        case measure => have := HJ1.out; have := HK2.out; omega
        case rel => exact ⟨(IntKind.u64.wrap (Int.tdiv x0_2 128)), ((strOfNums y124) ++ x6_2), (wrap64 (x7_2 + 1)), (by first | rfl | (simp; done) | (simp [*]; done)), (by first | rfl | (simp; done) | (simp [*]; done)), (by first | rfl | (simp; done) | (simp [*]; done)), H', ⟨by have := HJ1.out; have := HK2.out; omega⟩, ⟨by repeat (first | (with_reducible first | exact HB.out | apply z03 | apply z05 | apply z06) | exact HB.out | exact Below.refl _ _)⟩⟩
       ·rw [if_neg c11] at H
        exact absurd H (by simp)
     ·rw [if_neg c5] at H
      have c5b0 : decide (x7_2 < x3_1) = false := decide_eq_false c5
      clear c5
      obtain rfl := Option.some.inj H
      go_wp2
      go_ret
      exact ⟨by first | rfl | (simp [z0o, z0p] <;> rfl) | (simp [*, z0o, z0p] <;> rfl), by repeat (first | (with_reducible first | exact HB.out | apply z03 | apply z05 | apply z06) | exact HB.out | exact Below.refl _ _)⟩
end Go.Proofs.Ytcfdplmapdgfmaa.PN
