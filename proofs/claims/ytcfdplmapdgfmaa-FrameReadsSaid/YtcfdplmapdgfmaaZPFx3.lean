import Derived.Test.YtcfdplmapdgfmaaZPFx0
namespace Go.Proofs.Ytcfdplmapdgfmaa.PF
open List renaming setIfInBounds_toArray → q1, set_cons_zero → q2, set_cons_succ → q3
open Go.RowKit Go.Proofs.YtcfdplmapdgfmaaW.PrintWords Go.Proofs.YtcfdplmapdgfmaaW.PrintLast Go.Proofs.YtcfdplmapdgfmaaW.PrintMore
attribute [local go_sem] z2s z2t z2u z2v z2w z2x z2y z2z   -- for this text's walks alone
set_option linter.unusedVariables false
set_option linter.unusedSimpArgs false
def z1h.f (a0 : ByteArray) : Option (Int × Int × Int) := some ((Mine.unnum (Mine.bs a0)).1, (Mine.unnum (Mine.bs a0)).2.1, (Mine.unnum (Mine.bs a0)).2.2)
theorem z1h.calls (a0 : ByteArray) (r1 : Int) (r2 : Int) (r3 : Int) (w : World) (h : z1h.f a0 = some (r1, r2, r3)) :
  Calls Try.prog 69 #[.string a0] w fun e w' => e = .returned (.tuple #[.int .u64 r1, .int .i64 r2, .int .i64 r3]) ∧ Below w.heap.size w w' := by
 simp only [z1h.f, Option.some.injEq, Prod.mk.injEq] at h
 obtain ⟨rfl, rfl, rfl⟩ := h
 exact (PN.z1h.calls 11 _ _ _ _ w (Mine.refUnnum a0 11 (Nat.le_refl _))).mono fun e w' h => ⟨h.1, h.2.below⟩
def z20.f (a0 : ByteArray) : Option (ByteArray × Int × Int) := if a0.size ≤ 1000000000 then some (Mine.tris (Mine.unframe (Mine.bs a0))) else none
theorem z20.calls (a0 : ByteArray) (r1 : ByteArray) (r2 : Int) (r3 : Int) (w : World) (h : z20.f a0 = some (r1, r2, r3)) :
  Calls Try.prog 56 #[.string a0] w fun e w' => e = .returned (.tuple #[.string r1, .int .i64 r2, .int .i64 r3]) ∧ Below w.heap.size w w' := by
 unfold z20.f at h
 split at h
 ·rename_i h0
  exact PN.z20.calls (10 * a0.size + 100) _ _ _ _ w ((Mine.refUnframe a0 h0 _ (Nat.le_refl _)).trans h)
 ·cases h
def z22.f (a0_0 : ByteArray) (a0_1 : Bool) (a1 : Int) : Option (ByteArray × Bool × ByteArray) := if a0_1 = true then (if a1 > (a0_0.size : Int) then (some (a0_0, false, (⟨#[]⟩ : ByteArray))) else (if 0 ≤ a1 then (if a1 ≤ (a0_0.size : Int) then (some (a0_0.extract (a1 : Int).toNat a0_0.size, true, a0_0.extract 0 (a1 : Int).toNat)) else (none)) else (none))) else (some (a0_0, false, (⟨#[]⟩ : ByteArray)))
def z22.T3 : Bool × List (List Nat × List Nat) := (true, [([], []), ([0], [0]), ([], []), ([1, 2], [1, 2]), ([3], [3]), ([], []), ([5], [5]), ([], []), ([6, 7], [6, 7]), ([4, 0, 1, 2, 3, 4], [4]), ([8, 9, 0, 1, 2, 3, 4, 5, 6, 7, 8, 9], [8])])
def z22.B3 : List Nat := [0, 1, 0, 7, 15, 0, 32, 0, 224, 31, 1023]
theorem z22.tab3 : rtab .any (opsOf Try.f57 3) = z22.T3 := by kernel_rfl
theorem z22.bits3 : waitsOk z22.T3.2 z22.B3 = true := by kernel_rfl
set_option maxHeartbeats 8000000 in
set_option maxRecDepth 100000 in
theorem z22.calls (a0_0 : ByteArray) (a0_1 : Bool) (a1 : Int) (r1 : ByteArray) (r2 : Bool) (r3 : ByteArray) (w : World) (h : z22.f a0_0 a0_1 a1 = some (r1, r2, r3)) :
  Calls Try.prog 57 #[.agg #[.string a0_0, .bool a0_1], .int .i64 a1] w fun e w' => e = .returned (.tuple #[.agg #[.string r1, .bool r2], .string r3]) ∧ Below w.heap.size w w' := by
 have hu108 := Try.underlying108
 have HB := z01.mk (Below.refl w.heap.size w)
 have H : (if a0_1 = true then (if a1 > (a0_0.size : Int) then (some (a0_0, false, (⟨#[]⟩ : ByteArray))) else (if 0 ≤ a1 then (if a1 ≤ (a0_0.size : Int) then (some (a0_0.extract (a1 : Int).toNat a0_0.size, true, a0_0.extract 0 (a1 : Int).toNat)) else (none)) else (none))) else (some (a0_0, false, (⟨#[]⟩ : ByteArray)))) = some (r1, r2, r3) := h
 clear h
 by_cases c3 : a0_1 = true
 ·subst c3
  have H1 : (if a1 > (a0_0.size : Int) then (some (a0_0, false, (⟨#[]⟩ : ByteArray))) else (if 0 ≤ a1 then (if a1 ≤ (a0_0.size : Int) then (some (a0_0.extract (a1 : Int).toNat a0_0.size, true, a0_0.extract 0 (a1 : Int).toNat)) else (none)) else (none))) = some (r1, r2, r3) := by rw [if_pos rfl] at H; exact H
  clear H
  have H := H1
  clear H1
  by_cases c4 : a1 > (a0_0.size : Int)
  ·rw [if_pos c4] at H
   have c4b0 : decide ((a0_0.size : Int) < a1) = true := decide_eq_true c4
   clear c4
   simp only [Option.some.injEq, Prod.mk.injEq] at H
   try rw [c4b0] at H
   obtain ⟨rfl, rfl, rfl⟩ := H
   go_enter Try.func57, Try.ntmps57
   go_wp2_with (first | ((with_reducible refine z1p (N := 2) rfl ?_); (try (refine gate_guard (by rfl) ?_; dsimp only)); refine z1z ?hg (N := 2) ?hd (cs := #[.string a0_0, .bool true]) (t := 108) ?hr ?_; (case hd => rfl); (case hg => rfl); (case hr => first | (go_simp; done) | (go_simp; rfl)); intro gb113 hg w5 hbox hb; have n0_ := z01.mk (z0l (by repeat (first | (with_reducible first | exact HB.out | apply z07 | apply z09 | apply z08) | exact HB.out | exact Below.refl _ _)) hb); have n1_ := z01.mk (hbox); have n2_ := z01.mk ((by rw [hg]; exact (z0x (by repeat (first | (with_reducible first | exact HB.out | apply z07 | apply z09 | apply z08) | exact HB.out | exact Below.refl _ _))) : w.heap.size ≤ gb113)); have n3_ := z01.mk ((by rw [hg]; exact (z0x (by repeat (first | (with_reducible first | exact HB.out | apply z07 | apply z09 | apply z08) | exact HB.out | exact Below.refl _ _))) : w.heap.size ≤ gb113)); clear HB; have HB := n0_; have BK113 := n1_; have GW113 := n2_; have GE113 := n3_; clear n0_ n1_ n2_ n3_; clear hb hbox hg) | ((with_reducible refine z1p (N := 4) rfl ?_); (try (refine gate_guard (by rfl) ?_; dsimp only)); refine z1z ?hg (N := 4) ?hd (cs := #[.string (⟨#[]⟩ : ByteArray), .bool false]) (t := 108) ?hr ?_; (case hd => rfl); (case hg => rfl); (case hr => first | (go_simp; done) | (go_simp; rfl)); intro gb114 hg w6 hbox hb; have n0_ := z01.mk (z0f (g := gb113) (o := .cells #[.string a0_0, .bool true] 108 (0, 0)) (by (with_reducible repeat (first | refine z04 ?_ _ | refine z03 ?_ | refine z02 ?_ _)); exact BK113.out) hb); have n1_ := z01.mk (z0l (by repeat (first | (with_reducible first | exact HB.out | apply z07 | apply z09 | apply z08 | refine z06 ?_ GE113.out) | exact HB.out)) hb); have n2_ := z01.mk (hbox); have n3_ := z01.mk ((by rw [hg]; exact (z0x (by repeat (first | (with_reducible first | exact HB.out | apply z07 | apply z09 | apply z08 | refine z06 ?_ GE113.out) | exact HB.out))) : w.heap.size ≤ gb114)); have n4_ := z01.mk ((by rw [hg]; exact (z0x (by repeat (first | (with_reducible first | exact HB.out | apply z07 | apply z09 | apply z08 | refine z06 ?_ GE113.out) | exact HB.out))) : w.heap.size ≤ gb114)); have n5_ := z01.mk ((by rw [hg]; exact Nat.ne_of_lt (z1g (g := gb113) (o := .cells #[.string a0_0, .bool true] 108 (0, 0)) (by (with_reducible repeat (first | refine z04 ?_ _ | refine z03 ?_ | refine z02 ?_ _)); exact BK113.out)) : gb113 ≠ gb114)); have n6_ := z01.mk ((by rw [hg]; exact Nat.ne_of_gt (z1g (g := gb113) (o := .cells #[.string a0_0, .bool true] 108 (0, 0)) (by (with_reducible repeat (first | refine z04 ?_ _ | refine z03 ?_ | refine z02 ?_ _)); exact BK113.out)) : gb114 ≠ gb113)); clear BK113; clear HB; have BK113 := n0_; have HB := n1_; have BK114 := n2_; have GW114 := n3_; have GE114 := n4_; have z3h := n5_; have NB114_113 := n6_; clear n0_ n1_ n2_ n3_ n4_ n5_ n6_; clear hb hbox hg; have hnb7 := z3h.out; have hnc7 := NB114_113.out; have hcz8_0 : w6.cell? ⟨gb113, 0, none⟩ = some (.string a0_0) := (z00 BK113.out 0).trans rfl; have hcz8_1 : w6.cell? ⟨gb113, 1, none⟩ = some (.bool true) := (z00 BK113.out 1).trans rfl; have hfz8_0 := z05 BK113.out 0; have hfz8_1 := z05 BK113.out 1; have hcz9_0 : w6.cell? ⟨gb114, 0, none⟩ = some (.string (⟨#[]⟩ : ByteArray)) := (z00 BK114.out 0).trans rfl; have hcz9_1 : w6.cell? ⟨gb114, 1, none⟩ = some (.bool false) := (z00 BK114.out 1).trans rfl; have hfz9_0 := z05 BK114.out 0; have hfz9_1 := z05 BK114.out 1))
   refine bodyPost_ret (z30 rfl _ _ gb114 108 #[.string a0_0, .bool false] (0, 0) _ rfl (by (with_reducible repeat (first | refine z04 ?_ _ | refine z03 ?_ | refine z02 ?_ _)); refine z0e (cs := #[.string a0_0, .bool false]) ?_ 1 _ rfl; (with_reducible repeat (first | refine z04 ?_ _ | refine z03 ?_ | refine z02 ?_ _)); refine z0e (cs := #[.string (⟨#[]⟩ : ByteArray), .bool false]) ?_ 0 _ rfl; (with_reducible repeat (first | refine z04 ?_ _ | refine z03 ?_ | refine z02 ?_ _)); exact BK114.out) Try.underlying108 rfl (by kernel_rfl)) rfl ?_
   exact ⟨by first | rfl | (simp [z0q, z0r] <;> rfl) | (simp [*, z0q, z0r] <;> rfl), by repeat (first | (with_reducible first | exact HB.out | apply z07 | apply z09 | apply z08 | refine z06 ?_ GE113.out | refine z06 ?_ GE114.out) | exact HB.out)⟩
  ·rw [if_neg c4] at H
   have c4b0 : decide ((a0_0.size : Int) < a1) = false := decide_eq_false c4
   clear c4
   by_cases c10 : 0 ≤ a1
   ·rw [if_pos c10] at H
    have c10b0 := eq_true c10
    have c10b1 : decide (0 ≤ a1) = true := decide_eq_true c10
    clear c10
    by_cases c11 : a1 ≤ (a0_0.size : Int)
    ·rw [if_pos c11] at H
     have c11b0 := eq_true c11
     have c11b1 : decide (a1 ≤ (a0_0.size : Int)) = true := decide_eq_true c11
     clear c11
     have c12b0 := eq_true (of_decide_eq_true (by first | (with_reducible assumption) | assumption) : 0 ≤ a1)
     have c13b0 := eq_true (of_decide_eq_true (by first | (with_reducible assumption) | assumption) : a1 ≤ (a0_0.size : Int))
     simp only [Option.some.injEq, Prod.mk.injEq] at H
     try rw [c4b0] at H
     try rw [c10b1] at H
     try rw [c11b1] at H
     obtain ⟨rfl, rfl, rfl⟩ := H
     go_enter Try.func57, Try.ntmps57
     try go_wp2_with (first | ((with_reducible refine z1p (N := 2) rfl ?_); (try (refine gate_guard (by rfl) ?_; dsimp only)); refine z1z ?hg (N := 2) ?hd (cs := #[.string a0_0, .bool true]) (t := 108) ?hr ?_; (case hd => rfl); (case hg => rfl); (case hr => first | (go_simp; done) | (go_simp; rfl)); intro gb113 hg w14 hbox hb; have n0_ := z01.mk (z0l (by repeat (first | (with_reducible first | exact HB.out | apply z07 | apply z09 | apply z08) | exact HB.out | exact Below.refl _ _)) hb); have n1_ := z01.mk (hbox); have n2_ := z01.mk ((by rw [hg]; exact (z0x (by repeat (first | (with_reducible first | exact HB.out | apply z07 | apply z09 | apply z08) | exact HB.out | exact Below.refl _ _))) : w.heap.size ≤ gb113)); have n3_ := z01.mk ((by rw [hg]; exact (z0x (by repeat (first | (with_reducible first | exact HB.out | apply z07 | apply z09 | apply z08) | exact HB.out | exact Below.refl _ _))) : w.heap.size ≤ gb113)); clear HB; have HB := n0_; have BK113 := n1_; have GW113 := n2_; have GE113 := n3_; clear n0_ n1_ n2_ n3_; clear hb hbox hg) | ((with_reducible refine z1p (N := 4) rfl ?_); (try (refine gate_guard (by rfl) ?_; dsimp only)); refine z1z ?hg (N := 4) ?hd (cs := #[.string (⟨#[]⟩ : ByteArray), .bool false]) (t := 108) ?hr ?_; (case hd => rfl); (case hg => rfl); (case hr => first | (go_simp; done) | (go_simp; rfl)); intro gb114 hg w15 hbox hb; have n0_ := z01.mk (z0f (g := gb113) (o := .cells #[.string a0_0, .bool true] 108 (0, 0)) (by (with_reducible repeat (first | refine z04 ?_ _ | refine z03 ?_ | refine z02 ?_ _)); exact BK113.out) hb); have n1_ := z01.mk (z0l (by repeat (first | (with_reducible first | exact HB.out | apply z07 | apply z09 | apply z08 | refine z06 ?_ GE113.out) | exact HB.out)) hb); have n2_ := z01.mk (hbox); have n3_ := z01.mk ((by rw [hg]; exact (z0x (by repeat (first | (with_reducible first | exact HB.out | apply z07 | apply z09 | apply z08 | refine z06 ?_ GE113.out) | exact HB.out))) : w.heap.size ≤ gb114)); have n4_ := z01.mk ((by rw [hg]; exact (z0x (by repeat (first | (with_reducible first | exact HB.out | apply z07 | apply z09 | apply z08 | refine z06 ?_ GE113.out) | exact HB.out))) : w.heap.size ≤ gb114)); have n5_ := z01.mk ((by rw [hg]; exact Nat.ne_of_lt (z1g (g := gb113) (o := .cells #[.string a0_0, .bool true] 108 (0, 0)) (by (with_reducible repeat (first | refine z04 ?_ _ | refine z03 ?_ | refine z02 ?_ _)); exact BK113.out)) : gb113 ≠ gb114)); have n6_ := z01.mk ((by rw [hg]; exact Nat.ne_of_gt (z1g (g := gb113) (o := .cells #[.string a0_0, .bool true] 108 (0, 0)) (by (with_reducible repeat (first | refine z04 ?_ _ | refine z03 ?_ | refine z02 ?_ _)); exact BK113.out)) : gb114 ≠ gb113)); clear BK113; clear HB; have BK113 := n0_; have HB := n1_; have BK114 := n2_; have GW114 := n3_; have GE114 := n4_; have z3h := n5_; have NB114_113 := n6_; clear n0_ n1_ n2_ n3_ n4_ n5_ n6_; clear hb hbox hg; have hnb16 := z3h.out; have hnc16 := NB114_113.out; have hcz17_0 : w15.cell? ⟨gb113, 0, none⟩ = some (.string a0_0) := (z00 BK113.out 0).trans rfl; have hcz17_1 : w15.cell? ⟨gb113, 1, none⟩ = some (.bool true) := (z00 BK113.out 1).trans rfl; have hfz17_0 := z05 BK113.out 0; have hfz17_1 := z05 BK113.out 1))
     have n0_ := z01.mk (z03 BK113.out)
     have n1_ := z01.mk (z03 BK114.out)
     have n2_ := z01.mk (z08 HB.out)
     clear BK113
     clear BK114
     clear HB
     have BK113 := n0_
     have BK114 := n1_
     have HB := n2_
     clear n0_ n1_ n2_
     refine start_ (n := 11) (S := fun w' => w'.cell? ⟨gb113, 0, none⟩ = some (.string a0_0) ∧ w'.cell? ⟨gb113, 1, none⟩ = some (.bool true)) (ds := []) #[false, false, false, false, false, false, false, false, false, false, false] (by kernel_rfl) rfl rfl ⟨(z00 BK113.out 0).trans rfl, (z00 BK113.out 1).trans rfl⟩ (fun hHeld => ?_); refine z3g z22.tab3 z22.bits3 (fun HT_ HW_ => ?_)
     generalize w15.drew = w18 at BK113 BK114 HB hHeld ⊢
     refine z0h (i := 0) (N := some 19) (v := ?_) (a' := ?_) #[true, false, false, false, false, false, false, false, false, false, false] rfl rfl (z0k HT_.out (by kernel_rfl)) (fun _ _ _ h => h) (Or.inl ⟨by rfl, ?_⟩) ?_ ?_
     rotate_left
     ·intro w'
      go_simp
      with_reducible rfl
     rotate_left
     ·simp only [Act.put, q1, q2, q3, z0a, z0b]
      rfl
     refine z0h (i := 2) (N := some 21) (v := ?_) (a' := ?_) #[true, false, true, false, false, false, false, false, false, false, false] rfl rfl (z0k HT_.out (by kernel_rfl)) (fun _ _ _ h => h) (Or.inl ⟨by rfl, ?_⟩) ?_ ?_
     rotate_left
     ·intro w'
      go_simp
      with_reducible rfl
     rotate_left
     ·simp only [Act.put, q1, q2, q3, z0a, z0b]
      rfl
     refine z0h (i := 5) (N := some 24) (v := ?_) (a' := ?_) #[true, false, true, false, false, true, false, false, false, false, false] rfl rfl (z0k HT_.out (by kernel_rfl)) (fun _ _ _ h => h) (Or.inl ⟨by rfl, ?_⟩) ?_ ?_
     rotate_left
     ·intro w'
      go_simp
      with_reducible rfl
     rotate_left
     ·simp only [Act.put, q1, q2, q3, z0a, z0b]
      rfl
     refine z0h (i := 7) (N := some 26) (v := ?_) (a' := ?_) #[true, false, true, false, false, true, false, true, false, false, false] rfl rfl (z0k HT_.out (by kernel_rfl)) (fun _ _ _ h => h) (Or.inl ⟨by rfl, ?_⟩) ?_ ?_
     rotate_left
     ·intro w'
      go_simp
      with_reducible rfl
     rotate_left
     ·simp only [Act.put, q1, q2, q3, z0a, z0b]
      rfl
     refine z1s (i := 1) (N := some 20) (v := ?_) (a' := ?_) #[true, true, true, false, false, true, false, true, false, false, false] rfl rfl (z1w HT_.out HW_.out (by kernel_rfl)) (fun _ _ _ h => h) (Or.inl ⟨by rfl, ?_⟩) hHeld ?_ ?_
     rotate_left
     ·rintro w' ⟨s0, s1⟩
      go_simp
      with_reducible rfl
     rotate_left
     ·simp only [Act.put, q1, q2, q3, z0a, z0b]
      rfl
     refine z0h (i := 3) (N := some 22) (v := ?_) (a' := ?_) #[true, true, true, true, false, true, false, true, false, false, false] rfl rfl (z0k HT_.out (by kernel_rfl)) (fun _ _ _ h => h) (Or.inl ⟨by rfl, ?_⟩) ?_ ?_
     rotate_left
     ·intro w'
      go_simp
      with_reducible rfl
     rotate_left
     ·simp only [Act.put, q1, q2, q3, z0a, z0b]
      rfl
     refine z0h (i := 4) (N := some 23) (v := ?_) (a' := ?_) #[true, true, true, true, true, true, false, true, false, false, false] rfl rfl (z0k HT_.out (by kernel_rfl)) (fun _ _ _ h => h) (Or.inl ⟨by rfl, ?_⟩) ?_ ?_
     rotate_left
     ·intro w'
      go_simp
      with_reducible rfl
     rotate_left
     ·simp only [Act.put, q1, q2, q3, z0a, z0b]
      rfl
     refine z1s (i := 6) (N := some 25) (v := ?_) (a' := ?_) #[true, true, true, true, true, true, true, true, false, false, false] rfl rfl (z1w HT_.out HW_.out (by kernel_rfl)) (fun _ _ _ h => h) (Or.inl ⟨by rfl, ?_⟩) hHeld ?_ ?_
     rotate_left
     ·rintro w' ⟨s0, s1⟩
      go_simp
      with_reducible rfl
     rotate_left
     ·simp only [Act.put, q1, q2, q3, z0a, z0b]
      rfl
     refine z0h (i := 8) (N := some 27) (v := ?_) (a' := ?_) #[true, true, true, true, true, true, true, true, true, false, false] rfl rfl (z0k HT_.out (by kernel_rfl)) (fun _ _ _ h => h) (Or.inl ⟨by rfl, ?_⟩) ?_ ?_
     rotate_left
     ·intro w'
      go_simp
      with_reducible rfl
     rotate_left
     ·simp only [Act.put, q1, q2, q3, z0a, z0b]
      rfl
     refine one_ (i := 9) (N := none) #[true, true, true, true, true, true, true, true, true, true, false] rfl rfl (z1q HT_.out (by kernel_rfl)) (by decide) (fun K hK => ?_)
     have hs19 : w18.cell? ⟨gb114, 0, none⟩ = some (.string (⟨#[]⟩ : ByteArray)) := (z00 BK114.out 0).trans rfl
     have hfs19 := z05 BK114.out 0
     have hns19_0 := z3h.out
     have hms19_0 := NB114_113.out
     have hs20 : w18.cell? ⟨gb114, 1, none⟩ = some (.bool false) := (z00 BK114.out 1).trans rfl
     have hfs20 := z05 BK114.out 1
     have hns20_0 := z3h.out
     have hms20_0 := NB114_113.out
     refine skip_ (w1 := ?_) (by rfl) rfl ?_ ?_
     rotate_left
     ·go_simp
      rfl
     refine hK.out _ _ ⟨((z1y (p := ⟨gb114, _, none⟩) z3h.out _).trans (((z1y (p := ⟨gb114, _, none⟩) z3h.out _).trans (hHeld.1)))), ((z1y (p := ⟨gb114, _, none⟩) z3h.out _).trans (((z1y (p := ⟨gb114, _, none⟩) z3h.out _).trans (hHeld.2))))⟩ (fun hHeld => ?_)
     clear hK K
     refine z0h (i := 10) (N := some 5) (v := ?_) (a' := ?_) #[true, true, true, true, true, true, true, true, true, true, true] rfl rfl (z0k HT_.out (by kernel_rfl)) (fun _ _ _ h => h) (Or.inl ⟨by rfl, ?_⟩) ?_ ?_
     rotate_left
     ·intro w'
      go_simp
      with_reducible rfl
     rotate_left
     ·simp only [Act.put, q1, q2, q3, z0a, z0b]
      rfl
     refine done_ (done_of HT_.out (by kernel_rfl)) ?_
     try go_wp2
     refine bodyPost_ret (z30 rfl _ _ gb114 108 #[.string (a0_0.extract (a1 : Int).toNat a0_0.size), .bool true] (0, 0) _ rfl (by (with_reducible repeat (first | refine z04 ?_ _ | refine z03 ?_ | refine z02 ?_ _)); refine z0e (cs := #[.string (a0_0.extract (a1 : Int).toNat a0_0.size), .bool false]) ?_ 1 _ rfl; (with_reducible repeat (first | refine z04 ?_ _ | refine z03 ?_ | refine z02 ?_ _)); refine z0e (cs := #[.string (⟨#[]⟩ : ByteArray), .bool false]) ?_ 0 _ rfl; (with_reducible repeat (first | refine z04 ?_ _ | refine z03 ?_ | refine z02 ?_ _)); exact BK114.out) Try.underlying108 rfl (by kernel_rfl)) rfl ?_
     exact ⟨by first | rfl | (simp [z0q, z0r] <;> rfl) | (simp [*, z0q, z0r] <;> rfl), by repeat (first | (with_reducible first | exact HB.out | apply z07 | apply z09 | apply z08 | refine z06 ?_ GE113.out | refine z06 ?_ GE114.out) | exact HB.out)⟩
    ·rw [if_neg c11] at H
     exact absurd H (by simp)
   ·rw [if_neg c10] at H
    exact absurd H (by simp)
 ·replace c3 := Bool.eq_false_iff.mpr c3
  subst c3
  have H1 : (some (a0_0, false, (⟨#[]⟩ : ByteArray))) = some (r1, r2, r3) := by rw [if_neg (show ¬ (false = true) by decide)] at H; exact H
  clear H
  have H := H1
  clear H1
  simp only [Option.some.injEq, Prod.mk.injEq] at H
  obtain ⟨rfl, rfl, rfl⟩ := H
  go_enter Try.func57, Try.ntmps57
  go_wp2_with (first | ((with_reducible refine z1p (N := 2) rfl ?_); (try (refine gate_guard (by rfl) ?_; dsimp only)); refine z1z ?hg (N := 2) ?hd (cs := #[.string a0_0, .bool false]) (t := 108) ?hr ?_; (case hd => rfl); (case hg => rfl); (case hr => first | (go_simp; done) | (go_simp; rfl)); intro gb113 hg w21 hbox hb; have n0_ := z01.mk (z0l (by repeat (first | (with_reducible first | exact HB.out | apply z07 | apply z09 | apply z08) | exact HB.out | exact Below.refl _ _)) hb); have n1_ := z01.mk (hbox); have n2_ := z01.mk ((by rw [hg]; exact (z0x (by repeat (first | (with_reducible first | exact HB.out | apply z07 | apply z09 | apply z08) | exact HB.out | exact Below.refl _ _))) : w.heap.size ≤ gb113)); have n3_ := z01.mk ((by rw [hg]; exact (z0x (by repeat (first | (with_reducible first | exact HB.out | apply z07 | apply z09 | apply z08) | exact HB.out | exact Below.refl _ _))) : w.heap.size ≤ gb113)); clear HB; have HB := n0_; have BK113 := n1_; have GW113 := n2_; have GE113 := n3_; clear n0_ n1_ n2_ n3_; clear hb hbox hg) | ((with_reducible refine z1p (N := 4) rfl ?_); (try (refine gate_guard (by rfl) ?_; dsimp only)); refine z1z ?hg (N := 4) ?hd (cs := #[.string (⟨#[]⟩ : ByteArray), .bool false]) (t := 108) ?hr ?_; (case hd => rfl); (case hg => rfl); (case hr => first | (go_simp; done) | (go_simp; rfl)); intro gb114 hg w22 hbox hb; have n0_ := z01.mk (z0f (g := gb113) (o := .cells #[.string a0_0, .bool false] 108 (0, 0)) (by (with_reducible repeat (first | refine z04 ?_ _ | refine z03 ?_ | refine z02 ?_ _)); exact BK113.out) hb); have n1_ := z01.mk (z0l (by repeat (first | (with_reducible first | exact HB.out | apply z07 | apply z09 | apply z08 | refine z06 ?_ GE113.out) | exact HB.out)) hb); have n2_ := z01.mk (hbox); have n3_ := z01.mk ((by rw [hg]; exact (z0x (by repeat (first | (with_reducible first | exact HB.out | apply z07 | apply z09 | apply z08 | refine z06 ?_ GE113.out) | exact HB.out))) : w.heap.size ≤ gb114)); have n4_ := z01.mk ((by rw [hg]; exact (z0x (by repeat (first | (with_reducible first | exact HB.out | apply z07 | apply z09 | apply z08 | refine z06 ?_ GE113.out) | exact HB.out))) : w.heap.size ≤ gb114)); have n5_ := z01.mk ((by rw [hg]; exact Nat.ne_of_lt (z1g (g := gb113) (o := .cells #[.string a0_0, .bool false] 108 (0, 0)) (by (with_reducible repeat (first | refine z04 ?_ _ | refine z03 ?_ | refine z02 ?_ _)); exact BK113.out)) : gb113 ≠ gb114)); have n6_ := z01.mk ((by rw [hg]; exact Nat.ne_of_gt (z1g (g := gb113) (o := .cells #[.string a0_0, .bool false] 108 (0, 0)) (by (with_reducible repeat (first | refine z04 ?_ _ | refine z03 ?_ | refine z02 ?_ _)); exact BK113.out)) : gb114 ≠ gb113)); clear BK113; clear HB; have BK113 := n0_; have HB := n1_; have BK114 := n2_; have GW114 := n3_; have GE114 := n4_; have z3h := n5_; have NB114_113 := n6_; clear n0_ n1_ n2_ n3_ n4_ n5_ n6_; clear hb hbox hg; have hnb23 := z3h.out; have hnc23 := NB114_113.out; have hcz24_0 : w22.cell? ⟨gb113, 0, none⟩ = some (.string a0_0) := (z00 BK113.out 0).trans rfl; have hcz24_1 : w22.cell? ⟨gb113, 1, none⟩ = some (.bool false) := (z00 BK113.out 1).trans rfl; have hfz24_0 := z05 BK113.out 0; have hfz24_1 := z05 BK113.out 1; have hcz25_0 : w22.cell? ⟨gb114, 0, none⟩ = some (.string (⟨#[]⟩ : ByteArray)) := (z00 BK114.out 0).trans rfl; have hcz25_1 : w22.cell? ⟨gb114, 1, none⟩ = some (.bool false) := (z00 BK114.out 1).trans rfl; have hfz25_0 := z05 BK114.out 0; have hfz25_1 := z05 BK114.out 1))
  refine bodyPost_ret (z30 rfl _ _ gb114 108 #[.string a0_0, .bool false] (0, 0) _ rfl (by (with_reducible repeat (first | refine z04 ?_ _ | refine z03 ?_ | refine z02 ?_ _)); refine z0e (cs := #[.string a0_0, .bool false]) ?_ 1 _ rfl; (with_reducible repeat (first | refine z04 ?_ _ | refine z03 ?_ | refine z02 ?_ _)); refine z0e (cs := #[.string (⟨#[]⟩ : ByteArray), .bool false]) ?_ 0 _ rfl; (with_reducible repeat (first | refine z04 ?_ _ | refine z03 ?_ | refine z02 ?_ _)); exact BK114.out) Try.underlying108 rfl (by kernel_rfl)) rfl ?_
  exact ⟨by first | rfl | (simp [z0q, z0r] <;> rfl) | (simp [*, z0q, z0r] <;> rfl), by repeat (first | (with_reducible first | exact HB.out | apply z07 | apply z09 | apply z08 | refine z06 ?_ GE113.out | refine z06 ?_ GE114.out) | exact HB.out)⟩
def z1v.f (a0_0 : ByteArray) (a0_1 : Bool) (a1 : Int) : Option (ByteArray × Bool × Int) := (z1h.f a0_0).bind fun bt117 => (if a0_1 = true then (if bt117.2.2 = 0 then (if bt117.1 > a1 then (some (a0_0, false, 0)) else (if 0 ≤ bt117.2.1 then (if bt117.2.1 ≤ (a0_0.size : Int) then (some (a0_0.extract (bt117.2.1 : Int).toNat a0_0.size, true, bt117.1)) else (none)) else (none))) else (some (a0_0, false, 0))) else (some (a0_0, false, 0)))
set_option maxHeartbeats 8000000 in
set_option maxRecDepth 100000 in
theorem z1v.calls (a0_0 : ByteArray) (a0_1 : Bool) (a1 : Int) (r1 : ByteArray) (r2 : Bool) (r3 : Int) (w : World) (h : z1v.f a0_0 a0_1 a1 = some (r1, r2, r3)) :
  Calls Try.prog 58 #[.agg #[.string a0_0, .bool a0_1], .int .u64 a1] w fun e w' => e = .returned (.tuple #[.agg #[.string r1, .bool r2], .int .u64 r3]) ∧ Below w.heap.size w w' := by
 have hu108 := Try.underlying108
 have HB := z01.mk (Below.refl w.heap.size w)
 have H : ((z1h.f a0_0).bind fun bt117 => (if a0_1 = true then (if bt117.2.2 = 0 then (if bt117.1 > a1 then (some (a0_0, false, 0)) else (if 0 ≤ bt117.2.1 then (if bt117.2.1 ≤ (a0_0.size : Int) then (some (a0_0.extract (bt117.2.1 : Int).toNat a0_0.size, true, bt117.1)) else (none)) else (none))) else (some (a0_0, false, 0))) else (some (a0_0, false, 0)))) = some (r1, r2, r3) := h
 clear h
 replace H := Option.bind_eq_some_iff.mp H
 obtain ⟨⟨t117, t118, t119⟩, A30, H⟩ := H
 replace H : (if a0_1 = true then (if t119 = 0 then (if t117 > a1 then (some (a0_0, false, 0)) else (if 0 ≤ t118 then (if t118 ≤ (a0_0.size : Int) then (some (a0_0.extract (t118 : Int).toNat a0_0.size, true, t117)) else (none)) else (none))) else (some (a0_0, false, 0))) else (some (a0_0, false, 0))) = some (r1, r2, r3) := H
 have A3 := z01.mk A30
 clear A30
 by_cases c4 : a0_1 = true
 ·subst c4
  have H1 : (if t119 = 0 then (if t117 > a1 then (some (a0_0, false, 0)) else (if 0 ≤ t118 then (if t118 ≤ (a0_0.size : Int) then (some (a0_0.extract (t118 : Int).toNat a0_0.size, true, t117)) else (none)) else (none))) else (some (a0_0, false, 0))) = some (r1, r2, r3) := by rw [if_pos rfl] at H; exact H
  clear H
  have H := H1
  clear H1
  by_cases c5 : t119 = 0
  ·rw [if_pos c5] at H
   have c5b0 : (t119 == 0) = true := beq_iff_eq.mpr c5
   have c5b1 : (t119 != 0) = false := bne_eq_false_iff_eq.mpr c5
   clear c5
   by_cases c6 : t117 > a1
   ·rw [if_pos c6] at H
    have c6b0 : decide (a1 < t117) = true := decide_eq_true c6
    clear c6
    simp only [Option.some.injEq, Prod.mk.injEq] at H
    try rw [c6b0] at H
    obtain ⟨rfl, rfl, rfl⟩ := H
    go_enter Try.func58, Try.ntmps58
    go_wp2_with (first | ((with_reducible refine z1p (N := 2) rfl ?_); refine z1z ?hg (N := 2) ?hd (cs := #[.string a0_0, .bool true]) (t := 108) ?hr ?_; (case hd => rfl); (case hg => rfl); (case hr => first | (go_simp; done) | (go_simp; rfl)); intro gb115 hg w7 hbox hb; have n0_ := z01.mk (z0l (by repeat (first | (with_reducible first | exact HB.out | apply z07 | apply z09 | apply z08) | exact HB.out | exact Below.refl _ _)) hb); have n1_ := z01.mk (hbox); have n2_ := z01.mk ((by rw [hg]; exact (z0x (by repeat (first | (with_reducible first | exact HB.out | apply z07 | apply z09 | apply z08) | exact HB.out | exact Below.refl _ _))) : w.heap.size ≤ gb115)); have n3_ := z01.mk ((by rw [hg]; exact (z0x (by repeat (first | (with_reducible first | exact HB.out | apply z07 | apply z09 | apply z08) | exact HB.out | exact Below.refl _ _))) : w.heap.size ≤ gb115)); clear HB; have HB := n0_; have BK115 := n1_; have GW115 := n2_; have GE115 := n3_; clear n0_ n1_ n2_ n3_; clear hb hbox hg) | ((with_reducible refine z1p (N := 4) rfl ?_); refine z1z ?hg (N := 4) ?hd (cs := #[.string (⟨#[]⟩ : ByteArray), .bool false]) (t := 108) ?hr ?_; (case hd => rfl); (case hg => rfl); (case hr => first | (go_simp; done) | (go_simp; rfl)); intro gb116 hg w8 hbox hb; have n0_ := z01.mk (z0f (g := gb115) (o := .cells #[.string a0_0, .bool true] 108 (0, 0)) (by (with_reducible repeat (first | refine z04 ?_ _ | refine z03 ?_ | refine z02 ?_ _)); exact BK115.out) hb); have n1_ := z01.mk (z0l (by repeat (first | (with_reducible first | exact HB.out | apply z07 | apply z09 | apply z08 | refine z06 ?_ GE115.out) | exact HB.out)) hb); have n2_ := z01.mk (hbox); have n3_ := z01.mk ((by rw [hg]; exact (z0x (by repeat (first | (with_reducible first | exact HB.out | apply z07 | apply z09 | apply z08 | refine z06 ?_ GE115.out) | exact HB.out))) : w.heap.size ≤ gb116)); have n4_ := z01.mk ((by rw [hg]; exact (z0x (by repeat (first | (with_reducible first | exact HB.out | apply z07 | apply z09 | apply z08 | refine z06 ?_ GE115.out) | exact HB.out))) : w.heap.size ≤ gb116)); have n5_ := z01.mk ((by rw [hg]; exact Nat.ne_of_lt (z1g (g := gb115) (o := .cells #[.string a0_0, .bool true] 108 (0, 0)) (by (with_reducible repeat (first | refine z04 ?_ _ | refine z03 ?_ | refine z02 ?_ _)); exact BK115.out)) : gb115 ≠ gb116)); have n6_ := z01.mk ((by rw [hg]; exact Nat.ne_of_gt (z1g (g := gb115) (o := .cells #[.string a0_0, .bool true] 108 (0, 0)) (by (with_reducible repeat (first | refine z04 ?_ _ | refine z03 ?_ | refine z02 ?_ _)); exact BK115.out)) : gb116 ≠ gb115)); clear BK115; clear HB; have BK115 := n0_; have HB := n1_; have BK116 := n2_; have GW116 := n3_; have GE116 := n4_; have NB115_116 := n5_; have NB116_115 := n6_; clear n0_ n1_ n2_ n3_ n4_ n5_ n6_; clear hb hbox hg; have hnb9 := NB115_116.out; have hnc9 := NB116_115.out; have hcz10_0 : w8.cell? ⟨gb115, 0, none⟩ = some (.string a0_0) := (z00 BK115.out 0).trans rfl; have hcz10_1 : w8.cell? ⟨gb115, 1, none⟩ = some (.bool true) := (z00 BK115.out 1).trans rfl; have hfz10_0 := z05 BK115.out 0; have hfz10_1 := z05 BK115.out 1) | ((with_reducible refine z13 (f := 69) rfl ?_); refine z12 (some 12) rfl rfl Try.func69 (by kernel_rfl) rfl #[.string a0_0] rfl (by (try simp only [List.map_toArray, List.map_cons, List.map_nil]); first | done | rfl | (simp only [List.length_drop, List.length_take]; rfl)) ?_; (with_reducible refine (z1h.calls a0_0 t117 t118 t119 _ A3.out).mono ?_); rintro e w11 ⟨rfl, hb⟩; refine ⟨_, rfl, ?_⟩; have n0_ := z01.mk (z0f (g := gb115) (o := .cells #[.string a0_0, .bool true] 108 (0, 0)) (by (with_reducible repeat (first | refine z04 ?_ _ | refine z03 ?_ | refine z02 ?_ _)); exact BK115.out) hb); have n1_ := z01.mk (z0f (g := gb116) (o := .cells #[.string (⟨#[]⟩ : ByteArray), .bool false] 108 (0, 0)) (by (with_reducible repeat (first | refine z04 ?_ _ | refine z03 ?_ | refine z02 ?_ _)); exact BK116.out) hb); have n2_ := z01.mk (z0l (by repeat (first | (with_reducible first | exact HB.out | apply z07 | apply z09 | apply z08 | refine z06 ?_ GE115.out | refine z06 ?_ GE116.out) | exact HB.out)) hb); clear BK115; clear BK116; clear HB; have BK115 := n0_; have BK116 := n1_; have HB := n2_; clear n0_ n1_ n2_; (try clear hb); (try clear hb2); (try clear hk); (try clear hi); have hcz12_0 : w11.cell? ⟨gb115, 0, none⟩ = some (.string a0_0) := (z00 BK115.out 0).trans rfl; have hcz12_1 : w11.cell? ⟨gb115, 1, none⟩ = some (.bool true) := (z00 BK115.out 1).trans rfl; have hfz12_0 := z05 BK115.out 0; have hfz12_1 := z05 BK115.out 1; have hcz13_0 : w11.cell? ⟨gb116, 0, none⟩ = some (.string (⟨#[]⟩ : ByteArray)) := (z00 BK116.out 0).trans rfl; have hcz13_1 : w11.cell? ⟨gb116, 1, none⟩ = some (.bool false) := (z00 BK116.out 1).trans rfl; have hfz13_0 := z05 BK116.out 0; have hfz13_1 := z05 BK116.out 1))
    refine bodyPost_ret (z30 rfl _ _ gb116 108 #[.string a0_0, .bool false] (0, 0) _ rfl (by (with_reducible repeat (first | refine z04 ?_ _ | refine z03 ?_ | refine z02 ?_ _)); refine z0e (cs := #[.string a0_0, .bool false]) ?_ 1 _ rfl; (with_reducible repeat (first | refine z04 ?_ _ | refine z03 ?_ | refine z02 ?_ _)); refine z0e (cs := #[.string (⟨#[]⟩ : ByteArray), .bool false]) ?_ 0 _ rfl; (with_reducible repeat (first | refine z04 ?_ _ | refine z03 ?_ | refine z02 ?_ _)); exact BK116.out) Try.underlying108 rfl (by kernel_rfl)) rfl ?_
    exact ⟨by first | rfl | (simp [z0q, z0r] <;> rfl) | (simp [*, z0q, z0r] <;> rfl), by repeat (first | (with_reducible first | exact HB.out | apply z07 | apply z09 | apply z08 | refine z06 ?_ GE115.out | refine z06 ?_ GE116.out) | exact HB.out)⟩
   ·rw [if_neg c6] at H
    have c6b0 : decide (a1 < t117) = false := decide_eq_false c6
    clear c6
    by_cases c14 : 0 ≤ t118
    ·rw [if_pos c14] at H
     have c14b0 := eq_true c14
     have c14b1 : decide (0 ≤ t118) = true := decide_eq_true c14
     clear c14
     by_cases c15 : t118 ≤ (a0_0.size : Int)
     ·rw [if_pos c15] at H
      have c15b0 := eq_true c15
      have c15b1 : decide (t118 ≤ (a0_0.size : Int)) = true := decide_eq_true c15
      clear c15
      simp only [Option.some.injEq, Prod.mk.injEq] at H
      try rw [c6b0] at H
      try rw [c14b1] at H
      try rw [c15b1] at H
      obtain ⟨rfl, rfl, rfl⟩ := H
      go_enter Try.func58, Try.ntmps58
      go_wp2_with (first | ((with_reducible refine z1p (N := 2) rfl ?_); refine z1z ?hg (N := 2) ?hd (cs := #[.string a0_0, .bool true]) (t := 108) ?hr ?_; (case hd => rfl); (case hg => rfl); (case hr => first | (go_simp; done) | (go_simp; rfl)); intro gb115 hg w16 hbox hb; have n0_ := z01.mk (z0l (by repeat (first | (with_reducible first | exact HB.out | apply z07 | apply z09 | apply z08) | exact HB.out | exact Below.refl _ _)) hb); have n1_ := z01.mk (hbox); have n2_ := z01.mk ((by rw [hg]; exact (z0x (by repeat (first | (with_reducible first | exact HB.out | apply z07 | apply z09 | apply z08) | exact HB.out | exact Below.refl _ _))) : w.heap.size ≤ gb115)); have n3_ := z01.mk ((by rw [hg]; exact (z0x (by repeat (first | (with_reducible first | exact HB.out | apply z07 | apply z09 | apply z08) | exact HB.out | exact Below.refl _ _))) : w.heap.size ≤ gb115)); clear HB; have HB := n0_; have BK115 := n1_; have GW115 := n2_; have GE115 := n3_; clear n0_ n1_ n2_ n3_; clear hb hbox hg) | ((with_reducible refine z1p (N := 4) rfl ?_); refine z1z ?hg (N := 4) ?hd (cs := #[.string (⟨#[]⟩ : ByteArray), .bool false]) (t := 108) ?hr ?_; (case hd => rfl); (case hg => rfl); (case hr => first | (go_simp; done) | (go_simp; rfl)); intro gb116 hg w17 hbox hb; have n0_ := z01.mk (z0f (g := gb115) (o := .cells #[.string a0_0, .bool true] 108 (0, 0)) (by (with_reducible repeat (first | refine z04 ?_ _ | refine z03 ?_ | refine z02 ?_ _)); exact BK115.out) hb); have n1_ := z01.mk (z0l (by repeat (first | (with_reducible first | exact HB.out | apply z07 | apply z09 | apply z08 | refine z06 ?_ GE115.out) | exact HB.out)) hb); have n2_ := z01.mk (hbox); have n3_ := z01.mk ((by rw [hg]; exact (z0x (by repeat (first | (with_reducible first | exact HB.out | apply z07 | apply z09 | apply z08 | refine z06 ?_ GE115.out) | exact HB.out))) : w.heap.size ≤ gb116)); have n4_ := z01.mk ((by rw [hg]; exact (z0x (by repeat (first | (with_reducible first | exact HB.out | apply z07 | apply z09 | apply z08 | refine z06 ?_ GE115.out) | exact HB.out))) : w.heap.size ≤ gb116)); have n5_ := z01.mk ((by rw [hg]; exact Nat.ne_of_lt (z1g (g := gb115) (o := .cells #[.string a0_0, .bool true] 108 (0, 0)) (by (with_reducible repeat (first | refine z04 ?_ _ | refine z03 ?_ | refine z02 ?_ _)); exact BK115.out)) : gb115 ≠ gb116)); have n6_ := z01.mk ((by rw [hg]; exact Nat.ne_of_gt (z1g (g := gb115) (o := .cells #[.string a0_0, .bool true] 108 (0, 0)) (by (with_reducible repeat (first | refine z04 ?_ _ | refine z03 ?_ | refine z02 ?_ _)); exact BK115.out)) : gb116 ≠ gb115)); clear BK115; clear HB; have BK115 := n0_; have HB := n1_; have BK116 := n2_; have GW116 := n3_; have GE116 := n4_; have NB115_116 := n5_; have NB116_115 := n6_; clear n0_ n1_ n2_ n3_ n4_ n5_ n6_; clear hb hbox hg; have hnb18 := NB115_116.out; have hnc18 := NB116_115.out; have hcz19_0 : w17.cell? ⟨gb115, 0, none⟩ = some (.string a0_0) := (z00 BK115.out 0).trans rfl; have hcz19_1 : w17.cell? ⟨gb115, 1, none⟩ = some (.bool true) := (z00 BK115.out 1).trans rfl; have hfz19_0 := z05 BK115.out 0; have hfz19_1 := z05 BK115.out 1) | ((with_reducible refine z13 (f := 69) rfl ?_); refine z12 (some 12) rfl rfl Try.func69 (by kernel_rfl) rfl #[.string a0_0] rfl (by (try simp only [List.map_toArray, List.map_cons, List.map_nil]); first | done | rfl | (simp only [List.length_drop, List.length_take]; rfl)) ?_; (with_reducible refine (z1h.calls a0_0 t117 t118 t119 _ A3.out).mono ?_); rintro e w20 ⟨rfl, hb⟩; refine ⟨_, rfl, ?_⟩; have n0_ := z01.mk (z0f (g := gb115) (o := .cells #[.string a0_0, .bool true] 108 (0, 0)) (by (with_reducible repeat (first | refine z04 ?_ _ | refine z03 ?_ | refine z02 ?_ _)); exact BK115.out) hb); have n1_ := z01.mk (z0f (g := gb116) (o := .cells #[.string (⟨#[]⟩ : ByteArray), .bool false] 108 (0, 0)) (by (with_reducible repeat (first | refine z04 ?_ _ | refine z03 ?_ | refine z02 ?_ _)); exact BK116.out) hb); have n2_ := z01.mk (z0l (by repeat (first | (with_reducible first | exact HB.out | apply z07 | apply z09 | apply z08 | refine z06 ?_ GE115.out | refine z06 ?_ GE116.out) | exact HB.out)) hb); clear BK115; clear BK116; clear HB; have BK115 := n0_; have BK116 := n1_; have HB := n2_; clear n0_ n1_ n2_; (try clear hb); (try clear hb2); (try clear hk); (try clear hi); have hcz21_0 : w20.cell? ⟨gb115, 0, none⟩ = some (.string a0_0) := (z00 BK115.out 0).trans rfl; have hcz21_1 : w20.cell? ⟨gb115, 1, none⟩ = some (.bool true) := (z00 BK115.out 1).trans rfl; have hfz21_0 := z05 BK115.out 0; have hfz21_1 := z05 BK115.out 1; have hcz22_0 : w20.cell? ⟨gb116, 0, none⟩ = some (.string (⟨#[]⟩ : ByteArray)) := (z00 BK116.out 0).trans rfl; have hcz22_1 : w20.cell? ⟨gb116, 1, none⟩ = some (.bool false) := (z00 BK116.out 1).trans rfl; have hfz22_0 := z05 BK116.out 0; have hfz22_1 := z05 BK116.out 1))
      refine bodyPost_ret (z30 rfl _ _ gb116 108 #[.string (a0_0.extract (t118 : Int).toNat a0_0.size), .bool true] (0, 0) _ rfl (by (with_reducible repeat (first | refine z04 ?_ _ | refine z03 ?_ | refine z02 ?_ _)); refine z0e (cs := #[.string (a0_0.extract (t118 : Int).toNat a0_0.size), .bool false]) ?_ 1 _ rfl; (with_reducible repeat (first | refine z04 ?_ _ | refine z03 ?_ | refine z02 ?_ _)); refine z0e (cs := #[.string (⟨#[]⟩ : ByteArray), .bool false]) ?_ 0 _ rfl; (with_reducible repeat (first | refine z04 ?_ _ | refine z03 ?_ | refine z02 ?_ _)); exact BK116.out) Try.underlying108 rfl (by kernel_rfl)) rfl ?_
      exact ⟨by first | rfl | (simp [z0q, z0r] <;> rfl) | (simp [*, z0q, z0r] <;> rfl), by repeat (first | (with_reducible first | exact HB.out | apply z07 | apply z09 | apply z08 | refine z06 ?_ GE115.out | refine z06 ?_ GE116.out) | exact HB.out)⟩
     ·rw [if_neg c15] at H
      exact absurd H (by simp)
    ·rw [if_neg c14] at H
     exact absurd H (by simp)
  ·rw [if_neg c5] at H
   have c5b0 : (t119 == 0) = false := beq_eq_false_iff_ne.mpr c5
   have c5b1 : (t119 != 0) = true := bne_iff_ne.mpr c5
   simp only [Option.some.injEq, Prod.mk.injEq] at H
   obtain ⟨rfl, rfl, rfl⟩ := H
   go_enter Try.func58, Try.ntmps58
   go_wp2_with (first | ((with_reducible refine z1p (N := 2) rfl ?_); refine z1z ?hg (N := 2) ?hd (cs := #[.string a0_0, .bool true]) (t := 108) ?hr ?_; (case hd => rfl); (case hg => rfl); (case hr => first | (go_simp; done) | (go_simp; rfl)); intro gb115 hg w23 hbox hb; have n0_ := z01.mk (z0l (by repeat (first | (with_reducible first | exact HB.out | apply z07 | apply z09 | apply z08) | exact HB.out | exact Below.refl _ _)) hb); have n1_ := z01.mk (hbox); have n2_ := z01.mk ((by rw [hg]; exact (z0x (by repeat (first | (with_reducible first | exact HB.out | apply z07 | apply z09 | apply z08) | exact HB.out | exact Below.refl _ _))) : w.heap.size ≤ gb115)); have n3_ := z01.mk ((by rw [hg]; exact (z0x (by repeat (first | (with_reducible first | exact HB.out | apply z07 | apply z09 | apply z08) | exact HB.out | exact Below.refl _ _))) : w.heap.size ≤ gb115)); clear HB; have HB := n0_; have BK115 := n1_; have GW115 := n2_; have GE115 := n3_; clear n0_ n1_ n2_ n3_; clear hb hbox hg) | ((with_reducible refine z1p (N := 4) rfl ?_); refine z1z ?hg (N := 4) ?hd (cs := #[.string (⟨#[]⟩ : ByteArray), .bool false]) (t := 108) ?hr ?_; (case hd => rfl); (case hg => rfl); (case hr => first | (go_simp; done) | (go_simp; rfl)); intro gb116 hg w24 hbox hb; have n0_ := z01.mk (z0f (g := gb115) (o := .cells #[.string a0_0, .bool true] 108 (0, 0)) (by (with_reducible repeat (first | refine z04 ?_ _ | refine z03 ?_ | refine z02 ?_ _)); exact BK115.out) hb); have n1_ := z01.mk (z0l (by repeat (first | (with_reducible first | exact HB.out | apply z07 | apply z09 | apply z08 | refine z06 ?_ GE115.out) | exact HB.out)) hb); have n2_ := z01.mk (hbox); have n3_ := z01.mk ((by rw [hg]; exact (z0x (by repeat (first | (with_reducible first | exact HB.out | apply z07 | apply z09 | apply z08 | refine z06 ?_ GE115.out) | exact HB.out))) : w.heap.size ≤ gb116)); have n4_ := z01.mk ((by rw [hg]; exact (z0x (by repeat (first | (with_reducible first | exact HB.out | apply z07 | apply z09 | apply z08 | refine z06 ?_ GE115.out) | exact HB.out))) : w.heap.size ≤ gb116)); have n5_ := z01.mk ((by rw [hg]; exact Nat.ne_of_lt (z1g (g := gb115) (o := .cells #[.string a0_0, .bool true] 108 (0, 0)) (by (with_reducible repeat (first | refine z04 ?_ _ | refine z03 ?_ | refine z02 ?_ _)); exact BK115.out)) : gb115 ≠ gb116)); have n6_ := z01.mk ((by rw [hg]; exact Nat.ne_of_gt (z1g (g := gb115) (o := .cells #[.string a0_0, .bool true] 108 (0, 0)) (by (with_reducible repeat (first | refine z04 ?_ _ | refine z03 ?_ | refine z02 ?_ _)); exact BK115.out)) : gb116 ≠ gb115)); clear BK115; clear HB; have BK115 := n0_; have HB := n1_; have BK116 := n2_; have GW116 := n3_; have GE116 := n4_; have NB115_116 := n5_; have NB116_115 := n6_; clear n0_ n1_ n2_ n3_ n4_ n5_ n6_; clear hb hbox hg; have hnb25 := NB115_116.out; have hnc25 := NB116_115.out; have hcz26_0 : w24.cell? ⟨gb115, 0, none⟩ = some (.string a0_0) := (z00 BK115.out 0).trans rfl; have hcz26_1 : w24.cell? ⟨gb115, 1, none⟩ = some (.bool true) := (z00 BK115.out 1).trans rfl; have hfz26_0 := z05 BK115.out 0; have hfz26_1 := z05 BK115.out 1) | ((with_reducible refine z13 (f := 69) rfl ?_); refine z12 (some 12) rfl rfl Try.func69 (by kernel_rfl) rfl #[.string a0_0] rfl (by (try simp only [List.map_toArray, List.map_cons, List.map_nil]); first | done | rfl | (simp only [List.length_drop, List.length_take]; rfl)) ?_; (with_reducible refine (z1h.calls a0_0 t117 t118 t119 _ A3.out).mono ?_); rintro e w27 ⟨rfl, hb⟩; refine ⟨_, rfl, ?_⟩; have n0_ := z01.mk (z0f (g := gb115) (o := .cells #[.string a0_0, .bool true] 108 (0, 0)) (by (with_reducible repeat (first | refine z04 ?_ _ | refine z03 ?_ | refine z02 ?_ _)); exact BK115.out) hb); have n1_ := z01.mk (z0f (g := gb116) (o := .cells #[.string (⟨#[]⟩ : ByteArray), .bool false] 108 (0, 0)) (by (with_reducible repeat (first | refine z04 ?_ _ | refine z03 ?_ | refine z02 ?_ _)); exact BK116.out) hb); have n2_ := z01.mk (z0l (by repeat (first | (with_reducible first | exact HB.out | apply z07 | apply z09 | apply z08 | refine z06 ?_ GE115.out | refine z06 ?_ GE116.out) | exact HB.out)) hb); clear BK115; clear BK116; clear HB; have BK115 := n0_; have BK116 := n1_; have HB := n2_; clear n0_ n1_ n2_; (try clear hb); (try clear hb2); (try clear hk); (try clear hi); have hcz28_0 : w27.cell? ⟨gb115, 0, none⟩ = some (.string a0_0) := (z00 BK115.out 0).trans rfl; have hcz28_1 : w27.cell? ⟨gb115, 1, none⟩ = some (.bool true) := (z00 BK115.out 1).trans rfl; have hfz28_0 := z05 BK115.out 0; have hfz28_1 := z05 BK115.out 1; have hcz29_0 : w27.cell? ⟨gb116, 0, none⟩ = some (.string (⟨#[]⟩ : ByteArray)) := (z00 BK116.out 0).trans rfl; have hcz29_1 : w27.cell? ⟨gb116, 1, none⟩ = some (.bool false) := (z00 BK116.out 1).trans rfl; have hfz29_0 := z05 BK116.out 0; have hfz29_1 := z05 BK116.out 1))
   refine bodyPost_ret (z30 rfl _ _ gb116 108 #[.string a0_0, .bool false] (0, 0) _ rfl (by (with_reducible repeat (first | refine z04 ?_ _ | refine z03 ?_ | refine z02 ?_ _)); refine z0e (cs := #[.string a0_0, .bool false]) ?_ 1 _ rfl; (with_reducible repeat (first | refine z04 ?_ _ | refine z03 ?_ | refine z02 ?_ _)); refine z0e (cs := #[.string (⟨#[]⟩ : ByteArray), .bool false]) ?_ 0 _ rfl; (with_reducible repeat (first | refine z04 ?_ _ | refine z03 ?_ | refine z02 ?_ _)); exact BK116.out) Try.underlying108 rfl (by kernel_rfl)) rfl ?_
   exact ⟨by first | rfl | (simp [z0q, z0r] <;> rfl) | (simp [*, z0q, z0r] <;> rfl), by repeat (first | (with_reducible first | exact HB.out | apply z07 | apply z09 | apply z08 | refine z06 ?_ GE115.out | refine z06 ?_ GE116.out) | exact HB.out)⟩
 ·replace c4 := Bool.eq_false_iff.mpr c4
  subst c4
  have H1 : (some (a0_0, false, 0)) = some (r1, r2, r3) := by rw [if_neg (show ¬ (false = true) by decide)] at H; exact H
  clear H
  have H := H1
  clear H1
  simp only [Option.some.injEq, Prod.mk.injEq] at H
  obtain ⟨rfl, rfl, rfl⟩ := H
  go_enter Try.func58, Try.ntmps58
  go_wp2_with (first | ((with_reducible refine z1p (N := 2) rfl ?_); refine z1z ?hg (N := 2) ?hd (cs := #[.string a0_0, .bool false]) (t := 108) ?hr ?_; (case hd => rfl); (case hg => rfl); (case hr => first | (go_simp; done) | (go_simp; rfl)); intro gb115 hg w30 hbox hb; have n0_ := z01.mk (z0l (by repeat (first | (with_reducible first | exact HB.out | apply z07 | apply z09 | apply z08) | exact HB.out | exact Below.refl _ _)) hb); have n1_ := z01.mk (hbox); have n2_ := z01.mk ((by rw [hg]; exact (z0x (by repeat (first | (with_reducible first | exact HB.out | apply z07 | apply z09 | apply z08) | exact HB.out | exact Below.refl _ _))) : w.heap.size ≤ gb115)); have n3_ := z01.mk ((by rw [hg]; exact (z0x (by repeat (first | (with_reducible first | exact HB.out | apply z07 | apply z09 | apply z08) | exact HB.out | exact Below.refl _ _))) : w.heap.size ≤ gb115)); clear HB; have HB := n0_; have BK115 := n1_; have GW115 := n2_; have GE115 := n3_; clear n0_ n1_ n2_ n3_; clear hb hbox hg) | ((with_reducible refine z1p (N := 4) rfl ?_); refine z1z ?hg (N := 4) ?hd (cs := #[.string (⟨#[]⟩ : ByteArray), .bool false]) (t := 108) ?hr ?_; (case hd => rfl); (case hg => rfl); (case hr => first | (go_simp; done) | (go_simp; rfl)); intro gb116 hg w31 hbox hb; have n0_ := z01.mk (z0f (g := gb115) (o := .cells #[.string a0_0, .bool false] 108 (0, 0)) (by (with_reducible repeat (first | refine z04 ?_ _ | refine z03 ?_ | refine z02 ?_ _)); exact BK115.out) hb); have n1_ := z01.mk (z0l (by repeat (first | (with_reducible first | exact HB.out | apply z07 | apply z09 | apply z08 | refine z06 ?_ GE115.out) | exact HB.out)) hb); have n2_ := z01.mk (hbox); have n3_ := z01.mk ((by rw [hg]; exact (z0x (by repeat (first | (with_reducible first | exact HB.out | apply z07 | apply z09 | apply z08 | refine z06 ?_ GE115.out) | exact HB.out))) : w.heap.size ≤ gb116)); have n4_ := z01.mk ((by rw [hg]; exact (z0x (by repeat (first | (with_reducible first | exact HB.out | apply z07 | apply z09 | apply z08 | refine z06 ?_ GE115.out) | exact HB.out))) : w.heap.size ≤ gb116)); have n5_ := z01.mk ((by rw [hg]; exact Nat.ne_of_lt (z1g (g := gb115) (o := .cells #[.string a0_0, .bool false] 108 (0, 0)) (by (with_reducible repeat (first | refine z04 ?_ _ | refine z03 ?_ | refine z02 ?_ _)); exact BK115.out)) : gb115 ≠ gb116)); have n6_ := z01.mk ((by rw [hg]; exact Nat.ne_of_gt (z1g (g := gb115) (o := .cells #[.string a0_0, .bool false] 108 (0, 0)) (by (with_reducible repeat (first | refine z04 ?_ _ | refine z03 ?_ | refine z02 ?_ _)); exact BK115.out)) : gb116 ≠ gb115)); clear BK115; clear HB; have BK115 := n0_; have HB := n1_; have BK116 := n2_; have GW116 := n3_; have GE116 := n4_; have NB115_116 := n5_; have NB116_115 := n6_; clear n0_ n1_ n2_ n3_ n4_ n5_ n6_; clear hb hbox hg; have hnb32 := NB115_116.out; have hnc32 := NB116_115.out; have hcz33_0 : w31.cell? ⟨gb115, 0, none⟩ = some (.string a0_0) := (z00 BK115.out 0).trans rfl; have hcz33_1 : w31.cell? ⟨gb115, 1, none⟩ = some (.bool false) := (z00 BK115.out 1).trans rfl; have hfz33_0 := z05 BK115.out 0; have hfz33_1 := z05 BK115.out 1) | ((with_reducible refine z13 (f := 69) rfl ?_); refine z12 (some 12) rfl rfl Try.func69 (by kernel_rfl) rfl #[.string a0_0] rfl (by (try simp only [List.map_toArray, List.map_cons, List.map_nil]); first | done | rfl | (simp only [List.length_drop, List.length_take]; rfl)) ?_; (with_reducible refine (z1h.calls a0_0 t117 t118 t119 _ A3.out).mono ?_); rintro e w34 ⟨rfl, hb⟩; refine ⟨_, rfl, ?_⟩; have n0_ := z01.mk (z0f (g := gb115) (o := .cells #[.string a0_0, .bool false] 108 (0, 0)) (by (with_reducible repeat (first | refine z04 ?_ _ | refine z03 ?_ | refine z02 ?_ _)); exact BK115.out) hb); have n1_ := z01.mk (z0f (g := gb116) (o := .cells #[.string (⟨#[]⟩ : ByteArray), .bool false] 108 (0, 0)) (by (with_reducible repeat (first | refine z04 ?_ _ | refine z03 ?_ | refine z02 ?_ _)); exact BK116.out) hb); have n2_ := z01.mk (z0l (by repeat (first | (with_reducible first | exact HB.out | apply z07 | apply z09 | apply z08 | refine z06 ?_ GE115.out | refine z06 ?_ GE116.out) | exact HB.out)) hb); clear BK115; clear BK116; clear HB; have BK115 := n0_; have BK116 := n1_; have HB := n2_; clear n0_ n1_ n2_; (try clear hb); (try clear hb2); (try clear hk); (try clear hi); have hcz35_0 : w34.cell? ⟨gb115, 0, none⟩ = some (.string a0_0) := (z00 BK115.out 0).trans rfl; have hcz35_1 : w34.cell? ⟨gb115, 1, none⟩ = some (.bool false) := (z00 BK115.out 1).trans rfl; have hfz35_0 := z05 BK115.out 0; have hfz35_1 := z05 BK115.out 1; have hcz36_0 : w34.cell? ⟨gb116, 0, none⟩ = some (.string (⟨#[]⟩ : ByteArray)) := (z00 BK116.out 0).trans rfl; have hcz36_1 : w34.cell? ⟨gb116, 1, none⟩ = some (.bool false) := (z00 BK116.out 1).trans rfl; have hfz36_0 := z05 BK116.out 0; have hfz36_1 := z05 BK116.out 1))
  refine bodyPost_ret (z30 rfl _ _ gb116 108 #[.string a0_0, .bool false] (0, 0) _ rfl (by (with_reducible repeat (first | refine z04 ?_ _ | refine z03 ?_ | refine z02 ?_ _)); refine z0e (cs := #[.string a0_0, .bool false]) ?_ 1 _ rfl; (with_reducible repeat (first | refine z04 ?_ _ | refine z03 ?_ | refine z02 ?_ _)); refine z0e (cs := #[.string (⟨#[]⟩ : ByteArray), .bool false]) ?_ 0 _ rfl; (with_reducible repeat (first | refine z04 ?_ _ | refine z03 ?_ | refine z02 ?_ _)); exact BK116.out) Try.underlying108 rfl (by kernel_rfl)) rfl ?_
  exact ⟨by first | rfl | (simp [z0q, z0r] <;> rfl) | (simp [*, z0q, z0r] <;> rfl), by repeat (first | (with_reducible first | exact HB.out | apply z07 | apply z09 | apply z08 | refine z06 ?_ GE115.out | refine z06 ?_ GE116.out) | exact HB.out)⟩
def z1k.l0 : Nat → Int → List ByteArray → Int → ByteArray → Bool → Option (ByteArray × Bool × List ByteArray)
 | 0, _, _, _, _, _ => none
 | k + 1, x4, x5, x6, x121000, x121001 => if x6 < x4 then (if x121001 = true then ((z22.f x121000 x121001 32).bind fun bt128 => (if x5.length < 8796093022208 then (z1k.l0 k x4 (x5 ++ [bt128.2.2]) (IntKind.u64.wrap (x6 + 1)) bt128.1 bt128.2.1) else (none))) else (some (x121000, x121001, x5))) else (some (x121000, x121001, x5))
def z1k.f (k : Nat) (a0_0 : ByteArray) (a0_1 : Bool) : Option (ByteArray × Bool × List ByteArray) := (z1v.f a0_0 a0_1 64).bind fun bt122 => (z1k.l0 k bt122.2.2 (([] : List ByteArray)) 0 bt122.1 bt122.2.1)
theorem z1k.mono_l : ∀ k, (∀ y0 y1 y2 y3 y4, LeO (z1k.l0 k y0 y1 y2 y3 y4) (z1k.l0 (k + 1) y0 y1 y2 y3 y4))
 | 0 => fun _ _ _ _ _ r h => by simp [z1k.l0] at h
 | k + 1 => by
  have ih0 := z1k.mono_l k
  ·intro y0 y1 y2 y3 y4
   unfold z1k.l0
   repeat' first
   | (with_reducible exact ih0 _ _ _ _ _)
   | (with_reducible exact LeO.refl _)
   | (with_reducible exact LeO.none _)
   | (with_reducible refine LeO.ite ?_ ?_)
   | (with_reducible refine LeO.bind ?_ (fun _ => ?_))
   | exact ih0 _ _ _ _ _
   | exact LeO.none _
   | refine LeO.ite ?_ ?_
   | refine LeO.bind ?_ (fun _ => ?_)
theorem z1k.mono : ∀ a0 a1 k, LeO (z1k.f k a0 a1) (z1k.f (k + 1) a0 a1) := by
 intro a0 a1 k
 have ih0 := z1k.mono_l k
 unfold z1k.f
 repeat' first
   | (with_reducible exact ih0 _ _ _ _ _)
   | (with_reducible exact LeO.refl _)
   | (with_reducible exact LeO.none _)
   | (with_reducible refine LeO.ite ?_ ?_)
   | (with_reducible refine LeO.bind ?_ (fun _ => ?_))
   | exact ih0 _ _ _ _ _
   | exact LeO.none _
   | refine LeO.ite ?_ ?_
   | refine LeO.bind ?_ (fun _ => ?_)
set_option maxHeartbeats 8000000 in
set_option maxRecDepth 100000 in
theorem z1k.calls (k : Nat) (a0_0 : ByteArray) (a0_1 : Bool) (r1 : ByteArray) (r2 : Bool) (r3 : List ByteArray) (w : World) (h : z1k.f k a0_0 a0_1 = some (r1, r2, r3)) :
  Calls Try.prog 59 #[.agg #[.string a0_0, .bool a0_1]] w fun e w' => ∃ v2_ : Value, e = .returned (.tuple #[.agg #[.string r1, .bool r2], v2_]) ∧ Kd.R Kd.string 9 w' w.heap.size (fun _ => True) v2_ r3 ∧ Below w.heap.size w w' := by
 have hu108 := Try.underlying108
 have HB := z01.mk (Below.refl w.heap.size w)
 have H : ((z1v.f a0_0 a0_1 64).bind fun bt122 => (z1k.l0 k bt122.2.2 (([] : List ByteArray)) 0 bt122.1 bt122.2.1)) = some (r1, r2, r3) := h
 clear h
 replace H := Option.bind_eq_some_iff.mp H
 obtain ⟨⟨t122, t123, t124⟩, A20, H⟩ := H
 replace H : (z1k.l0 k t124 (([] : List ByteArray)) 0 t122 t123) = some (r1, r2, r3) := H
 have A2 := z01.mk A20
 clear A20
 obtain ⟨y125, hy125⟩ : ∃ y_ : List ByteArray, y_ = (([] : List ByteArray)) := ⟨_, rfl⟩
 replace H : (z1k.l0 k t124 y125 0 t122 t123) = some (r1, r2, r3) := by first | (rw [hy125]; with_reducible exact H) | (have H2_ := (Option.bind_some _ _).symm.trans H; rw [hy125]; with_reducible exact H2_) | (have H2_ := (Option.bind_some _ _).symm.trans H; with_reducible exact H2_) | with_reducible exact H | (rw [hy125]; exact H) | exact H
 have Ny125 := z01.mk hy125
 clear hy125
 have H' := z01.mk H
 clear H
 go_enter Try.func59, Try.ntmps59
 go_wp2_with (first | ((with_reducible refine z1p (N := 1) rfl ?_); refine z1z ?hg (N := 1) ?hd (cs := #[.string a0_0, .bool a0_1]) (t := 108) ?hr ?_; (case hd => rfl); (case hg => rfl); (case hr => first | (go_simp; done) | (go_simp; rfl)); intro gb120 hg w3 hbox hb; have n0_ := z01.mk (z0l (by repeat (first | (with_reducible first | exact HB.out | apply z07 | apply z09 | apply z08) | exact HB.out | exact Below.refl _ _)) hb); have n1_ := z01.mk (hbox); have n2_ := z01.mk ((by rw [hg]; exact (z0x (by repeat (first | (with_reducible first | exact HB.out | apply z07 | apply z09 | apply z08) | exact HB.out | exact Below.refl _ _))) : w.heap.size ≤ gb120)); have n3_ := z01.mk ((by rw [hg]; exact (z0x (by repeat (first | (with_reducible first | exact HB.out | apply z07 | apply z09 | apply z08) | exact HB.out | exact Below.refl _ _))) : w.heap.size ≤ gb120)); clear HB; have HB := n0_; have BK120 := n1_; have GW120 := n2_; have GE120 := n3_; clear n0_ n1_ n2_ n3_; clear hb hbox hg) | ((with_reducible refine z1p (N := 2) rfl ?_); refine z1z ?hg (N := 2) ?hd (cs := #[.string (⟨#[]⟩ : ByteArray), .bool false]) (t := 108) ?hr ?_; (case hd => rfl); (case hg => rfl); (case hr => first | (go_simp; done) | (go_simp; rfl)); intro gb121 hg w4 hbox hb; have n0_ := z01.mk (z0f (g := gb120) (o := .cells #[.string a0_0, .bool a0_1] 108 (0, 0)) (by (with_reducible repeat (first | refine z04 ?_ _ | refine z03 ?_ | refine z02 ?_ _)); exact BK120.out) hb); have n1_ := z01.mk (z0l (by repeat (first | (with_reducible first | exact HB.out | apply z07 | apply z09 | apply z08 | refine z06 ?_ GE120.out) | exact HB.out)) hb); have n2_ := z01.mk (hbox); have n3_ := z01.mk ((by rw [hg]; exact (z0x (by repeat (first | (with_reducible first | exact HB.out | apply z07 | apply z09 | apply z08 | refine z06 ?_ GE120.out) | exact HB.out))) : w.heap.size ≤ gb121)); have n4_ := z01.mk ((by rw [hg]; exact (z0x (by repeat (first | (with_reducible first | exact HB.out | apply z07 | apply z09 | apply z08 | refine z06 ?_ GE120.out) | exact HB.out))) : w.heap.size ≤ gb121)); have n5_ := z01.mk ((by rw [hg]; exact Nat.ne_of_lt (z1g (g := gb120) (o := .cells #[.string a0_0, .bool a0_1] 108 (0, 0)) (by (with_reducible repeat (first | refine z04 ?_ _ | refine z03 ?_ | refine z02 ?_ _)); exact BK120.out)) : gb120 ≠ gb121)); have n6_ := z01.mk ((by rw [hg]; exact Nat.ne_of_gt (z1g (g := gb120) (o := .cells #[.string a0_0, .bool a0_1] 108 (0, 0)) (by (with_reducible repeat (first | refine z04 ?_ _ | refine z03 ?_ | refine z02 ?_ _)); exact BK120.out)) : gb121 ≠ gb120)); clear BK120; clear HB; have BK120 := n0_; have HB := n1_; have BK121 := n2_; have GW121 := n3_; have GE121 := n4_; have NB120_121 := n5_; have z3k := n6_; clear n0_ n1_ n2_ n3_ n4_ n5_ n6_; clear hb hbox hg; have hnb5 := NB120_121.out; have hnc5 := z3k.out; have hcz6_0 : w4.cell? ⟨gb120, 0, none⟩ = some (.string a0_0) := (z00 BK120.out 0).trans rfl; have hcz6_1 : w4.cell? ⟨gb120, 1, none⟩ = some (.bool a0_1) := (z00 BK120.out 1).trans rfl; have hfz6_0 := z05 BK120.out 0; have hfz6_1 := z05 BK120.out 1) | ((with_reducible refine z13 (f := 58) rfl ?_); refine z12 (some 11) rfl rfl Try.func58 (by kernel_rfl) rfl #[.agg #[.string a0_0, .bool a0_1], .int .u64 64] rfl (by (try simp only [List.map_toArray, List.map_cons, List.map_nil]); first | done | rfl | (simp only [List.length_drop, List.length_take]; rfl)) ?_; (with_reducible refine (z1v.calls a0_0 a0_1 64 t122 t123 t124 _ A2.out).mono ?_); rintro e w7 ⟨rfl, hb⟩; refine ⟨_, rfl, ?_⟩; have n0_ := z01.mk (z0f (g := gb120) (o := .cells #[.string a0_0, .bool a0_1] 108 (0, 0)) (by (with_reducible repeat (first | refine z04 ?_ _ | refine z03 ?_ | refine z02 ?_ _)); exact BK120.out) hb); have n1_ := z01.mk (z0f (g := gb121) (o := .cells #[.string (⟨#[]⟩ : ByteArray), .bool false] 108 (0, 0)) (by (with_reducible repeat (first | refine z04 ?_ _ | refine z03 ?_ | refine z02 ?_ _)); exact BK121.out) hb); have n2_ := z01.mk (z0l (by repeat (first | (with_reducible first | exact HB.out | apply z07 | apply z09 | apply z08 | refine z06 ?_ GE120.out | refine z06 ?_ GE121.out) | exact HB.out)) hb); clear BK120; clear BK121; clear HB; have BK120 := n0_; have BK121 := n1_; have HB := n2_; clear n0_ n1_ n2_; (try clear hb); (try clear hb2); (try clear hk); (try clear hi); have hcz8_0 : w7.cell? ⟨gb120, 0, none⟩ = some (.string a0_0) := (z00 BK120.out 0).trans rfl; have hcz8_1 : w7.cell? ⟨gb120, 1, none⟩ = some (.bool a0_1) := (z00 BK120.out 1).trans rfl; have hfz8_0 := z05 BK120.out 0; have hfz8_1 := z05 BK120.out 1) | ((with_reducible refine z1p (N := 14) rfl ?_); refine Kd.R_lit Kd.string _ 9 ?hg (N := 14) ?hd (xs := ([] : List ByteArray)) (inner := []) (ok := fun _ => True) (okp := fun _ => True) ?hr ?hp (fun _ hk => hk) trivial (Below.refl _ _) (Nat.le_refl _) (by simp) ?_; (case hd => rfl); (case hg => rfl); (case hr => first | (go_simp; done) | (go_simp; rfl)); (case hp => exact (Reps.none _ _)); intro v126 w9 ho10 hb hg_ hnew_; clear hg_ hnew_; (first | rw [← Ny125.out] at ho10 | (simp only [Int.reduceToNat] at ho10; rw [← Ny125.out] at ho10)); have n0_ := z01.mk (Kd.z2h ho10 (z0x (by repeat (first | (with_reducible first | exact HB.out | apply z07 | apply z09 | apply z08 | refine z06 ?_ GE120.out | refine z06 ?_ GE121.out) | exact HB.out)))); have n1_ := z01.mk (z0f (g := gb120) (o := .cells #[.string t122, .bool t123] 108 (0, 0)) (by (with_reducible repeat (first | refine z04 ?_ _ | refine z03 ?_ | refine z02 ?_ _)); refine z0e (cs := #[.string t122, .bool a0_1]) ?_ 1 _ rfl; (with_reducible repeat (first | refine z04 ?_ _ | refine z03 ?_ | refine z02 ?_ _)); refine z0e (cs := #[.string a0_0, .bool a0_1]) ?_ 0 _ rfl; (with_reducible repeat (first | refine z04 ?_ _ | refine z03 ?_ | refine z02 ?_ _)); exact BK120.out) hb); have n2_ := z01.mk (z0f (g := gb121) (o := .cells #[.string (⟨#[]⟩ : ByteArray), .bool false] 108 (0, 0)) (by (with_reducible repeat (first | refine z04 ?_ _ | refine z03 ?_ | refine z02 ?_ _)); refine z0d ?_ z3k.out _; (with_reducible repeat (first | refine z04 ?_ _ | refine z03 ?_ | refine z02 ?_ _)); refine z0d ?_ z3k.out _; (with_reducible repeat (first | refine z04 ?_ _ | refine z03 ?_ | refine z02 ?_ _)); exact BK121.out) hb); have n3_ := z01.mk (z0l (by repeat (first | (with_reducible first | exact HB.out | apply z07 | apply z09 | apply z08 | refine z06 ?_ GE120.out | refine z06 ?_ GE121.out) | exact HB.out)) hb); clear BK120; clear BK121; clear HB; have HO127 := n0_; have BK120 := n1_; have BK121 := n2_; have HB := n3_; clear n0_ n1_ n2_ n3_; clear hb ho10))
 go_loopg [5, 6] k (fun kq v5 v6 w' => ∃ (x5_1 : List ByteArray) (x6_1 : Int) (z2c : ByteArray) (x121001_1 : Bool), v6 = .int .u64 x6_1 ∧ z01 (z1k.l0 kq t124 x5_1 x6_1 z2c x121001_1 = some (r1, r2, r3)) ∧ z01 (kq ≤ k) ∧ z01 (Kd.R Kd.string 9 w' w.heap.size (fun _ => True) v5 x5_1) ∧ z01 (w'.heap[gb120]? = some (.cells #[.string z2c, .bool x121001_1] 108 (0, 0))) ∧ z01 (w'.heap[gb121]? = some (.cells #[.string (⟨#[]⟩ : ByteArray), .bool false] 108 (0, 0))) ∧ z01 (Below w.heap.size w w'))
 case atStart => exact ⟨(y125), (0), (t122), (t123), (by first | rfl | (simp; done) | (simp [*]; done)), H', ⟨Nat.le_refl _⟩, ⟨by (with_reducible repeat (first | apply Kd.z0i | apply Kd.z0j | apply Kd.z0g)); exact HO127.out⟩, ⟨by (with_reducible repeat (first | refine z04 ?_ _ | refine z03 ?_ | refine z02 ?_ _)); exact BK120.out⟩, ⟨by (with_reducible repeat (first | refine z04 ?_ _ | refine z03 ?_ | refine z02 ?_ _)); exact BK121.out⟩, ⟨by repeat (first | (with_reducible first | exact HB.out | apply z07 | apply z09 | apply z08 | refine z06 ?_ GE120.out | refine z06 ?_ GE121.out) | exact HB.out)⟩⟩
 case round =>
  clear H'
  try clear p2
  try clear c5
  try clear hcz6_0
  try clear hcz6_1
  try clear hcz8_0
  try clear hcz8_1
  try clear hfz6_0
  try clear hfz6_1
  try clear hfz8_0
  try clear hfz8_1
  obtain ⟨x5_1, x6_1, z2c, x121001_1, rfl, HA, HK1, HO_5, BK120, BK121, HB⟩ := hrel
  cases gk with
  | zero => exact absurd HA.out (by simp [z1k.l0])
  | succ k1 =>
   have H := HA.out
   clear HA
   simp only [z1k.l0] at H
   by_cases c11 : x6_1 < t124
   ·rw [if_pos c11] at H
    have c11b0 : decide (x6_1 < t124) = true := decide_eq_true c11
    clear c11
    by_cases c12 : x121001_1 = true
    ·subst c12
     have H1 : ((z22.f z2c true 32).bind fun bt128 => (if x5_1.length < 8796093022208 then (z1k.l0 k1 t124 (x5_1 ++ [bt128.2.2]) (IntKind.u64.wrap (x6_1 + 1)) bt128.1 bt128.2.1) else (none))) = some (r1, r2, r3) := by rw [if_pos rfl] at H; exact H
     clear H
     have H := H1
     clear H1
     replace H := Option.bind_eq_some_iff.mp H
     obtain ⟨⟨t128, t129, t130⟩, A130, H⟩ := H
     replace H : (if x5_1.length < 8796093022208 then (z1k.l0 k1 t124 (x5_1 ++ [t130]) (IntKind.u64.wrap (x6_1 + 1)) t128 t129) else (none)) = some (r1, r2, r3) := H
     have A13 := z01.mk A130
     clear A130
     by_cases c14 : x5_1.length < 8796093022208
     ·rw [if_pos c14] at H
      have LMc14 := z01.mk c14
      clear c14
      obtain ⟨y132, hy132⟩ : ∃ y_ : List ByteArray, y_ = (x5_1 ++ [t130]) := ⟨_, rfl⟩
      replace H : (z1k.l0 k1 t124 y132 (IntKind.u64.wrap (x6_1 + 1)) t128 t129) = some (r1, r2, r3) := by first | (rw [hy132]; with_reducible exact H) | (have H2_ := (Option.bind_some _ _).symm.trans H; rw [hy132]; with_reducible exact H2_) | (have H2_ := (Option.bind_some _ _).symm.trans H; with_reducible exact H2_) | with_reducible exact H | (rw [hy132]; exact H) | exact H
      have Ny132 := z01.mk hy132
      clear hy132
      have H' := z01.mk H
      clear H
      have hnb15 := NB120_121.out
      have hnc15 := z3k.out
      have hcz16_0 : wr.cell? ⟨gb120, 0, none⟩ = some (.string z2c) := (z00 BK120.out 0).trans rfl
      have hcz16_1 : wr.cell? ⟨gb120, 1, none⟩ = some (.bool true) := (z00 BK120.out 1).trans rfl
      have hfz16_0 := z05 BK120.out 0
      have hfz16_1 := z05 BK120.out 1
      try go_wp2_with (first | ((with_reducible refine z13 (f := 57) rfl ?_); refine z12 (some 26) rfl rfl Try.func57 (by kernel_rfl) rfl #[.agg #[.string z2c, .bool true], .int .i64 32] rfl (by (try simp only [List.map_toArray, List.map_cons, List.map_nil]); first | done | rfl | (simp only [List.length_drop, List.length_take]; rfl)) ?_; (with_reducible refine (z22.calls z2c true 32 t128 t129 t130 _ A13.out).mono ?_); rintro e w17 ⟨rfl, hb⟩; refine ⟨_, rfl, ?_⟩; have n0_ := z01.mk (Kd.z0w (by (with_reducible repeat (first | apply Kd.z0i | apply Kd.z0j | apply Kd.z0g)); exact HO_5.out) hb); have n1_ := z01.mk (z0f (g := gb120) (o := .cells #[.string z2c, .bool true] 108 (0, 0)) (by (with_reducible repeat (first | refine z04 ?_ _ | refine z03 ?_ | refine z02 ?_ _)); exact BK120.out) hb); have n2_ := z01.mk (z0f (g := gb121) (o := .cells #[.string (⟨#[]⟩ : ByteArray), .bool false] 108 (0, 0)) (by (with_reducible repeat (first | refine z04 ?_ _ | refine z03 ?_ | refine z02 ?_ _)); exact BK121.out) hb); have n3_ := z01.mk (z0l (by repeat (first | (with_reducible first | exact HB.out | apply z07 | apply z09 | apply z08 | refine z06 ?_ GE120.out | refine z06 ?_ GE121.out) | exact HB.out)) hb); clear HO_5; clear BK120; clear BK121; clear HB; have HO_5 := n0_; have BK120 := n1_; have BK121 := n2_; have HB := n3_; clear n0_ n1_ n2_ n3_; (try clear hb); (try clear hb2); (try clear hk); (try clear hi)) | ((with_reducible refine z1p (N := 7) rfl ?_); refine z1z ?hg (N := 7) ?hd (cs := #[.string (⟨#[]⟩ : ByteArray), .bool false]) (t := 108) ?hr ?_; (case hd => rfl); (case hg => rfl); (case hr => first | (go_simp; done) | (go_simp; rfl)); intro gb131 hg w18 hbox hb; have n0_ := z01.mk (Kd.z0w (by (with_reducible repeat (first | apply Kd.z0i | apply Kd.z0j | apply Kd.z0g)); exact HO_5.out) hb); have n1_ := z01.mk (z0f (g := gb120) (o := .cells #[.string z2c, .bool true] 108 (0, 0)) (by (with_reducible repeat (first | refine z04 ?_ _ | refine z03 ?_ | refine z02 ?_ _)); exact BK120.out) hb); have n2_ := z01.mk (z0f (g := gb121) (o := .cells #[.string (⟨#[]⟩ : ByteArray), .bool false] 108 (0, 0)) (by (with_reducible repeat (first | refine z04 ?_ _ | refine z03 ?_ | refine z02 ?_ _)); exact BK121.out) hb); have n3_ := z01.mk (z0l (by repeat (first | (with_reducible first | exact HB.out | apply z07 | apply z09 | apply z08 | refine z06 ?_ GE120.out | refine z06 ?_ GE121.out) | exact HB.out)) hb); have n4_ := z01.mk (hbox); have n5_ := z01.mk ((by rw [hg]; exact (z0x (by repeat (first | (with_reducible first | exact HB.out | apply z07 | apply z09 | apply z08 | refine z06 ?_ GE120.out | refine z06 ?_ GE121.out) | exact HB.out))) : w.heap.size ≤ gb131)); have n6_ := z01.mk ((by rw [hg]; exact (z0x (by repeat (first | (with_reducible first | exact HB.out | apply z07 | apply z09 | apply z08 | refine z06 ?_ GE120.out | refine z06 ?_ GE121.out) | exact HB.out))) : w.heap.size ≤ gb131)); have n7_ := z01.mk ((by rw [hg]; exact Nat.ne_of_lt (z1g (g := gb120) (o := .cells #[.string z2c, .bool true] 108 (0, 0)) (by (with_reducible repeat (first | refine z04 ?_ _ | refine z03 ?_ | refine z02 ?_ _)); exact BK120.out)) : gb120 ≠ gb131)); have n8_ := z01.mk ((by rw [hg]; exact Nat.ne_of_gt (z1g (g := gb120) (o := .cells #[.string z2c, .bool true] 108 (0, 0)) (by (with_reducible repeat (first | refine z04 ?_ _ | refine z03 ?_ | refine z02 ?_ _)); exact BK120.out)) : gb131 ≠ gb120)); have n9_ := z01.mk ((by rw [hg]; exact Nat.ne_of_lt (z1g (g := gb121) (o := .cells #[.string (⟨#[]⟩ : ByteArray), .bool false] 108 (0, 0)) (by (with_reducible repeat (first | refine z04 ?_ _ | refine z03 ?_ | refine z02 ?_ _)); exact BK121.out)) : gb121 ≠ gb131)); have n10_ := z01.mk ((by rw [hg]; exact Nat.ne_of_gt (z1g (g := gb121) (o := .cells #[.string (⟨#[]⟩ : ByteArray), .bool false] 108 (0, 0)) (by (with_reducible repeat (first | refine z04 ?_ _ | refine z03 ?_ | refine z02 ?_ _)); exact BK121.out)) : gb131 ≠ gb121)); clear HO_5; clear BK120; clear BK121; clear HB; have HO_5 := n0_; have BK120 := n1_; have BK121 := n2_; have HB := n3_; have BK131 := n4_; have GW131 := n5_; have GE131 := n6_; have NB120_131 := n7_; have NB131_120 := n8_; have NB121_131 := n9_; have NB131_121 := n10_; clear n0_ n1_ n2_ n3_ n4_ n5_ n6_ n7_ n8_ n9_ n10_; clear hb hbox hg; have hnb19 := NB131_120.out; have hnc19 := NB120_131.out; have hnb20 := NB131_121.out; have hnc20 := NB121_131.out; have hcz21_0 : w18.cell? ⟨gb131, 0, none⟩ = some (.string (⟨#[]⟩ : ByteArray)) := (z00 BK131.out 0).trans rfl; have hcz21_1 : w18.cell? ⟨gb131, 1, none⟩ = some (.bool false) := (z00 BK131.out 1).trans rfl; have hfz21_0 := z05 BK131.out 0; have hfz21_1 := z05 BK131.out 1))
      have n0_ : z01 (Kd.R Kd.string 9 ((w18.setCell ⟨gb131, 0, none⟩ (.string t128)).setCell ⟨gb131, 1, none⟩ (.bool t129)) w.heap.size (fun _ => True) u5 x5_1) := ⟨by (with_reducible repeat (first | apply Kd.z0i | apply Kd.z0j | apply Kd.z0g)); exact Kd.z0n (Kd.z0c (p := ⟨gb131, 1, none⟩) (Kd.z0c (p := ⟨gb131, 0, none⟩) (Kd.z0p HO_5.out BK131.out (by decide)) (fun _ hk => hk.2) (.string t128)) (fun _ hk => hk.2) (.bool t129)) (fun _ hk => trivial)⟩
      have n1_ : z01 (((w18.setCell ⟨gb131, 0, none⟩ (.string t128)).setCell ⟨gb131, 1, none⟩ (.bool t129)).heap[gb120]? = some (.cells #[.string z2c, .bool true] 108 (0, 0))) := ⟨by (with_reducible repeat (first | refine z04 ?_ _ | refine z03 ?_ | refine z02 ?_ _)); refine z0d ?_ NB120_131.out _; (with_reducible repeat (first | refine z04 ?_ _ | refine z03 ?_ | refine z02 ?_ _)); refine z0d ?_ NB120_131.out _; (with_reducible repeat (first | refine z04 ?_ _ | refine z03 ?_ | refine z02 ?_ _)); exact BK120.out⟩
      have n2_ : z01 (((w18.setCell ⟨gb131, 0, none⟩ (.string t128)).setCell ⟨gb131, 1, none⟩ (.bool t129)).heap[gb121]? = some (.cells #[.string (⟨#[]⟩ : ByteArray), .bool false] 108 (0, 0))) := ⟨by (with_reducible repeat (first | refine z04 ?_ _ | refine z03 ?_ | refine z02 ?_ _)); refine z0d ?_ NB121_131.out _; (with_reducible repeat (first | refine z04 ?_ _ | refine z03 ?_ | refine z02 ?_ _)); refine z0d ?_ NB121_131.out _; (with_reducible repeat (first | refine z04 ?_ _ | refine z03 ?_ | refine z02 ?_ _)); exact BK121.out⟩
      have n3_ : z01 (((w18.setCell ⟨gb131, 0, none⟩ (.string t128)).setCell ⟨gb131, 1, none⟩ (.bool t129)).heap[gb131]? = some (.cells #[.string t128, .bool t129] 108 (0, 0))) := ⟨by (with_reducible repeat (first | refine z04 ?_ _ | refine z03 ?_ | refine z02 ?_ _)); refine z0e (cs := #[.string t128, .bool false]) ?_ 1 _ rfl; (with_reducible repeat (first | refine z04 ?_ _ | refine z03 ?_ | refine z02 ?_ _)); refine z0e (cs := #[.string (⟨#[]⟩ : ByteArray), .bool false]) ?_ 0 _ rfl; (with_reducible repeat (first | refine z04 ?_ _ | refine z03 ?_ | refine z02 ?_ _)); exact BK131.out⟩
      have n4_ : z01 (Below w.heap.size w ((w18.setCell ⟨gb131, 0, none⟩ (.string t128)).setCell ⟨gb131, 1, none⟩ (.bool t129))) := ⟨by repeat (first | (with_reducible first | exact HB.out | apply z07 | apply z09 | apply z08 | refine z06 ?_ GE120.out | refine z06 ?_ GE121.out | refine z06 ?_ GE131.out) | exact HB.out)⟩
      (try clear HO_5)
      (try clear BK120)
      (try clear BK121)
      (try clear BK131)
      (try clear HB)
      generalize ((w18.setCell ⟨gb131, 0, none⟩ (.string t128)).setCell ⟨gb131, 1, none⟩ (.bool t129)) = w22 at n0_ n1_ n2_ n3_ n4_ ⊢
      have HO_5 := n0_
      have BK120 := n1_
      have BK121 := n2_
      have BK131 := n3_
      have HB := n4_
      clear n0_ n1_ n2_ n3_ n4_
      have n0_ := z01.mk (Kd.z0g HO_5.out)
      have n1_ := z01.mk (z03 BK120.out)
      have n2_ := z01.mk (z03 BK121.out)
      have n3_ := z01.mk (z03 BK131.out)
      have n4_ := z01.mk (z08 HB.out)
      clear HO_5
      clear BK120
      clear BK121
      clear BK131
      clear HB
      have HO_5 := n0_
      have BK120 := n1_
      have BK121 := n2_
      have BK131 := n3_
      have HB := n4_
      clear n0_ n1_ n2_ n3_ n4_
      refine start_ (n := 7) (S := fun w' => w'.cell? ⟨gb131, 0, none⟩ = some (.string t128) ∧ w'.cell? ⟨gb131, 1, none⟩ = some (.bool t129)) (ds := []) #[false, false, false, false, false, false, false] (by kernel_rfl) rfl rfl ⟨(z00 BK131.out 0).trans rfl, (z00 BK131.out 1).trans rfl⟩ (fun hHeld => ?_)
      generalize w22.drew = w23 at HO_5 BK120 BK121 BK131 HB hHeld ⊢
      refine z0h (i := 1) (N := some 30) (v := ?_) (a' := ?_) #[false, true, false, false, false, false, false] rfl rfl (by kernel_rfl) (fun _ _ _ h => h) (Or.inl ⟨by rfl, ?_⟩) ?_ ?_
      rotate_left
      ·intro w'
       go_simp
       with_reducible rfl
      rotate_left
      ·simp only [Act.put, q1, q2, q3, z0a, z0b]
       rfl
      refine z0h (i := 2) (N := some 31) (v := ?_) (a' := ?_) #[false, true, true, false, false, false, false] rfl rfl (by kernel_rfl) (fun _ _ _ h => h) (Or.inl ⟨by rfl, ?_⟩) ?_ ?_
      rotate_left
      ·intro w'
       go_simp
       with_reducible rfl
      rotate_left
      ·simp only [Act.put, q1, q2, q3, z0a, z0b]
       rfl
      refine z1s (i := 0) (N := some 29) (v := ?_) (a' := ?_) #[true, true, true, false, false, false, false] rfl rfl (by kernel_rfl) (fun _ _ _ h => h) (Or.inl ⟨by rfl, ?_⟩) hHeld ?_ ?_
      rotate_left
      ·rintro w' ⟨s0, s1⟩
       go_simp
       with_reducible rfl
      rotate_left
      ·simp only [Act.put, q1, q2, q3, z0a, z0b]
       rfl
      refine one_ (i := 3) (N := some 32) #[true, true, true, true, false, false, false] rfl rfl (by kernel_rfl) (by decide) (fun K hK => ?_)
      refine value_ (w1 := ?_) (v := ?_) (by rfl) rfl ?_ ?_
      rotate_left 2
      ·go_simp
       constructor
       ·rfl
       ·rfl
      refine hK.out _ _ ⟨(z00 (z02 BK131.out _) 0).trans rfl, (z00 (z02 BK131.out _) 1).trans rfl⟩ (fun hHeld => ?_)
      clear hK K
      refine z0m (a' := ?_) ?_ ?_
      rotate_left
      ·show Act.put _ (some 32) _ = _
       simp only [Act.put, q1, q2, q3, z0a, z0b]
       rfl
      refine one_ (i := 4) (N := some 33) #[true, true, true, true, true, false, false] rfl rfl (by kernel_rfl) (by decide) (fun K hK => ?_)
      refine Kd.R_append_step Kd.string (w0 := w) w.heap.size (by rfl) (.tmp 30) (.tmp 32) 23 9 (.string ⟨#[]⟩) 16 rfl Try.underlying23 info9 rfl (by decide) (by omega) u5 x5_1 t130 [.string t130] (fun _ => True) (fun _ => False) rfl rfl ?aP (fun _ hk => hk.elim) ?aF ?aO ?aB ?aS ?aL ?_
      (case aP => exact rfl)
      (case aB => exact (by repeat (first | (with_reducible first | exact HB.out | apply z07 | apply z09 | apply z08 | refine z06 ?_ GE120.out | refine z06 ?_ GE121.out | refine z06 ?_ GE131.out) | exact HB.out)))
      (case aF => exact (fun _ _ => trivial))
      (case aO => exact (by (with_reducible repeat (first | apply Kd.z0i | apply Kd.z0j | apply Kd.z0g)); exact HO_5.out))
      (case aS => exact (z0x (by repeat (first | (with_reducible first | exact HB.out | apply z07 | apply z09 | apply z08 | refine z06 ?_ GE120.out | refine z06 ?_ GE121.out | refine z06 ?_ GE131.out) | exact HB.out))))
      (case aL => have := LMc14.out; omega)
      intro v133 w24 ho hb hg hat
      rw [← Ny132.out] at ho
      have n0_ := z01.mk (z3i (g := gb120) (o := .cells #[.string z2c, .bool true] 108 (0, 0)) (by (with_reducible repeat (first | refine z04 ?_ _ | refine z03 ?_ | refine z02 ?_ _)); exact BK120.out) hg (Kd.R_ne HO_5.out BK120.out (by decide)))
      have n1_ := z01.mk (z3i (g := gb121) (o := .cells #[.string (⟨#[]⟩ : ByteArray), .bool false] 108 (0, 0)) (by (with_reducible repeat (first | refine z04 ?_ _ | refine z03 ?_ | refine z02 ?_ _)); exact BK121.out) hg (Kd.R_ne HO_5.out BK121.out (by decide)))
      have n2_ := z01.mk (z3i (g := gb131) (o := .cells #[.string t128, .bool t129] 108 (0, 0)) (by (with_reducible repeat (first | refine z04 ?_ _ | refine z03 ?_ | refine z02 ?_ _)); exact BK131.out) hg (Kd.R_ne HO_5.out BK131.out (by decide)))
      have n3_ := z01.mk (hb)
      have n4_ := z01.mk (ho)
      clear BK120
      clear BK121
      clear BK131
      clear HB
      clear HO_5
      have BK120 := n0_
      have BK121 := n1_
      have BK131 := n2_
      have HB := n3_
      have HO134 := n4_
      clear n0_ n1_ n2_ n3_ n4_
      clear ho hb hg hat
      refine hK.out _ _ ⟨(z00 BK131.out 0).trans rfl, (z00 BK131.out 1).trans rfl⟩ (fun hHeld => ?_)
      clear hK K
      refine z0m (a' := ?_) ?_ ?_
      rotate_left
      ·show Act.put _ (some 33) _ = _
       simp only [Act.put, q1, q2, q3, z0a, z0b]
       rfl
      refine one_ (i := 5) (N := none) #[true, true, true, true, true, true, false] rfl rfl (by kernel_rfl) (by decide) (fun K hK => ?_)
      have hs25 : w24.cell? ⟨gb120, 0, none⟩ = some (.string z2c) := (z00 BK120.out 0).trans rfl
      have hfs25 := z05 BK120.out 0
      have hns25_1 := z3k.out
      have hns25_2 := NB131_120.out
      have hms25_1 := NB120_121.out
      have hms25_2 := NB120_131.out
      have hs26 : w24.cell? ⟨gb120, 1, none⟩ = some (.bool true) := (z00 BK120.out 1).trans rfl
      have hfs26 := z05 BK120.out 1
      have hns26_1 := z3k.out
      have hns26_2 := NB131_120.out
      have hms26_1 := NB120_121.out
      have hms26_2 := NB120_131.out
      refine skip_ (w1 := ?_) (by rfl) rfl ?_ ?_
      rotate_left
      ·go_simp
       rfl
      refine hK.out _ _ ⟨((z1y (p := ⟨gb120, _, none⟩) NB131_120.out _).trans (((z1y (p := ⟨gb120, _, none⟩) NB131_120.out _).trans (hHeld.1)))), ((z1y (p := ⟨gb120, _, none⟩) NB131_120.out _).trans (((z1y (p := ⟨gb120, _, none⟩) NB131_120.out _).trans (hHeld.2))))⟩ (fun hHeld => ?_)
      clear hK K
      refine z0h (i := 6) (N := some 5) (v := ?_) (a' := ?_) #[true, true, true, true, true, true, true] rfl rfl (by kernel_rfl) (fun _ _ _ h => h) (Or.inl ⟨by rfl, ?_⟩) ?_ ?_
      rotate_left
      ·intro w'
       go_simp
       with_reducible rfl
      rotate_left
      ·simp only [Act.put, q1, q2, q3, z0a, z0b]
       rfl
      refine done_ (by kernel_rfl) ?_
      try go_wp2
      go_roundg k1
      case measure => have := HK1.out; omega
      case rel => exact ⟨(y132), (IntKind.u64.wrap (x6_1 + 1)), (t128), (t129), (by first | rfl | (simp; done) | (simp [*]; done)), H', ⟨by have := HK1.out; omega⟩, ⟨by (with_reducible repeat (first | apply Kd.z0i | apply Kd.z0j | apply Kd.z0g)); exact Kd.z0n (Kd.z0c (p := ⟨gb120, 1, none⟩) (Kd.z0c (p := ⟨gb120, 0, none⟩) (Kd.z0p HO134.out BK120.out (by decide)) (fun _ hk => hk.2) (.string t128)) (fun _ hk => hk.2) (.bool t129)) (fun _ hk => trivial)⟩, ⟨by (with_reducible repeat (first | refine z04 ?_ _ | refine z03 ?_ | refine z02 ?_ _)); refine z0e (cs := #[.string t128, .bool true]) ?_ 1 _ rfl; (with_reducible repeat (first | refine z04 ?_ _ | refine z03 ?_ | refine z02 ?_ _)); refine z0e (cs := #[.string z2c, .bool true]) ?_ 0 _ rfl; (with_reducible repeat (first | refine z04 ?_ _ | refine z03 ?_ | refine z02 ?_ _)); exact BK120.out⟩, ⟨by (with_reducible repeat (first | refine z04 ?_ _ | refine z03 ?_ | refine z02 ?_ _)); refine z0d ?_ z3k.out _; (with_reducible repeat (first | refine z04 ?_ _ | refine z03 ?_ | refine z02 ?_ _)); refine z0d ?_ z3k.out _; (with_reducible repeat (first | refine z04 ?_ _ | refine z03 ?_ | refine z02 ?_ _)); exact BK121.out⟩, ⟨by repeat (first | (with_reducible first | exact HB.out | apply z07 | apply z09 | apply z08 | refine z06 ?_ GE120.out | refine z06 ?_ GE121.out | refine z06 ?_ GE131.out) | exact HB.out)⟩⟩
     ·rw [if_neg c14] at H
      exact absurd H (by simp)
    ·replace c12 := Bool.eq_false_iff.mpr c12
     subst c12
     have H1 : (some (z2c, false, x5_1)) = some (r1, r2, r3) := by rw [if_neg (show ¬ (false = true) by decide)] at H; exact H
     clear H
     have H := H1
     clear H1
     simp only [Option.some.injEq, Prod.mk.injEq] at H
     try rw [c11b0] at H
     obtain ⟨rfl, rfl, rfl⟩ := H
     have hnb27 := NB120_121.out
     have hnc27 := z3k.out
     have hcz28_0 : wr.cell? ⟨gb120, 0, none⟩ = some (.string z2c) := (z00 BK120.out 0).trans rfl
     have hcz28_1 : wr.cell? ⟨gb120, 1, none⟩ = some (.bool false) := (z00 BK120.out 1).trans rfl
     have hfz28_0 := z05 BK120.out 0
     have hfz28_1 := z05 BK120.out 1
     have hcz29_0 : wr.cell? ⟨gb121, 0, none⟩ = some (.string (⟨#[]⟩ : ByteArray)) := (z00 BK121.out 0).trans rfl
     have hcz29_1 : wr.cell? ⟨gb121, 1, none⟩ = some (.bool false) := (z00 BK121.out 1).trans rfl
     have hfz29_0 := z05 BK121.out 0
     have hfz29_1 := z05 BK121.out 1
     go_wp2
     refine bodyPost_ret (z30 rfl _ _ gb121 108 #[.string z2c, .bool false] (0, 0) _ rfl (by (with_reducible repeat (first | refine z04 ?_ _ | refine z03 ?_ | refine z02 ?_ _)); refine z0e (cs := #[.string z2c, .bool false]) ?_ 1 _ rfl; (with_reducible repeat (first | refine z04 ?_ _ | refine z03 ?_ | refine z02 ?_ _)); refine z0e (cs := #[.string (⟨#[]⟩ : ByteArray), .bool false]) ?_ 0 _ rfl; (with_reducible repeat (first | refine z04 ?_ _ | refine z03 ?_ | refine z02 ?_ _)); exact BK121.out) Try.underlying108 rfl (by kernel_rfl)) rfl ?_
     exact ⟨_, by first | rfl | (simp [z0q, z0r] <;> rfl) | (simp [*, z0q, z0r] <;> rfl), by (with_reducible repeat (first | apply Kd.z0i | apply Kd.z0j | apply Kd.z0g)); exact Kd.z0n (Kd.z0c (p := ⟨gb121, 1, none⟩) (Kd.z0c (p := ⟨gb121, 0, none⟩) (Kd.z0p HO_5.out BK121.out (by decide)) (fun _ hk => hk.2) (.string z2c)) (fun _ hk => hk.2) (.bool false)) (fun _ hk => trivial), by repeat (first | (with_reducible first | exact HB.out | apply z07 | apply z09 | apply z08 | refine z06 ?_ GE120.out | refine z06 ?_ GE121.out) | exact HB.out)⟩
   ·rw [if_neg c11] at H
    have c11b0 : decide (x6_1 < t124) = false := decide_eq_false c11
    clear c11
    simp only [Option.some.injEq, Prod.mk.injEq] at H
    try rw [c11b0] at H
    obtain ⟨rfl, rfl, rfl⟩ := H
    have hnb30 := NB120_121.out
    have hnc30 := z3k.out
    have hcz31_0 : wr.cell? ⟨gb120, 0, none⟩ = some (.string z2c) := (z00 BK120.out 0).trans rfl
    have hcz31_1 : wr.cell? ⟨gb120, 1, none⟩ = some (.bool x121001_1) := (z00 BK120.out 1).trans rfl
    have hfz31_0 := z05 BK120.out 0
    have hfz31_1 := z05 BK120.out 1
    have hcz32_0 : wr.cell? ⟨gb121, 0, none⟩ = some (.string (⟨#[]⟩ : ByteArray)) := (z00 BK121.out 0).trans rfl
    have hcz32_1 : wr.cell? ⟨gb121, 1, none⟩ = some (.bool false) := (z00 BK121.out 1).trans rfl
    have hfz32_0 := z05 BK121.out 0
    have hfz32_1 := z05 BK121.out 1
    go_wp2
    refine bodyPost_ret (z30 rfl _ _ gb121 108 #[.string z2c, .bool x121001_1] (0, 0) _ rfl (by (with_reducible repeat (first | refine z04 ?_ _ | refine z03 ?_ | refine z02 ?_ _)); refine z0e (cs := #[.string z2c, .bool false]) ?_ 1 _ rfl; (with_reducible repeat (first | refine z04 ?_ _ | refine z03 ?_ | refine z02 ?_ _)); refine z0e (cs := #[.string (⟨#[]⟩ : ByteArray), .bool false]) ?_ 0 _ rfl; (with_reducible repeat (first | refine z04 ?_ _ | refine z03 ?_ | refine z02 ?_ _)); exact BK121.out) Try.underlying108 rfl (by kernel_rfl)) rfl ?_
    exact ⟨_, by first | rfl | (simp [z0q, z0r] <;> rfl) | (simp [*, z0q, z0r] <;> rfl), by (with_reducible repeat (first | apply Kd.z0i | apply Kd.z0j | apply Kd.z0g)); exact Kd.z0n (Kd.z0c (p := ⟨gb121, 1, none⟩) (Kd.z0c (p := ⟨gb121, 0, none⟩) (Kd.z0p HO_5.out BK121.out (by decide)) (fun _ hk => hk.2) (.string z2c)) (fun _ hk => hk.2) (.bool x121001_1)) (fun _ hk => trivial), by repeat (first | (with_reducible first | exact HB.out | apply z07 | apply z09 | apply z08 | refine z06 ?_ GE120.out | refine z06 ?_ GE121.out) | exact HB.out)⟩
def z2g.f (a0_0 : ByteArray) (a0_1 : Bool) (a1 : Int) : Option (ByteArray × Bool × ByteArray) := (z1v.f a0_0 a0_1 a1).bind fun bt137 => ((z22.f bt137.1 bt137.2.1 (wrap64 (bt137.2.2))).bind fun bt140 => (some (bt140.1, bt140.2.1, bt140.2.2)))
set_option maxHeartbeats 8000000 in
set_option maxRecDepth 100000 in
theorem z2g.calls (a0_0 : ByteArray) (a0_1 : Bool) (a1 : Int) (r1 : ByteArray) (r2 : Bool) (r3 : ByteArray) (w : World) (h : z2g.f a0_0 a0_1 a1 = some (r1, r2, r3)) :
  Calls Try.prog 60 #[.agg #[.string a0_0, .bool a0_1], .int .u64 a1] w fun e w' => e = .returned (.tuple #[.agg #[.string r1, .bool r2], .string r3]) ∧ Below w.heap.size w w' := by
 have hu108 := Try.underlying108
 have HB := z01.mk (Below.refl w.heap.size w)
 have H : ((z1v.f a0_0 a0_1 a1).bind fun bt137 => ((z22.f bt137.1 bt137.2.1 (wrap64 (bt137.2.2))).bind fun bt140 => (some (bt140.1, bt140.2.1, bt140.2.2)))) = some (r1, r2, r3) := h
 clear h
 replace H := Option.bind_eq_some_iff.mp H
 obtain ⟨⟨t137, t138, t139⟩, A30, H⟩ := H
 replace H : ((z22.f t137 t138 (wrap64 (t139))).bind fun bt140 => (some (bt140.1, bt140.2.1, bt140.2.2))) = some (r1, r2, r3) := H
 have A3 := z01.mk A30
 clear A30
 replace H := Option.bind_eq_some_iff.mp H
 obtain ⟨⟨t140, t141, t142⟩, A40, H⟩ := H
 replace H : (some (t140, t141, t142)) = some (r1, r2, r3) := H
 have A4 := z01.mk A40
 clear A40
 simp only [Option.some.injEq, Prod.mk.injEq] at H
 obtain ⟨rfl, rfl, rfl⟩ := H
 go_enter Try.func60, Try.ntmps60
 go_wp2_with (first | ((with_reducible refine z1p (N := 2) rfl ?_); refine z1z ?hg (N := 2) ?hd (cs := #[.string a0_0, .bool a0_1]) (t := 108) ?hr ?_; (case hd => rfl); (case hg => rfl); (case hr => first | (go_simp; done) | (go_simp; rfl)); intro gb135 hg w5 hbox hb; have n0_ := z01.mk (z0l (by repeat (first | (with_reducible first | exact HB.out | apply z07 | apply z09 | apply z08) | exact HB.out | exact Below.refl _ _)) hb); have n1_ := z01.mk (hbox); have n2_ := z01.mk ((by rw [hg]; exact (z0x (by repeat (first | (with_reducible first | exact HB.out | apply z07 | apply z09 | apply z08) | exact HB.out | exact Below.refl _ _))) : w.heap.size ≤ gb135)); have n3_ := z01.mk ((by rw [hg]; exact (z0x (by repeat (first | (with_reducible first | exact HB.out | apply z07 | apply z09 | apply z08) | exact HB.out | exact Below.refl _ _))) : w.heap.size ≤ gb135)); clear HB; have HB := n0_; have BK135 := n1_; have GW135 := n2_; have GE135 := n3_; clear n0_ n1_ n2_ n3_; clear hb hbox hg) | ((with_reducible refine z1p (N := 4) rfl ?_); refine z1z ?hg (N := 4) ?hd (cs := #[.string (⟨#[]⟩ : ByteArray), .bool false]) (t := 108) ?hr ?_; (case hd => rfl); (case hg => rfl); (case hr => first | (go_simp; done) | (go_simp; rfl)); intro gb136 hg w6 hbox hb; have n0_ := z01.mk (z0f (g := gb135) (o := .cells #[.string a0_0, .bool a0_1] 108 (0, 0)) (by (with_reducible repeat (first | refine z04 ?_ _ | refine z03 ?_ | refine z02 ?_ _)); exact BK135.out) hb); have n1_ := z01.mk (z0l (by repeat (first | (with_reducible first | exact HB.out | apply z07 | apply z09 | apply z08 | refine z06 ?_ GE135.out) | exact HB.out)) hb); have n2_ := z01.mk (hbox); have n3_ := z01.mk ((by rw [hg]; exact (z0x (by repeat (first | (with_reducible first | exact HB.out | apply z07 | apply z09 | apply z08 | refine z06 ?_ GE135.out) | exact HB.out))) : w.heap.size ≤ gb136)); have n4_ := z01.mk ((by rw [hg]; exact (z0x (by repeat (first | (with_reducible first | exact HB.out | apply z07 | apply z09 | apply z08 | refine z06 ?_ GE135.out) | exact HB.out))) : w.heap.size ≤ gb136)); have n5_ := z01.mk ((by rw [hg]; exact Nat.ne_of_lt (z1g (g := gb135) (o := .cells #[.string a0_0, .bool a0_1] 108 (0, 0)) (by (with_reducible repeat (first | refine z04 ?_ _ | refine z03 ?_ | refine z02 ?_ _)); exact BK135.out)) : gb135 ≠ gb136)); have n6_ := z01.mk ((by rw [hg]; exact Nat.ne_of_gt (z1g (g := gb135) (o := .cells #[.string a0_0, .bool a0_1] 108 (0, 0)) (by (with_reducible repeat (first | refine z04 ?_ _ | refine z03 ?_ | refine z02 ?_ _)); exact BK135.out)) : gb136 ≠ gb135)); clear BK135; clear HB; have BK135 := n0_; have HB := n1_; have BK136 := n2_; have GW136 := n3_; have GE136 := n4_; have NB135_136 := n5_; have NB136_135 := n6_; clear n0_ n1_ n2_ n3_ n4_ n5_ n6_; clear hb hbox hg; have hnb7 := NB135_136.out; have hnc7 := NB136_135.out; have hcz8_0 : w6.cell? ⟨gb135, 0, none⟩ = some (.string a0_0) := (z00 BK135.out 0).trans rfl; have hcz8_1 : w6.cell? ⟨gb135, 1, none⟩ = some (.bool a0_1) := (z00 BK135.out 1).trans rfl; have hfz8_0 := z05 BK135.out 0; have hfz8_1 := z05 BK135.out 1) | ((with_reducible refine z13 (f := 58) rfl ?_); refine z12 (some 10) rfl rfl Try.func58 (by kernel_rfl) rfl #[.agg #[.string a0_0, .bool a0_1], .int .u64 a1] rfl (by (try simp only [List.map_toArray, List.map_cons, List.map_nil]); first | done | rfl | (simp only [List.length_drop, List.length_take]; rfl)) ?_; (with_reducible refine (z1v.calls a0_0 a0_1 a1 t137 t138 t139 _ A3.out).mono ?_); rintro e w9 ⟨rfl, hb⟩; refine ⟨_, rfl, ?_⟩; have n0_ := z01.mk (z0f (g := gb135) (o := .cells #[.string a0_0, .bool a0_1] 108 (0, 0)) (by (with_reducible repeat (first | refine z04 ?_ _ | refine z03 ?_ | refine z02 ?_ _)); exact BK135.out) hb); have n1_ := z01.mk (z0f (g := gb136) (o := .cells #[.string (⟨#[]⟩ : ByteArray), .bool false] 108 (0, 0)) (by (with_reducible repeat (first | refine z04 ?_ _ | refine z03 ?_ | refine z02 ?_ _)); exact BK136.out) hb); have n2_ := z01.mk (z0l (by repeat (first | (with_reducible first | exact HB.out | apply z07 | apply z09 | apply z08 | refine z06 ?_ GE135.out | refine z06 ?_ GE136.out) | exact HB.out)) hb); clear BK135; clear BK136; clear HB; have BK135 := n0_; have BK136 := n1_; have HB := n2_; clear n0_ n1_ n2_; (try clear hb); (try clear hb2); (try clear hk); (try clear hi); have hcz10_0 : w9.cell? ⟨gb135, 0, none⟩ = some (.string a0_0) := (z00 BK135.out 0).trans rfl; have hcz10_1 : w9.cell? ⟨gb135, 1, none⟩ = some (.bool a0_1) := (z00 BK135.out 1).trans rfl; have hfz10_0 := z05 BK135.out 0; have hfz10_1 := z05 BK135.out 1) | ((with_reducible refine z13 (f := 57) rfl ?_); refine z12 (some 16) rfl rfl Try.func57 (by kernel_rfl) rfl #[.agg #[.string t137, .bool t138], .int .i64 (wrap64 (t139))] rfl (by (try simp only [List.map_toArray, List.map_cons, List.map_nil]); first | done | rfl | (simp only [List.length_drop, List.length_take]; rfl)) ?_; (with_reducible refine (z22.calls t137 t138 (wrap64 (t139)) t140 t141 t142 _ A4.out).mono ?_); rintro e w11 ⟨rfl, hb⟩; refine ⟨_, rfl, ?_⟩; have n0_ := z01.mk (z0f (g := gb135) (o := .cells #[.string t137, .bool t138] 108 (0, 0)) (by (with_reducible repeat (first | refine z04 ?_ _ | refine z03 ?_ | refine z02 ?_ _)); refine z0e (cs := #[.string t137, .bool a0_1]) ?_ 1 _ rfl; (with_reducible repeat (first | refine z04 ?_ _ | refine z03 ?_ | refine z02 ?_ _)); refine z0e (cs := #[.string a0_0, .bool a0_1]) ?_ 0 _ rfl; (with_reducible repeat (first | refine z04 ?_ _ | refine z03 ?_ | refine z02 ?_ _)); exact BK135.out) hb); have n1_ := z01.mk (z0f (g := gb136) (o := .cells #[.string (⟨#[]⟩ : ByteArray), .bool false] 108 (0, 0)) (by (with_reducible repeat (first | refine z04 ?_ _ | refine z03 ?_ | refine z02 ?_ _)); refine z0d ?_ NB136_135.out _; (with_reducible repeat (first | refine z04 ?_ _ | refine z03 ?_ | refine z02 ?_ _)); refine z0d ?_ NB136_135.out _; (with_reducible repeat (first | refine z04 ?_ _ | refine z03 ?_ | refine z02 ?_ _)); exact BK136.out) hb); have n2_ := z01.mk (z0l (by repeat (first | (with_reducible first | exact HB.out | apply z07 | apply z09 | apply z08 | refine z06 ?_ GE135.out | refine z06 ?_ GE136.out) | exact HB.out)) hb); clear BK135; clear BK136; clear HB; have BK135 := n0_; have BK136 := n1_; have HB := n2_; clear n0_ n1_ n2_; (try clear hb); (try clear hb2); (try clear hk); (try clear hi); have hcz12_0 : w11.cell? ⟨gb136, 0, none⟩ = some (.string (⟨#[]⟩ : ByteArray)) := (z00 BK136.out 0).trans rfl; have hcz12_1 : w11.cell? ⟨gb136, 1, none⟩ = some (.bool false) := (z00 BK136.out 1).trans rfl; have hfz12_0 := z05 BK136.out 0; have hfz12_1 := z05 BK136.out 1))
 refine bodyPost_ret (z30 rfl _ _ gb136 108 #[.string t140, .bool t141] (0, 0) _ rfl (by (with_reducible repeat (first | refine z04 ?_ _ | refine z03 ?_ | refine z02 ?_ _)); refine z0e (cs := #[.string t140, .bool false]) ?_ 1 _ rfl; (with_reducible repeat (first | refine z04 ?_ _ | refine z03 ?_ | refine z02 ?_ _)); refine z0e (cs := #[.string (⟨#[]⟩ : ByteArray), .bool false]) ?_ 0 _ rfl; (with_reducible repeat (first | refine z04 ?_ _ | refine z03 ?_ | refine z02 ?_ _)); exact BK136.out) Try.underlying108 rfl (by kernel_rfl)) rfl ?_
 exact ⟨by first | rfl | (simp [z0q, z0r] <;> rfl) | (simp [*, z0q, z0r] <;> rfl), by repeat (first | (with_reducible first | exact HB.out | apply z07 | apply z09 | apply z08 | refine z06 ?_ GE135.out | refine z06 ?_ GE136.out) | exact HB.out)⟩
end Go.Proofs.Ytcfdplmapdgfmaa.PF
