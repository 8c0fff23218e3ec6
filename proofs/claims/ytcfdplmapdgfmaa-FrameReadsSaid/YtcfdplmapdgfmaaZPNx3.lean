import Derived.Test.YtcfdplmapdgfmaaZPNx0
import Derived.Test.YtcfdplmapdgfmaaZPNx2
namespace Go.Proofs.Ytcfdplmapdgfmaa.PN
open List renaming setIfInBounds_toArray → q1, set_cons_zero → q2, set_cons_succ → q3
open Go.RowKit Go.Proofs.YtcfdplmapdgfmaaW.PrintWords Go.Proofs.YtcfdplmapdgfmaaW.PrintLast Go.Proofs.YtcfdplmapdgfmaaW.PrintMore
attribute [local go_sem] z2s z2t z2u z2v z2w z2x z2y z2z   -- for this text's walks alone
set_option linter.unusedVariables false
set_option linter.unusedSimpArgs false
def z20.f (k : Nat) (a0 : ByteArray) : Option (ByteArray × Int × Int) := (z1h.f k a0).bind fun z14 => (if z14.2.2 = 0 then (if z14.1 > 2097152 then (some ((⟨#[]⟩ : ByteArray), 0, 3)) else (if (wrap64 (z14.1)) > (wrap64 ((wrap64 ((a0.size : Int) - z14.2.1)) - 4)) then (some ((⟨#[]⟩ : ByteArray), 0, 4)) else (if 0 ≤ z14.2.1 then (if z14.2.1 ≤ (wrap64 (z14.2.1 + (wrap64 (z14.1)))) then (if (wrap64 (z14.2.1 + (wrap64 (z14.1)))) ≤ (a0.size : Int) then (if 0 ≤ (wrap64 (z14.2.1 + (wrap64 (z14.1)))) then (if (wrap64 (z14.2.1 + (wrap64 (z14.1)))) ≤ (wrap64 ((wrap64 (z14.2.1 + (wrap64 (z14.1)))) + 4)) then (if (wrap64 ((wrap64 (z14.2.1 + (wrap64 (z14.1)))) + 4)) ≤ (a0.size : Int) then ((z17.f k (a0.extract 0 ((wrap64 (z14.2.1 + (wrap64 (z14.1)))) : Int).toNat)).bind fun t136 => ((z35.f t136).bind fun t137 => (if (a0.extract ((wrap64 (z14.2.1 + (wrap64 (z14.1)))) : Int).toNat ((wrap64 ((wrap64 (z14.2.1 + (wrap64 (z14.1)))) + 4)) : Int).toNat).toList = t137.toList then (some (a0.extract (z14.2.1 : Int).toNat ((wrap64 (z14.2.1 + (wrap64 (z14.1)))) : Int).toNat, wrap64 ((wrap64 (z14.2.1 + (wrap64 (z14.1)))) + 4), 0)) else (some ((⟨#[]⟩ : ByteArray), 0, 6))))) else (none)) else (none)) else (none)) else (none)) else (none)) else (none)))) else (some ((⟨#[]⟩ : ByteArray), 0, z14.2.2)))
theorem z20.mono : ∀ a0 k, LeO (z20.f k a0) (z20.f (k + 1) a0) := by
 intro a0 k
 unfold z20.f
 repeat' first
   | (with_reducible exact z17.mono _ _)
   | (with_reducible exact z1h.mono _ _)
   | (with_reducible exact LeO.refl _)
   | (with_reducible exact LeO.none _)
   | (with_reducible refine LeO.ite ?_ ?_)
   | (with_reducible refine LeO.bind ?_ (fun _ => ?_))
   | exact z17.mono _ _
   | exact z1h.mono _ _
   | exact LeO.none _
   | refine LeO.ite ?_ ?_
   | refine LeO.bind ?_ (fun _ => ?_)
def z20.T9 : Bool × List (List Nat × List Nat) := (true, [([], []), ([], []), ([], []), ([2], [2]), ([1, 3], [1, 3]), ([], []), ([], []), ([6], [6]), ([5, 7], [5, 7]), ([8], [8]), ([0, 4, 9], [0, 4, 9]), ([], []), ([], []), ([], []), ([13], [13]), ([12, 14], [12, 14]), ([11, 15], [11, 15]), ([16], [16]), ([17, 17], [17]), ([10, 18], [10, 18])])
def z20.B9 : List Nat := [0, 0, 0, 4, 14, 0, 0, 64, 224, 480, 1023, 0, 0, 0, 8192, 28672, 63488, 129024, 260096, 524287]
theorem z20.tab9 : rtab .any (opsOf Try.f56 9) = z20.T9 := by kernel_rfl
theorem z20.bits9 : waitsOk z20.T9.2 z20.B9 = true := by kernel_rfl
set_option maxHeartbeats 8000000 in
set_option maxRecDepth 100000 in
theorem z20.calls (k : Nat) (a0 : ByteArray) (r1 : ByteArray) (r2 : Int) (r3 : Int) (w : World) (h : z20.f k a0 = some (r1, r2, r3)) :
  Calls Try.prog 56 #[.string a0] w fun e w' => e = .returned (.tuple #[.string r1, .int .i64 r2, .int .i64 r3]) ∧ Below w.heap.size w w' := by
 have HB := z01.mk (Below.refl w.heap.size w)
 have H : ((z1h.f k a0).bind fun z14 => (if z14.2.2 = 0 then (if z14.1 > 2097152 then (some ((⟨#[]⟩ : ByteArray), 0, 3)) else (if (wrap64 (z14.1)) > (wrap64 ((wrap64 ((a0.size : Int) - z14.2.1)) - 4)) then (some ((⟨#[]⟩ : ByteArray), 0, 4)) else (if 0 ≤ z14.2.1 then (if z14.2.1 ≤ (wrap64 (z14.2.1 + (wrap64 (z14.1)))) then (if (wrap64 (z14.2.1 + (wrap64 (z14.1)))) ≤ (a0.size : Int) then (if 0 ≤ (wrap64 (z14.2.1 + (wrap64 (z14.1)))) then (if (wrap64 (z14.2.1 + (wrap64 (z14.1)))) ≤ (wrap64 ((wrap64 (z14.2.1 + (wrap64 (z14.1)))) + 4)) then (if (wrap64 ((wrap64 (z14.2.1 + (wrap64 (z14.1)))) + 4)) ≤ (a0.size : Int) then ((z17.f k (a0.extract 0 ((wrap64 (z14.2.1 + (wrap64 (z14.1)))) : Int).toNat)).bind fun t136 => ((z35.f t136).bind fun t137 => (if (a0.extract ((wrap64 (z14.2.1 + (wrap64 (z14.1)))) : Int).toNat ((wrap64 ((wrap64 (z14.2.1 + (wrap64 (z14.1)))) + 4)) : Int).toNat).toList = t137.toList then (some (a0.extract (z14.2.1 : Int).toNat ((wrap64 (z14.2.1 + (wrap64 (z14.1)))) : Int).toNat, wrap64 ((wrap64 (z14.2.1 + (wrap64 (z14.1)))) + 4), 0)) else (some ((⟨#[]⟩ : ByteArray), 0, 6))))) else (none)) else (none)) else (none)) else (none)) else (none)) else (none)))) else (some ((⟨#[]⟩ : ByteArray), 0, z14.2.2)))) = some (r1, r2, r3) := h
 clear h
 replace H := Option.bind_eq_some_iff.mp H
 obtain ⟨⟨t133, t134, t135⟩, A20, H⟩ := H
 replace H : (if t135 = 0 then (if t133 > 2097152 then (some ((⟨#[]⟩ : ByteArray), 0, 3)) else (if (wrap64 (t133)) > (wrap64 ((wrap64 ((a0.size : Int) - t134)) - 4)) then (some ((⟨#[]⟩ : ByteArray), 0, 4)) else (if 0 ≤ t134 then (if t134 ≤ (wrap64 (t134 + (wrap64 (t133)))) then (if (wrap64 (t134 + (wrap64 (t133)))) ≤ (a0.size : Int) then (if 0 ≤ (wrap64 (t134 + (wrap64 (t133)))) then (if (wrap64 (t134 + (wrap64 (t133)))) ≤ (wrap64 ((wrap64 (t134 + (wrap64 (t133)))) + 4)) then (if (wrap64 ((wrap64 (t134 + (wrap64 (t133)))) + 4)) ≤ (a0.size : Int) then ((z17.f k (a0.extract 0 ((wrap64 (t134 + (wrap64 (t133)))) : Int).toNat)).bind fun t136 => ((z35.f t136).bind fun t137 => (if (a0.extract ((wrap64 (t134 + (wrap64 (t133)))) : Int).toNat ((wrap64 ((wrap64 (t134 + (wrap64 (t133)))) + 4)) : Int).toNat).toList = t137.toList then (some (a0.extract (t134 : Int).toNat ((wrap64 (t134 + (wrap64 (t133)))) : Int).toNat, wrap64 ((wrap64 (t134 + (wrap64 (t133)))) + 4), 0)) else (some ((⟨#[]⟩ : ByteArray), 0, 6))))) else (none)) else (none)) else (none)) else (none)) else (none)) else (none)))) else (some ((⟨#[]⟩ : ByteArray), 0, t135))) = some (r1, r2, r3) := H
 have A2 := z01.mk A20
 clear A20
 by_cases c3 : t135 = 0
 ·rw [if_pos c3] at H
  have c3b0 : (t135 == 0) = true := beq_iff_eq.mpr c3
  have c3b1 : (t135 != 0) = false := bne_eq_false_iff_eq.mpr c3
  clear c3
  by_cases c4 : t133 > 2097152
  ·rw [if_pos c4] at H
   have c4b0 : decide (2097152 < t133) = true := decide_eq_true c4
   clear c4
   simp only [Option.some.injEq, Prod.mk.injEq] at H
   obtain ⟨rfl, rfl, rfl⟩ := H
   go_enter Try.func56, Try.ntmps56
   go_wp2_with (first | ((with_reducible refine z13 (f := 69) rfl ?_); refine z12 (some 11) rfl rfl Try.func69 (by kernel_rfl) rfl #[.string a0] rfl (by (try simp only [List.map_toArray, List.map_cons, List.map_nil]); first | done | rfl | (simp only [List.length_drop, List.length_take]; rfl)) ?_; (with_reducible refine (z1h.calls k a0 t133 t134 t135 _ A2.out).mono ?_); rintro e w' ⟨rfl, ⟨nd, rfl⟩⟩; refine ⟨_, rfl, ?_⟩))
   go_ret3
   exact ⟨by first | rfl | (simp [z0q, z0r] <;> rfl) | (simp [*, z0q, z0r] <;> rfl), by repeat (first | (with_reducible first | exact HB.out | apply z07 | apply z09 | apply z08) | exact HB.out | exact Below.refl _ _)⟩
  ·rw [if_neg c4] at H
   have c4b0 : decide (2097152 < t133) = false := decide_eq_false c4
   clear c4
   by_cases c5 : (wrap64 (t133)) > (wrap64 ((wrap64 ((a0.size : Int) - t134)) - 4))
   ·rw [if_pos c5] at H
    have c5b0 : decide ((wrap64 ((wrap64 ((a0.size : Int) - t134)) - 4)) < (wrap64 (t133))) = true := decide_eq_true c5
    clear c5
    simp only [Option.some.injEq, Prod.mk.injEq] at H
    obtain ⟨rfl, rfl, rfl⟩ := H
    go_enter Try.func56, Try.ntmps56
    go_wp2_with (first | ((with_reducible refine z13 (f := 69) rfl ?_); refine z12 (some 11) rfl rfl Try.func69 (by kernel_rfl) rfl #[.string a0] rfl (by (try simp only [List.map_toArray, List.map_cons, List.map_nil]); first | done | rfl | (simp only [List.length_drop, List.length_take]; rfl)) ?_; (with_reducible refine (z1h.calls k a0 t133 t134 t135 _ A2.out).mono ?_); rintro e w' ⟨rfl, ⟨nd, rfl⟩⟩; refine ⟨_, rfl, ?_⟩))
    go_ret3
    exact ⟨by first | rfl | (simp [z0q, z0r] <;> rfl) | (simp [*, z0q, z0r] <;> rfl), by repeat (first | (with_reducible first | exact HB.out | apply z07 | apply z09 | apply z08) | exact HB.out | exact Below.refl _ _)⟩
   ·rw [if_neg c5] at H
    have c5b0 : decide ((wrap64 ((wrap64 ((a0.size : Int) - t134)) - 4)) < (wrap64 (t133))) = false := decide_eq_false c5
    clear c5
    by_cases c6 : 0 ≤ t134
    ·rw [if_pos c6] at H
     have c6b0 := eq_true c6
     have c6b1 : decide (0 ≤ t134) = true := decide_eq_true c6
     clear c6
     by_cases c7 : t134 ≤ (wrap64 (t134 + (wrap64 (t133))))
     ·rw [if_pos c7] at H
      have c7b0 := eq_true c7
      have c7b1 : decide (t134 ≤ (wrap64 (t134 + (wrap64 (t133))))) = true := decide_eq_true c7
      by_cases c8 : (wrap64 (t134 + (wrap64 (t133)))) ≤ (a0.size : Int)
      ·rw [if_pos c8] at H
       have c8b0 := eq_true c8
       have c8b1 : decide ((wrap64 (t134 + (wrap64 (t133)))) ≤ (a0.size : Int)) = true := decide_eq_true c8
       obtain ⟨ji9, hji9⟩ : ∃ j_ : Int, (wrap64 (t134 + (wrap64 (t133)))) = j_ := ⟨_, rfl⟩
       replace H : (if 0 ≤ (ji9) then (if (ji9) ≤ (wrap64 ((ji9) + 4)) then (if (wrap64 ((ji9) + 4)) ≤ (a0.size : Int) then ((z17.f k (a0.extract 0 ((ji9) : Int).toNat)).bind fun t136 => ((z35.f t136).bind fun t137 => (if (a0.extract ((ji9) : Int).toNat ((wrap64 ((ji9) + 4)) : Int).toNat).toList = t137.toList then (some (a0.extract (t134 : Int).toNat ((ji9) : Int).toNat, wrap64 ((ji9) + 4), 0)) else (some ((⟨#[]⟩ : ByteArray), 0, 6))))) else (none)) else (none)) else (none)) = some (r1, r2, r3) := by first | (rw [hji9] at H; exact H) | (simp only [hji9] at H ⊢; exact H)
       (try rw [hji9] at c7b0)
       (try rw [hji9] at c7b1)
       (try rw [hji9] at c7)
       (try rw [hji9] at c8b0)
       (try rw [hji9] at c8b1)
       (try rw [hji9] at c8)
       (try rw [hji9] at A2)
       have hji9w : (IntKind.i64.wrap (t134 + (wrap64 (t133)))) = ji9 := (z0a _).trans hji9
       by_cases c10 : 0 ≤ (ji9)
       ·rw [if_pos c10] at H
        have c10b0 := eq_true c10
        have c10b1 : decide (0 ≤ (ji9)) = true := decide_eq_true c10
        clear c10
        by_cases c11 : (ji9) ≤ (wrap64 ((ji9) + 4))
        ·rw [if_pos c11] at H
         have c11b0 := eq_true c11
         have c11b1 : decide ((ji9) ≤ (wrap64 ((ji9) + 4))) = true := decide_eq_true c11
         by_cases c12 : (wrap64 ((ji9) + 4)) ≤ (a0.size : Int)
         ·rw [if_pos c12] at H
          have c12b0 := eq_true c12
          have c12b1 : decide ((wrap64 ((ji9) + 4)) ≤ (a0.size : Int)) = true := decide_eq_true c12
          have c13b0 := eq_true (of_decide_eq_true (by first | (with_reducible assumption) | assumption) : 0 ≤ (ji9))
          have c14b0 := eq_true (of_decide_eq_true (by first | (with_reducible assumption) | assumption) : (ji9) ≤ (a0.size : Int))
          replace H := Option.bind_eq_some_iff.mp H
          obtain ⟨t136, A150, H⟩ := H
          replace H : ((z35.f t136).bind fun t137 => (if (a0.extract ((ji9) : Int).toNat ((wrap64 ((ji9) + 4)) : Int).toNat).toList = t137.toList then (some (a0.extract (t134 : Int).toNat ((ji9) : Int).toNat, wrap64 ((ji9) + 4), 0)) else (some ((⟨#[]⟩ : ByteArray), 0, 6)))) = some (r1, r2, r3) := H
          have A15 := z01.mk A150
          clear A150
          replace H := Option.bind_eq_some_iff.mp H
          obtain ⟨t137, A160, H⟩ := H
          replace H : (if (a0.extract ((ji9) : Int).toNat ((wrap64 ((ji9) + 4)) : Int).toNat).toList = t137.toList then (some (a0.extract (t134 : Int).toNat ((ji9) : Int).toNat, wrap64 ((ji9) + 4), 0)) else (some ((⟨#[]⟩ : ByteArray), 0, 6))) = some (r1, r2, r3) := H
          have A16 := z01.mk A160
          clear A160
          by_cases c17 : (a0.extract ((ji9) : Int).toNat ((wrap64 ((ji9) + 4)) : Int).toNat).toList = t137.toList
          ·rw [if_pos c17] at H
           have c17b0 : ((a0.extract ((ji9) : Int).toNat ((wrap64 ((ji9) + 4)) : Int).toNat).toList == t137.toList) = true := beq_iff_eq.mpr c17
           have c17b1 : ((a0.extract ((ji9) : Int).toNat ((wrap64 ((ji9) + 4)) : Int).toNat).toList != t137.toList) = false := bne_eq_false_iff_eq.mpr c17
           clear c17
           simp only [Option.some.injEq, Prod.mk.injEq] at H
           obtain ⟨rfl, rfl, rfl⟩ := H
           go_enter Try.func56, Try.ntmps56
           try go_wp2_with (first | ((with_reducible refine z13 (f := 69) rfl ?_); refine z12 (some 11) rfl rfl Try.func69 (by kernel_rfl) rfl #[.string a0] rfl (by (try simp only [List.map_toArray, List.map_cons, List.map_nil]); first | done | rfl | (simp only [List.length_drop, List.length_take]; rfl)) ?_; (with_reducible refine (z1h.calls k a0 t133 t134 t135 _ A2.out).mono ?_); rintro e w' ⟨rfl, ⟨nd, rfl⟩⟩; refine ⟨_, rfl, ?_⟩))
           have n0_ := z01.mk (z08 HB.out)
           clear HB
           have HB := n0_
           clear n0_
           refine start_ (n := 20) (S := fun w' => True) (ds := []) #[false, false, false, false, false, false, false, false, false, false, false, false, false, false, false, false, false, false, false, false] (by kernel_rfl) rfl rfl trivial (fun hHeld => ?_); refine z3g z20.tab9 z20.bits9 (fun HT_ HW_ => ?_)
           generalize w.drew = w18 at HB hHeld ⊢
           refine z0h (i := 0) (N := some 38) (v := ?_) (a' := ?_) #[true, false, false, false, false, false, false, false, false, false, false, false, false, false, false, false, false, false, false, false] rfl rfl (z0k HT_.out (by kernel_rfl)) (fun _ _ _ h => h) (Or.inl ⟨by rfl, ?_⟩) ?_ ?_
           rotate_left
           ·intro w'
            go_simp
            with_reducible rfl
           rotate_left
           ·simp only [Act.put, q1, q2, q3, z0a, z0b]
            rfl
           refine z0h (i := 1) (N := some 39) (v := ?_) (a' := ?_) #[true, true, false, false, false, false, false, false, false, false, false, false, false, false, false, false, false, false, false, false] rfl rfl (z0k HT_.out (by kernel_rfl)) (fun _ _ _ h => h) (Or.inl ⟨by rfl, ?_⟩) ?_ ?_
           rotate_left
           ·intro w'
            go_simp
            with_reducible rfl
           rotate_left
           ·simp only [Act.put, q1, q2, q3, z0a, z0b]
            rfl
           refine z0h (i := 2) (N := some 40) (v := ?_) (a' := ?_) #[true, true, true, false, false, false, false, false, false, false, false, false, false, false, false, false, false, false, false, false] rfl rfl (z0k HT_.out (by kernel_rfl)) (fun _ _ _ h => h) (Or.inl ⟨by rfl, ?_⟩) ?_ ?_
           rotate_left
           ·intro w'
            go_simp
            with_reducible rfl
           rotate_left
           ·simp only [Act.put, q1, q2, q3, z0a, z0b]
            rfl
           refine z0h (i := 3) (N := some 41) (v := ?_) (a' := ?_) #[true, true, true, true, false, false, false, false, false, false, false, false, false, false, false, false, false, false, false, false] rfl rfl (z0k HT_.out (by kernel_rfl)) (fun _ _ _ h => h) (Or.inl ⟨by rfl, ?_⟩) ?_ ?_
           rotate_left
           ·intro w'
            go_simp
            with_reducible rfl
           rotate_left
           ·simp only [Act.put, q1, q2, q3, z0a, z0b]
            rfl
           refine z0h (i := 4) (N := some 42) (v := ?_) (a' := ?_) #[true, true, true, true, true, false, false, false, false, false, false, false, false, false, false, false, false, false, false, false] rfl rfl (z0k HT_.out (by kernel_rfl)) (fun _ _ _ h => h) (Or.inl ⟨by rfl, ?_⟩) ?_ ?_
           rotate_left
           ·intro w'
            go_simp
            with_reducible rfl
           rotate_left
           ·simp only [Act.put, q1, q2, q3, z0a, z0b]
            rfl
           refine z0h (i := 5) (N := some 43) (v := ?_) (a' := ?_) #[true, true, true, true, true, true, false, false, false, false, false, false, false, false, false, false, false, false, false, false] rfl rfl (z0k HT_.out (by kernel_rfl)) (fun _ _ _ h => h) (Or.inl ⟨by rfl, ?_⟩) ?_ ?_
           rotate_left
           ·intro w'
            go_simp
            with_reducible rfl
           rotate_left
           ·simp only [Act.put, q1, q2, q3, z0a, z0b]
            rfl
           refine z0h (i := 6) (N := some 44) (v := ?_) (a' := ?_) #[true, true, true, true, true, true, true, false, false, false, false, false, false, false, false, false, false, false, false, false] rfl rfl (z0k HT_.out (by kernel_rfl)) (fun _ _ _ h => h) (Or.inl ⟨by rfl, ?_⟩) ?_ ?_
           rotate_left
           ·intro w'
            go_simp
            with_reducible rfl
           rotate_left
           ·simp only [Act.put, q1, q2, q3, z0a, z0b]
            rfl
           refine z0h (i := 7) (N := some 45) (v := ?_) (a' := ?_) #[true, true, true, true, true, true, true, true, false, false, false, false, false, false, false, false, false, false, false, false] rfl rfl (z0k HT_.out (by kernel_rfl)) (fun _ _ _ h => h) (Or.inl ⟨by rfl, ?_⟩) ?_ ?_
           rotate_left
           ·intro w'
            go_simp
            with_reducible rfl
           rotate_left
           ·simp only [Act.put, q1, q2, q3, z0a, z0b]
            rfl
           refine z0h (i := 8) (N := some 46) (v := ?_) (a' := ?_) #[true, true, true, true, true, true, true, true, true, false, false, false, false, false, false, false, false, false, false, false] rfl rfl (z0k HT_.out (by kernel_rfl)) (fun _ _ _ h => h) (Or.inl ⟨by rfl, ?_⟩) ?_ ?_
           rotate_left
           ·intro w'
            go_simp
            with_reducible rfl
           rotate_left
           ·simp only [Act.put, q1, q2, q3, z0a, z0b]
            rfl
           refine z0h (i := 9) (N := some 47) (v := ?_) (a' := ?_) #[true, true, true, true, true, true, true, true, true, true, false, false, false, false, false, false, false, false, false, false] rfl rfl (z0k HT_.out (by kernel_rfl)) (fun _ _ _ h => h) (Or.inl ⟨by rfl, ?_⟩) ?_ ?_
           rotate_left
           ·intro w'
            go_simp
            with_reducible rfl
           rotate_left
           ·simp only [Act.put, q1, q2, q3, z0a, z0b]
            rfl
           refine z0h (i := 10) (N := some 48) (v := ?_) (a' := ?_) #[true, true, true, true, true, true, true, true, true, true, true, false, false, false, false, false, false, false, false, false] rfl rfl (z0k HT_.out (by kernel_rfl)) (fun _ _ _ h => h) (Or.inl ⟨by rfl, ?_⟩) ?_ ?_
           rotate_left
           ·intro w'
            go_simp
            with_reducible rfl
           rotate_left
           ·simp only [Act.put, q1, q2, q3, z0a, z0b]
            rfl
           refine z0h (i := 11) (N := some 49) (v := ?_) (a' := ?_) #[true, true, true, true, true, true, true, true, true, true, true, true, false, false, false, false, false, false, false, false] rfl rfl (z0k HT_.out (by kernel_rfl)) (fun _ _ _ h => h) (Or.inl ⟨by rfl, ?_⟩) ?_ ?_
           rotate_left
           ·intro w'
            go_simp
            with_reducible rfl
           rotate_left
           ·simp only [Act.put, q1, q2, q3, z0a, z0b]
            rfl
           refine z0h (i := 12) (N := some 50) (v := ?_) (a' := ?_) #[true, true, true, true, true, true, true, true, true, true, true, true, true, false, false, false, false, false, false, false] rfl rfl (z0k HT_.out (by kernel_rfl)) (fun _ _ _ h => h) (Or.inl ⟨by rfl, ?_⟩) ?_ ?_
           rotate_left
           ·intro w'
            go_simp
            with_reducible rfl
           rotate_left
           ·simp only [Act.put, q1, q2, q3, z0a, z0b]
            rfl
           refine z0h (i := 13) (N := some 51) (v := ?_) (a' := ?_) #[true, true, true, true, true, true, true, true, true, true, true, true, true, true, false, false, false, false, false, false] rfl rfl (z0k HT_.out (by kernel_rfl)) (fun _ _ _ h => h) (Or.inl ⟨by rfl, ?_⟩) ?_ ?_
           rotate_left
           ·intro w'
            go_simp
            with_reducible rfl
           rotate_left
           ·simp only [Act.put, q1, q2, q3, z0a, z0b]
            rfl
           refine z0h (i := 14) (N := some 52) (v := ?_) (a' := ?_) #[true, true, true, true, true, true, true, true, true, true, true, true, true, true, true, false, false, false, false, false] rfl rfl (z0k HT_.out (by kernel_rfl)) (fun _ _ _ h => h) (Or.inl ⟨by rfl, ?_⟩) ?_ ?_
           rotate_left
           ·intro w'
            go_simp
            with_reducible rfl
           rotate_left
           ·simp only [Act.put, q1, q2, q3, z0a, z0b]
            rfl
           refine z0h (i := 15) (N := some 53) (v := ?_) (a' := ?_) #[true, true, true, true, true, true, true, true, true, true, true, true, true, true, true, true, false, false, false, false] rfl rfl (z0k HT_.out (by kernel_rfl)) (fun _ _ _ h => h) (Or.inl ⟨by rfl, ?_⟩) ?_ ?_
           rotate_left
           ·intro w'
            go_simp
            with_reducible rfl
           rotate_left
           ·simp only [Act.put, q1, q2, q3, z0a, z0b]
            rfl
           refine z0h (i := 16) (N := some 54) (v := ?_) (a' := ?_) #[true, true, true, true, true, true, true, true, true, true, true, true, true, true, true, true, true, false, false, false] rfl rfl (z0k HT_.out (by kernel_rfl)) (fun _ _ _ h => h) (Or.inl ⟨by rfl, ?_⟩) ?_ ?_
           rotate_left
           ·intro w'
            go_simp
            with_reducible rfl
           rotate_left
           ·simp only [Act.put, q1, q2, q3, z0a, z0b]
            rfl
           refine one_ (i := 17) (N := some 55) #[true, true, true, true, true, true, true, true, true, true, true, true, true, true, true, true, true, true, false, false] rfl rfl (z1q HT_.out (by kernel_rfl)) (by decide) (fun K hK => ?_)
           refine z1o Try.func86 (by kernel_rfl) rfl #[.string (a0.extract 0 ((ji9) : Int).toNat)] (by rfl) rfl rfl (by (try simp only [List.map_toArray, List.map_cons, List.map_nil]); first | done | (simp only [hji9]; rfl) | rfl | (simp only [List.length_drop, List.length_take]; rfl)) ?_
           with_reducible refine (z17.calls k (a0.extract 0 ((ji9) : Int).toNat) t136 _ A15.out).mono ?_
           rintro e w' ⟨rfl, ⟨nd, rfl⟩⟩
           refine ⟨_, rfl, ?_⟩
           refine hK.out _ _ trivial (fun hHeld => ?_)
           clear hK K
           refine z0m (a' := ?_) ?_ ?_
           rotate_left
           ·show Act.put _ (some 55) _ = _
            simp only [Act.put, q1, q2, q3, z0a, z0b]
            rfl
           refine one_ (i := 18) (N := some 56) #[true, true, true, true, true, true, true, true, true, true, true, true, true, true, true, true, true, true, true, false] rfl rfl (z1q HT_.out (by kernel_rfl)) (by decide) (fun K hK => ?_)
           refine z1o Try.func85 (by kernel_rfl) rfl #[.int .u32 t136] (by rfl) rfl rfl (by (try simp only [List.map_toArray, List.map_cons, List.map_nil]); first | done | rfl | (simp only [List.length_drop, List.length_take]; rfl)) ?_
           with_reducible refine (z35.calls t136 t137 _ A16.out).mono ?_
           rintro e w19 ⟨rfl, hb⟩
           refine ⟨_, rfl, ?_⟩
           have n0_ := z01.mk (z0l (by repeat (first | (with_reducible first | exact HB.out | apply z07 | apply z09 | apply z08) | exact HB.out | exact Below.refl _ _)) hb)
           clear HB
           have HB := n0_
           clear n0_
           (try clear hb)
           (try clear hb2)
           (try clear hk)
           (try clear hi)
           refine hK.out _ _ trivial (fun hHeld => ?_)
           clear hK K
           refine z0m (a' := ?_) ?_ ?_
           rotate_left
           ·show Act.put _ (some 56) _ = _
            simp only [Act.put, q1, q2, q3, z0a, z0b]
            rfl
           refine z0h (i := 19) (N := some 57) (v := ?_) (a' := ?_) #[true, true, true, true, true, true, true, true, true, true, true, true, true, true, true, true, true, true, true, true] rfl rfl (z0k HT_.out (by kernel_rfl)) (fun _ _ _ h => h) (Or.inl ⟨by rfl, ?_⟩) ?_ ?_
           rotate_left
           ·intro w'
            go_simp
            with_reducible rfl
           rotate_left
           ·simp only [Act.put, q1, q2, q3, z0a, z0b]
            rfl
           refine done_ (done_of HT_.out (by kernel_rfl)) ?_
           try go_wp2
           go_ret3
           exact ⟨by first | rfl | (simp [z0q, z0r] <;> rfl) | (simp only [← hji9]; first | rfl | (simp [z0q, z0r] <;> rfl)) | (simp [*, z0q, z0r] <;> rfl), by repeat (first | (with_reducible first | exact HB.out | apply z07 | apply z09 | apply z08) | exact HB.out | exact Below.refl _ _)⟩
          ·rw [if_neg c17] at H
           have c17b0 : ((a0.extract ((ji9) : Int).toNat ((wrap64 ((ji9) + 4)) : Int).toNat).toList == t137.toList) = false := beq_eq_false_iff_ne.mpr c17
           have c17b1 : ((a0.extract ((ji9) : Int).toNat ((wrap64 ((ji9) + 4)) : Int).toNat).toList != t137.toList) = true := bne_iff_ne.mpr c17
           simp only [Option.some.injEq, Prod.mk.injEq] at H
           obtain ⟨rfl, rfl, rfl⟩ := H
           go_enter Try.func56, Try.ntmps56
           try go_wp2_with (first | ((with_reducible refine z13 (f := 69) rfl ?_); refine z12 (some 11) rfl rfl Try.func69 (by kernel_rfl) rfl #[.string a0] rfl (by (try simp only [List.map_toArray, List.map_cons, List.map_nil]); first | done | rfl | (simp only [List.length_drop, List.length_take]; rfl)) ?_; (with_reducible refine (z1h.calls k a0 t133 t134 t135 _ A2.out).mono ?_); rintro e w' ⟨rfl, ⟨nd, rfl⟩⟩; refine ⟨_, rfl, ?_⟩))
           have n0_ := z01.mk (z08 HB.out)
           clear HB
           have HB := n0_
           clear n0_
           refine start_ (n := 20) (S := fun w' => True) (ds := []) #[false, false, false, false, false, false, false, false, false, false, false, false, false, false, false, false, false, false, false, false] (by kernel_rfl) rfl rfl trivial (fun hHeld => ?_); refine z3g z20.tab9 z20.bits9 (fun HT_ HW_ => ?_)
           generalize w.drew = w20 at HB hHeld ⊢
           refine z0h (i := 0) (N := some 38) (v := ?_) (a' := ?_) #[true, false, false, false, false, false, false, false, false, false, false, false, false, false, false, false, false, false, false, false] rfl rfl (z0k HT_.out (by kernel_rfl)) (fun _ _ _ h => h) (Or.inl ⟨by rfl, ?_⟩) ?_ ?_
           rotate_left
           ·intro w'
            go_simp
            with_reducible rfl
           rotate_left
           ·simp only [Act.put, q1, q2, q3, z0a, z0b]
            rfl
           refine z0h (i := 1) (N := some 39) (v := ?_) (a' := ?_) #[true, true, false, false, false, false, false, false, false, false, false, false, false, false, false, false, false, false, false, false] rfl rfl (z0k HT_.out (by kernel_rfl)) (fun _ _ _ h => h) (Or.inl ⟨by rfl, ?_⟩) ?_ ?_
           rotate_left
           ·intro w'
            go_simp
            with_reducible rfl
           rotate_left
           ·simp only [Act.put, q1, q2, q3, z0a, z0b]
            rfl
           refine z0h (i := 2) (N := some 40) (v := ?_) (a' := ?_) #[true, true, true, false, false, false, false, false, false, false, false, false, false, false, false, false, false, false, false, false] rfl rfl (z0k HT_.out (by kernel_rfl)) (fun _ _ _ h => h) (Or.inl ⟨by rfl, ?_⟩) ?_ ?_
           rotate_left
           ·intro w'
            go_simp
            with_reducible rfl
           rotate_left
           ·simp only [Act.put, q1, q2, q3, z0a, z0b]
            rfl
           refine z0h (i := 3) (N := some 41) (v := ?_) (a' := ?_) #[true, true, true, true, false, false, false, false, false, false, false, false, false, false, false, false, false, false, false, false] rfl rfl (z0k HT_.out (by kernel_rfl)) (fun _ _ _ h => h) (Or.inl ⟨by rfl, ?_⟩) ?_ ?_
           rotate_left
           ·intro w'
            go_simp
            with_reducible rfl
           rotate_left
           ·simp only [Act.put, q1, q2, q3, z0a, z0b]
            rfl
           refine z0h (i := 4) (N := some 42) (v := ?_) (a' := ?_) #[true, true, true, true, true, false, false, false, false, false, false, false, false, false, false, false, false, false, false, false] rfl rfl (z0k HT_.out (by kernel_rfl)) (fun _ _ _ h => h) (Or.inl ⟨by rfl, ?_⟩) ?_ ?_
           rotate_left
           ·intro w'
            go_simp
            with_reducible rfl
           rotate_left
           ·simp only [Act.put, q1, q2, q3, z0a, z0b]
            rfl
           refine z0h (i := 5) (N := some 43) (v := ?_) (a' := ?_) #[true, true, true, true, true, true, false, false, false, false, false, false, false, false, false, false, false, false, false, false] rfl rfl (z0k HT_.out (by kernel_rfl)) (fun _ _ _ h => h) (Or.inl ⟨by rfl, ?_⟩) ?_ ?_
           rotate_left
           ·intro w'
            go_simp
            with_reducible rfl
           rotate_left
           ·simp only [Act.put, q1, q2, q3, z0a, z0b]
            rfl
           refine z0h (i := 6) (N := some 44) (v := ?_) (a' := ?_) #[true, true, true, true, true, true, true, false, false, false, false, false, false, false, false, false, false, false, false, false] rfl rfl (z0k HT_.out (by kernel_rfl)) (fun _ _ _ h => h) (Or.inl ⟨by rfl, ?_⟩) ?_ ?_
           rotate_left
           ·intro w'
            go_simp
            with_reducible rfl
           rotate_left
           ·simp only [Act.put, q1, q2, q3, z0a, z0b]
            rfl
           refine z0h (i := 7) (N := some 45) (v := ?_) (a' := ?_) #[true, true, true, true, true, true, true, true, false, false, false, false, false, false, false, false, false, false, false, false] rfl rfl (z0k HT_.out (by kernel_rfl)) (fun _ _ _ h => h) (Or.inl ⟨by rfl, ?_⟩) ?_ ?_
           rotate_left
           ·intro w'
            go_simp
            with_reducible rfl
           rotate_left
           ·simp only [Act.put, q1, q2, q3, z0a, z0b]
            rfl
           refine z0h (i := 8) (N := some 46) (v := ?_) (a' := ?_) #[true, true, true, true, true, true, true, true, true, false, false, false, false, false, false, false, false, false, false, false] rfl rfl (z0k HT_.out (by kernel_rfl)) (fun _ _ _ h => h) (Or.inl ⟨by rfl, ?_⟩) ?_ ?_
           rotate_left
           ·intro w'
            go_simp
            with_reducible rfl
           rotate_left
           ·simp only [Act.put, q1, q2, q3, z0a, z0b]
            rfl
           refine z0h (i := 9) (N := some 47) (v := ?_) (a' := ?_) #[true, true, true, true, true, true, true, true, true, true, false, false, false, false, false, false, false, false, false, false] rfl rfl (z0k HT_.out (by kernel_rfl)) (fun _ _ _ h => h) (Or.inl ⟨by rfl, ?_⟩) ?_ ?_
           rotate_left
           ·intro w'
            go_simp
            with_reducible rfl
           rotate_left
           ·simp only [Act.put, q1, q2, q3, z0a, z0b]
            rfl
           refine z0h (i := 10) (N := some 48) (v := ?_) (a' := ?_) #[true, true, true, true, true, true, true, true, true, true, true, false, false, false, false, false, false, false, false, false] rfl rfl (z0k HT_.out (by kernel_rfl)) (fun _ _ _ h => h) (Or.inl ⟨by rfl, ?_⟩) ?_ ?_
           rotate_left
           ·intro w'
            go_simp
            with_reducible rfl
           rotate_left
           ·simp only [Act.put, q1, q2, q3, z0a, z0b]
            rfl
           refine z0h (i := 11) (N := some 49) (v := ?_) (a' := ?_) #[true, true, true, true, true, true, true, true, true, true, true, true, false, false, false, false, false, false, false, false] rfl rfl (z0k HT_.out (by kernel_rfl)) (fun _ _ _ h => h) (Or.inl ⟨by rfl, ?_⟩) ?_ ?_
           rotate_left
           ·intro w'
            go_simp
            with_reducible rfl
           rotate_left
           ·simp only [Act.put, q1, q2, q3, z0a, z0b]
            rfl
           refine z0h (i := 12) (N := some 50) (v := ?_) (a' := ?_) #[true, true, true, true, true, true, true, true, true, true, true, true, true, false, false, false, false, false, false, false] rfl rfl (z0k HT_.out (by kernel_rfl)) (fun _ _ _ h => h) (Or.inl ⟨by rfl, ?_⟩) ?_ ?_
           rotate_left
           ·intro w'
            go_simp
            with_reducible rfl
           rotate_left
           ·simp only [Act.put, q1, q2, q3, z0a, z0b]
            rfl
           refine z0h (i := 13) (N := some 51) (v := ?_) (a' := ?_) #[true, true, true, true, true, true, true, true, true, true, true, true, true, true, false, false, false, false, false, false] rfl rfl (z0k HT_.out (by kernel_rfl)) (fun _ _ _ h => h) (Or.inl ⟨by rfl, ?_⟩) ?_ ?_
           rotate_left
           ·intro w'
            go_simp
            with_reducible rfl
           rotate_left
           ·simp only [Act.put, q1, q2, q3, z0a, z0b]
            rfl
           refine z0h (i := 14) (N := some 52) (v := ?_) (a' := ?_) #[true, true, true, true, true, true, true, true, true, true, true, true, true, true, true, false, false, false, false, false] rfl rfl (z0k HT_.out (by kernel_rfl)) (fun _ _ _ h => h) (Or.inl ⟨by rfl, ?_⟩) ?_ ?_
           rotate_left
           ·intro w'
            go_simp
            with_reducible rfl
           rotate_left
           ·simp only [Act.put, q1, q2, q3, z0a, z0b]
            rfl
           refine z0h (i := 15) (N := some 53) (v := ?_) (a' := ?_) #[true, true, true, true, true, true, true, true, true, true, true, true, true, true, true, true, false, false, false, false] rfl rfl (z0k HT_.out (by kernel_rfl)) (fun _ _ _ h => h) (Or.inl ⟨by rfl, ?_⟩) ?_ ?_
           rotate_left
           ·intro w'
            go_simp
            with_reducible rfl
           rotate_left
           ·simp only [Act.put, q1, q2, q3, z0a, z0b]
            rfl
           refine z0h (i := 16) (N := some 54) (v := ?_) (a' := ?_) #[true, true, true, true, true, true, true, true, true, true, true, true, true, true, true, true, true, false, false, false] rfl rfl (z0k HT_.out (by kernel_rfl)) (fun _ _ _ h => h) (Or.inl ⟨by rfl, ?_⟩) ?_ ?_
           rotate_left
           ·intro w'
            go_simp
            with_reducible rfl
           rotate_left
           ·simp only [Act.put, q1, q2, q3, z0a, z0b]
            rfl
           refine one_ (i := 17) (N := some 55) #[true, true, true, true, true, true, true, true, true, true, true, true, true, true, true, true, true, true, false, false] rfl rfl (z1q HT_.out (by kernel_rfl)) (by decide) (fun K hK => ?_)
           refine z1o Try.func86 (by kernel_rfl) rfl #[.string (a0.extract 0 ((ji9) : Int).toNat)] (by rfl) rfl rfl (by (try simp only [List.map_toArray, List.map_cons, List.map_nil]); first | done | (simp only [hji9]; rfl) | rfl | (simp only [List.length_drop, List.length_take]; rfl)) ?_
           with_reducible refine (z17.calls k (a0.extract 0 ((ji9) : Int).toNat) t136 _ A15.out).mono ?_
           rintro e w' ⟨rfl, ⟨nd, rfl⟩⟩
           refine ⟨_, rfl, ?_⟩
           refine hK.out _ _ trivial (fun hHeld => ?_)
           clear hK K
           refine z0m (a' := ?_) ?_ ?_
           rotate_left
           ·show Act.put _ (some 55) _ = _
            simp only [Act.put, q1, q2, q3, z0a, z0b]
            rfl
           refine one_ (i := 18) (N := some 56) #[true, true, true, true, true, true, true, true, true, true, true, true, true, true, true, true, true, true, true, false] rfl rfl (z1q HT_.out (by kernel_rfl)) (by decide) (fun K hK => ?_)
           refine z1o Try.func85 (by kernel_rfl) rfl #[.int .u32 t136] (by rfl) rfl rfl (by (try simp only [List.map_toArray, List.map_cons, List.map_nil]); first | done | rfl | (simp only [List.length_drop, List.length_take]; rfl)) ?_
           with_reducible refine (z35.calls t136 t137 _ A16.out).mono ?_
           rintro e w21 ⟨rfl, hb⟩
           refine ⟨_, rfl, ?_⟩
           have n0_ := z01.mk (z0l (by repeat (first | (with_reducible first | exact HB.out | apply z07 | apply z09 | apply z08) | exact HB.out | exact Below.refl _ _)) hb)
           clear HB
           have HB := n0_
           clear n0_
           (try clear hb)
           (try clear hb2)
           (try clear hk)
           (try clear hi)
           refine hK.out _ _ trivial (fun hHeld => ?_)
           clear hK K
           refine z0m (a' := ?_) ?_ ?_
           rotate_left
           ·show Act.put _ (some 56) _ = _
            simp only [Act.put, q1, q2, q3, z0a, z0b]
            rfl
           refine z0h (i := 19) (N := some 57) (v := ?_) (a' := ?_) #[true, true, true, true, true, true, true, true, true, true, true, true, true, true, true, true, true, true, true, true] rfl rfl (z0k HT_.out (by kernel_rfl)) (fun _ _ _ h => h) (Or.inl ⟨by rfl, ?_⟩) ?_ ?_
           rotate_left
           ·intro w'
            go_simp
            with_reducible rfl
           rotate_left
           ·simp only [Act.put, q1, q2, q3, z0a, z0b]
            rfl
           refine done_ (done_of HT_.out (by kernel_rfl)) ?_
           try go_wp2
           go_ret3
           exact ⟨by first | rfl | (simp [z0q, z0r] <;> rfl) | (simp only [← hji9]; first | rfl | (simp [z0q, z0r] <;> rfl)) | (simp [*, z0q, z0r] <;> rfl), by repeat (first | (with_reducible first | exact HB.out | apply z07 | apply z09 | apply z08) | exact HB.out | exact Below.refl _ _)⟩
         ·rw [if_neg c12] at H
          exact absurd H (by simp)
        ·rw [if_neg c11] at H
         exact absurd H (by simp)
       ·rw [if_neg c10] at H
        exact absurd H (by simp)
      ·rw [if_neg c8] at H
       exact absurd H (by simp)
     ·rw [if_neg c7] at H
      exact absurd H (by simp)
    ·rw [if_neg c6] at H
     exact absurd H (by simp)
 ·rw [if_neg c3] at H
  have c3b0 : (t135 == 0) = false := beq_eq_false_iff_ne.mpr c3
  have c3b1 : (t135 != 0) = true := bne_iff_ne.mpr c3
  simp only [Option.some.injEq, Prod.mk.injEq] at H
  obtain ⟨rfl, rfl, rfl⟩ := H
  go_enter Try.func56, Try.ntmps56
  go_wp2_with (first | ((with_reducible refine z13 (f := 69) rfl ?_); refine z12 (some 11) rfl rfl Try.func69 (by kernel_rfl) rfl #[.string a0] rfl (by (try simp only [List.map_toArray, List.map_cons, List.map_nil]); first | done | rfl | (simp only [List.length_drop, List.length_take]; rfl)) ?_; (with_reducible refine (z1h.calls k a0 t133 t134 t135 _ A2.out).mono ?_); rintro e w' ⟨rfl, ⟨nd, rfl⟩⟩; refine ⟨_, rfl, ?_⟩))
  go_ret3
  exact ⟨by first | rfl | (simp [z0q, z0r] <;> rfl) | (simp [*, z0q, z0r] <;> rfl), by repeat (first | (with_reducible first | exact HB.out | apply z07 | apply z09 | apply z08) | exact HB.out | exact Below.refl _ _)⟩
end Go.Proofs.Ytcfdplmapdgfmaa.PN
