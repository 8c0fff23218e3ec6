/- Laid by a program of this session (wip/xprint.py) out of the translation: Go functions as Lean functions, and that the calls come to them; over contracts of this session that stand in the texts imported. -/
import Derived.Test.YtjgbodgcbagbnaaPDx0
import Derived.Test.YtjgbodgcbagbnaaPDx1
namespace Go.Proofs.Ytjgbodgcbagbnaa.PD
open Go.RowKit Go.Proofs.YtjgbodgcbagbnaaW.PrintWords Go.Proofs.YtjgbodgcbagbnaaW.PrintLast Go.Proofs.YtjgbodgcbagbnaaW.PrintMore
attribute [local go_sem] max2_int min2_int max_two min_two max_three min_three max_four min_four   -- for this text's walks alone
set_option linter.unusedVariables false
set_option linter.unusedSimpArgs false

/-! ### pollardlaw09_DeltaSelf: function 8 -/
def pollardlaw09_DeltaSelf.l0 : Nat → ByteArray → ByteArray → Int → Option (Bool)
  | 0, _, _, _ => none
  | k + 1, x1, x5, x6 => if (wrap64 (x6 + 16)) ≤ (x5.size : Int) then (if 0 ≤ x6 then (if x6 ≤ (wrap64 (x6 + 16)) then (if 0 ≤ 16 then (if 16 ≤ (x5.size : Int) then (if (x5.extract (x6 : Int).toNat ((wrap64 (x6 + 16)) : Int).toNat).toList = (x5.extract 0 16).toList then ((pollardlaw09_awake.f).bind fun t139 => (some t139)) else (pollardlaw09_DeltaSelf.l0 k x1 x5 (wrap64 (x6 + 16)))) else (none)) else (none)) else (none)) else (none)) else ((pollardref02_Num.f (IntKind.u64.wrap ((IntKind.u64.wrap (2 * (IntKind.u64.wrap ((x5.size : Int))))) - 1))).bind fun t140 => ((pollardref02_Num.f 0).bind fun t141 => (if t140.size + t141.size ≤ 9223372036854775807 then ((pollardlaw09_awake.f).bind fun t142 => (if t142 = true then ((delta_Make.f x5 x5).bind fun t143 => ((pollardref02_Num.f (IntKind.u64.wrap ((x5.size : Int)))).bind fun t144 => ((pollardref02_Num.f (IntKind.u64.wrap ((x5.size : Int)))).bind fun t145 => (if t144.size + t145.size ≤ 9223372036854775807 then (if (t144 ++ t145).size + (t140 ++ t141).size ≤ 9223372036854775807 then (if t143.toList = ((t144 ++ t145) ++ (t140 ++ t141)).toList then ((pollardlaw09_few.f x1).bind fun t146 => (if x5.size + t146.size ≤ 9223372036854775807 then ((delta_Make.f (x5 ++ t146) x5).bind fun t147 => ((pollardlaw09_few.f x1).bind fun t148 => ((pollardref02_Num.f (IntKind.u64.wrap ((IntKind.u64.wrap ((x5.size : Int))) + (IntKind.u64.wrap ((t148.size : Int)))))).bind fun t149 => ((pollardref02_Num.f (IntKind.u64.wrap ((x5.size : Int)))).bind fun t150 => (if t149.size + t150.size ≤ 9223372036854775807 then (if (t149 ++ t150).size + (t140 ++ t141).size ≤ 9223372036854775807 then (some (t147.toList == ((t149 ++ t150) ++ (t140 ++ t141)).toList)) else (none)) else (none)))))) else (none))) else (some false)) else (none)) else (none))))) else (some false))) else (none))))
def pollardlaw09_DeltaSelf.f (k : Nat) (a0 : ByteArray) (a1 : ByteArray) : Option (Bool) := (pollardlaw09_few.f a0).bind fun t137 => (if (t137.size : Int) < 16 then ((pollardlaw09_awake.f).bind fun t138 => (some t138)) else (pollardlaw09_DeltaSelf.l0 k a1 t137 16))
theorem pollardlaw09_DeltaSelf.mono_l : ∀ k, (∀ y0 y1 y2, LeO (pollardlaw09_DeltaSelf.l0 k y0 y1 y2) (pollardlaw09_DeltaSelf.l0 (k + 1) y0 y1 y2))
  | 0 => fun _ _ _ r h => by simp [pollardlaw09_DeltaSelf.l0] at h
  | k + 1 => by
    have ih0 := pollardlaw09_DeltaSelf.mono_l k
    · intro y0 y1 y2
      unfold pollardlaw09_DeltaSelf.l0
      repeat' first
      | (with_reducible exact ih0 _ _ _)
      | (with_reducible exact LeO.refl _)
      | (with_reducible exact LeO.none _)
      | (with_reducible refine LeO.ite ?_ ?_)
      | (with_reducible refine LeO.bind ?_ (fun _ => ?_))
      | exact ih0 _ _ _
      | exact LeO.none _
      | refine LeO.ite ?_ ?_
      | refine LeO.bind ?_ (fun _ => ?_)
theorem pollardlaw09_DeltaSelf.mono : ∀ a0 a1 k, LeO (pollardlaw09_DeltaSelf.f k a0 a1) (pollardlaw09_DeltaSelf.f (k + 1) a0 a1) := by
  intro a0 a1 k
  have ih0 := pollardlaw09_DeltaSelf.mono_l k
  unfold pollardlaw09_DeltaSelf.f
  repeat' first
      | (with_reducible exact ih0 _ _ _)
      | (with_reducible exact LeO.refl _)
      | (with_reducible exact LeO.none _)
      | (with_reducible refine LeO.ite ?_ ?_)
      | (with_reducible refine LeO.bind ?_ (fun _ => ?_))
      | exact ih0 _ _ _
      | exact LeO.none _
      | refine LeO.ite ?_ ?_
      | refine LeO.bind ?_ (fun _ => ?_)
set_option maxHeartbeats 8000000 in
set_option maxRecDepth 100000 in
theorem pollardlaw09_DeltaSelf.calls (k : Nat) (a0 : ByteArray) (a1 : ByteArray) (r : Bool) (w : World) (h : pollardlaw09_DeltaSelf.f k a0 a1 = some r) :
    Calls Try.prog 8 #[.string a0, .string a1] w fun e w' => e = .returned (.bool r) ∧ Below w.heap.size w w' := by
  have HB := Aside0.mk (Below.refl w.heap.size w)
  have H : ((pollardlaw09_few.f a0).bind fun t137 => (if (t137.size : Int) < 16 then ((pollardlaw09_awake.f).bind fun t138 => (some t138)) else (pollardlaw09_DeltaSelf.l0 k a1 t137 16))) = some r := h
  clear h
  replace H := Option.bind_eq_some_iff.mp H
  obtain ⟨t137, A30, H⟩ := H
  replace H : (if (t137.size : Int) < 16 then ((pollardlaw09_awake.f).bind fun t138 => (some t138)) else (pollardlaw09_DeltaSelf.l0 k a1 t137 16)) = some r := H
  have A3 := Aside0.mk A30
  clear A30
  by_cases c4 : (t137.size : Int) < 16
  · rw [if_pos c4] at H
    have c4b0 : decide ((t137.size : Int) < 16) = true := decide_eq_true c4
    have c4b1 : decide (t137.size < 16) = true := decide_eq_true (by omega)
    clear c4
    replace H := Option.bind_eq_some_iff.mp H
    obtain ⟨t138, A50, H⟩ := H
    replace H : (some t138) = some r := H
    have A5 := Aside0.mk A50
    clear A50
    obtain rfl := Option.some.inj H
    go_enter Try.func8, Try.ntmps8
    go_wp2_with (first | (go_at_call 23; (with_reducible refine (pollardlaw09_few.calls a0 t137 _ A3.out).mono ?_); rintro e w' ⟨rfl, ⟨nd, rfl⟩⟩; (try first | exact ⟨rfl, _, World.drewN_drewN _ _ _⟩ | exact ⟨rfl, _, Eq.trans (World.drewN_drewN _ _ _) (congrArg (World.drewN _) (Nat.add_assoc _ _ _))⟩)) | (go_at_call 25; (with_reducible refine (pollardlaw09_awake.calls  t138 _ A5.out).mono ?_); rintro e w6 ⟨rfl, hb⟩; have n0_ := Aside0.mk (below_step (by repeat (first | (with_reducible first | exact HB.out | apply below_alloc | apply pw_below_drewN | apply below_drew1) | exact HB.out | exact Below.refl _ _)) hb); clear HB; have HB := n0_; clear n0_; (try clear hb); (try clear hb2); (try clear hk); (try clear hi)))
    repeat (go_quiet (first | (go_at_call 23; (with_reducible refine (pollardlaw09_few.calls a0 t137 _ A3.out).mono ?_); rintro e w' ⟨rfl, ⟨nd, rfl⟩⟩; (try first | exact ⟨rfl, _, World.drewN_drewN _ _ _⟩ | exact ⟨rfl, _, Eq.trans (World.drewN_drewN _ _ _) (congrArg (World.drewN _) (Nat.add_assoc _ _ _))⟩)) | (go_at_call 25; (with_reducible refine (pollardlaw09_awake.calls  t138 _ A5.out).mono ?_); rintro e w6 ⟨rfl, hb⟩; have n0_ := Aside0.mk (below_step (by repeat (first | (with_reducible first | exact HB.out | apply below_alloc | apply pw_below_drewN | apply below_drew1) | exact HB.out | exact Below.refl _ _)) hb); clear HB; have HB := n0_; clear n0_; (try clear hb); (try clear hb2); (try clear hk); (try clear hi))); try go_wp2_with (first | (go_at_call 23; (with_reducible refine (pollardlaw09_few.calls a0 t137 _ A3.out).mono ?_); rintro e w' ⟨rfl, ⟨nd, rfl⟩⟩; (try first | exact ⟨rfl, _, World.drewN_drewN _ _ _⟩ | exact ⟨rfl, _, Eq.trans (World.drewN_drewN _ _ _) (congrArg (World.drewN _) (Nat.add_assoc _ _ _))⟩)) | (go_at_call 25; (with_reducible refine (pollardlaw09_awake.calls  t138 _ A5.out).mono ?_); rintro e w6 ⟨rfl, hb⟩; have n0_ := Aside0.mk (below_step (by repeat (first | (with_reducible first | exact HB.out | apply below_alloc | apply pw_below_drewN | apply below_drew1) | exact HB.out | exact Below.refl _ _)) hb); clear HB; have HB := n0_; clear n0_; (try clear hb); (try clear hb2); (try clear hk); (try clear hi))))
    go_ret
    exact ⟨by first | rfl | (simp [errW_none, errW_some] <;> rfl) | (simp [*, errW_none, errW_some] <;> rfl), by repeat (first | (with_reducible first | exact HB.out | apply below_alloc | apply pw_below_drewN | apply below_drew1) | exact HB.out | exact Below.refl _ _)⟩
  · rw [if_neg c4] at H
    have c4b0 : decide ((t137.size : Int) < 16) = false := decide_eq_false c4
    have c4b1 : decide (t137.size < 16) = false := decide_eq_false (by omega)
    clear c4
    have H' := Aside0.mk H
    clear H
    go_enter Try.func8, Try.ntmps8
    go_wp2_with (first | (go_at_call 23; (with_reducible refine (pollardlaw09_few.calls a0 t137 _ A3.out).mono ?_); rintro e w' ⟨rfl, ⟨nd, rfl⟩⟩; (try first | exact ⟨rfl, _, World.drewN_drewN _ _ _⟩ | exact ⟨rfl, _, Eq.trans (World.drewN_drewN _ _ _) (congrArg (World.drewN _) (Nat.add_assoc _ _ _))⟩)))
    repeat (go_quiet (first | (go_at_call 23; (with_reducible refine (pollardlaw09_few.calls a0 t137 _ A3.out).mono ?_); rintro e w' ⟨rfl, ⟨nd, rfl⟩⟩; (try first | exact ⟨rfl, _, World.drewN_drewN _ _ _⟩ | exact ⟨rfl, _, Eq.trans (World.drewN_drewN _ _ _) (congrArg (World.drewN _) (Nat.add_assoc _ _ _))⟩))); try go_wp2_with (first | (go_at_call 23; (with_reducible refine (pollardlaw09_few.calls a0 t137 _ A3.out).mono ?_); rintro e w' ⟨rfl, ⟨nd, rfl⟩⟩; (try first | exact ⟨rfl, _, World.drewN_drewN _ _ _⟩ | exact ⟨rfl, _, Eq.trans (World.drewN_drewN _ _ _) (congrArg (World.drewN _) (Nat.add_assoc _ _ _))⟩))))
    go_loopg [6] k (fun kq v6 w' => ∃ (x6_1 : Int), v6 = .int .i64 x6_1 ∧ Aside0 (pollardlaw09_DeltaSelf.l0 kq a1 t137 x6_1 = some r) ∧ Aside0 (kq ≤ k) ∧ Aside0 (Below w.heap.size w w'))
    case atStart => exact ⟨(16), (by first | rfl | (simp; done) | (simp [*]; done)), H', ⟨Nat.le_refl _⟩, ⟨by repeat (first | (with_reducible first | exact HB.out | apply below_alloc | apply pw_below_drewN | apply below_drew1) | exact HB.out | exact Below.refl _ _)⟩⟩
    case round =>
      clear H'
      try clear p2
      try clear c4
      try clear c4b0
      try clear c4b1
      obtain ⟨x6_1, rfl, HA, HK1, HB⟩ := hrel
      cases gk with
      | zero => exact absurd HA.out (by simp [pollardlaw09_DeltaSelf.l0])
      | succ k1 =>
        have H := HA.out
        clear HA
        simp only [pollardlaw09_DeltaSelf.l0] at H
        by_cases c7 : (wrap64 (x6_1 + 16)) ≤ (t137.size : Int)
        · rw [if_pos c7] at H
          have c7b0 : decide ((wrap64 (x6_1 + 16)) ≤ (t137.size : Int)) = true := decide_eq_true c7
          clear c7
          by_cases c8 : 0 ≤ x6_1
          · rw [if_pos c8] at H
            have c8b0 := eq_true c8
            have c8b1 : decide (0 ≤ x6_1) = true := decide_eq_true c8
            clear c8
            by_cases c9 : x6_1 ≤ (wrap64 (x6_1 + 16))
            · rw [if_pos c9] at H
              have c9b0 := eq_true c9
              have c9b1 : decide (x6_1 ≤ (wrap64 (x6_1 + 16))) = true := decide_eq_true c9
              have c10b0 := eq_true (of_decide_eq_true (by first | (with_reducible assumption) | assumption) : (wrap64 (x6_1 + 16)) ≤ (t137.size : Int))
              by_cases c11 : 0 ≤ 16
              · rw [if_pos c11] at H
                have c11b0 := eq_true c11
                have c11b1 : decide (0 ≤ 16) = true := decide_eq_true c11
                clear c11
                by_cases c12 : 16 ≤ (t137.size : Int)
                · rw [if_pos c12] at H
                  have c12b0 := eq_true c12
                  have c12b1 : decide (16 ≤ (t137.size : Int)) = true := decide_eq_true c12
                  clear c12
                  by_cases c13 : (t137.extract (x6_1 : Int).toNat ((wrap64 (x6_1 + 16)) : Int).toNat).toList = (t137.extract 0 16).toList
                  · rw [if_pos c13] at H
                    have c13b0 : ((t137.extract (x6_1 : Int).toNat ((wrap64 (x6_1 + 16)) : Int).toNat).toList == (t137.extract 0 16).toList) = true := beq_iff_eq.mpr c13
                    have c13b1 : ((t137.extract (x6_1 : Int).toNat ((wrap64 (x6_1 + 16)) : Int).toNat).toList != (t137.extract 0 16).toList) = false := bne_eq_false_iff_eq.mpr c13
                    clear c13
                    replace H := Option.bind_eq_some_iff.mp H
                    obtain ⟨t139, A140, H⟩ := H
                    replace H : (some t139) = some r := H
                    have A14 := Aside0.mk A140
                    clear A140
                    obtain rfl := Option.some.inj H
                    go_wp2_with (first | (go_at_call 25; (with_reducible refine (pollardlaw09_awake.calls  t139 _ A14.out).mono ?_); rintro e w15 ⟨rfl, hb⟩; have n0_ := Aside0.mk (below_step (by repeat (first | (with_reducible first | exact HB.out | apply below_alloc | apply pw_below_drewN | apply below_drew1) | exact HB.out | exact Below.refl _ _)) hb); clear HB; have HB := n0_; clear n0_; (try clear hb); (try clear hb2); (try clear hk); (try clear hi)))
                    repeat (go_quiet (first | (go_at_call 25; (with_reducible refine (pollardlaw09_awake.calls  t139 _ A14.out).mono ?_); rintro e w15 ⟨rfl, hb⟩; have n0_ := Aside0.mk (below_step (by repeat (first | (with_reducible first | exact HB.out | apply below_alloc | apply pw_below_drewN | apply below_drew1) | exact HB.out | exact Below.refl _ _)) hb); clear HB; have HB := n0_; clear n0_; (try clear hb); (try clear hb2); (try clear hk); (try clear hi))); try go_wp2_with (first | (go_at_call 25; (with_reducible refine (pollardlaw09_awake.calls  t139 _ A14.out).mono ?_); rintro e w15 ⟨rfl, hb⟩; have n0_ := Aside0.mk (below_step (by repeat (first | (with_reducible first | exact HB.out | apply below_alloc | apply pw_below_drewN | apply below_drew1) | exact HB.out | exact Below.refl _ _)) hb); clear HB; have HB := n0_; clear n0_; (try clear hb); (try clear hb2); (try clear hk); (try clear hi))))
                    go_ret
                    exact ⟨by first | rfl | (simp [errW_none, errW_some] <;> rfl) | (simp [*, errW_none, errW_some] <;> rfl), by repeat (first | (with_reducible first | exact HB.out | apply below_alloc | apply pw_below_drewN | apply below_drew1) | exact HB.out | exact Below.refl _ _)⟩
                  · rw [if_neg c13] at H
                    have c13b0 : ((t137.extract (x6_1 : Int).toNat ((wrap64 (x6_1 + 16)) : Int).toNat).toList == (t137.extract 0 16).toList) = false := beq_eq_false_iff_ne.mpr c13
                    have c13b1 : ((t137.extract (x6_1 : Int).toNat ((wrap64 (x6_1 + 16)) : Int).toNat).toList != (t137.extract 0 16).toList) = true := bne_iff_ne.mpr c13
                    have H' := Aside0.mk H
                    clear H
                    go_wp2
                    repeat (go_quiet (fail); try go_wp2)
                    go_roundg k1
                    case measure => have := HK1.out; omega
                    case rel => exact ⟨(wrap64 (x6_1 + 16)), (by first | rfl | (simp; done) | (simp [*]; done)), H', ⟨by have := HK1.out; omega⟩, ⟨by repeat (first | (with_reducible first | exact HB.out | apply below_alloc | apply pw_below_drewN | apply below_drew1) | exact HB.out | exact Below.refl _ _)⟩⟩
                · rw [if_neg c12] at H
                  exact absurd H (by simp)
              · rw [if_neg c11] at H
                exact absurd H (by simp)
            · rw [if_neg c9] at H
              exact absurd H (by simp)
          · rw [if_neg c8] at H
            exact absurd H (by simp)
        · rw [if_neg c7] at H
          have c7b0 : decide ((wrap64 (x6_1 + 16)) ≤ (t137.size : Int)) = false := decide_eq_false c7
          clear c7
          replace H := Option.bind_eq_some_iff.mp H
          obtain ⟨t140, A160, H⟩ := H
          replace H : ((pollardref02_Num.f 0).bind fun t141 => (if t140.size + t141.size ≤ 9223372036854775807 then ((pollardlaw09_awake.f).bind fun t142 => (if t142 = true then ((delta_Make.f t137 t137).bind fun t143 => ((pollardref02_Num.f (IntKind.u64.wrap ((t137.size : Int)))).bind fun t144 => ((pollardref02_Num.f (IntKind.u64.wrap ((t137.size : Int)))).bind fun t145 => (if t144.size + t145.size ≤ 9223372036854775807 then (if (t144 ++ t145).size + (t140 ++ t141).size ≤ 9223372036854775807 then (if t143.toList = ((t144 ++ t145) ++ (t140 ++ t141)).toList then ((pollardlaw09_few.f a1).bind fun t146 => (if t137.size + t146.size ≤ 9223372036854775807 then ((delta_Make.f (t137 ++ t146) t137).bind fun t147 => ((pollardlaw09_few.f a1).bind fun t148 => ((pollardref02_Num.f (IntKind.u64.wrap ((IntKind.u64.wrap ((t137.size : Int))) + (IntKind.u64.wrap ((t148.size : Int)))))).bind fun t149 => ((pollardref02_Num.f (IntKind.u64.wrap ((t137.size : Int)))).bind fun t150 => (if t149.size + t150.size ≤ 9223372036854775807 then (if (t149 ++ t150).size + (t140 ++ t141).size ≤ 9223372036854775807 then (some (t147.toList == ((t149 ++ t150) ++ (t140 ++ t141)).toList)) else (none)) else (none)))))) else (none))) else (some false)) else (none)) else (none))))) else (some false))) else (none))) = some r := H
          have A16 := Aside0.mk A160
          clear A160
          replace H := Option.bind_eq_some_iff.mp H
          obtain ⟨t141, A170, H⟩ := H
          replace H : (if t140.size + t141.size ≤ 9223372036854775807 then ((pollardlaw09_awake.f).bind fun t142 => (if t142 = true then ((delta_Make.f t137 t137).bind fun t143 => ((pollardref02_Num.f (IntKind.u64.wrap ((t137.size : Int)))).bind fun t144 => ((pollardref02_Num.f (IntKind.u64.wrap ((t137.size : Int)))).bind fun t145 => (if t144.size + t145.size ≤ 9223372036854775807 then (if (t144 ++ t145).size + (t140 ++ t141).size ≤ 9223372036854775807 then (if t143.toList = ((t144 ++ t145) ++ (t140 ++ t141)).toList then ((pollardlaw09_few.f a1).bind fun t146 => (if t137.size + t146.size ≤ 9223372036854775807 then ((delta_Make.f (t137 ++ t146) t137).bind fun t147 => ((pollardlaw09_few.f a1).bind fun t148 => ((pollardref02_Num.f (IntKind.u64.wrap ((IntKind.u64.wrap ((t137.size : Int))) + (IntKind.u64.wrap ((t148.size : Int)))))).bind fun t149 => ((pollardref02_Num.f (IntKind.u64.wrap ((t137.size : Int)))).bind fun t150 => (if t149.size + t150.size ≤ 9223372036854775807 then (if (t149 ++ t150).size + (t140 ++ t141).size ≤ 9223372036854775807 then (some (t147.toList == ((t149 ++ t150) ++ (t140 ++ t141)).toList)) else (none)) else (none)))))) else (none))) else (some false)) else (none)) else (none))))) else (some false))) else (none)) = some r := H
          have A17 := Aside0.mk A170
          clear A170
          by_cases c18 : t140.size + t141.size ≤ 9223372036854775807
          · rw [if_pos c18] at H
            have c18b0 := eq_true c18
            have c18b1 : decide (t140.size + t141.size ≤ 9223372036854775807) = true := decide_eq_true c18
            try have c18b2 : (9223372036854775807 < t140.size + t141.size) = False := eq_false (Nat.not_lt.2 c18)
            clear c18
            replace H := Option.bind_eq_some_iff.mp H
            obtain ⟨t142, A190, H⟩ := H
            replace H : (if t142 = true then ((delta_Make.f t137 t137).bind fun t143 => ((pollardref02_Num.f (IntKind.u64.wrap ((t137.size : Int)))).bind fun t144 => ((pollardref02_Num.f (IntKind.u64.wrap ((t137.size : Int)))).bind fun t145 => (if t144.size + t145.size ≤ 9223372036854775807 then (if (t144 ++ t145).size + (t140 ++ t141).size ≤ 9223372036854775807 then (if t143.toList = ((t144 ++ t145) ++ (t140 ++ t141)).toList then ((pollardlaw09_few.f a1).bind fun t146 => (if t137.size + t146.size ≤ 9223372036854775807 then ((delta_Make.f (t137 ++ t146) t137).bind fun t147 => ((pollardlaw09_few.f a1).bind fun t148 => ((pollardref02_Num.f (IntKind.u64.wrap ((IntKind.u64.wrap ((t137.size : Int))) + (IntKind.u64.wrap ((t148.size : Int)))))).bind fun t149 => ((pollardref02_Num.f (IntKind.u64.wrap ((t137.size : Int)))).bind fun t150 => (if t149.size + t150.size ≤ 9223372036854775807 then (if (t149 ++ t150).size + (t140 ++ t141).size ≤ 9223372036854775807 then (some (t147.toList == ((t149 ++ t150) ++ (t140 ++ t141)).toList)) else (none)) else (none)))))) else (none))) else (some false)) else (none)) else (none))))) else (some false)) = some r := H
            have A19 := Aside0.mk A190
            clear A190
            by_cases c20 : t142 = true
            · subst c20
              have H1 : ((delta_Make.f t137 t137).bind fun t143 => ((pollardref02_Num.f (IntKind.u64.wrap ((t137.size : Int)))).bind fun t144 => ((pollardref02_Num.f (IntKind.u64.wrap ((t137.size : Int)))).bind fun t145 => (if t144.size + t145.size ≤ 9223372036854775807 then (if (t144 ++ t145).size + (t140 ++ t141).size ≤ 9223372036854775807 then (if t143.toList = ((t144 ++ t145) ++ (t140 ++ t141)).toList then ((pollardlaw09_few.f a1).bind fun t146 => (if t137.size + t146.size ≤ 9223372036854775807 then ((delta_Make.f (t137 ++ t146) t137).bind fun t147 => ((pollardlaw09_few.f a1).bind fun t148 => ((pollardref02_Num.f (IntKind.u64.wrap ((IntKind.u64.wrap ((t137.size : Int))) + (IntKind.u64.wrap ((t148.size : Int)))))).bind fun t149 => ((pollardref02_Num.f (IntKind.u64.wrap ((t137.size : Int)))).bind fun t150 => (if t149.size + t150.size ≤ 9223372036854775807 then (if (t149 ++ t150).size + (t140 ++ t141).size ≤ 9223372036854775807 then (some (t147.toList == ((t149 ++ t150) ++ (t140 ++ t141)).toList)) else (none)) else (none)))))) else (none))) else (some false)) else (none)) else (none))))) = some r := by rw [if_pos rfl] at H; exact H
              clear H
              have H := H1
              clear H1
              replace H := Option.bind_eq_some_iff.mp H
              obtain ⟨t143, A210, H⟩ := H
              replace H : ((pollardref02_Num.f (IntKind.u64.wrap ((t137.size : Int)))).bind fun t144 => ((pollardref02_Num.f (IntKind.u64.wrap ((t137.size : Int)))).bind fun t145 => (if t144.size + t145.size ≤ 9223372036854775807 then (if (t144 ++ t145).size + (t140 ++ t141).size ≤ 9223372036854775807 then (if t143.toList = ((t144 ++ t145) ++ (t140 ++ t141)).toList then ((pollardlaw09_few.f a1).bind fun t146 => (if t137.size + t146.size ≤ 9223372036854775807 then ((delta_Make.f (t137 ++ t146) t137).bind fun t147 => ((pollardlaw09_few.f a1).bind fun t148 => ((pollardref02_Num.f (IntKind.u64.wrap ((IntKind.u64.wrap ((t137.size : Int))) + (IntKind.u64.wrap ((t148.size : Int)))))).bind fun t149 => ((pollardref02_Num.f (IntKind.u64.wrap ((t137.size : Int)))).bind fun t150 => (if t149.size + t150.size ≤ 9223372036854775807 then (if (t149 ++ t150).size + (t140 ++ t141).size ≤ 9223372036854775807 then (some (t147.toList == ((t149 ++ t150) ++ (t140 ++ t141)).toList)) else (none)) else (none)))))) else (none))) else (some false)) else (none)) else (none)))) = some r := H
              have A21 := Aside0.mk A210
              clear A210
              replace H := Option.bind_eq_some_iff.mp H
              obtain ⟨t144, A220, H⟩ := H
              replace H : ((pollardref02_Num.f (IntKind.u64.wrap ((t137.size : Int)))).bind fun t145 => (if t144.size + t145.size ≤ 9223372036854775807 then (if (t144 ++ t145).size + (t140 ++ t141).size ≤ 9223372036854775807 then (if t143.toList = ((t144 ++ t145) ++ (t140 ++ t141)).toList then ((pollardlaw09_few.f a1).bind fun t146 => (if t137.size + t146.size ≤ 9223372036854775807 then ((delta_Make.f (t137 ++ t146) t137).bind fun t147 => ((pollardlaw09_few.f a1).bind fun t148 => ((pollardref02_Num.f (IntKind.u64.wrap ((IntKind.u64.wrap ((t137.size : Int))) + (IntKind.u64.wrap ((t148.size : Int)))))).bind fun t149 => ((pollardref02_Num.f (IntKind.u64.wrap ((t137.size : Int)))).bind fun t150 => (if t149.size + t150.size ≤ 9223372036854775807 then (if (t149 ++ t150).size + (t140 ++ t141).size ≤ 9223372036854775807 then (some (t147.toList == ((t149 ++ t150) ++ (t140 ++ t141)).toList)) else (none)) else (none)))))) else (none))) else (some false)) else (none)) else (none))) = some r := H
              have A22 := Aside0.mk A220
              clear A220
              replace H := Option.bind_eq_some_iff.mp H
              obtain ⟨t145, A230, H⟩ := H
              replace H : (if t144.size + t145.size ≤ 9223372036854775807 then (if (t144 ++ t145).size + (t140 ++ t141).size ≤ 9223372036854775807 then (if t143.toList = ((t144 ++ t145) ++ (t140 ++ t141)).toList then ((pollardlaw09_few.f a1).bind fun t146 => (if t137.size + t146.size ≤ 9223372036854775807 then ((delta_Make.f (t137 ++ t146) t137).bind fun t147 => ((pollardlaw09_few.f a1).bind fun t148 => ((pollardref02_Num.f (IntKind.u64.wrap ((IntKind.u64.wrap ((t137.size : Int))) + (IntKind.u64.wrap ((t148.size : Int)))))).bind fun t149 => ((pollardref02_Num.f (IntKind.u64.wrap ((t137.size : Int)))).bind fun t150 => (if t149.size + t150.size ≤ 9223372036854775807 then (if (t149 ++ t150).size + (t140 ++ t141).size ≤ 9223372036854775807 then (some (t147.toList == ((t149 ++ t150) ++ (t140 ++ t141)).toList)) else (none)) else (none)))))) else (none))) else (some false)) else (none)) else (none)) = some r := H
              have A23 := Aside0.mk A230
              clear A230
              obtain rfl : t144 = t145 := Option.some.inj (A22.out.symm.trans A23.out)
              by_cases c24 : t144.size + t144.size ≤ 9223372036854775807
              · rw [if_pos c24] at H
                have c24b0 := eq_true c24
                have c24b1 : decide (t144.size + t144.size ≤ 9223372036854775807) = true := decide_eq_true c24
                try have c24b2 : (9223372036854775807 < t144.size + t144.size) = False := eq_false (Nat.not_lt.2 c24)
                clear c24
                by_cases c25 : (t144 ++ t144).size + (t140 ++ t141).size ≤ 9223372036854775807
                · rw [if_pos c25] at H
                  have c25b0 := eq_true c25
                  have c25z := c25
                  simp only [ByteArray.size_append] at c25z
                  have c25z2 := eq_false (Nat.not_lt.2 c25z)
                  clear c25z
                  have c25b1 : decide ((t144 ++ t144).size + (t140 ++ t141).size ≤ 9223372036854775807) = true := decide_eq_true c25
                  try have c25b2 : (9223372036854775807 < (t144 ++ t144).size + (t140 ++ t141).size) = False := eq_false (Nat.not_lt.2 c25)
                  clear c25
                  by_cases c26 : t143.toList = ((t144 ++ t144) ++ (t140 ++ t141)).toList
                  · rw [if_pos c26] at H
                    have c26b0 : (t143.toList == ((t144 ++ t144) ++ (t140 ++ t141)).toList) = true := beq_iff_eq.mpr c26
                    have c26b1 : (t143.toList != ((t144 ++ t144) ++ (t140 ++ t141)).toList) = false := bne_eq_false_iff_eq.mpr c26
                    clear c26
                    replace H := Option.bind_eq_some_iff.mp H
                    obtain ⟨t146, A270, H⟩ := H
                    replace H : (if t137.size + t146.size ≤ 9223372036854775807 then ((delta_Make.f (t137 ++ t146) t137).bind fun t147 => ((pollardlaw09_few.f a1).bind fun t148 => ((pollardref02_Num.f (IntKind.u64.wrap ((IntKind.u64.wrap ((t137.size : Int))) + (IntKind.u64.wrap ((t148.size : Int)))))).bind fun t149 => ((pollardref02_Num.f (IntKind.u64.wrap ((t137.size : Int)))).bind fun t150 => (if t149.size + t150.size ≤ 9223372036854775807 then (if (t149 ++ t150).size + (t140 ++ t141).size ≤ 9223372036854775807 then (some (t147.toList == ((t149 ++ t150) ++ (t140 ++ t141)).toList)) else (none)) else (none)))))) else (none)) = some r := H
                    have A27 := Aside0.mk A270
                    clear A270
                    by_cases c28 : t137.size + t146.size ≤ 9223372036854775807
                    · rw [if_pos c28] at H
                      have c28b0 := eq_true c28
                      have c28b1 : decide (t137.size + t146.size ≤ 9223372036854775807) = true := decide_eq_true c28
                      try have c28b2 : (9223372036854775807 < t137.size + t146.size) = False := eq_false (Nat.not_lt.2 c28)
                      clear c28
                      replace H := Option.bind_eq_some_iff.mp H
                      obtain ⟨t147, A290, H⟩ := H
                      replace H : ((pollardlaw09_few.f a1).bind fun t148 => ((pollardref02_Num.f (IntKind.u64.wrap ((IntKind.u64.wrap ((t137.size : Int))) + (IntKind.u64.wrap ((t148.size : Int)))))).bind fun t149 => ((pollardref02_Num.f (IntKind.u64.wrap ((t137.size : Int)))).bind fun t150 => (if t149.size + t150.size ≤ 9223372036854775807 then (if (t149 ++ t150).size + (t140 ++ t141).size ≤ 9223372036854775807 then (some (t147.toList == ((t149 ++ t150) ++ (t140 ++ t141)).toList)) else (none)) else (none))))) = some r := H
                      have A29 := Aside0.mk A290
                      clear A290
                      replace H := Option.bind_eq_some_iff.mp H
                      obtain ⟨t148, A300, H⟩ := H
                      replace H : ((pollardref02_Num.f (IntKind.u64.wrap ((IntKind.u64.wrap ((t137.size : Int))) + (IntKind.u64.wrap ((t148.size : Int)))))).bind fun t149 => ((pollardref02_Num.f (IntKind.u64.wrap ((t137.size : Int)))).bind fun t150 => (if t149.size + t150.size ≤ 9223372036854775807 then (if (t149 ++ t150).size + (t140 ++ t141).size ≤ 9223372036854775807 then (some (t147.toList == ((t149 ++ t150) ++ (t140 ++ t141)).toList)) else (none)) else (none)))) = some r := H
                      have A30 := Aside0.mk A300
                      clear A300
                      obtain rfl : t146 = t148 := Option.some.inj (A27.out.symm.trans A30.out)
                      replace H := Option.bind_eq_some_iff.mp H
                      obtain ⟨t149, A310, H⟩ := H
                      replace H : ((pollardref02_Num.f (IntKind.u64.wrap ((t137.size : Int)))).bind fun t150 => (if t149.size + t150.size ≤ 9223372036854775807 then (if (t149 ++ t150).size + (t140 ++ t141).size ≤ 9223372036854775807 then (some (t147.toList == ((t149 ++ t150) ++ (t140 ++ t141)).toList)) else (none)) else (none))) = some r := H
                      have A31 := Aside0.mk A310
                      clear A310
                      replace H := Option.bind_eq_some_iff.mp H
                      obtain ⟨t150, A320, H⟩ := H
                      replace H : (if t149.size + t150.size ≤ 9223372036854775807 then (if (t149 ++ t150).size + (t140 ++ t141).size ≤ 9223372036854775807 then (some (t147.toList == ((t149 ++ t150) ++ (t140 ++ t141)).toList)) else (none)) else (none)) = some r := H
                      have A32 := Aside0.mk A320
                      clear A320
                      obtain rfl : t144 = t150 := Option.some.inj (A22.out.symm.trans A32.out)
                      by_cases c33 : t149.size + t144.size ≤ 9223372036854775807
                      · rw [if_pos c33] at H
                        have c33b0 := eq_true c33
                        have c33b1 : decide (t149.size + t144.size ≤ 9223372036854775807) = true := decide_eq_true c33
                        try have c33b2 : (9223372036854775807 < t149.size + t144.size) = False := eq_false (Nat.not_lt.2 c33)
                        clear c33
                        by_cases c34 : (t149 ++ t144).size + (t140 ++ t141).size ≤ 9223372036854775807
                        · rw [if_pos c34] at H
                          have c34b0 := eq_true c34
                          have c34z := c34
                          simp only [ByteArray.size_append] at c34z
                          have c34z2 := eq_false (Nat.not_lt.2 c34z)
                          clear c34z
                          have c34b1 : decide ((t149 ++ t144).size + (t140 ++ t141).size ≤ 9223372036854775807) = true := decide_eq_true c34
                          try have c34b2 : (9223372036854775807 < (t149 ++ t144).size + (t140 ++ t141).size) = False := eq_false (Nat.not_lt.2 c34)
                          clear c34
                          obtain rfl := Option.some.inj H
                          go_wp2_with (first | (go_at_call 27; (with_reducible refine (pollardref02_Num.calls (IntKind.u64.wrap ((IntKind.u64.wrap (2 * (IntKind.u64.wrap ((t137.size : Int))))) - 1)) t140 _ A16.out).mono ?_); rintro e w35 ⟨rfl, hb⟩; have n0_ := Aside0.mk (below_step (by repeat (first | (with_reducible first | exact HB.out | apply below_alloc | apply pw_below_drewN | apply below_drew1) | exact HB.out | exact Below.refl _ _)) hb); clear HB; have HB := n0_; clear n0_; (try clear hb); (try clear hb2); (try clear hk); (try clear hi)) | (go_at_call 27; (with_reducible refine (pollardref02_Num.calls 0 t141 _ A17.out).mono ?_); rintro e w36 ⟨rfl, hb⟩; have n0_ := Aside0.mk (below_step (by repeat (first | (with_reducible first | exact HB.out | apply below_alloc | apply pw_below_drewN | apply below_drew1) | exact HB.out | exact Below.refl _ _)) hb); clear HB; have HB := n0_; clear n0_; (try clear hb); (try clear hb2); (try clear hk); (try clear hi)) | (go_at_call 25; (with_reducible refine (pollardlaw09_awake.calls  true _ A19.out).mono ?_); rintro e w37 ⟨rfl, hb⟩; have n0_ := Aside0.mk (below_step (by repeat (first | (with_reducible first | exact HB.out | apply below_alloc | apply pw_below_drewN | apply below_drew1) | exact HB.out | exact Below.refl _ _)) hb); clear HB; have HB := n0_; clear n0_; (try clear hb); (try clear hb2); (try clear hk); (try clear hi)) | (go_at_call 22; (with_reducible refine (delta_Make.calls t137 t137 t143 _ A21.out).mono ?_); rintro e w38 ⟨rfl, hb⟩; have n0_ := Aside0.mk (below_step (by repeat (first | (with_reducible first | exact HB.out | apply below_alloc | apply pw_below_drewN | apply below_drew1) | exact HB.out | exact Below.refl _ _)) hb); clear HB; have HB := n0_; clear n0_; (try clear hb); (try clear hb2); (try clear hk); (try clear hi)) | (go_at_call 27; (with_reducible refine (pollardref02_Num.calls (IntKind.u64.wrap ((t137.size : Int))) t144 _ A22.out).mono ?_); rintro e w39 ⟨rfl, hb⟩; have n0_ := Aside0.mk (below_step (by repeat (first | (with_reducible first | exact HB.out | apply below_alloc | apply pw_below_drewN | apply below_drew1) | exact HB.out | exact Below.refl _ _)) hb); clear HB; have HB := n0_; clear n0_; (try clear hb); (try clear hb2); (try clear hk); (try clear hi)) | (go_at_call 27; (with_reducible refine (pollardref02_Num.calls (IntKind.u64.wrap ((t137.size : Int))) t144 _ A23.out).mono ?_); rintro e w40 ⟨rfl, hb⟩; have n0_ := Aside0.mk (below_step (by repeat (first | (with_reducible first | exact HB.out | apply below_alloc | apply pw_below_drewN | apply below_drew1) | exact HB.out | exact Below.refl _ _)) hb); clear HB; have HB := n0_; clear n0_; (try clear hb); (try clear hb2); (try clear hk); (try clear hi)) | (go_at_call 23; (with_reducible refine (pollardlaw09_few.calls a1 t146 _ A27.out).mono ?_); rintro e w' ⟨rfl, ⟨nd, rfl⟩⟩; (try first | exact ⟨rfl, _, World.drewN_drewN _ _ _⟩ | exact ⟨rfl, _, Eq.trans (World.drewN_drewN _ _ _) (congrArg (World.drewN _) (Nat.add_assoc _ _ _))⟩)) | (go_at_call 22; (with_reducible refine (delta_Make.calls (t137 ++ t146) t137 t147 _ A29.out).mono ?_); rintro e w41 ⟨rfl, hb⟩; have n0_ := Aside0.mk (below_step (by repeat (first | (with_reducible first | exact HB.out | apply below_alloc | apply pw_below_drewN | apply below_drew1) | exact HB.out | exact Below.refl _ _)) hb); clear HB; have HB := n0_; clear n0_; (try clear hb); (try clear hb2); (try clear hk); (try clear hi)) | (go_at_call 23; (with_reducible refine (pollardlaw09_few.calls a1 t146 _ A30.out).mono ?_); rintro e w' ⟨rfl, ⟨nd, rfl⟩⟩; (try first | exact ⟨rfl, _, World.drewN_drewN _ _ _⟩ | exact ⟨rfl, _, Eq.trans (World.drewN_drewN _ _ _) (congrArg (World.drewN _) (Nat.add_assoc _ _ _))⟩)) | (go_at_call 27; (with_reducible refine (pollardref02_Num.calls (IntKind.u64.wrap ((IntKind.u64.wrap ((t137.size : Int))) + (IntKind.u64.wrap ((t146.size : Int))))) t149 _ A31.out).mono ?_); rintro e w42 ⟨rfl, hb⟩; have n0_ := Aside0.mk (below_step (by repeat (first | (with_reducible first | exact HB.out | apply below_alloc | apply pw_below_drewN | apply below_drew1) | exact HB.out | exact Below.refl _ _)) hb); clear HB; have HB := n0_; clear n0_; (try clear hb); (try clear hb2); (try clear hk); (try clear hi)) | (go_at_call 27; (with_reducible refine (pollardref02_Num.calls (IntKind.u64.wrap ((t137.size : Int))) t144 _ A32.out).mono ?_); rintro e w43 ⟨rfl, hb⟩; have n0_ := Aside0.mk (below_step (by repeat (first | (with_reducible first | exact HB.out | apply below_alloc | apply pw_below_drewN | apply below_drew1) | exact HB.out | exact Below.refl _ _)) hb); clear HB; have HB := n0_; clear n0_; (try clear hb); (try clear hb2); (try clear hk); (try clear hi)))
                          repeat (go_quiet (first | (go_at_call 27; (with_reducible refine (pollardref02_Num.calls (IntKind.u64.wrap ((IntKind.u64.wrap (2 * (IntKind.u64.wrap ((t137.size : Int))))) - 1)) t140 _ A16.out).mono ?_); rintro e w35 ⟨rfl, hb⟩; have n0_ := Aside0.mk (below_step (by repeat (first | (with_reducible first | exact HB.out | apply below_alloc | apply pw_below_drewN | apply below_drew1) | exact HB.out | exact Below.refl _ _)) hb); clear HB; have HB := n0_; clear n0_; (try clear hb); (try clear hb2); (try clear hk); (try clear hi)) | (go_at_call 27; (with_reducible refine (pollardref02_Num.calls 0 t141 _ A17.out).mono ?_); rintro e w36 ⟨rfl, hb⟩; have n0_ := Aside0.mk (below_step (by repeat (first | (with_reducible first | exact HB.out | apply below_alloc | apply pw_below_drewN | apply below_drew1) | exact HB.out | exact Below.refl _ _)) hb); clear HB; have HB := n0_; clear n0_; (try clear hb); (try clear hb2); (try clear hk); (try clear hi)) | (go_at_call 25; (with_reducible refine (pollardlaw09_awake.calls  true _ A19.out).mono ?_); rintro e w37 ⟨rfl, hb⟩; have n0_ := Aside0.mk (below_step (by repeat (first | (with_reducible first | exact HB.out | apply below_alloc | apply pw_below_drewN | apply below_drew1) | exact HB.out | exact Below.refl _ _)) hb); clear HB; have HB := n0_; clear n0_; (try clear hb); (try clear hb2); (try clear hk); (try clear hi)) | (go_at_call 22; (with_reducible refine (delta_Make.calls t137 t137 t143 _ A21.out).mono ?_); rintro e w38 ⟨rfl, hb⟩; have n0_ := Aside0.mk (below_step (by repeat (first | (with_reducible first | exact HB.out | apply below_alloc | apply pw_below_drewN | apply below_drew1) | exact HB.out | exact Below.refl _ _)) hb); clear HB; have HB := n0_; clear n0_; (try clear hb); (try clear hb2); (try clear hk); (try clear hi)) | (go_at_call 27; (with_reducible refine (pollardref02_Num.calls (IntKind.u64.wrap ((t137.size : Int))) t144 _ A22.out).mono ?_); rintro e w39 ⟨rfl, hb⟩; have n0_ := Aside0.mk (below_step (by repeat (first | (with_reducible first | exact HB.out | apply below_alloc | apply pw_below_drewN | apply below_drew1) | exact HB.out | exact Below.refl _ _)) hb); clear HB; have HB := n0_; clear n0_; (try clear hb); (try clear hb2); (try clear hk); (try clear hi)) | (go_at_call 27; (with_reducible refine (pollardref02_Num.calls (IntKind.u64.wrap ((t137.size : Int))) t144 _ A23.out).mono ?_); rintro e w40 ⟨rfl, hb⟩; have n0_ := Aside0.mk (below_step (by repeat (first | (with_reducible first | exact HB.out | apply below_alloc | apply pw_below_drewN | apply below_drew1) | exact HB.out | exact Below.refl _ _)) hb); clear HB; have HB := n0_; clear n0_; (try clear hb); (try clear hb2); (try clear hk); (try clear hi)) | (go_at_call 23; (with_reducible refine (pollardlaw09_few.calls a1 t146 _ A27.out).mono ?_); rintro e w' ⟨rfl, ⟨nd, rfl⟩⟩; (try first | exact ⟨rfl, _, World.drewN_drewN _ _ _⟩ | exact ⟨rfl, _, Eq.trans (World.drewN_drewN _ _ _) (congrArg (World.drewN _) (Nat.add_assoc _ _ _))⟩)) | (go_at_call 22; (with_reducible refine (delta_Make.calls (t137 ++ t146) t137 t147 _ A29.out).mono ?_); rintro e w41 ⟨rfl, hb⟩; have n0_ := Aside0.mk (below_step (by repeat (first | (with_reducible first | exact HB.out | apply below_alloc | apply pw_below_drewN | apply below_drew1) | exact HB.out | exact Below.refl _ _)) hb); clear HB; have HB := n0_; clear n0_; (try clear hb); (try clear hb2); (try clear hk); (try clear hi)) | (go_at_call 23; (with_reducible refine (pollardlaw09_few.calls a1 t146 _ A30.out).mono ?_); rintro e w' ⟨rfl, ⟨nd, rfl⟩⟩; (try first | exact ⟨rfl, _, World.drewN_drewN _ _ _⟩ | exact ⟨rfl, _, Eq.trans (World.drewN_drewN _ _ _) (congrArg (World.drewN _) (Nat.add_assoc _ _ _))⟩)) | (go_at_call 27; (with_reducible refine (pollardref02_Num.calls (IntKind.u64.wrap ((IntKind.u64.wrap ((t137.size : Int))) + (IntKind.u64.wrap ((t146.size : Int))))) t149 _ A31.out).mono ?_); rintro e w42 ⟨rfl, hb⟩; have n0_ := Aside0.mk (below_step (by repeat (first | (with_reducible first | exact HB.out | apply below_alloc | apply pw_below_drewN | apply below_drew1) | exact HB.out | exact Below.refl _ _)) hb); clear HB; have HB := n0_; clear n0_; (try clear hb); (try clear hb2); (try clear hk); (try clear hi)) | (go_at_call 27; (with_reducible refine (pollardref02_Num.calls (IntKind.u64.wrap ((t137.size : Int))) t144 _ A32.out).mono ?_); rintro e w43 ⟨rfl, hb⟩; have n0_ := Aside0.mk (below_step (by repeat (first | (with_reducible first | exact HB.out | apply below_alloc | apply pw_below_drewN | apply below_drew1) | exact HB.out | exact Below.refl _ _)) hb); clear HB; have HB := n0_; clear n0_; (try clear hb); (try clear hb2); (try clear hk); (try clear hi))); try go_wp2_with (first | (go_at_call 27; (with_reducible refine (pollardref02_Num.calls (IntKind.u64.wrap ((IntKind.u64.wrap (2 * (IntKind.u64.wrap ((t137.size : Int))))) - 1)) t140 _ A16.out).mono ?_); rintro e w35 ⟨rfl, hb⟩; have n0_ := Aside0.mk (below_step (by repeat (first | (with_reducible first | exact HB.out | apply below_alloc | apply pw_below_drewN | apply below_drew1) | exact HB.out | exact Below.refl _ _)) hb); clear HB; have HB := n0_; clear n0_; (try clear hb); (try clear hb2); (try clear hk); (try clear hi)) | (go_at_call 27; (with_reducible refine (pollardref02_Num.calls 0 t141 _ A17.out).mono ?_); rintro e w36 ⟨rfl, hb⟩; have n0_ := Aside0.mk (below_step (by repeat (first | (with_reducible first | exact HB.out | apply below_alloc | apply pw_below_drewN | apply below_drew1) | exact HB.out | exact Below.refl _ _)) hb); clear HB; have HB := n0_; clear n0_; (try clear hb); (try clear hb2); (try clear hk); (try clear hi)) | (go_at_call 25; (with_reducible refine (pollardlaw09_awake.calls  true _ A19.out).mono ?_); rintro e w37 ⟨rfl, hb⟩; have n0_ := Aside0.mk (below_step (by repeat (first | (with_reducible first | exact HB.out | apply below_alloc | apply pw_below_drewN | apply below_drew1) | exact HB.out | exact Below.refl _ _)) hb); clear HB; have HB := n0_; clear n0_; (try clear hb); (try clear hb2); (try clear hk); (try clear hi)) | (go_at_call 22; (with_reducible refine (delta_Make.calls t137 t137 t143 _ A21.out).mono ?_); rintro e w38 ⟨rfl, hb⟩; have n0_ := Aside0.mk (below_step (by repeat (first | (with_reducible first | exact HB.out | apply below_alloc | apply pw_below_drewN | apply below_drew1) | exact HB.out | exact Below.refl _ _)) hb); clear HB; have HB := n0_; clear n0_; (try clear hb); (try clear hb2); (try clear hk); (try clear hi)) | (go_at_call 27; (with_reducible refine (pollardref02_Num.calls (IntKind.u64.wrap ((t137.size : Int))) t144 _ A22.out).mono ?_); rintro e w39 ⟨rfl, hb⟩; have n0_ := Aside0.mk (below_step (by repeat (first | (with_reducible first | exact HB.out | apply below_alloc | apply pw_below_drewN | apply below_drew1) | exact HB.out | exact Below.refl _ _)) hb); clear HB; have HB := n0_; clear n0_; (try clear hb); (try clear hb2); (try clear hk); (try clear hi)) | (go_at_call 27; (with_reducible refine (pollardref02_Num.calls (IntKind.u64.wrap ((t137.size : Int))) t144 _ A23.out).mono ?_); rintro e w40 ⟨rfl, hb⟩; have n0_ := Aside0.mk (below_step (by repeat (first | (with_reducible first | exact HB.out | apply below_alloc | apply pw_below_drewN | apply below_drew1) | exact HB.out | exact Below.refl _ _)) hb); clear HB; have HB := n0_; clear n0_; (try clear hb); (try clear hb2); (try clear hk); (try clear hi)) | (go_at_call 23; (with_reducible refine (pollardlaw09_few.calls a1 t146 _ A27.out).mono ?_); rintro e w' ⟨rfl, ⟨nd, rfl⟩⟩; (try first | exact ⟨rfl, _, World.drewN_drewN _ _ _⟩ | exact ⟨rfl, _, Eq.trans (World.drewN_drewN _ _ _) (congrArg (World.drewN _) (Nat.add_assoc _ _ _))⟩)) | (go_at_call 22; (with_reducible refine (delta_Make.calls (t137 ++ t146) t137 t147 _ A29.out).mono ?_); rintro e w41 ⟨rfl, hb⟩; have n0_ := Aside0.mk (below_step (by repeat (first | (with_reducible first | exact HB.out | apply below_alloc | apply pw_below_drewN | apply below_drew1) | exact HB.out | exact Below.refl _ _)) hb); clear HB; have HB := n0_; clear n0_; (try clear hb); (try clear hb2); (try clear hk); (try clear hi)) | (go_at_call 23; (with_reducible refine (pollardlaw09_few.calls a1 t146 _ A30.out).mono ?_); rintro e w' ⟨rfl, ⟨nd, rfl⟩⟩; (try first | exact ⟨rfl, _, World.drewN_drewN _ _ _⟩ | exact ⟨rfl, _, Eq.trans (World.drewN_drewN _ _ _) (congrArg (World.drewN _) (Nat.add_assoc _ _ _))⟩)) | (go_at_call 27; (with_reducible refine (pollardref02_Num.calls (IntKind.u64.wrap ((IntKind.u64.wrap ((t137.size : Int))) + (IntKind.u64.wrap ((t146.size : Int))))) t149 _ A31.out).mono ?_); rintro e w42 ⟨rfl, hb⟩; have n0_ := Aside0.mk (below_step (by repeat (first | (with_reducible first | exact HB.out | apply below_alloc | apply pw_below_drewN | apply below_drew1) | exact HB.out | exact Below.refl _ _)) hb); clear HB; have HB := n0_; clear n0_; (try clear hb); (try clear hb2); (try clear hk); (try clear hi)) | (go_at_call 27; (with_reducible refine (pollardref02_Num.calls (IntKind.u64.wrap ((t137.size : Int))) t144 _ A32.out).mono ?_); rintro e w43 ⟨rfl, hb⟩; have n0_ := Aside0.mk (below_step (by repeat (first | (with_reducible first | exact HB.out | apply below_alloc | apply pw_below_drewN | apply below_drew1) | exact HB.out | exact Below.refl _ _)) hb); clear HB; have HB := n0_; clear n0_; (try clear hb); (try clear hb2); (try clear hk); (try clear hi))))
                          go_ret
                          exact ⟨by first | rfl | (simp [errW_none, errW_some] <;> rfl) | (simp [*, errW_none, errW_some] <;> rfl), by repeat (first | (with_reducible first | exact HB.out | apply below_alloc | apply pw_below_drewN | apply below_drew1) | exact HB.out | exact Below.refl _ _)⟩
                        · rw [if_neg c34] at H
                          exact absurd H (by simp)
                      · rw [if_neg c33] at H
                        exact absurd H (by simp)
                    · rw [if_neg c28] at H
                      exact absurd H (by simp)
                  · rw [if_neg c26] at H
                    have c26b0 : (t143.toList == ((t144 ++ t144) ++ (t140 ++ t141)).toList) = false := beq_eq_false_iff_ne.mpr c26
                    have c26b1 : (t143.toList != ((t144 ++ t144) ++ (t140 ++ t141)).toList) = true := bne_iff_ne.mpr c26
                    obtain rfl := Option.some.inj H
                    go_wp2_with (first | (go_at_call 27; (with_reducible refine (pollardref02_Num.calls (IntKind.u64.wrap ((IntKind.u64.wrap (2 * (IntKind.u64.wrap ((t137.size : Int))))) - 1)) t140 _ A16.out).mono ?_); rintro e w44 ⟨rfl, hb⟩; have n0_ := Aside0.mk (below_step (by repeat (first | (with_reducible first | exact HB.out | apply below_alloc | apply pw_below_drewN | apply below_drew1) | exact HB.out | exact Below.refl _ _)) hb); clear HB; have HB := n0_; clear n0_; (try clear hb); (try clear hb2); (try clear hk); (try clear hi)) | (go_at_call 27; (with_reducible refine (pollardref02_Num.calls 0 t141 _ A17.out).mono ?_); rintro e w45 ⟨rfl, hb⟩; have n0_ := Aside0.mk (below_step (by repeat (first | (with_reducible first | exact HB.out | apply below_alloc | apply pw_below_drewN | apply below_drew1) | exact HB.out | exact Below.refl _ _)) hb); clear HB; have HB := n0_; clear n0_; (try clear hb); (try clear hb2); (try clear hk); (try clear hi)) | (go_at_call 25; (with_reducible refine (pollardlaw09_awake.calls  true _ A19.out).mono ?_); rintro e w46 ⟨rfl, hb⟩; have n0_ := Aside0.mk (below_step (by repeat (first | (with_reducible first | exact HB.out | apply below_alloc | apply pw_below_drewN | apply below_drew1) | exact HB.out | exact Below.refl _ _)) hb); clear HB; have HB := n0_; clear n0_; (try clear hb); (try clear hb2); (try clear hk); (try clear hi)) | (go_at_call 22; (with_reducible refine (delta_Make.calls t137 t137 t143 _ A21.out).mono ?_); rintro e w47 ⟨rfl, hb⟩; have n0_ := Aside0.mk (below_step (by repeat (first | (with_reducible first | exact HB.out | apply below_alloc | apply pw_below_drewN | apply below_drew1) | exact HB.out | exact Below.refl _ _)) hb); clear HB; have HB := n0_; clear n0_; (try clear hb); (try clear hb2); (try clear hk); (try clear hi)) | (go_at_call 27; (with_reducible refine (pollardref02_Num.calls (IntKind.u64.wrap ((t137.size : Int))) t144 _ A22.out).mono ?_); rintro e w48 ⟨rfl, hb⟩; have n0_ := Aside0.mk (below_step (by repeat (first | (with_reducible first | exact HB.out | apply below_alloc | apply pw_below_drewN | apply below_drew1) | exact HB.out | exact Below.refl _ _)) hb); clear HB; have HB := n0_; clear n0_; (try clear hb); (try clear hb2); (try clear hk); (try clear hi)) | (go_at_call 27; (with_reducible refine (pollardref02_Num.calls (IntKind.u64.wrap ((t137.size : Int))) t144 _ A23.out).mono ?_); rintro e w49 ⟨rfl, hb⟩; have n0_ := Aside0.mk (below_step (by repeat (first | (with_reducible first | exact HB.out | apply below_alloc | apply pw_below_drewN | apply below_drew1) | exact HB.out | exact Below.refl _ _)) hb); clear HB; have HB := n0_; clear n0_; (try clear hb); (try clear hb2); (try clear hk); (try clear hi)))
                    repeat (go_quiet (first | (go_at_call 27; (with_reducible refine (pollardref02_Num.calls (IntKind.u64.wrap ((IntKind.u64.wrap (2 * (IntKind.u64.wrap ((t137.size : Int))))) - 1)) t140 _ A16.out).mono ?_); rintro e w44 ⟨rfl, hb⟩; have n0_ := Aside0.mk (below_step (by repeat (first | (with_reducible first | exact HB.out | apply below_alloc | apply pw_below_drewN | apply below_drew1) | exact HB.out | exact Below.refl _ _)) hb); clear HB; have HB := n0_; clear n0_; (try clear hb); (try clear hb2); (try clear hk); (try clear hi)) | (go_at_call 27; (with_reducible refine (pollardref02_Num.calls 0 t141 _ A17.out).mono ?_); rintro e w45 ⟨rfl, hb⟩; have n0_ := Aside0.mk (below_step (by repeat (first | (with_reducible first | exact HB.out | apply below_alloc | apply pw_below_drewN | apply below_drew1) | exact HB.out | exact Below.refl _ _)) hb); clear HB; have HB := n0_; clear n0_; (try clear hb); (try clear hb2); (try clear hk); (try clear hi)) | (go_at_call 25; (with_reducible refine (pollardlaw09_awake.calls  true _ A19.out).mono ?_); rintro e w46 ⟨rfl, hb⟩; have n0_ := Aside0.mk (below_step (by repeat (first | (with_reducible first | exact HB.out | apply below_alloc | apply pw_below_drewN | apply below_drew1) | exact HB.out | exact Below.refl _ _)) hb); clear HB; have HB := n0_; clear n0_; (try clear hb); (try clear hb2); (try clear hk); (try clear hi)) | (go_at_call 22; (with_reducible refine (delta_Make.calls t137 t137 t143 _ A21.out).mono ?_); rintro e w47 ⟨rfl, hb⟩; have n0_ := Aside0.mk (below_step (by repeat (first | (with_reducible first | exact HB.out | apply below_alloc | apply pw_below_drewN | apply below_drew1) | exact HB.out | exact Below.refl _ _)) hb); clear HB; have HB := n0_; clear n0_; (try clear hb); (try clear hb2); (try clear hk); (try clear hi)) | (go_at_call 27; (with_reducible refine (pollardref02_Num.calls (IntKind.u64.wrap ((t137.size : Int))) t144 _ A22.out).mono ?_); rintro e w48 ⟨rfl, hb⟩; have n0_ := Aside0.mk (below_step (by repeat (first | (with_reducible first | exact HB.out | apply below_alloc | apply pw_below_drewN | apply below_drew1) | exact HB.out | exact Below.refl _ _)) hb); clear HB; have HB := n0_; clear n0_; (try clear hb); (try clear hb2); (try clear hk); (try clear hi)) | (go_at_call 27; (with_reducible refine (pollardref02_Num.calls (IntKind.u64.wrap ((t137.size : Int))) t144 _ A23.out).mono ?_); rintro e w49 ⟨rfl, hb⟩; have n0_ := Aside0.mk (below_step (by repeat (first | (with_reducible first | exact HB.out | apply below_alloc | apply pw_below_drewN | apply below_drew1) | exact HB.out | exact Below.refl _ _)) hb); clear HB; have HB := n0_; clear n0_; (try clear hb); (try clear hb2); (try clear hk); (try clear hi))); try go_wp2_with (first | (go_at_call 27; (with_reducible refine (pollardref02_Num.calls (IntKind.u64.wrap ((IntKind.u64.wrap (2 * (IntKind.u64.wrap ((t137.size : Int))))) - 1)) t140 _ A16.out).mono ?_); rintro e w44 ⟨rfl, hb⟩; have n0_ := Aside0.mk (below_step (by repeat (first | (with_reducible first | exact HB.out | apply below_alloc | apply pw_below_drewN | apply below_drew1) | exact HB.out | exact Below.refl _ _)) hb); clear HB; have HB := n0_; clear n0_; (try clear hb); (try clear hb2); (try clear hk); (try clear hi)) | (go_at_call 27; (with_reducible refine (pollardref02_Num.calls 0 t141 _ A17.out).mono ?_); rintro e w45 ⟨rfl, hb⟩; have n0_ := Aside0.mk (below_step (by repeat (first | (with_reducible first | exact HB.out | apply below_alloc | apply pw_below_drewN | apply below_drew1) | exact HB.out | exact Below.refl _ _)) hb); clear HB; have HB := n0_; clear n0_; (try clear hb); (try clear hb2); (try clear hk); (try clear hi)) | (go_at_call 25; (with_reducible refine (pollardlaw09_awake.calls  true _ A19.out).mono ?_); rintro e w46 ⟨rfl, hb⟩; have n0_ := Aside0.mk (below_step (by repeat (first | (with_reducible first | exact HB.out | apply below_alloc | apply pw_below_drewN | apply below_drew1) | exact HB.out | exact Below.refl _ _)) hb); clear HB; have HB := n0_; clear n0_; (try clear hb); (try clear hb2); (try clear hk); (try clear hi)) | (go_at_call 22; (with_reducible refine (delta_Make.calls t137 t137 t143 _ A21.out).mono ?_); rintro e w47 ⟨rfl, hb⟩; have n0_ := Aside0.mk (below_step (by repeat (first | (with_reducible first | exact HB.out | apply below_alloc | apply pw_below_drewN | apply below_drew1) | exact HB.out | exact Below.refl _ _)) hb); clear HB; have HB := n0_; clear n0_; (try clear hb); (try clear hb2); (try clear hk); (try clear hi)) | (go_at_call 27; (with_reducible refine (pollardref02_Num.calls (IntKind.u64.wrap ((t137.size : Int))) t144 _ A22.out).mono ?_); rintro e w48 ⟨rfl, hb⟩; have n0_ := Aside0.mk (below_step (by repeat (first | (with_reducible first | exact HB.out | apply below_alloc | apply pw_below_drewN | apply below_drew1) | exact HB.out | exact Below.refl _ _)) hb); clear HB; have HB := n0_; clear n0_; (try clear hb); (try clear hb2); (try clear hk); (try clear hi)) | (go_at_call 27; (with_reducible refine (pollardref02_Num.calls (IntKind.u64.wrap ((t137.size : Int))) t144 _ A23.out).mono ?_); rintro e w49 ⟨rfl, hb⟩; have n0_ := Aside0.mk (below_step (by repeat (first | (with_reducible first | exact HB.out | apply below_alloc | apply pw_below_drewN | apply below_drew1) | exact HB.out | exact Below.refl _ _)) hb); clear HB; have HB := n0_; clear n0_; (try clear hb); (try clear hb2); (try clear hk); (try clear hi))))
                    go_ret
                    exact ⟨by first | rfl | (simp [errW_none, errW_some] <;> rfl) | (simp [*, errW_none, errW_some] <;> rfl), by repeat (first | (with_reducible first | exact HB.out | apply below_alloc | apply pw_below_drewN | apply below_drew1) | exact HB.out | exact Below.refl _ _)⟩
                · rw [if_neg c25] at H
                  exact absurd H (by simp)
              · rw [if_neg c24] at H
                exact absurd H (by simp)
            · replace c20 := Bool.eq_false_iff.mpr c20
              subst c20
              have H1 : (some false) = some r := by rw [if_neg (show ¬ (false = true) by decide)] at H; exact H
              clear H
              have H := H1
              clear H1
              obtain rfl := Option.some.inj H
              go_wp2_with (first | (go_at_call 27; (with_reducible refine (pollardref02_Num.calls (IntKind.u64.wrap ((IntKind.u64.wrap (2 * (IntKind.u64.wrap ((t137.size : Int))))) - 1)) t140 _ A16.out).mono ?_); rintro e w50 ⟨rfl, hb⟩; have n0_ := Aside0.mk (below_step (by repeat (first | (with_reducible first | exact HB.out | apply below_alloc | apply pw_below_drewN | apply below_drew1) | exact HB.out | exact Below.refl _ _)) hb); clear HB; have HB := n0_; clear n0_; (try clear hb); (try clear hb2); (try clear hk); (try clear hi)) | (go_at_call 27; (with_reducible refine (pollardref02_Num.calls 0 t141 _ A17.out).mono ?_); rintro e w51 ⟨rfl, hb⟩; have n0_ := Aside0.mk (below_step (by repeat (first | (with_reducible first | exact HB.out | apply below_alloc | apply pw_below_drewN | apply below_drew1) | exact HB.out | exact Below.refl _ _)) hb); clear HB; have HB := n0_; clear n0_; (try clear hb); (try clear hb2); (try clear hk); (try clear hi)) | (go_at_call 25; (with_reducible refine (pollardlaw09_awake.calls  false _ A19.out).mono ?_); rintro e w52 ⟨rfl, hb⟩; have n0_ := Aside0.mk (below_step (by repeat (first | (with_reducible first | exact HB.out | apply below_alloc | apply pw_below_drewN | apply below_drew1) | exact HB.out | exact Below.refl _ _)) hb); clear HB; have HB := n0_; clear n0_; (try clear hb); (try clear hb2); (try clear hk); (try clear hi)))
              repeat (go_quiet (first | (go_at_call 27; (with_reducible refine (pollardref02_Num.calls (IntKind.u64.wrap ((IntKind.u64.wrap (2 * (IntKind.u64.wrap ((t137.size : Int))))) - 1)) t140 _ A16.out).mono ?_); rintro e w50 ⟨rfl, hb⟩; have n0_ := Aside0.mk (below_step (by repeat (first | (with_reducible first | exact HB.out | apply below_alloc | apply pw_below_drewN | apply below_drew1) | exact HB.out | exact Below.refl _ _)) hb); clear HB; have HB := n0_; clear n0_; (try clear hb); (try clear hb2); (try clear hk); (try clear hi)) | (go_at_call 27; (with_reducible refine (pollardref02_Num.calls 0 t141 _ A17.out).mono ?_); rintro e w51 ⟨rfl, hb⟩; have n0_ := Aside0.mk (below_step (by repeat (first | (with_reducible first | exact HB.out | apply below_alloc | apply pw_below_drewN | apply below_drew1) | exact HB.out | exact Below.refl _ _)) hb); clear HB; have HB := n0_; clear n0_; (try clear hb); (try clear hb2); (try clear hk); (try clear hi)) | (go_at_call 25; (with_reducible refine (pollardlaw09_awake.calls  false _ A19.out).mono ?_); rintro e w52 ⟨rfl, hb⟩; have n0_ := Aside0.mk (below_step (by repeat (first | (with_reducible first | exact HB.out | apply below_alloc | apply pw_below_drewN | apply below_drew1) | exact HB.out | exact Below.refl _ _)) hb); clear HB; have HB := n0_; clear n0_; (try clear hb); (try clear hb2); (try clear hk); (try clear hi))); try go_wp2_with (first | (go_at_call 27; (with_reducible refine (pollardref02_Num.calls (IntKind.u64.wrap ((IntKind.u64.wrap (2 * (IntKind.u64.wrap ((t137.size : Int))))) - 1)) t140 _ A16.out).mono ?_); rintro e w50 ⟨rfl, hb⟩; have n0_ := Aside0.mk (below_step (by repeat (first | (with_reducible first | exact HB.out | apply below_alloc | apply pw_below_drewN | apply below_drew1) | exact HB.out | exact Below.refl _ _)) hb); clear HB; have HB := n0_; clear n0_; (try clear hb); (try clear hb2); (try clear hk); (try clear hi)) | (go_at_call 27; (with_reducible refine (pollardref02_Num.calls 0 t141 _ A17.out).mono ?_); rintro e w51 ⟨rfl, hb⟩; have n0_ := Aside0.mk (below_step (by repeat (first | (with_reducible first | exact HB.out | apply below_alloc | apply pw_below_drewN | apply below_drew1) | exact HB.out | exact Below.refl _ _)) hb); clear HB; have HB := n0_; clear n0_; (try clear hb); (try clear hb2); (try clear hk); (try clear hi)) | (go_at_call 25; (with_reducible refine (pollardlaw09_awake.calls  false _ A19.out).mono ?_); rintro e w52 ⟨rfl, hb⟩; have n0_ := Aside0.mk (below_step (by repeat (first | (with_reducible first | exact HB.out | apply below_alloc | apply pw_below_drewN | apply below_drew1) | exact HB.out | exact Below.refl _ _)) hb); clear HB; have HB := n0_; clear n0_; (try clear hb); (try clear hb2); (try clear hk); (try clear hi))))
              go_ret
              exact ⟨by first | rfl | (simp [errW_none, errW_some] <;> rfl) | (simp [*, errW_none, errW_some] <;> rfl), by repeat (first | (with_reducible first | exact HB.out | apply below_alloc | apply pw_below_drewN | apply below_drew1) | exact HB.out | exact Below.refl _ _)⟩
          · rw [if_neg c18] at H
            exact absurd H (by simp)

/-- THE ONE PURE STATEMENT of pollardlaw09_DeltaSelf: yours. -/
def pollardlaw09_DeltaSelf.Pure : Prop := ∀ (a0 : ByteArray) (a1 : ByteArray), a0.size ≤ 140737488351232 → a1.size ≤ 140737488351232 → ∃ k, pollardlaw09_DeltaSelf.f k a0 a1 = some true
theorem pollardlaw09_DeltaSelf.walk (P : pollardlaw09_DeltaSelf.Pure) (a0 : ByteArray) (a1 : ByteArray) (w : World) (w0 : a0.size ≤ 140737488351232) (w1 : a1.size ≤ 140737488351232) :
    Calls Try.prog 8 #[.string a0, .string a1] w fun e w' => e = .returned (.bool true) ∧ Below w.heap.size w w' := by
  obtain ⟨k, h⟩ := P a0 a1 w0 w1
  refine (pollardlaw09_DeltaSelf.calls k a0 a1 true w h).mono ?_
  rintro e w' ⟨rfl, hd⟩
  exact ⟨rfl, hd⟩

end Go.Proofs.Ytjgbodgcbagbnaa.PD
