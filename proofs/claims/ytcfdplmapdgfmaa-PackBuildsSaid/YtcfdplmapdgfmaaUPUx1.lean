import Derived.Test.YtcfdplmapdgfmaaUPUx0
namespace Go.Proofs.Ytcfdplmapdgfmaa.PU
open Go.RowKit Go.Proofs.YtcfdplmapdgfmaaW.PrintWords Go.Proofs.YtcfdplmapdgfmaaW.PrintLast Go.Proofs.YtcfdplmapdgfmaaW.PrintMore
attribute [local go_sem] z13 z14 max_two min_two z15 z17 z18 z19   -- for this text's walks alone
set_option linter.unusedVariables false
set_option linter.unusedSimpArgs false
def z02.f (a0 : Int) : Option (ByteArray) := if 0 ≤ a0 ∧ a0 < 18446744073709551616 then some (Mine.sb (Mine.num a0.toNat)) else none
theorem z02.calls (a0 : Int) (r : ByteArray) (w : World) (h : z02.f a0 = some r) :
  Calls Try.prog 51 #[.int .u64 a0] w fun e w' => e = .returned (.string r) ∧ Below w.heap.size w w' := by
 unfold z02.f at h
 split at h
 ·rename_i h0
  simp only [Option.some.injEq] at h
  subst h
  obtain ⟨m, rfl⟩ := Int.eq_ofNat_of_zero_le h0.1
  exact Mine.refnum_calls m w (by omega)
 ·cases h
mutual
def z09.l0 : Nat → ByteArray → Int → Int → Option (Int)
 | 0, _, _, _ => none
 | k + 1, x0, x1, x5 => if x5 ≥ 0 then (z09.j1 k x0 x1 x5 (decide ((wrap64 (x1 - x5)) ≤ 32768))) else (z09.j1 k x0 x1 x5 false)
def z09.j1 : Nat → ByteArray → Int → Int → Bool → Option (Int)
 | 0, _, _, _, _ => none
 | k + 1, x0, x1, x5, x20 => if x20 = true then (if 0 ≤ x5 then (if x5 ≤ (wrap64 (x5 + 4)) then (if (wrap64 (x5 + 4)) ≤ (x0.size : Int) then (if 0 ≤ x1 then (if x1 ≤ (wrap64 (x1 + 4)) then (if (wrap64 (x1 + 4)) ≤ (x0.size : Int) then (if (x0.extract (x5 : Int).toNat ((wrap64 (x5 + 4)) : Int).toNat).toList = (x0.extract (x1 : Int).toNat ((wrap64 (x1 + 4)) : Int).toNat).toList then (some (wrap64 (x1 - x5))) else (z09.l0 k x0 x1 (wrap64 (x5 - 1)))) else (none)) else (none)) else (none)) else (none)) else (none)) else (none)) else (some 0)
end
def z09.f (k : Nat) (a0 : ByteArray) (a1 : Int) : Option (Int) := if (wrap64 (a1 + 4)) > (a0.size : Int) then (some 0) else (z09.l0 k a0 a1 (wrap64 (a1 - 1)))
theorem z09.mono_l : ∀ k, (∀ y0 y1 y2, LeO (z09.l0 k y0 y1 y2) (z09.l0 (k + 1) y0 y1 y2)) ∧ (∀ y0 y1 y2 y3, LeO (z09.j1 k y0 y1 y2 y3) (z09.j1 (k + 1) y0 y1 y2 y3))
 | 0 => ⟨fun _ _ _ r h => by simp [z09.l0] at h, fun _ _ _ _ r h => by simp [z09.j1] at h⟩
 | k + 1 => by
  obtain ⟨ih0, ih1⟩ := z09.mono_l k
  refine ⟨?_, ?_⟩
  ·intro y0 y1 y2
   unfold z09.l0
   repeat' first
   | (with_reducible exact ih0 _ _ _)
   | (with_reducible exact ih1 _ _ _ _)
   | (with_reducible exact LeO.refl _)
   | (with_reducible exact LeO.none _)
   | (with_reducible refine LeO.ite ?_ ?_)
   | (with_reducible refine LeO.bind ?_ (fun _ => ?_))
   | exact ih0 _ _ _
   | exact ih1 _ _ _ _
   | exact LeO.none _
   | refine LeO.ite ?_ ?_
   | refine LeO.bind ?_ (fun _ => ?_)
  ·intro y0 y1 y2 y3
   unfold z09.j1
   repeat' first
   | (with_reducible exact ih0 _ _ _)
   | (with_reducible exact ih1 _ _ _ _)
   | (with_reducible exact LeO.refl _)
   | (with_reducible exact LeO.none _)
   | (with_reducible refine LeO.ite ?_ ?_)
   | (with_reducible refine LeO.bind ?_ (fun _ => ?_))
   | exact ih0 _ _ _
   | exact ih1 _ _ _ _
   | exact LeO.none _
   | refine LeO.ite ?_ ?_
   | refine LeO.bind ?_ (fun _ => ?_)
theorem z09.mono : ∀ a0 a1 k, LeO (z09.f k a0 a1) (z09.f (k + 1) a0 a1) := by
 intro a0 a1 k
 obtain ⟨ih0, ih1⟩ := z09.mono_l k
 unfold z09.f
 repeat' first
   | (with_reducible exact ih0 _ _ _)
   | (with_reducible exact ih1 _ _ _ _)
   | (with_reducible exact LeO.refl _)
   | (with_reducible exact LeO.none _)
   | (with_reducible refine LeO.ite ?_ ?_)
   | (with_reducible refine LeO.bind ?_ (fun _ => ?_))
   | exact ih0 _ _ _
   | exact ih1 _ _ _ _
   | exact LeO.none _
   | refine LeO.ite ?_ ?_
   | refine LeO.bind ?_ (fun _ => ?_)
set_option maxHeartbeats 8000000 in
set_option maxRecDepth 100000 in
theorem z09.calls (k : Nat) (a0 : ByteArray) (a1 : Int) (r : Int) (w : World) (h : z09.f k a0 a1 = some r) :
  Calls Try.prog 103 #[.string a0, .int .i64 a1] w fun e w' => e = .returned (.int .i64 r) ∧ Drawn0 w w' := by
 have H : (if (wrap64 (a1 + 4)) > (a0.size : Int) then (some 0) else (z09.l0 k a0 a1 (wrap64 (a1 - 1)))) = some r := h
 clear h
 by_cases c3 : (wrap64 (a1 + 4)) > (a0.size : Int)
 ·rw [if_pos c3] at H
  have c3b0 : decide ((a0.size : Int) < (wrap64 (a1 + 4))) = true := decide_eq_true c3
  clear c3
  obtain rfl := Option.some.inj H
  go_enter Try.func103, Try.ntmps103
  go_wp2
  repeat (go_quiet (fail); try go_wp2)
  go_ret
  exact ⟨by first | rfl | (simp; done) | (simp [*]; done), by repeat (first | exact Drawn0.refl _ | apply Drawn0.step)⟩
 ·rw [if_neg c3] at H
  have c3b0 : decide ((a0.size : Int) < (wrap64 (a1 + 4))) = false := decide_eq_false c3
  clear c3
  have H' := z00.mk H
  clear H
  go_enter Try.func103, Try.ntmps103
  go_wp2
  repeat (go_quiet (fail); try go_wp2)
  go_loopg [5] k (fun kq v5 w' => ∃ (x5_1 : Int), v5 = .int .i64 x5_1 ∧ z00 (z09.l0 kq a0 a1 x5_1 = some r) ∧ z00 (kq ≤ k) ∧ Drawn0 w w')
  case atStart => exact ⟨(wrap64 (a1 - 1)), (by first | rfl | (simp; done) | (simp [*]; done)), H', ⟨Nat.le_refl _⟩, by repeat (first | exact Drawn0.refl _ | apply Drawn0.step)⟩
  case round =>
   clear H'
   try clear c1
   try clear p2
   try clear c3
   try clear c3b0
   obtain ⟨x5_1, rfl, HA, HK1, ⟨m1, rfl⟩⟩ := hrel
   cases gk with
   | zero => exact absurd HA.out (by simp [z09.l0])
   | succ k1 =>
    have H := HA.out
    clear HA
    simp only [z09.l0] at H
    have HC4 := z00.mk H
    clear H
    go_upto_region 4 with (fail)
    repeat (go_quiet (fail); go_upto_region 4 with (fail))
    go_cut [20] (fun v20 wc => ∃ (kq : Nat) (x20_3 : Bool), v20 = .bool x20_3 ∧ z00 (z09.j1 kq a0 a1 x5_1 x20_3 = some r) ∧ z00 (kq ≤ k1) ∧ Drawn0 w wc)
    case first =>
     have H := HC4.out
     clear HC4
     by_cases c5 : x5_1 ≥ 0
     ·rw [if_pos c5] at H
      have c5b0 : decide (0 ≤ x5_1) = true := decide_eq_true c5
      clear c5
      (first | rw [c5b0] | (simp only [i64_w, i32_w]; rw [c5b0]) | skip)
      have H' := z00.mk H
      clear H
      go_wp2
      repeat (go_quiet (fail); try go_wp2)
      go_meet
      case rel => exact ⟨_, (decide ((wrap64 (a1 - x5_1)) ≤ 32768)), (by first | rfl | (simp; done) | (simp [*]; done)), H', ⟨by have := HK1.out; first | omega | exact Nat.le_refl _⟩, by repeat (first | exact Drawn0.refl _ | apply Drawn0.step)⟩
     ·rw [if_neg c5] at H
      have c5b0 : decide (0 ≤ x5_1) = false := decide_eq_false c5
      clear c5
      (first | rw [c5b0] | (simp only [i64_w, i32_w]; rw [c5b0]) | skip)
      have H' := z00.mk H
      clear H
      go_wp2
      repeat (go_quiet (fail); try go_wp2)
      go_meet
      case rel => exact ⟨_, (false), (by first | rfl | (simp; done) | (simp [*]; done)), H', ⟨by have := HK1.out; first | omega | exact Nat.le_refl _⟩, by repeat (first | exact Drawn0.refl _ | apply Drawn0.step)⟩
    case rest =>
     clear HC4
     try clear c1
     try clear p2
     try clear c3
     try clear c3b0
     try clear c5
     try clear c5b0
     try clear p2
     obtain ⟨kq, x20_3, rfl, HA, HJ3, ⟨mc3, rfl⟩⟩ := hcut
     cases kq with
     | zero => exact absurd HA.out (by simp [z09.j1])
     | succ kj3 =>
      have H := HA.out
      clear HA
      simp only [z09.j1] at H
      by_cases c6 : x20_3 = true
      ·subst c6
       have H1 : (if 0 ≤ x5_1 then (if x5_1 ≤ (wrap64 (x5_1 + 4)) then (if (wrap64 (x5_1 + 4)) ≤ (a0.size : Int) then (if 0 ≤ a1 then (if a1 ≤ (wrap64 (a1 + 4)) then (if (wrap64 (a1 + 4)) ≤ (a0.size : Int) then (if (a0.extract (x5_1 : Int).toNat ((wrap64 (x5_1 + 4)) : Int).toNat).toList = (a0.extract (a1 : Int).toNat ((wrap64 (a1 + 4)) : Int).toNat).toList then (some (wrap64 (a1 - x5_1))) else (z09.l0 kj3 a0 a1 (wrap64 (x5_1 - 1)))) else (none)) else (none)) else (none)) else (none)) else (none)) else (none)) = some r := by rw [if_pos rfl] at H; exact H
       clear H
       have H := H1
       clear H1
       by_cases c7 : 0 ≤ x5_1
       ·rw [if_pos c7] at H
        have c7b0 := eq_true c7
        have c7b1 : decide (0 ≤ x5_1) = true := decide_eq_true c7
        clear c7
        by_cases c8 : x5_1 ≤ (wrap64 (x5_1 + 4))
        ·rw [if_pos c8] at H
         have c8b0 := eq_true c8
         have c8b1 : decide (x5_1 ≤ (wrap64 (x5_1 + 4))) = true := decide_eq_true c8
         by_cases c9 : (wrap64 (x5_1 + 4)) ≤ (a0.size : Int)
         ·rw [if_pos c9] at H
          have c9b0 := eq_true c9
          have c9b1 : decide ((wrap64 (x5_1 + 4)) ≤ (a0.size : Int)) = true := decide_eq_true c9
          by_cases c10 : 0 ≤ a1
          ·rw [if_pos c10] at H
           have c10b0 := eq_true c10
           have c10b1 : decide (0 ≤ a1) = true := decide_eq_true c10
           clear c10
           by_cases c11 : a1 ≤ (wrap64 (a1 + 4))
           ·rw [if_pos c11] at H
            have c11b0 := eq_true c11
            have c11b1 : decide (a1 ≤ (wrap64 (a1 + 4))) = true := decide_eq_true c11
            by_cases c12 : (wrap64 (a1 + 4)) ≤ (a0.size : Int)
            ·rw [if_pos c12] at H
             have c12b0 := eq_true c12
             have c12b1 : decide ((wrap64 (a1 + 4)) ≤ (a0.size : Int)) = true := decide_eq_true c12
             by_cases c13 : (a0.extract (x5_1 : Int).toNat ((wrap64 (x5_1 + 4)) : Int).toNat).toList = (a0.extract (a1 : Int).toNat ((wrap64 (a1 + 4)) : Int).toNat).toList
             ·rw [if_pos c13] at H
              have c13b0 : ((a0.extract (x5_1 : Int).toNat ((wrap64 (x5_1 + 4)) : Int).toNat).toList == (a0.extract (a1 : Int).toNat ((wrap64 (a1 + 4)) : Int).toNat).toList) = true := beq_iff_eq.mpr c13
              have c13b1 : ((a0.extract (x5_1 : Int).toNat ((wrap64 (x5_1 + 4)) : Int).toNat).toList != (a0.extract (a1 : Int).toNat ((wrap64 (a1 + 4)) : Int).toNat).toList) = false := bne_eq_false_iff_eq.mpr c13
              clear c13
              obtain rfl := Option.some.inj H
              go_wp2
              repeat (go_quiet (fail); try go_wp2)
              go_ret
              exact ⟨by first | rfl | (simp; done) | (simp [*]; done), by repeat (first | exact Drawn0.refl _ | apply Drawn0.step)⟩
             ·rw [if_neg c13] at H
              have c13b0 : ((a0.extract (x5_1 : Int).toNat ((wrap64 (x5_1 + 4)) : Int).toNat).toList == (a0.extract (a1 : Int).toNat ((wrap64 (a1 + 4)) : Int).toNat).toList) = false := beq_eq_false_iff_ne.mpr c13
              have c13b1 : ((a0.extract (x5_1 : Int).toNat ((wrap64 (x5_1 + 4)) : Int).toNat).toList != (a0.extract (a1 : Int).toNat ((wrap64 (a1 + 4)) : Int).toNat).toList) = true := bne_iff_ne.mpr c13
              have H' := z00.mk H
              clear H
              go_wp2
              repeat (go_quiet (fail); try go_wp2)
              go_roundg kj3
              case measure => have := HK1.out; have := HJ3.out; omega
              case rel => exact ⟨(wrap64 (x5_1 - 1)), (by first | rfl | (simp; done) | (simp [*]; done)), H', ⟨by have := HK1.out; have := HJ3.out; omega⟩, by repeat (first | exact Drawn0.refl _ | apply Drawn0.step)⟩
            ·rw [if_neg c12] at H
             exact absurd H (by simp)
           ·rw [if_neg c11] at H
            exact absurd H (by simp)
          ·rw [if_neg c10] at H
           exact absurd H (by simp)
         ·rw [if_neg c9] at H
          exact absurd H (by simp)
        ·rw [if_neg c8] at H
         exact absurd H (by simp)
       ·rw [if_neg c7] at H
        exact absurd H (by simp)
      ·replace c6 := Bool.eq_false_iff.mpr c6
       subst c6
       have H1 : (some 0) = some r := by rw [if_neg (show ¬ (false = true) by decide)] at H; exact H
       clear H
       have H := H1
       clear H1
       obtain rfl := Option.some.inj H
       go_wp2
       repeat (go_quiet (fail); try go_wp2)
       go_ret
       exact ⟨by first | rfl | (simp; done) | (simp [*]; done), by repeat (first | exact Drawn0.refl _ | apply Drawn0.step)⟩
mutual
def z08.l0 : Nat → ByteArray → ByteArray → ByteArray → Int → Option (ByteArray)
 | 0, _, _, _, _ => none
 | k + 1, x0, x3, x4, x5 => if x5 < (x0.size : Int) then ((z09.f k x0 x5).bind fun t103 => (if t103 = 0 then (if 0 ≤ x5 then (if x5 ≤ (wrap64 (x5 + 1)) then (if (wrap64 (x5 + 1)) ≤ (x0.size : Int) then (if x4.size + (x0.extract (x5 : Int).toNat ((wrap64 (x5 + 1)) : Int).toNat).size ≤ 9223372036854775807 then (z08.l0 k x0 x3 (x4 ++ (x0.extract (x5 : Int).toNat ((wrap64 (x5 + 1)) : Int).toNat)) (wrap64 (x5 + 1))) else (none)) else (none)) else (none)) else (none)) else (z08.l1 k x0 x3 x4 x5 t103 4))) else (if x4.toList = ([] : List UInt8) then (some x3) else ((z02.f (IntKind.u64.wrap ((x4.size : Int)))).bind fun t102 => (if t102.size + x4.size ≤ 9223372036854775807 then (if x3.size + (t102 ++ x4).size ≤ 9223372036854775807 then (some (x3 ++ (t102 ++ x4))) else (none)) else (none))))
def z08.l1 : Nat → ByteArray → ByteArray → ByteArray → Int → Int → Int → Option (ByteArray)
 | 0, _, _, _, _, _, _ => none
 | k + 1, x0, x3, x4, x5, x6, x7 => if (wrap64 (x5 + x7)) < (x0.size : Int) then (if 0 ≤ (wrap64 (x5 + x7)) then (if 0 ≤ (wrap64 ((wrap64 (x5 + x7)) - x6)) then (if (wrap64 ((wrap64 (x5 + x7)) - x6)) < (x0.size : Int) then (if (bt x0 (wrap64 (x5 + x7))) = (bt x0 (wrap64 ((wrap64 (x5 + x7)) - x6))) then (z08.l1 k x0 x3 x4 x5 x6 (wrap64 (x7 + 1))) else ((z02.f (IntKind.u64.wrap ((x4.size : Int)))).bind fun t104 => (if t104.size + x4.size ≤ 9223372036854775807 then ((z02.f (IntKind.u64.wrap (x6))).bind fun t105 => (if (t104 ++ x4).size + t105.size ≤ 9223372036854775807 then ((z02.f (IntKind.u64.wrap (wrap64 (x7 - 4)))).bind fun t106 => (if ((t104 ++ x4) ++ t105).size + t106.size ≤ 9223372036854775807 then (if x3.size + (((t104 ++ x4) ++ t105) ++ t106).size ≤ 9223372036854775807 then (z08.l0 k x0 (x3 ++ (((t104 ++ x4) ++ t105) ++ t106)) (⟨#[]⟩ : ByteArray) (wrap64 (x5 + x7))) else (none)) else (none))) else (none))) else (none)))) else (none)) else (none)) else (none)) else ((z02.f (IntKind.u64.wrap ((x4.size : Int)))).bind fun t107 => (if t107.size + x4.size ≤ 9223372036854775807 then ((z02.f (IntKind.u64.wrap (x6))).bind fun t108 => (if (t107 ++ x4).size + t108.size ≤ 9223372036854775807 then ((z02.f (IntKind.u64.wrap (wrap64 (x7 - 4)))).bind fun t109 => (if ((t107 ++ x4) ++ t108).size + t109.size ≤ 9223372036854775807 then (if x3.size + (((t107 ++ x4) ++ t108) ++ t109).size ≤ 9223372036854775807 then (z08.l0 k x0 (x3 ++ (((t107 ++ x4) ++ t108) ++ t109)) (⟨#[]⟩ : ByteArray) (wrap64 (x5 + x7))) else (none)) else (none))) else (none))) else (none)))
end
def z08.f (k : Nat) (a0 : ByteArray) : Option (ByteArray) := (z02.f (IntKind.u64.wrap ((a0.size : Int)))).bind fun t101 => (z08.l0 k a0 t101 (⟨#[]⟩ : ByteArray) 0)
theorem z08.mono_l : ∀ k, (∀ y0 y1 y2 y3, LeO (z08.l0 k y0 y1 y2 y3) (z08.l0 (k + 1) y0 y1 y2 y3)) ∧ (∀ y0 y1 y2 y3 y4 y5, LeO (z08.l1 k y0 y1 y2 y3 y4 y5) (z08.l1 (k + 1) y0 y1 y2 y3 y4 y5))
 | 0 => ⟨fun _ _ _ _ r h => by simp [z08.l0] at h, fun _ _ _ _ _ _ r h => by simp [z08.l1] at h⟩
 | k + 1 => by
  obtain ⟨ih0, ih1⟩ := z08.mono_l k
  refine ⟨?_, ?_⟩
  ·intro y0 y1 y2 y3
   unfold z08.l0
   repeat' first
   | (with_reducible exact ih0 _ _ _ _)
   | (with_reducible exact ih1 _ _ _ _ _ _)
   | (with_reducible exact z09.mono _ _ _)
   | (with_reducible exact LeO.refl _)
   | (with_reducible exact LeO.none _)
   | (with_reducible refine LeO.ite ?_ ?_)
   | (with_reducible refine LeO.bind ?_ (fun _ => ?_))
   | exact ih0 _ _ _ _
   | exact ih1 _ _ _ _ _ _
   | exact z09.mono _ _ _
   | exact LeO.none _
   | refine LeO.ite ?_ ?_
   | refine LeO.bind ?_ (fun _ => ?_)
  ·intro y0 y1 y2 y3 y4 y5
   unfold z08.l1
   repeat' first
   | (with_reducible exact ih0 _ _ _ _)
   | (with_reducible exact ih1 _ _ _ _ _ _)
   | (with_reducible exact z09.mono _ _ _)
   | (with_reducible exact LeO.refl _)
   | (with_reducible exact LeO.none _)
   | (with_reducible refine LeO.ite ?_ ?_)
   | (with_reducible refine LeO.bind ?_ (fun _ => ?_))
   | exact ih0 _ _ _ _
   | exact ih1 _ _ _ _ _ _
   | exact z09.mono _ _ _
   | exact LeO.none _
   | refine LeO.ite ?_ ?_
   | refine LeO.bind ?_ (fun _ => ?_)
theorem z08.mono : ∀ a0 k, LeO (z08.f k a0) (z08.f (k + 1) a0) := by
 intro a0 k
 obtain ⟨ih0, ih1⟩ := z08.mono_l k
 unfold z08.f
 repeat' first
   | (with_reducible exact ih0 _ _ _ _)
   | (with_reducible exact ih1 _ _ _ _ _ _)
   | (with_reducible exact z09.mono _ _ _)
   | (with_reducible exact LeO.refl _)
   | (with_reducible exact LeO.none _)
   | (with_reducible refine LeO.ite ?_ ?_)
   | (with_reducible refine LeO.bind ?_ (fun _ => ?_))
   | exact ih0 _ _ _ _
   | exact ih1 _ _ _ _ _ _
   | exact z09.mono _ _ _
   | exact LeO.none _
   | refine LeO.ite ?_ ?_
   | refine LeO.bind ?_ (fun _ => ?_)
set_option maxHeartbeats 8000000 in
set_option maxRecDepth 100000 in
theorem z08.calls (k : Nat) (a0 : ByteArray) (r : ByteArray) (w : World) (h : z08.f k a0 = some r) :
  Calls Try.prog 91 #[.string a0] w fun e w' => e = .returned (.string r) ∧ Below w.heap.size w w' := by
 have HB := z00.mk (Below.refl w.heap.size w)
 have H : ((z02.f (IntKind.u64.wrap ((a0.size : Int)))).bind fun t101 => (z08.l0 k a0 t101 (⟨#[]⟩ : ByteArray) 0)) = some r := h
 clear h
 replace H := Option.bind_eq_some_iff.mp H
 obtain ⟨t101, A20, H⟩ := H
 replace H : (z08.l0 k a0 t101 (⟨#[]⟩ : ByteArray) 0) = some r := H
 have A2 := z00.mk A20
 clear A20
 have H' := z00.mk H
 clear H
 go_enter Try.func91, Try.ntmps91
 go_wp2_with (first | (go_at_call 51; (with_reducible refine (z02.calls (IntKind.u64.wrap ((a0.size : Int))) t101 _ A2.out).mono ?_); rintro e w3 ⟨rfl, hb⟩; have n0_ := z00.mk (z07 (by repeat (first | (with_reducible first | exact HB.out | apply z03 | apply z05 | apply z06) | exact HB.out | exact Below.refl _ _)) hb); clear HB; have HB := n0_; clear n0_; (try clear hb); (try clear hb2); (try clear hk); (try clear hi)))
 repeat (go_quiet (first | (go_at_call 51; (with_reducible refine (z02.calls (IntKind.u64.wrap ((a0.size : Int))) t101 _ A2.out).mono ?_); rintro e w3 ⟨rfl, hb⟩; have n0_ := z00.mk (z07 (by repeat (first | (with_reducible first | exact HB.out | apply z03 | apply z05 | apply z06) | exact HB.out | exact Below.refl _ _)) hb); clear HB; have HB := n0_; clear n0_; (try clear hb); (try clear hb2); (try clear hk); (try clear hi))); try go_wp2_with (first | (go_at_call 51; (with_reducible refine (z02.calls (IntKind.u64.wrap ((a0.size : Int))) t101 _ A2.out).mono ?_); rintro e w3 ⟨rfl, hb⟩; have n0_ := z00.mk (z07 (by repeat (first | (with_reducible first | exact HB.out | apply z03 | apply z05 | apply z06) | exact HB.out | exact Below.refl _ _)) hb); clear HB; have HB := n0_; clear n0_; (try clear hb); (try clear hb2); (try clear hk); (try clear hi))))
 go_loopg [3, 4, 5] k (fun kq v3 v4 v5 w' => ∃ (x3_1 : ByteArray) (x4_1 : ByteArray) (x5_1 : Int), v3 = .string x3_1 ∧ v4 = .string x4_1 ∧ v5 = .int .i64 x5_1 ∧ z00 (z08.l0 kq a0 x3_1 x4_1 x5_1 = some r) ∧ z00 (kq ≤ k) ∧ z00 (Below w.heap.size w w'))
 case atStart => exact ⟨(t101), ((⟨#[]⟩ : ByteArray)), (0), (by first | rfl | (simp; done) | (simp [*]; done)), (by first | rfl | (simp; done) | (simp [*]; done)), (by first | rfl | (simp; done) | (simp [*]; done)), H', ⟨Nat.le_refl _⟩, ⟨by repeat (first | (with_reducible first | exact HB.out | apply z03 | apply z05 | apply z06) | exact HB.out | exact Below.refl _ _)⟩⟩
 case round =>
  clear H'
  try clear p2
  obtain ⟨x3_1, x4_1, x5_1, rfl, rfl, rfl, HA, HK1, HB⟩ := hrel
  cases gk with
  | zero => exact absurd HA.out (by simp [z08.l0])
  | succ k1 =>
   have H := HA.out
   clear HA
   simp only [z08.l0] at H
   by_cases c4 : x5_1 < (a0.size : Int)
   ·rw [if_pos c4] at H
    have c4b0 : decide (x5_1 < (a0.size : Int)) = true := decide_eq_true c4
    clear c4
    replace H := Option.bind_eq_some_iff.mp H
    obtain ⟨t103, A50, H⟩ := H
    replace H : (if t103 = 0 then (if 0 ≤ x5_1 then (if x5_1 ≤ (wrap64 (x5_1 + 1)) then (if (wrap64 (x5_1 + 1)) ≤ (a0.size : Int) then (if x4_1.size + (a0.extract (x5_1 : Int).toNat ((wrap64 (x5_1 + 1)) : Int).toNat).size ≤ 9223372036854775807 then (z08.l0 k1 a0 x3_1 (x4_1 ++ (a0.extract (x5_1 : Int).toNat ((wrap64 (x5_1 + 1)) : Int).toNat)) (wrap64 (x5_1 + 1))) else (none)) else (none)) else (none)) else (none)) else (z08.l1 k1 a0 x3_1 x4_1 x5_1 t103 4)) = some r := H
    have A5 := z00.mk A50
    clear A50
    by_cases c6 : t103 = 0
    ·rw [if_pos c6] at H
     have c6b0 : (t103 == 0) = true := beq_iff_eq.mpr c6
     have c6b1 : (t103 != 0) = false := bne_eq_false_iff_eq.mpr c6
     clear c6
     by_cases c7 : 0 ≤ x5_1
     ·rw [if_pos c7] at H
      have c7b0 := eq_true c7
      have c7b1 : decide (0 ≤ x5_1) = true := decide_eq_true c7
      clear c7
      by_cases c8 : x5_1 ≤ (wrap64 (x5_1 + 1))
      ·rw [if_pos c8] at H
       have c8b0 := eq_true c8
       have c8b1 : decide (x5_1 ≤ (wrap64 (x5_1 + 1))) = true := decide_eq_true c8
       by_cases c9 : (wrap64 (x5_1 + 1)) ≤ (a0.size : Int)
       ·rw [if_pos c9] at H
        have c9b0 := eq_true c9
        have c9b1 : decide ((wrap64 (x5_1 + 1)) ≤ (a0.size : Int)) = true := decide_eq_true c9
        by_cases c10 : x4_1.size + (a0.extract (x5_1 : Int).toNat ((wrap64 (x5_1 + 1)) : Int).toNat).size ≤ 9223372036854775807
        ·rw [if_pos c10] at H
         have c10b0 := eq_true c10
         have c10b1 : decide (x4_1.size + (a0.extract (x5_1 : Int).toNat ((wrap64 (x5_1 + 1)) : Int).toNat).size ≤ 9223372036854775807) = true := decide_eq_true c10
         try have c10y : (9223372036854775807 < x4_1.size + (((wrap64 (x5_1 + 1))).toNat - x5_1.toNat)) = False := eq_false (by have h_ := c10; have h2_ := of_decide_eq_true c9b1; simp only [ByteArray.size_extract] at h_; omega)
         try have c10w : (9223372036854775807 < x4_1.size + (min ((wrap64 (x5_1 + 1))).toNat a0.size - x5_1.toNat)) = False := eq_false (by have h_ := c10; have h2_ := of_decide_eq_true c9b1; simp only [ByteArray.size_extract] at h_; omega)
         try have c10b2 : (9223372036854775807 < x4_1.size + (a0.extract (x5_1 : Int).toNat ((wrap64 (x5_1 + 1)) : Int).toNat).size) = False := eq_false (Nat.not_lt.2 c10)
         clear c10
         have H' := z00.mk H
         clear H
         go_wp2_with (first | (go_at_call 103; (with_reducible refine (z09.calls k1 a0 x5_1 t103 _ A5.out).mono ?_); rintro e w' ⟨rfl, ⟨nd, rfl⟩⟩; (try first | exact ⟨rfl, _, World.drewN_drewN _ _ _⟩ | exact ⟨rfl, _, Eq.trans (World.drewN_drewN _ _ _) (congrArg (World.drewN _) (Nat.add_assoc _ _ _))⟩)))
         repeat (go_quiet (first | (go_at_call 103; (with_reducible refine (z09.calls k1 a0 x5_1 t103 _ A5.out).mono ?_); rintro e w' ⟨rfl, ⟨nd, rfl⟩⟩; (try first | exact ⟨rfl, _, World.drewN_drewN _ _ _⟩ | exact ⟨rfl, _, Eq.trans (World.drewN_drewN _ _ _) (congrArg (World.drewN _) (Nat.add_assoc _ _ _))⟩))); try go_wp2_with (first | (go_at_call 103; (with_reducible refine (z09.calls k1 a0 x5_1 t103 _ A5.out).mono ?_); rintro e w' ⟨rfl, ⟨nd, rfl⟩⟩; (try first | exact ⟨rfl, _, World.drewN_drewN _ _ _⟩ | exact ⟨rfl, _, Eq.trans (World.drewN_drewN _ _ _) (congrArg (World.drewN _) (Nat.add_assoc _ _ _))⟩))))
         go_roundg k1
         case measure => have := HK1.out; omega
         case rel => exact ⟨(x3_1), (x4_1 ++ (a0.extract (x5_1 : Int).toNat ((wrap64 (x5_1 + 1)) : Int).toNat)), (wrap64 (x5_1 + 1)), (by first | rfl | (simp; done) | (simp [*]; done)), (by first | rfl | (simp; done) | (simp [*]; done)), (by first | rfl | (simp; done) | (simp [*]; done)), H', ⟨by have := HK1.out; omega⟩, ⟨by repeat (first | (with_reducible first | exact HB.out | apply z03 | apply z05 | apply z06) | exact HB.out | exact Below.refl _ _)⟩⟩
        ·rw [if_neg c10] at H
         exact absurd H (by simp)
       ·rw [if_neg c9] at H
        exact absurd H (by simp)
      ·rw [if_neg c8] at H
       exact absurd H (by simp)
     ·rw [if_neg c7] at H
      exact absurd H (by simp)
    ·rw [if_neg c6] at H
     have c6b0 : (t103 == 0) = false := beq_eq_false_iff_ne.mpr c6
     have c6b1 : (t103 != 0) = true := bne_iff_ne.mpr c6
     have H' := z00.mk H
     clear H
     go_wp2_with (first | (go_at_call 103; (with_reducible refine (z09.calls k1 a0 x5_1 t103 _ A5.out).mono ?_); rintro e w' ⟨rfl, ⟨nd, rfl⟩⟩; (try first | exact ⟨rfl, _, World.drewN_drewN _ _ _⟩ | exact ⟨rfl, _, Eq.trans (World.drewN_drewN _ _ _) (congrArg (World.drewN _) (Nat.add_assoc _ _ _))⟩)))
     repeat (go_quiet (first | (go_at_call 103; (with_reducible refine (z09.calls k1 a0 x5_1 t103 _ A5.out).mono ?_); rintro e w' ⟨rfl, ⟨nd, rfl⟩⟩; (try first | exact ⟨rfl, _, World.drewN_drewN _ _ _⟩ | exact ⟨rfl, _, Eq.trans (World.drewN_drewN _ _ _) (congrArg (World.drewN _) (Nat.add_assoc _ _ _))⟩))); try go_wp2_with (first | (go_at_call 103; (with_reducible refine (z09.calls k1 a0 x5_1 t103 _ A5.out).mono ?_); rintro e w' ⟨rfl, ⟨nd, rfl⟩⟩; (try first | exact ⟨rfl, _, World.drewN_drewN _ _ _⟩ | exact ⟨rfl, _, Eq.trans (World.drewN_drewN _ _ _) (congrArg (World.drewN _) (Nat.add_assoc _ _ _))⟩))))
     go_loopg [7] k1 (fun kq v7 w' => ∃ (x7_2 : Int), v7 = .int .i64 x7_2 ∧ z00 (z08.l1 kq a0 x3_1 x4_1 x5_1 t103 x7_2 = some r) ∧ z00 (kq ≤ k1) ∧ z00 (Below w.heap.size w w'))
     case atStart => exact ⟨(4), (by first | rfl | (simp; done) | (simp [*]; done)), H', ⟨Nat.le_refl _⟩, ⟨by repeat (first | (with_reducible first | exact HB.out | apply z03 | apply z05 | apply z06) | exact HB.out | exact Below.refl _ _)⟩⟩
     case round =>
      clear H'
      try clear c1
      try clear p2
      try clear c4
      try clear c4b0
      try clear c6
      try clear c6b0
      try clear c6b1
      try clear p6
      try clear c7
      try clear c7b0
      try clear c7b1
      try clear c8
      try clear c8b0
      try clear c8b1
      try clear c9
      try clear c9b0
      try clear c9b1
      try clear c10
      try clear c10b0
      try clear c10b1
      try clear c10b2
      try clear p2
      obtain ⟨x7_2, rfl, HA, HK2, HB⟩ := hrel
      cases gk with
      | zero => exact absurd HA.out (by simp [z08.l1])
      | succ k2 =>
       have H := HA.out
       clear HA
       simp only [z08.l1] at H
       by_cases c11 : (wrap64 (x5_1 + x7_2)) < (a0.size : Int)
       ·rw [if_pos c11] at H
        have c11b0 : decide ((wrap64 (x5_1 + x7_2)) < (a0.size : Int)) = true := decide_eq_true c11
        clear c11
        obtain ⟨ji12, hji12⟩ : ∃ j_ : Int, (wrap64 (x5_1 + x7_2)) = j_ := ⟨_, rfl⟩
        replace H : (if 0 ≤ (ji12) then (if 0 ≤ (wrap64 ((ji12) - t103)) then (if (wrap64 ((ji12) - t103)) < (a0.size : Int) then (if (bt a0 (ji12)) = (bt a0 (wrap64 ((ji12) - t103))) then (z08.l1 k2 a0 x3_1 x4_1 x5_1 t103 (wrap64 (x7_2 + 1))) else ((z02.f (IntKind.u64.wrap ((x4_1.size : Int)))).bind fun t104 => (if t104.size + x4_1.size ≤ 9223372036854775807 then ((z02.f (IntKind.u64.wrap (t103))).bind fun t105 => (if (t104 ++ x4_1).size + t105.size ≤ 9223372036854775807 then ((z02.f (IntKind.u64.wrap (wrap64 (x7_2 - 4)))).bind fun t106 => (if ((t104 ++ x4_1) ++ t105).size + t106.size ≤ 9223372036854775807 then (if x3_1.size + (((t104 ++ x4_1) ++ t105) ++ t106).size ≤ 9223372036854775807 then (z08.l0 k2 a0 (x3_1 ++ (((t104 ++ x4_1) ++ t105) ++ t106)) (⟨#[]⟩ : ByteArray) ji12) else (none)) else (none))) else (none))) else (none)))) else (none)) else (none)) else (none)) = some r := by first | (rw [hji12] at H; exact H) | (simp only [hji12] at H ⊢; exact H)
        (try rw [hji12] at c11b0)
        have hji12w : (IntKind.i64.wrap (x5_1 + x7_2)) = ji12 := (i64_w _).trans hji12
        by_cases c13 : 0 ≤ (ji12)
        ·rw [if_pos c13] at H
         have c13b0 : decide (0 ≤ (ji12)) = true := decide_eq_true c13
         clear c13
         obtain ⟨ji15, hji15⟩ : ∃ j_ : Int, (wrap64 ((ji12) - t103)) = j_ := ⟨_, rfl⟩
         replace H : (if 0 ≤ (ji15) then (if (ji15) < (a0.size : Int) then (if (bt a0 (ji12)) = (bt a0 (ji15)) then (z08.l1 k2 a0 x3_1 x4_1 x5_1 t103 (wrap64 (x7_2 + 1))) else ((z02.f (IntKind.u64.wrap ((x4_1.size : Int)))).bind fun t104 => (if t104.size + x4_1.size ≤ 9223372036854775807 then ((z02.f (IntKind.u64.wrap (t103))).bind fun t105 => (if (t104 ++ x4_1).size + t105.size ≤ 9223372036854775807 then ((z02.f (IntKind.u64.wrap (wrap64 (x7_2 - 4)))).bind fun t106 => (if ((t104 ++ x4_1) ++ t105).size + t106.size ≤ 9223372036854775807 then (if x3_1.size + (((t104 ++ x4_1) ++ t105) ++ t106).size ≤ 9223372036854775807 then (z08.l0 k2 a0 (x3_1 ++ (((t104 ++ x4_1) ++ t105) ++ t106)) (⟨#[]⟩ : ByteArray) ji12) else (none)) else (none))) else (none))) else (none)))) else (none)) else (none)) = some r := by first | (rw [hji15] at H; exact H) | (simp only [hji15] at H ⊢; exact H)
         have hji15w : (IntKind.i64.wrap ((ji12) - t103)) = ji15 := (i64_w _).trans hji15
         by_cases c16 : 0 ≤ (ji15)
         ·rw [if_pos c16] at H
          have c16b0 : decide (0 ≤ (ji15)) = true := decide_eq_true c16
          clear c16
          by_cases c17 : (ji15) < (a0.size : Int)
          ·rw [if_pos c17] at H
           have c17b0 : decide ((ji15) < (a0.size : Int)) = true := decide_eq_true c17
           clear c17
           by_cases c19 : (bt a0 (ji12)) = (bt a0 (ji15))
           ·rw [if_pos c19] at H
            have c19b0 : ((bt a0 (ji12)) == (bt a0 (ji15))) = true := beq_iff_eq.mpr c19
            have c19b1 : ((bt a0 (ji12)) != (bt a0 (ji15))) = false := bne_eq_false_iff_eq.mpr c19
            clear c19
            have H' := z00.mk H
            clear H
            have p14 : 0 ≤ ((ji12) : Int) := of_decide_eq_true (by first | (with_reducible assumption) | assumption)
            have q14 : (ji12) < (a0.size : Int) := of_decide_eq_true (by first | (with_reducible assumption) | assumption)
            have hx14 := bt_at a0 (ji12)
            replace p14 := eq_true p14
            replace q14 := eq_true q14
            have p18 : 0 ≤ ((ji15) : Int) := of_decide_eq_true (by first | (with_reducible assumption) | assumption)
            have q18 : (ji15) < (a0.size : Int) := of_decide_eq_true (by first | (with_reducible assumption) | assumption)
            have hx18 := bt_at a0 (ji15)
            replace p18 := eq_true p18
            replace q18 := eq_true q18
            go_wp2
            repeat (go_quiet (fail); try go_wp2)
            go_roundg k2
            case measure => have := HK1.out; have := HK2.out; omega
            case rel => exact ⟨(wrap64 (x7_2 + 1)), (by first | rfl | (simp; done) | (simp [*]; done)), H', ⟨by have := HK1.out; have := HK2.out; omega⟩, ⟨by repeat (first | (with_reducible first | exact HB.out | apply z03 | apply z05 | apply z06) | exact HB.out | exact Below.refl _ _)⟩⟩
           ·rw [if_neg c19] at H
            have c19b0 : ((bt a0 (ji12)) == (bt a0 (ji15))) = false := beq_eq_false_iff_ne.mpr c19
            have c19b1 : ((bt a0 (ji12)) != (bt a0 (ji15))) = true := bne_iff_ne.mpr c19
            replace H := Option.bind_eq_some_iff.mp H
            obtain ⟨t104, A200, H⟩ := H
            replace H : (if t104.size + x4_1.size ≤ 9223372036854775807 then ((z02.f (IntKind.u64.wrap (t103))).bind fun t105 => (if (t104 ++ x4_1).size + t105.size ≤ 9223372036854775807 then ((z02.f (IntKind.u64.wrap (wrap64 (x7_2 - 4)))).bind fun t106 => (if ((t104 ++ x4_1) ++ t105).size + t106.size ≤ 9223372036854775807 then (if x3_1.size + (((t104 ++ x4_1) ++ t105) ++ t106).size ≤ 9223372036854775807 then (z08.l0 k2 a0 (x3_1 ++ (((t104 ++ x4_1) ++ t105) ++ t106)) (⟨#[]⟩ : ByteArray) ji12) else (none)) else (none))) else (none))) else (none)) = some r := H
            have A20 := z00.mk A200
            clear A200
            by_cases c21 : t104.size + x4_1.size ≤ 9223372036854775807
            ·rw [if_pos c21] at H
             have c21b0 := eq_true c21
             have c21b1 : decide (t104.size + x4_1.size ≤ 9223372036854775807) = true := decide_eq_true c21
             try have c21b2 : (9223372036854775807 < t104.size + x4_1.size) = False := eq_false (Nat.not_lt.2 c21)
             clear c21
             replace H := Option.bind_eq_some_iff.mp H
             obtain ⟨t105, A220, H⟩ := H
             replace H : (if (t104 ++ x4_1).size + t105.size ≤ 9223372036854775807 then ((z02.f (IntKind.u64.wrap (wrap64 (x7_2 - 4)))).bind fun t106 => (if ((t104 ++ x4_1) ++ t105).size + t106.size ≤ 9223372036854775807 then (if x3_1.size + (((t104 ++ x4_1) ++ t105) ++ t106).size ≤ 9223372036854775807 then (z08.l0 k2 a0 (x3_1 ++ (((t104 ++ x4_1) ++ t105) ++ t106)) (⟨#[]⟩ : ByteArray) ji12) else (none)) else (none))) else (none)) = some r := H
             have A22 := z00.mk A220
             clear A220
             by_cases c23 : (t104 ++ x4_1).size + t105.size ≤ 9223372036854775807
             ·rw [if_pos c23] at H
              have c23b0 := eq_true c23
              have c23z := c23
              simp only [ByteArray.size_append] at c23z
              have c23z2 := eq_false (Nat.not_lt.2 c23z)
              clear c23z
              have c23b1 : decide ((t104 ++ x4_1).size + t105.size ≤ 9223372036854775807) = true := decide_eq_true c23
              try have c23b2 : (9223372036854775807 < (t104 ++ x4_1).size + t105.size) = False := eq_false (Nat.not_lt.2 c23)
              clear c23
              replace H := Option.bind_eq_some_iff.mp H
              obtain ⟨t106, A240, H⟩ := H
              replace H : (if ((t104 ++ x4_1) ++ t105).size + t106.size ≤ 9223372036854775807 then (if x3_1.size + (((t104 ++ x4_1) ++ t105) ++ t106).size ≤ 9223372036854775807 then (z08.l0 k2 a0 (x3_1 ++ (((t104 ++ x4_1) ++ t105) ++ t106)) (⟨#[]⟩ : ByteArray) ji12) else (none)) else (none)) = some r := H
              have A24 := z00.mk A240
              clear A240
              by_cases c25 : ((t104 ++ x4_1) ++ t105).size + t106.size ≤ 9223372036854775807
              ·rw [if_pos c25] at H
               have c25b0 := eq_true c25
               have c25z := c25
               simp only [ByteArray.size_append] at c25z
               have c25z2 := eq_false (Nat.not_lt.2 c25z)
               clear c25z
               have c25b1 : decide (((t104 ++ x4_1) ++ t105).size + t106.size ≤ 9223372036854775807) = true := decide_eq_true c25
               try have c25b2 : (9223372036854775807 < ((t104 ++ x4_1) ++ t105).size + t106.size) = False := eq_false (Nat.not_lt.2 c25)
               clear c25
               by_cases c26 : x3_1.size + (((t104 ++ x4_1) ++ t105) ++ t106).size ≤ 9223372036854775807
               ·rw [if_pos c26] at H
                have c26b0 := eq_true c26
                have c26z := c26
                simp only [ByteArray.size_append] at c26z
                have c26z2 := eq_false (Nat.not_lt.2 c26z)
                clear c26z
                have c26b1 : decide (x3_1.size + (((t104 ++ x4_1) ++ t105) ++ t106).size ≤ 9223372036854775807) = true := decide_eq_true c26
                try have c26b2 : (9223372036854775807 < x3_1.size + (((t104 ++ x4_1) ++ t105) ++ t106).size) = False := eq_false (Nat.not_lt.2 c26)
                clear c26
                have H' := z00.mk H
                clear H
                have p14 : 0 ≤ ((ji12) : Int) := of_decide_eq_true (by first | (with_reducible assumption) | assumption)
                have q14 : (ji12) < (a0.size : Int) := of_decide_eq_true (by first | (with_reducible assumption) | assumption)
                have hx14 := bt_at a0 (ji12)
                replace p14 := eq_true p14
                replace q14 := eq_true q14
                have p18 : 0 ≤ ((ji15) : Int) := of_decide_eq_true (by first | (with_reducible assumption) | assumption)
                have q18 : (ji15) < (a0.size : Int) := of_decide_eq_true (by first | (with_reducible assumption) | assumption)
                have hx18 := bt_at a0 (ji15)
                replace p18 := eq_true p18
                replace q18 := eq_true q18
                go_wp2_with (first | (go_at_call 51; (with_reducible refine (z02.calls (IntKind.u64.wrap ((x4_1.size : Int))) t104 _ A20.out).mono ?_); rintro e w27 ⟨rfl, hb⟩; have n0_ := z00.mk (z07 (by repeat (first | (with_reducible first | exact HB.out | apply z03 | apply z05 | apply z06) | exact HB.out | exact Below.refl _ _)) hb); clear HB; have HB := n0_; clear n0_; (try clear hb); (try clear hb2); (try clear hk); (try clear hi)) | (go_at_call 51; (with_reducible refine (z02.calls (IntKind.u64.wrap (t103)) t105 _ A22.out).mono ?_); rintro e w28 ⟨rfl, hb⟩; have n0_ := z00.mk (z07 (by repeat (first | (with_reducible first | exact HB.out | apply z03 | apply z05 | apply z06) | exact HB.out | exact Below.refl _ _)) hb); clear HB; have HB := n0_; clear n0_; (try clear hb); (try clear hb2); (try clear hk); (try clear hi)) | (go_at_call 51; (with_reducible refine (z02.calls (IntKind.u64.wrap (wrap64 (x7_2 - 4))) t106 _ A24.out).mono ?_); rintro e w29 ⟨rfl, hb⟩; have n0_ := z00.mk (z07 (by repeat (first | (with_reducible first | exact HB.out | apply z03 | apply z05 | apply z06) | exact HB.out | exact Below.refl _ _)) hb); clear HB; have HB := n0_; clear n0_; (try clear hb); (try clear hb2); (try clear hk); (try clear hi)))
                repeat (go_quiet (first | (go_at_call 51; (with_reducible refine (z02.calls (IntKind.u64.wrap ((x4_1.size : Int))) t104 _ A20.out).mono ?_); rintro e w27 ⟨rfl, hb⟩; have n0_ := z00.mk (z07 (by repeat (first | (with_reducible first | exact HB.out | apply z03 | apply z05 | apply z06) | exact HB.out | exact Below.refl _ _)) hb); clear HB; have HB := n0_; clear n0_; (try clear hb); (try clear hb2); (try clear hk); (try clear hi)) | (go_at_call 51; (with_reducible refine (z02.calls (IntKind.u64.wrap (t103)) t105 _ A22.out).mono ?_); rintro e w28 ⟨rfl, hb⟩; have n0_ := z00.mk (z07 (by repeat (first | (with_reducible first | exact HB.out | apply z03 | apply z05 | apply z06) | exact HB.out | exact Below.refl _ _)) hb); clear HB; have HB := n0_; clear n0_; (try clear hb); (try clear hb2); (try clear hk); (try clear hi)) | (go_at_call 51; (with_reducible refine (z02.calls (IntKind.u64.wrap (wrap64 (x7_2 - 4))) t106 _ A24.out).mono ?_); rintro e w29 ⟨rfl, hb⟩; have n0_ := z00.mk (z07 (by repeat (first | (with_reducible first | exact HB.out | apply z03 | apply z05 | apply z06) | exact HB.out | exact Below.refl _ _)) hb); clear HB; have HB := n0_; clear n0_; (try clear hb); (try clear hb2); (try clear hk); (try clear hi))); try go_wp2_with (first | (go_at_call 51; (with_reducible refine (z02.calls (IntKind.u64.wrap ((x4_1.size : Int))) t104 _ A20.out).mono ?_); rintro e w27 ⟨rfl, hb⟩; have n0_ := z00.mk (z07 (by repeat (first | (with_reducible first | exact HB.out | apply z03 | apply z05 | apply z06) | exact HB.out | exact Below.refl _ _)) hb); clear HB; have HB := n0_; clear n0_; (try clear hb); (try clear hb2); (try clear hk); (try clear hi)) | (go_at_call 51; (with_reducible refine (z02.calls (IntKind.u64.wrap (t103)) t105 _ A22.out).mono ?_); rintro e w28 ⟨rfl, hb⟩; have n0_ := z00.mk (z07 (by repeat (first | (with_reducible first | exact HB.out | apply z03 | apply z05 | apply z06) | exact HB.out | exact Below.refl _ _)) hb); clear HB; have HB := n0_; clear n0_; (try clear hb); (try clear hb2); (try clear hk); (try clear hi)) | (go_at_call 51; (with_reducible refine (z02.calls (IntKind.u64.wrap (wrap64 (x7_2 - 4))) t106 _ A24.out).mono ?_); rintro e w29 ⟨rfl, hb⟩; have n0_ := z00.mk (z07 (by repeat (first | (with_reducible first | exact HB.out | apply z03 | apply z05 | apply z06) | exact HB.out | exact Below.refl _ _)) hb); clear HB; have HB := n0_; clear n0_; (try clear hb); (try clear hb2); (try clear hk); (try clear hi))))
                go_roundg k2
                case measure => have := HK1.out; have := HK2.out; omega
                case rel => exact ⟨(x3_1 ++ (((t104 ++ x4_1) ++ t105) ++ t106)), ((⟨#[]⟩ : ByteArray)), (ji12), (by first | rfl | (simp; done) | (simp [*]; done)), (by first | rfl | (simp; done) | (simp [*]; done)), (by first | rfl | (simp; done) | (simp only [← hji12] <;> (first | rfl | simp)) | (simp [*]; done)), H', ⟨by have := HK1.out; have := HK2.out; omega⟩, ⟨by repeat (first | (with_reducible first | exact HB.out | apply z03 | apply z05 | apply z06) | exact HB.out | exact Below.refl _ _)⟩⟩
               ·rw [if_neg c26] at H
                exact absurd H (by simp)
              ·rw [if_neg c25] at H
               exact absurd H (by simp)
             ·rw [if_neg c23] at H
              exact absurd H (by simp)
            ·rw [if_neg c21] at H
             exact absurd H (by simp)
          ·rw [if_neg c17] at H
           exact absurd H (by simp)
         ·rw [if_neg c16] at H
          exact absurd H (by simp)
        ·rw [if_neg c13] at H
         exact absurd H (by simp)
       ·rw [if_neg c11] at H
        have c11b0 : decide ((wrap64 (x5_1 + x7_2)) < (a0.size : Int)) = false := decide_eq_false c11
        clear c11
        replace H := Option.bind_eq_some_iff.mp H
        obtain ⟨t107, A300, H⟩ := H
        replace H : (if t107.size + x4_1.size ≤ 9223372036854775807 then ((z02.f (IntKind.u64.wrap (t103))).bind fun t108 => (if (t107 ++ x4_1).size + t108.size ≤ 9223372036854775807 then ((z02.f (IntKind.u64.wrap (wrap64 (x7_2 - 4)))).bind fun t109 => (if ((t107 ++ x4_1) ++ t108).size + t109.size ≤ 9223372036854775807 then (if x3_1.size + (((t107 ++ x4_1) ++ t108) ++ t109).size ≤ 9223372036854775807 then (z08.l0 k2 a0 (x3_1 ++ (((t107 ++ x4_1) ++ t108) ++ t109)) (⟨#[]⟩ : ByteArray) (wrap64 (x5_1 + x7_2))) else (none)) else (none))) else (none))) else (none)) = some r := H
        have A30 := z00.mk A300
        clear A300
        by_cases c31 : t107.size + x4_1.size ≤ 9223372036854775807
        ·rw [if_pos c31] at H
         have c31b0 := eq_true c31
         have c31b1 : decide (t107.size + x4_1.size ≤ 9223372036854775807) = true := decide_eq_true c31
         try have c31b2 : (9223372036854775807 < t107.size + x4_1.size) = False := eq_false (Nat.not_lt.2 c31)
         clear c31
         replace H := Option.bind_eq_some_iff.mp H
         obtain ⟨t108, A320, H⟩ := H
         replace H : (if (t107 ++ x4_1).size + t108.size ≤ 9223372036854775807 then ((z02.f (IntKind.u64.wrap (wrap64 (x7_2 - 4)))).bind fun t109 => (if ((t107 ++ x4_1) ++ t108).size + t109.size ≤ 9223372036854775807 then (if x3_1.size + (((t107 ++ x4_1) ++ t108) ++ t109).size ≤ 9223372036854775807 then (z08.l0 k2 a0 (x3_1 ++ (((t107 ++ x4_1) ++ t108) ++ t109)) (⟨#[]⟩ : ByteArray) (wrap64 (x5_1 + x7_2))) else (none)) else (none))) else (none)) = some r := H
         have A32 := z00.mk A320
         clear A320
         by_cases c33 : (t107 ++ x4_1).size + t108.size ≤ 9223372036854775807
         ·rw [if_pos c33] at H
          have c33b0 := eq_true c33
          have c33z := c33
          simp only [ByteArray.size_append] at c33z
          have c33z2 := eq_false (Nat.not_lt.2 c33z)
          clear c33z
          have c33b1 : decide ((t107 ++ x4_1).size + t108.size ≤ 9223372036854775807) = true := decide_eq_true c33
          try have c33b2 : (9223372036854775807 < (t107 ++ x4_1).size + t108.size) = False := eq_false (Nat.not_lt.2 c33)
          clear c33
          replace H := Option.bind_eq_some_iff.mp H
          obtain ⟨t109, A340, H⟩ := H
          replace H : (if ((t107 ++ x4_1) ++ t108).size + t109.size ≤ 9223372036854775807 then (if x3_1.size + (((t107 ++ x4_1) ++ t108) ++ t109).size ≤ 9223372036854775807 then (z08.l0 k2 a0 (x3_1 ++ (((t107 ++ x4_1) ++ t108) ++ t109)) (⟨#[]⟩ : ByteArray) (wrap64 (x5_1 + x7_2))) else (none)) else (none)) = some r := H
          have A34 := z00.mk A340
          clear A340
          by_cases c35 : ((t107 ++ x4_1) ++ t108).size + t109.size ≤ 9223372036854775807
          ·rw [if_pos c35] at H
           have c35b0 := eq_true c35
           have c35z := c35
           simp only [ByteArray.size_append] at c35z
           have c35z2 := eq_false (Nat.not_lt.2 c35z)
           clear c35z
           have c35b1 : decide (((t107 ++ x4_1) ++ t108).size + t109.size ≤ 9223372036854775807) = true := decide_eq_true c35
           try have c35b2 : (9223372036854775807 < ((t107 ++ x4_1) ++ t108).size + t109.size) = False := eq_false (Nat.not_lt.2 c35)
           clear c35
           by_cases c36 : x3_1.size + (((t107 ++ x4_1) ++ t108) ++ t109).size ≤ 9223372036854775807
           ·rw [if_pos c36] at H
            have c36b0 := eq_true c36
            have c36z := c36
            simp only [ByteArray.size_append] at c36z
            have c36z2 := eq_false (Nat.not_lt.2 c36z)
            clear c36z
            have c36b1 : decide (x3_1.size + (((t107 ++ x4_1) ++ t108) ++ t109).size ≤ 9223372036854775807) = true := decide_eq_true c36
            try have c36b2 : (9223372036854775807 < x3_1.size + (((t107 ++ x4_1) ++ t108) ++ t109).size) = False := eq_false (Nat.not_lt.2 c36)
            clear c36
            have H' := z00.mk H
            clear H
            go_wp2_with (first | (go_at_call 51; (with_reducible refine (z02.calls (IntKind.u64.wrap ((x4_1.size : Int))) t107 _ A30.out).mono ?_); rintro e w37 ⟨rfl, hb⟩; have n0_ := z00.mk (z07 (by repeat (first | (with_reducible first | exact HB.out | apply z03 | apply z05 | apply z06) | exact HB.out | exact Below.refl _ _)) hb); clear HB; have HB := n0_; clear n0_; (try clear hb); (try clear hb2); (try clear hk); (try clear hi)) | (go_at_call 51; (with_reducible refine (z02.calls (IntKind.u64.wrap (t103)) t108 _ A32.out).mono ?_); rintro e w38 ⟨rfl, hb⟩; have n0_ := z00.mk (z07 (by repeat (first | (with_reducible first | exact HB.out | apply z03 | apply z05 | apply z06) | exact HB.out | exact Below.refl _ _)) hb); clear HB; have HB := n0_; clear n0_; (try clear hb); (try clear hb2); (try clear hk); (try clear hi)) | (go_at_call 51; (with_reducible refine (z02.calls (IntKind.u64.wrap (wrap64 (x7_2 - 4))) t109 _ A34.out).mono ?_); rintro e w39 ⟨rfl, hb⟩; have n0_ := z00.mk (z07 (by repeat (first | (with_reducible first | exact HB.out | apply z03 | apply z05 | apply z06) | exact HB.out | exact Below.refl _ _)) hb); clear HB; have HB := n0_; clear n0_; (try clear hb); (try clear hb2); (try clear hk); (try clear hi)))
            repeat (go_quiet (first | (go_at_call 51; (with_reducible refine (z02.calls (IntKind.u64.wrap ((x4_1.size : Int))) t107 _ A30.out).mono ?_); rintro e w37 ⟨rfl, hb⟩; have n0_ := z00.mk (z07 (by repeat (first | (with_reducible first | exact HB.out | apply z03 | apply z05 | apply z06) | exact HB.out | exact Below.refl _ _)) hb); clear HB; have HB := n0_; clear n0_; (try clear hb); (try clear hb2); (try clear hk); (try clear hi)) | (go_at_call 51; (with_reducible refine (z02.calls (IntKind.u64.wrap (t103)) t108 _ A32.out).mono ?_); rintro e w38 ⟨rfl, hb⟩; have n0_ := z00.mk (z07 (by repeat (first | (with_reducible first | exact HB.out | apply z03 | apply z05 | apply z06) | exact HB.out | exact Below.refl _ _)) hb); clear HB; have HB := n0_; clear n0_; (try clear hb); (try clear hb2); (try clear hk); (try clear hi)) | (go_at_call 51; (with_reducible refine (z02.calls (IntKind.u64.wrap (wrap64 (x7_2 - 4))) t109 _ A34.out).mono ?_); rintro e w39 ⟨rfl, hb⟩; have n0_ := z00.mk (z07 (by repeat (first | (with_reducible first | exact HB.out | apply z03 | apply z05 | apply z06) | exact HB.out | exact Below.refl _ _)) hb); clear HB; have HB := n0_; clear n0_; (try clear hb); (try clear hb2); (try clear hk); (try clear hi))); try go_wp2_with (first | (go_at_call 51; (with_reducible refine (z02.calls (IntKind.u64.wrap ((x4_1.size : Int))) t107 _ A30.out).mono ?_); rintro e w37 ⟨rfl, hb⟩; have n0_ := z00.mk (z07 (by repeat (first | (with_reducible first | exact HB.out | apply z03 | apply z05 | apply z06) | exact HB.out | exact Below.refl _ _)) hb); clear HB; have HB := n0_; clear n0_; (try clear hb); (try clear hb2); (try clear hk); (try clear hi)) | (go_at_call 51; (with_reducible refine (z02.calls (IntKind.u64.wrap (t103)) t108 _ A32.out).mono ?_); rintro e w38 ⟨rfl, hb⟩; have n0_ := z00.mk (z07 (by repeat (first | (with_reducible first | exact HB.out | apply z03 | apply z05 | apply z06) | exact HB.out | exact Below.refl _ _)) hb); clear HB; have HB := n0_; clear n0_; (try clear hb); (try clear hb2); (try clear hk); (try clear hi)) | (go_at_call 51; (with_reducible refine (z02.calls (IntKind.u64.wrap (wrap64 (x7_2 - 4))) t109 _ A34.out).mono ?_); rintro e w39 ⟨rfl, hb⟩; have n0_ := z00.mk (z07 (by repeat (first | (with_reducible first | exact HB.out | apply z03 | apply z05 | apply z06) | exact HB.out | exact Below.refl _ _)) hb); clear HB; have HB := n0_; clear n0_; (try clear hb); (try clear hb2); (try clear hk); (try clear hi))))
            go_roundg k2
            case measure => have := HK1.out; have := HK2.out; omega
            case rel => exact ⟨(x3_1 ++ (((t107 ++ x4_1) ++ t108) ++ t109)), ((⟨#[]⟩ : ByteArray)), (wrap64 (x5_1 + x7_2)), (by first | rfl | (simp; done) | (simp [*]; done)), (by first | rfl | (simp; done) | (simp [*]; done)), (by first | rfl | (simp; done) | (simp [*]; done)), H', ⟨by have := HK1.out; have := HK2.out; omega⟩, ⟨by repeat (first | (with_reducible first | exact HB.out | apply z03 | apply z05 | apply z06) | exact HB.out | exact Below.refl _ _)⟩⟩
           ·rw [if_neg c36] at H
            exact absurd H (by simp)
          ·rw [if_neg c35] at H
           exact absurd H (by simp)
         ·rw [if_neg c33] at H
          exact absurd H (by simp)
        ·rw [if_neg c31] at H
         exact absurd H (by simp)
   ·rw [if_neg c4] at H
    have c4b0 : decide (x5_1 < (a0.size : Int)) = false := decide_eq_false c4
    clear c4
    by_cases c40 : x4_1.toList = ([] : List UInt8)
    ·rw [if_pos c40] at H
     have c40b0 : (x4_1.toList == ([] : List UInt8)) = true := beq_iff_eq.mpr c40
     have c40b1 : (x4_1.toList != ([] : List UInt8)) = false := bne_eq_false_iff_eq.mpr c40
     clear c40
     obtain rfl := Option.some.inj H
     go_wp2
     repeat (go_quiet (fail); try go_wp2)
     go_ret
     exact ⟨by first | rfl | (simp [z0o, z0p] <;> rfl) | (simp [*, z0o, z0p] <;> rfl), by repeat (first | (with_reducible first | exact HB.out | apply z03 | apply z05 | apply z06) | exact HB.out | exact Below.refl _ _)⟩
    ·rw [if_neg c40] at H
     have c40b0 : (x4_1.toList == ([] : List UInt8)) = false := beq_eq_false_iff_ne.mpr c40
     have c40b1 : (x4_1.toList != ([] : List UInt8)) = true := bne_iff_ne.mpr c40
     replace H := Option.bind_eq_some_iff.mp H
     obtain ⟨t102, A410, H⟩ := H
     replace H : (if t102.size + x4_1.size ≤ 9223372036854775807 then (if x3_1.size + (t102 ++ x4_1).size ≤ 9223372036854775807 then (some (x3_1 ++ (t102 ++ x4_1))) else (none)) else (none)) = some r := H
     have A41 := z00.mk A410
     clear A410
     by_cases c42 : t102.size + x4_1.size ≤ 9223372036854775807
     ·rw [if_pos c42] at H
      have c42b0 := eq_true c42
      have c42b1 : decide (t102.size + x4_1.size ≤ 9223372036854775807) = true := decide_eq_true c42
      try have c42b2 : (9223372036854775807 < t102.size + x4_1.size) = False := eq_false (Nat.not_lt.2 c42)
      clear c42
      by_cases c43 : x3_1.size + (t102 ++ x4_1).size ≤ 9223372036854775807
      ·rw [if_pos c43] at H
       have c43b0 := eq_true c43
       have c43z := c43
       simp only [ByteArray.size_append] at c43z
       have c43z2 := eq_false (Nat.not_lt.2 c43z)
       clear c43z
       have c43b1 : decide (x3_1.size + (t102 ++ x4_1).size ≤ 9223372036854775807) = true := decide_eq_true c43
       try have c43b2 : (9223372036854775807 < x3_1.size + (t102 ++ x4_1).size) = False := eq_false (Nat.not_lt.2 c43)
       clear c43
       obtain rfl := Option.some.inj H
       go_wp2_with (first | (go_at_call 51; (with_reducible refine (z02.calls (IntKind.u64.wrap ((x4_1.size : Int))) t102 _ A41.out).mono ?_); rintro e w44 ⟨rfl, hb⟩; have n0_ := z00.mk (z07 (by repeat (first | (with_reducible first | exact HB.out | apply z03 | apply z05 | apply z06) | exact HB.out | exact Below.refl _ _)) hb); clear HB; have HB := n0_; clear n0_; (try clear hb); (try clear hb2); (try clear hk); (try clear hi)))
       repeat (go_quiet (first | (go_at_call 51; (with_reducible refine (z02.calls (IntKind.u64.wrap ((x4_1.size : Int))) t102 _ A41.out).mono ?_); rintro e w44 ⟨rfl, hb⟩; have n0_ := z00.mk (z07 (by repeat (first | (with_reducible first | exact HB.out | apply z03 | apply z05 | apply z06) | exact HB.out | exact Below.refl _ _)) hb); clear HB; have HB := n0_; clear n0_; (try clear hb); (try clear hb2); (try clear hk); (try clear hi))); try go_wp2_with (first | (go_at_call 51; (with_reducible refine (z02.calls (IntKind.u64.wrap ((x4_1.size : Int))) t102 _ A41.out).mono ?_); rintro e w44 ⟨rfl, hb⟩; have n0_ := z00.mk (z07 (by repeat (first | (with_reducible first | exact HB.out | apply z03 | apply z05 | apply z06) | exact HB.out | exact Below.refl _ _)) hb); clear HB; have HB := n0_; clear n0_; (try clear hb); (try clear hb2); (try clear hk); (try clear hi))))
       go_ret
       exact ⟨by first | rfl | (simp [z0o, z0p] <;> rfl) | (simp [*, z0o, z0p] <;> rfl), by repeat (first | (with_reducible first | exact HB.out | apply z03 | apply z05 | apply z06) | exact HB.out | exact Below.refl _ _)⟩
      ·rw [if_neg c43] at H
       exact absurd H (by simp)
     ·rw [if_neg c42] at H
      exact absurd H (by simp)
end Go.Proofs.Ytcfdplmapdgfmaa.PU
