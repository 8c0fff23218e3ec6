import Derived.Test.YtcfdplmapdgfmaaYPNx0
import Derived.Test.YtcfdplmapdgfmaaYPNx1
namespace Go.Proofs.Ytcfdplmapdgfmaa.PN
open Go.RowKit Go.Proofs.YtcfdplmapdgfmaaW.PrintWords Go.Proofs.YtcfdplmapdgfmaaW.PrintLast Go.Proofs.YtcfdplmapdgfmaaW.PrintMore
attribute [local go_sem] z21 z22 z23 z25 z26 z27 z28 z29   -- for this text's walks alone
set_option linter.unusedVariables false
set_option linter.unusedSimpArgs false
def z2m.f (a0 : Int) : Option (ByteArray) := some (strOfNums (([((Int.tdiv a0 16777216) % 4294967296) % 256, ((Int.tdiv a0 65536) % 4294967296) % 256, ((Int.tdiv a0 256) % 4294967296) % 256, (Int.tmod a0 256) % 256] : List Int)))
set_option maxHeartbeats 8000000 in
set_option maxRecDepth 100000 in
theorem z2m.calls (a0 : Int) (r : ByteArray) (w : World) (h : z2m.f a0 = some r) :
  Calls Try.prog 85 #[.int .u32 a0] w fun e w' => e = .returned (.string r) ∧ Below w.heap.size w w' := by
 have HB := z01.mk (Below.refl w.heap.size w)
 have H : (some (strOfNums (([((Int.tdiv a0 16777216) % 4294967296) % 256, ((Int.tdiv a0 65536) % 4294967296) % 256, ((Int.tdiv a0 256) % 4294967296) % 256, (Int.tmod a0 256) % 256] : List Int)))) = some r := h
 clear h
 obtain ⟨y127, hy127⟩ : ∃ y_ : List Int, y_ = (([((Int.tdiv a0 16777216) % 4294967296) % 256, ((Int.tdiv a0 65536) % 4294967296) % 256, ((Int.tdiv a0 256) % 4294967296) % 256, (Int.tmod a0 256) % 256] : List Int)) := ⟨_, rfl⟩
 replace H : (some (strOfNums y127)) = some r := by first | (rw [hy127]; with_reducible exact H) | (have H2_ := (Option.bind_some _ _).symm.trans H; rw [hy127]; with_reducible exact H2_) | (have H2_ := (Option.bind_some _ _).symm.trans H; with_reducible exact H2_) | with_reducible exact H | (rw [hy127]; exact H) | exact H
 have Ny127 := z01.mk hy127
 clear hy127
 obtain rfl := Option.some.inj H
 go_enter Try.func85, Try.ntmps85
 go_wp2_with (first | ((with_reducible refine gate_dst (N := 17) rfl ?_); refine Kd.R_lit (Kd.int .u8) _ 5 ?hg (N := 17) ?hd (xs := ([((Int.tdiv a0 16777216) % 4294967296) % 256, ((Int.tdiv a0 65536) % 4294967296) % 256, ((Int.tdiv a0 256) % 4294967296) % 256, (Int.tmod a0 256) % 256] : List Int)) (inner := [.int .u8 (((Int.tdiv a0 16777216) % 4294967296) % 256), .int .u8 (((Int.tdiv a0 65536) % 4294967296) % 256), .int .u8 (((Int.tdiv a0 256) % 4294967296) % 256), .int .u8 ((Int.tmod a0 256) % 256)]) (ok := fun _ => True) (okp := fun _ => True) ?hr ?hp (fun _ hk => hk) trivial (Below.refl _ _) (Nat.le_refl _) (by simp) ?_; (case hd => rfl); (case hg => rfl); (case hr => first | (go_simp; done) | (go_simp; rfl)); (case hp => exact (Reps.one (show Kd.M (Kd.int .u8) _ _ _ (((Int.tdiv a0 16777216) % 4294967296) % 256) [.int .u8 (((Int.tdiv a0 16777216) % 4294967296) % 256)] from rfl) (Reps.one (show Kd.M (Kd.int .u8) _ _ _ (((Int.tdiv a0 65536) % 4294967296) % 256) [.int .u8 (((Int.tdiv a0 65536) % 4294967296) % 256)] from rfl) (Reps.one (show Kd.M (Kd.int .u8) _ _ _ (((Int.tdiv a0 256) % 4294967296) % 256) [.int .u8 (((Int.tdiv a0 256) % 4294967296) % 256)] from rfl) (Reps.one (show Kd.M (Kd.int .u8) _ _ _ ((Int.tmod a0 256) % 256) [.int .u8 ((Int.tmod a0 256) % 256)] from rfl) (Reps.none _ _)))))); intro v128 w2 ho3 hb hg_ hnew_; clear hg_ hnew_; (first | rw [← Ny127.out] at ho3 | (simp only [Int.reduceToNat] at ho3; rw [← Ny127.out] at ho3)); have n0_ := z01.mk (Kd.z20 ho3 (z18 (by repeat (first | (with_reducible first | exact HB.out | apply z03 | apply z05 | apply z04) | exact HB.out | exact Below.refl _ _)))); have n1_ := z01.mk (z0i (by repeat (first | (with_reducible first | exact HB.out | apply z03 | apply z05 | apply z04) | exact HB.out | exact Below.refl _ _)) hb); clear HB; have HO129 := n0_; have HB := n1_; clear n0_ n1_; clear hb ho3; have hcv4 := z2e (P := Try.prog) Try.underlying46 Try.underlying5 Try.underlying9 (Kd.z2f HO129.out)))
 go_ret
 exact ⟨by first | rfl | (simp [z0n, z0o] <;> rfl) | (simp [*, z0n, z0o] <;> rfl), by repeat (first | (with_reducible first | exact HB.out | apply z03 | apply z05 | apply z04) | exact HB.out | exact Below.refl _ _)⟩
mutual
def z0x.l0 : Nat → ByteArray → Int → Int → Option (Int)
 | 0, _, _, _ => none
 | k + 1, x0, x3, x4 => if x4 < (x0.size : Int) then (z0x.l1 k x0 x3 x4 7) else (some ((4294967295 - x3) % 4294967296))
def z0x.l1 : Nat → ByteArray → Int → Int → Int → Option (Int)
 | 0, _, _, _, _ => none
 | k + 1, x0, x3, x4, x5 => if x5 ≥ 0 then (if 0 ≤ x4 then (if x4 < (x0.size : Int) then (if 0 ≤ (IntKind.u64.wrap (x5)) then (if (Go.bits .xor .u32 (Go.bits .and .u32 (shr .u32 ((bt x0 x4) % 4294967296) (IntKind.u64.wrap (x5))) 1) (x3 / 2147483648)) = 1 then (z0x.l1 k x0 (Go.bits .xor .u32 ((x3 * 2) % 4294967296) 79764919) x4 (wrap64 (x5 - 1))) else (z0x.l1 k x0 ((x3 * 2) % 4294967296) x4 (wrap64 (x5 - 1)))) else (none)) else (none)) else (none)) else (z0x.l0 k x0 x3 (wrap64 (x4 + 1)))
end
def z0x.f (k : Nat) (a0 : ByteArray) : Option (Int) := z0x.l0 k a0 4294967295 0
theorem z0x.mono_l : ∀ k, (∀ y0 y1 y2, LeO (z0x.l0 k y0 y1 y2) (z0x.l0 (k + 1) y0 y1 y2)) ∧ (∀ y0 y1 y2 y3, LeO (z0x.l1 k y0 y1 y2 y3) (z0x.l1 (k + 1) y0 y1 y2 y3))
 | 0 => ⟨fun _ _ _ r h => by simp [z0x.l0] at h, fun _ _ _ _ r h => by simp [z0x.l1] at h⟩
 | k + 1 => by
  obtain ⟨ih0, ih1⟩ := z0x.mono_l k
  refine ⟨?_, ?_⟩
  ·intro y0 y1 y2
   unfold z0x.l0
   repeat' first
   | (with_reducible exact ih0 _ _ _)
   | (with_reducible exact ih1 _ _ _ _)
   | (with_reducible exact LeO.refl _)
   | (with_reducible exact LeO.none _)
   | (with_reducible refine LeO.ite ?_ ?_)
   | (with_reducible refine LeO.bind ?_ (fun _ => ?_))
   | exact ih0 _ _ _
   | exact ih1 _ _ _ _
   | exact LeO.none _
   | refine LeO.ite ?_ ?_
   | refine LeO.bind ?_ (fun _ => ?_)
  ·intro y0 y1 y2 y3
   unfold z0x.l1
   repeat' first
   | (with_reducible exact ih0 _ _ _)
   | (with_reducible exact ih1 _ _ _ _)
   | (with_reducible exact LeO.refl _)
   | (with_reducible exact LeO.none _)
   | (with_reducible refine LeO.ite ?_ ?_)
   | (with_reducible refine LeO.bind ?_ (fun _ => ?_))
   | exact ih0 _ _ _
   | exact ih1 _ _ _ _
   | exact LeO.none _
   | refine LeO.ite ?_ ?_
   | refine LeO.bind ?_ (fun _ => ?_)
theorem z0x.mono : ∀ a0 k, LeO (z0x.f k a0) (z0x.f (k + 1) a0) := by
 intro a0 k
 obtain ⟨ih0, ih1⟩ := z0x.mono_l k
 unfold z0x.f
 repeat' first
   | (with_reducible exact ih0 _ _ _)
   | (with_reducible exact ih1 _ _ _ _)
   | (with_reducible exact LeO.refl _)
   | (with_reducible exact LeO.none _)
   | (with_reducible refine LeO.ite ?_ ?_)
   | (with_reducible refine LeO.bind ?_ (fun _ => ?_))
   | exact ih0 _ _ _
   | exact ih1 _ _ _ _
   | exact LeO.none _
   | refine LeO.ite ?_ ?_
   | refine LeO.bind ?_ (fun _ => ?_)
set_option maxHeartbeats 8000000 in
set_option maxRecDepth 100000 in
theorem z0x.calls (k : Nat) (a0 : ByteArray) (r : Int) (w : World) (h : z0x.f k a0 = some r) :
  Calls Try.prog 86 #[.string a0] w fun e w' => e = .returned (.int .u32 r) ∧ Drawn0 w w' := by
 have H : (z0x.l0 k a0 4294967295 0) = some r := h
 clear h
 have H' := z01.mk H
 clear H
 go_enter Try.func86, Try.ntmps86
 go_wp2
 go_loopg [3, 4] k (fun kq v3 v4 w' => ∃ (x3_1 : Int) (x4_1 : Int), v3 = .int .u32 x3_1 ∧ v4 = .int .i64 x4_1 ∧ z01 (z0x.l0 kq a0 x3_1 x4_1 = some r) ∧ z01 (kq ≤ k) ∧ Drawn0 w w')
 case atStart => exact ⟨(4294967295), (0), (by first | rfl | (simp; done) | (simp [*]; done)), (by first | rfl | (simp; done) | (simp [*]; done)), H', ⟨Nat.le_refl _⟩, by repeat (first | exact Drawn0.refl _ | apply Drawn0.step)⟩
 case round =>
  clear H'
  obtain ⟨x3_1, x4_1, rfl, rfl, HA, HK1, ⟨m1, rfl⟩⟩ := hrel
  cases gk with
  | zero => exact absurd HA.out (by simp [z0x.l0])
  | succ k1 =>
   have H := HA.out
   clear HA
   simp only [z0x.l0] at H
   by_cases c2 : x4_1 < (a0.size : Int)
   ·rw [if_pos c2] at H
    have c2b0 : decide (x4_1 < (a0.size : Int)) = true := decide_eq_true c2
    clear c2
    have H' := z01.mk H
    clear H
    go_wp2
    go_loopg [3, 5] k1 (fun kq v3 v5 w' => ∃ (x3_2 : Int) (x5_2 : Int), v3 = .int .u32 x3_2 ∧ v5 = .int .i64 x5_2 ∧ z01 (z0x.l1 kq a0 x3_2 x4_1 x5_2 = some r) ∧ z01 (kq ≤ k1) ∧ Drawn0 w w')
    case atStart => exact ⟨(x3_1), (7), (by first | rfl | (simp; done) | (simp [*]; done)), (by first | rfl | (simp; done) | (simp [*]; done)), H', ⟨Nat.le_refl _⟩, by repeat (first | exact Drawn0.refl _ | apply Drawn0.step)⟩
    case round =>
     clear H'
     try clear c2
     try clear c2b0
     try clear p2
     obtain ⟨x3_2, x5_2, rfl, rfl, HA, HK2, ⟨m2, rfl⟩⟩ := hrel
     cases gk with
     | zero => exact absurd HA.out (by simp [z0x.l1])
     | succ k2 =>
      have H := HA.out
      clear HA
      simp only [z0x.l1] at H
      by_cases c3 : x5_2 ≥ 0
      ·rw [if_pos c3] at H
       have c3b0 : decide (0 ≤ x5_2) = true := decide_eq_true c3
       clear c3
       by_cases c4 : 0 ≤ x4_1
       ·rw [if_pos c4] at H
        have c4b0 : decide (0 ≤ x4_1) = true := decide_eq_true c4
        clear c4
        by_cases c5 : x4_1 < (a0.size : Int)
        ·rw [if_pos c5] at H
         have c5b0 : decide (x4_1 < (a0.size : Int)) = true := decide_eq_true c5
         clear c5
         obtain ⟨ji7, hji7⟩ : ∃ j_ : Int, (IntKind.u64.wrap (x5_2)) = j_ := ⟨_, rfl⟩
         replace H : (if 0 ≤ (ji7) then (if (Go.bits .xor .u32 (Go.bits .and .u32 (shr .u32 ((bt a0 x4_1) % 4294967296) (ji7)) 1) (x3_2 / 2147483648)) = 1 then (z0x.l1 k2 a0 (Go.bits .xor .u32 ((x3_2 * 2) % 4294967296) 79764919) x4_1 (wrap64 (x5_2 - 1))) else (z0x.l1 k2 a0 ((x3_2 * 2) % 4294967296) x4_1 (wrap64 (x5_2 - 1)))) else (none)) = some r := by first | (rw [hji7] at H; exact H) | (simp only [hji7] at H ⊢; exact H)
         by_cases c8 : 0 ≤ (ji7)
         ·rw [if_pos c8] at H
          have c8b0 := eq_true c8
          have c8b1 : decide (0 ≤ (ji7)) = true := decide_eq_true c8
          clear c8
          obtain ⟨ji9, hji9⟩ : ∃ j_ : Int, (shr .u32 ((bt a0 x4_1) % 4294967296) (ji7)) = j_ := ⟨_, rfl⟩
          replace H : (if (Go.bits .xor .u32 (Go.bits .and .u32 (ji9) 1) (x3_2 / 2147483648)) = 1 then (z0x.l1 k2 a0 (Go.bits .xor .u32 ((x3_2 * 2) % 4294967296) 79764919) x4_1 (wrap64 (x5_2 - 1))) else (z0x.l1 k2 a0 ((x3_2 * 2) % 4294967296) x4_1 (wrap64 (x5_2 - 1)))) = some r := by first | (rw [hji9] at H; exact H) | (simp only [hji9] at H ⊢; exact H)
          have hji9_ : (((bt a0 x4_1) % 4294967296) / 2 ^ min (ji7).toNat 32) = ji9 := hji9
          have hji9z : (ji7) ≤ 32 → (((bt a0 x4_1) % 4294967296) / 2 ^ (ji7).toNat) = ji9 := shr_small hji9
          by_cases c10 : (Go.bits .xor .u32 (Go.bits .and .u32 (ji9) 1) (x3_2 / 2147483648)) = 1
          ·rw [if_pos c10] at H
           have c10b0 : ((Go.bits .xor .u32 (Go.bits .and .u32 (ji9) 1) (x3_2 / 2147483648)) == 1) = true := beq_iff_eq.mpr c10
           have c10b1 : ((Go.bits .xor .u32 (Go.bits .and .u32 (ji9) 1) (x3_2 / 2147483648)) != 1) = false := bne_eq_false_iff_eq.mpr c10
           clear c10
           have H' := z01.mk H
           clear H
           have p6 : 0 ≤ (x4_1 : Int) := of_decide_eq_true (by first | (with_reducible assumption) | assumption)
           have q6 : x4_1 < (a0.size : Int) := of_decide_eq_true (by first | (with_reducible assumption) | assumption)
           have hx6 := bt_at a0 x4_1
           replace p6 := eq_true p6
           replace q6 := eq_true q6
           go_wp2
           go_roundg k2
           case measure => have := HK1.out; have := HK2.out; omega
           case rel => exact ⟨(Go.bits .xor .u32 ((x3_2 * 2) % 4294967296) 79764919), (wrap64 (x5_2 - 1)), (by first | rfl | (simp; done) | (simp [*]; done)), (by first | rfl | (simp; done) | (simp [*]; done)), H', ⟨by have := HK1.out; have := HK2.out; omega⟩, by repeat (first | exact Drawn0.refl _ | apply Drawn0.step)⟩
          ·rw [if_neg c10] at H
           have c10b0 : ((Go.bits .xor .u32 (Go.bits .and .u32 (ji9) 1) (x3_2 / 2147483648)) == 1) = false := beq_eq_false_iff_ne.mpr c10
           have c10b1 : ((Go.bits .xor .u32 (Go.bits .and .u32 (ji9) 1) (x3_2 / 2147483648)) != 1) = true := bne_iff_ne.mpr c10
           have H' := z01.mk H
           clear H
           have p6 : 0 ≤ (x4_1 : Int) := of_decide_eq_true (by first | (with_reducible assumption) | assumption)
           have q6 : x4_1 < (a0.size : Int) := of_decide_eq_true (by first | (with_reducible assumption) | assumption)
           have hx6 := bt_at a0 x4_1
           replace p6 := eq_true p6
           replace q6 := eq_true q6
           go_wp2
           go_roundg k2
           case measure => have := HK1.out; have := HK2.out; omega
           case rel => exact ⟨((x3_2 * 2) % 4294967296), (wrap64 (x5_2 - 1)), (by first | rfl | (simp; done) | (simp [*]; done)), (by first | rfl | (simp; done) | (simp [*]; done)), H', ⟨by have := HK1.out; have := HK2.out; omega⟩, by repeat (first | exact Drawn0.refl _ | apply Drawn0.step)⟩
         ·rw [if_neg c8] at H
          exact absurd H (by simp)
        ·rw [if_neg c5] at H
         exact absurd H (by simp)
       ·rw [if_neg c4] at H
        exact absurd H (by simp)
      ·rw [if_neg c3] at H
       have c3b0 : decide (0 ≤ x5_2) = false := decide_eq_false c3
       clear c3
       have H' := z01.mk H
       clear H
       go_wp2
       go_roundg k2
       case measure => have := HK1.out; have := HK2.out; omega
       case rel => exact ⟨(x3_2), (wrap64 (x4_1 + 1)), (by first | rfl | (simp; done) | (simp [*]; done)), (by first | rfl | (simp; done) | (simp [*]; done)), H', ⟨by have := HK1.out; have := HK2.out; omega⟩, by repeat (first | exact Drawn0.refl _ | apply Drawn0.step)⟩
   ·rw [if_neg c2] at H
    have c2b0 : decide (x4_1 < (a0.size : Int)) = false := decide_eq_false c2
    clear c2
    obtain rfl := Option.some.inj H
    go_wp2
    go_ret
    exact ⟨by first | rfl | (simp; done) | (simp [*]; done), by repeat (first | exact Drawn0.refl _ | apply Drawn0.step)⟩
def z1z.f (k : Nat) (a0 : ByteArray) : Option (ByteArray) := (z0j.f k (IntKind.u64.wrap ((a0.size : Int)))).bind fun t130 => (if t130.size + a0.size ≤ 9223372036854775807 then ((z0x.f k (t130 ++ a0)).bind fun t131 => ((z2m.f t131).bind fun t132 => (if (t130 ++ a0).size + t132.size ≤ 9223372036854775807 then (some ((t130 ++ a0) ++ t132)) else (none)))) else (none))
theorem z1z.mono : ∀ a0 k, LeO (z1z.f k a0) (z1z.f (k + 1) a0) := by
 intro a0 k
 unfold z1z.f
 repeat' first
   | (with_reducible exact z0x.mono _ _)
   | (with_reducible exact z0j.mono _ _)
   | (with_reducible exact LeO.refl _)
   | (with_reducible exact LeO.none _)
   | (with_reducible refine LeO.ite ?_ ?_)
   | (with_reducible refine LeO.bind ?_ (fun _ => ?_))
   | exact z0x.mono _ _
   | exact z0j.mono _ _
   | exact LeO.none _
   | refine LeO.ite ?_ ?_
   | refine LeO.bind ?_ (fun _ => ?_)
set_option maxHeartbeats 8000000 in
set_option maxRecDepth 100000 in
theorem z1z.calls (k : Nat) (a0 : ByteArray) (r : ByteArray) (w : World) (h : z1z.f k a0 = some r) :
  Calls Try.prog 54 #[.string a0] w fun e w' => e = .returned (.string r) ∧ Below w.heap.size w w' := by
 have HB := z01.mk (Below.refl w.heap.size w)
 have H : ((z0j.f k (IntKind.u64.wrap ((a0.size : Int)))).bind fun t130 => (if t130.size + a0.size ≤ 9223372036854775807 then ((z0x.f k (t130 ++ a0)).bind fun t131 => ((z2m.f t131).bind fun t132 => (if (t130 ++ a0).size + t132.size ≤ 9223372036854775807 then (some ((t130 ++ a0) ++ t132)) else (none)))) else (none))) = some r := h
 clear h
 replace H := Option.bind_eq_some_iff.mp H
 obtain ⟨t130, A20, H⟩ := H
 replace H : (if t130.size + a0.size ≤ 9223372036854775807 then ((z0x.f k (t130 ++ a0)).bind fun t131 => ((z2m.f t131).bind fun t132 => (if (t130 ++ a0).size + t132.size ≤ 9223372036854775807 then (some ((t130 ++ a0) ++ t132)) else (none)))) else (none)) = some r := H
 have A2 := z01.mk A20
 clear A20
 by_cases c3 : t130.size + a0.size ≤ 9223372036854775807
 ·rw [if_pos c3] at H
  have c3b0 := eq_true c3
  have c3b1 : decide (t130.size + a0.size ≤ 9223372036854775807) = true := decide_eq_true c3
  try have c3b2 : (9223372036854775807 < t130.size + a0.size) = False := eq_false (Nat.not_lt.2 c3)
  clear c3
  replace H := Option.bind_eq_some_iff.mp H
  obtain ⟨t131, A40, H⟩ := H
  replace H : ((z2m.f t131).bind fun t132 => (if (t130 ++ a0).size + t132.size ≤ 9223372036854775807 then (some ((t130 ++ a0) ++ t132)) else (none))) = some r := H
  have A4 := z01.mk A40
  clear A40
  replace H := Option.bind_eq_some_iff.mp H
  obtain ⟨t132, A50, H⟩ := H
  replace H : (if (t130 ++ a0).size + t132.size ≤ 9223372036854775807 then (some ((t130 ++ a0) ++ t132)) else (none)) = some r := H
  have A5 := z01.mk A50
  clear A50
  by_cases c6 : (t130 ++ a0).size + t132.size ≤ 9223372036854775807
  ·rw [if_pos c6] at H
   have c6b0 := eq_true c6
   have c6z := c6
   simp only [ByteArray.size_append] at c6z
   have c6z2 := eq_false (Nat.not_lt.2 c6z)
   clear c6z
   have c6b1 : decide ((t130 ++ a0).size + t132.size ≤ 9223372036854775807) = true := decide_eq_true c6
   try have c6b2 : (9223372036854775807 < (t130 ++ a0).size + t132.size) = False := eq_false (Nat.not_lt.2 c6)
   clear c6
   obtain rfl := Option.some.inj H
   go_enter Try.func54, Try.ntmps54
   go_wp2_with (first | ((with_reducible refine z1f (f := 51) rfl ?_); refine z1e (some 7) rfl rfl Try.func51 (by kernel_rfl) rfl #[.int .u64 (IntKind.u64.wrap ((a0.size : Int)))] rfl (by (try simp only [List.map_toArray, List.map_cons, List.map_nil]); first | done | rfl | (simp only [List.length_drop, List.length_take]; rfl)) ?_; (with_reducible refine (z0j.calls k (IntKind.u64.wrap ((a0.size : Int))) t130 _ A2.out).mono ?_); rintro e w7 ⟨rfl, hb⟩; refine ⟨_, rfl, ?_⟩; have n0_ := z01.mk (z0i (by repeat (first | (with_reducible first | exact HB.out | apply z03 | apply z05 | apply z04) | exact HB.out | exact Below.refl _ _)) hb); clear HB; have HB := n0_; clear n0_; (try clear hb); (try clear hb2); (try clear hk); (try clear hi)) | ((with_reducible refine z1f (f := 86) rfl ?_); refine z1e (some 12) rfl rfl Try.func86 (by kernel_rfl) rfl #[.string (t130 ++ a0)] rfl (by (try simp only [List.map_toArray, List.map_cons, List.map_nil]); first | done | rfl | (simp only [List.length_drop, List.length_take]; rfl)) ?_; (with_reducible refine (z0x.calls k (t130 ++ a0) t131 _ A4.out).mono ?_); rintro e w' ⟨rfl, ⟨nd, rfl⟩⟩; refine ⟨_, rfl, ?_⟩) | ((with_reducible refine z1f (f := 85) rfl ?_); refine z1e (some 13) rfl rfl Try.func85 (by kernel_rfl) rfl #[.int .u32 t131] rfl (by (try simp only [List.map_toArray, List.map_cons, List.map_nil]); first | done | rfl | (simp only [List.length_drop, List.length_take]; rfl)) ?_; (with_reducible refine (z2m.calls t131 t132 _ A5.out).mono ?_); rintro e w8 ⟨rfl, hb⟩; refine ⟨_, rfl, ?_⟩; have n0_ := z01.mk (z0i (by repeat (first | (with_reducible first | exact HB.out | apply z03 | apply z05 | apply z04) | exact HB.out | exact Below.refl _ _)) hb); clear HB; have HB := n0_; clear n0_; (try clear hb); (try clear hb2); (try clear hk); (try clear hi)))
   go_ret
   exact ⟨by first | rfl | (simp [z0n, z0o] <;> rfl) | (simp [*, z0n, z0o] <;> rfl), by repeat (first | (with_reducible first | exact HB.out | apply z03 | apply z05 | apply z04) | exact HB.out | exact Below.refl _ _)⟩
  ·rw [if_neg c6] at H
   exact absurd H (by simp)
 ·rw [if_neg c3] at H
  exact absurd H (by simp)
end Go.Proofs.Ytcfdplmapdgfmaa.PN
