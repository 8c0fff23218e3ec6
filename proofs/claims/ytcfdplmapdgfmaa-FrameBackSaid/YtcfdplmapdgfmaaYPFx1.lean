import Derived.Test.YtcfdplmapdgfmaaYPFx0
namespace Go.Proofs.Ytcfdplmapdgfmaa.PF
open Go.RowKit Go.Proofs.YtcfdplmapdgfmaaW.PrintWords Go.Proofs.YtcfdplmapdgfmaaW.PrintLast Go.Proofs.YtcfdplmapdgfmaaW.PrintMore
attribute [local go_sem] z21 z22 z23 z25 z26 z27 z28 z29   -- for this text's walks alone
set_option linter.unusedVariables false
set_option linter.unusedSimpArgs false
def z0w.l0 : Nat → List ByteArray → Int → Option (Bool)
 | 0, _, _ => none
 | k + 1, x0, x3 => if x3 < (x0.length : Int) then (if 0 ≤ x3 then (if ((rdOf ByteArray.empty x0 x3).size : Int) = 32 then (z0w.l0 k x0 (wrap64 (x3 + 1))) else (some false)) else (none)) else (some true)
def z0w.f (k : Nat) (l0 : List ByteArray) : Option (Bool) := z0w.l0 k l0 0
theorem z0w.mono_l : ∀ k, (∀ y0 y1, LeO (z0w.l0 k y0 y1) (z0w.l0 (k + 1) y0 y1))
 | 0 => fun _ _ r h => by simp [z0w.l0] at h
 | k + 1 => by
  have ih0 := z0w.mono_l k
  ·intro y0 y1
   unfold z0w.l0
   repeat' first
   | (with_reducible exact ih0 _ _)
   | (with_reducible exact LeO.refl _)
   | (with_reducible exact LeO.none _)
   | (with_reducible refine LeO.ite ?_ ?_)
   | (with_reducible refine LeO.bind ?_ (fun _ => ?_))
   | exact ih0 _ _
   | exact LeO.none _
   | refine LeO.ite ?_ ?_
   | refine LeO.bind ?_ (fun _ => ?_)
theorem z0w.mono : ∀ a0 k, LeO (z0w.f k a0) (z0w.f (k + 1) a0) := by
 intro a0 k
 have ih0 := z0w.mono_l k
 unfold z0w.f
 repeat' first
   | (with_reducible exact ih0 _ _)
   | (with_reducible exact LeO.refl _)
   | (with_reducible exact LeO.none _)
   | (with_reducible refine LeO.ite ?_ ?_)
   | (with_reducible refine LeO.bind ?_ (fun _ => ?_))
   | exact ih0 _ _
   | exact LeO.none _
   | refine LeO.ite ?_ ?_
   | refine LeO.bind ?_ (fun _ => ?_)
set_option maxHeartbeats 8000000 in
set_option maxRecDepth 100000 in
theorem z0w.calls (k : Nat) (A0 : Option Addr) (c0 : Nat) (l0 : List ByteArray) (r : Bool) (w : World) (hr0 : Kd.C Kd.string w A0 l0.length l0) (hc0 : l0.length ≤ c0) (h : z0w.f k l0 = some r) :
  Calls Try.prog 43 #[.slice A0 l0.length c0] w fun e w' => e = .returned (.bool r) ∧ Drawn0 w w' := by
 have HR0 := z01.mk hr0
 have HC0 := z01.mk hc0
 clear hr0 hc0
 have H : (z0w.l0 k l0 0) = some r := h
 clear h
 have H' := z01.mk H
 clear H
 go_enter Try.func43, Try.ntmps43
 go_wp2
 go_loopg [3] k (fun kq v3 w' => ∃ (x3_1 : Int), v3 = .int .i64 x3_1 ∧ z01 (z0w.l0 kq l0 x3_1 = some r) ∧ z01 (kq ≤ k) ∧ Drawn0 w w')
 case atStart => exact ⟨(0), (by first | rfl | (simp; done) | (simp [*]; done)), H', ⟨Nat.le_refl _⟩, by repeat (first | exact Drawn0.refl _ | apply Drawn0.step)⟩
 case round =>
  clear H'
  obtain ⟨x3_1, rfl, HA, HK1, ⟨m1, rfl⟩⟩ := hrel
  cases gk with
  | zero => exact absurd HA.out (by simp [z0w.l0])
  | succ k1 =>
   have H := HA.out
   clear HA
   simp only [z0w.l0] at H
   by_cases c2 : x3_1 < (l0.length : Int)
   ·rw [if_pos c2] at H
    have c2b0 : decide (x3_1 < (l0.length : Int)) = true := decide_eq_true c2
    clear c2
    by_cases c3 : 0 ≤ x3_1
    ·rw [if_pos c3] at H
     have c3b0 : decide (0 ≤ x3_1) = true := decide_eq_true c3
     clear c3
     by_cases c4 : ((rdOf ByteArray.empty l0 x3_1).size : Int) = 32
     ·rw [if_pos c4] at H
      have c4b0 : (((rdOf ByteArray.empty l0 x3_1).size : Int) == 32) = true := beq_iff_eq.mpr c4
      have c4b1 : (((rdOf ByteArray.empty l0 x3_1).size : Int) != 32) = false := bne_eq_false_iff_eq.mpr c4
      clear c4
      have H' := z01.mk H
      clear H
      have p101 : 0 ≤ (x3_1 : Int) := of_decide_eq_true (by first | (with_reducible assumption) | assumption)
      have q101 : x3_1 < (l0.length : Int) := of_decide_eq_true (by first | (with_reducible assumption) | assumption)
      obtain ⟨ad101, e101, hx101_0⟩ := Kd.at_string HR0.out x3_1 p101 q101
      cases e101
      replace p101 := eq_true p101
      replace q101 := eq_true q101
      go_wp2
      go_roundg k1
      case measure => have := HK1.out; omega
      case rel => exact ⟨(wrap64 (x3_1 + 1)), (by first | rfl | (simp; done) | (simp [*]; done)), H', ⟨by have := HK1.out; omega⟩, by repeat (first | exact Drawn0.refl _ | apply Drawn0.step)⟩
     ·rw [if_neg c4] at H
      have c4b0 : (((rdOf ByteArray.empty l0 x3_1).size : Int) == 32) = false := beq_eq_false_iff_ne.mpr c4
      have c4b1 : (((rdOf ByteArray.empty l0 x3_1).size : Int) != 32) = true := bne_iff_ne.mpr c4
      obtain rfl := Option.some.inj H
      have p101 : 0 ≤ (x3_1 : Int) := of_decide_eq_true (by first | (with_reducible assumption) | assumption)
      have q101 : x3_1 < (l0.length : Int) := of_decide_eq_true (by first | (with_reducible assumption) | assumption)
      obtain ⟨ad101, e101, hx101_0⟩ := Kd.at_string HR0.out x3_1 p101 q101
      cases e101
      replace p101 := eq_true p101
      replace q101 := eq_true q101
      go_wp2
      go_ret
      exact ⟨by first | rfl | (simp; done) | (simp [*]; done), by repeat (first | exact Drawn0.refl _ | apply Drawn0.step)⟩
    ·rw [if_neg c3] at H
     exact absurd H (by simp)
   ·rw [if_neg c2] at H
    have c2b0 : decide (x3_1 < (l0.length : Int)) = false := decide_eq_false c2
    clear c2
    obtain rfl := Option.some.inj H
    go_wp2
    go_ret
    exact ⟨by first | rfl | (simp; done) | (simp [*]; done), by repeat (first | exact Drawn0.refl _ | apply Drawn0.step)⟩
def z0g.f (a0 : ByteArray) : Option (Int) := if a0.size ≤ 9223372036854775807 then some ((Mine.refKind (Mine.bs a0) : Nat) : Int) else none
theorem z0g.calls (a0 : ByteArray) (r : Int) (w : World) (h : z0g.f a0 = some r) :
  Calls Try.prog 44 #[.string a0] w fun e w' => e = .returned (.int .i64 r) ∧ Below w.heap.size w w' := by
 unfold z0g.f at h
 split at h
 ·simp only [Option.some.injEq] at h
  subst h
  exact Mine.ref05_calls _ _ ‹_›
 ·cases h
end Go.Proofs.Ytcfdplmapdgfmaa.PF
