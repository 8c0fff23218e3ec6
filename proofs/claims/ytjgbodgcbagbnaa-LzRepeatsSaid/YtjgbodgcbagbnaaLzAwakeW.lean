/- The law's own small call, and the cutting of its texts. -/
import Derived.Test.YtjgbodgcbagbnaaLzPress
import Derived.Test.YtjgbodgcbagbnaaLzSpread
set_option linter.unusedVariables false
set_option linter.unusedSimpArgs false
namespace Go.Proofs.Ytjgbodgcbagbnaa.Mine
open Go.RowKit Go.Proofs.YtjgbodgcbagbnaaW.PrintWords

theorem press_spread (s : ByteArray) (most : Nat) (w : World) (hs : s.size ≤ 1048576) (hm : s.size ≤ most) (hmb : most ≤ 1000000000) :
    Calls Try.prog 30 #[.string (sb (pressP (bs s))), .int .i64 most] w fun e w' => e = .returned (.tuple #[.string s, .int .i64 0]) ∧ Below w.heap.size w w' :=
  spread_ok s _ (mkP (bs s) 0 0) most w hs hm hmb (by rw [pressP, bs_length]) (mkP_steps (bs s) _ 0 0 rfl (Nat.le_refl _) (Nat.zero_le _))
theorem num_low (n : Nat) (h : n < 128) : num n = [n] := by
  rw [num, Nat.div_eq_of_lt h, rest_zero, Nat.mod_eq_of_lt h]; rfl
def awA : ByteArray := ⟨#[97, 97, 97, 97, 97, 97, 97, 97, 97, 97, 97, 97, 97, 97, 97, 97]⟩
theorem awA_press : pressP (bs awA) = [16, 1, 97, 1, 11] := by
  have h0 : backP (bs awA) 0 = 0 := by decide +kernel
  have h1 : backP (bs awA) 1 = 1 := by decide +kernel
  have hl : (bs awA).length = 16 := by decide +kernel
  have hn : (15 : Nat) = lcp ((bs awA).drop 1) ((bs awA).drop (1 - 1)) := by decide +kernel
  have e1 := mkP_none (bs awA) 0 0 (by rw [hl]; decide) h0
  obtain ⟨_, _, e2⟩ := mkP_some (bs awA) 1 0 1 15 (by rw [hl]; decide) h1 (by decide) hn
  have e3 := mkP_end (bs awA) 16 16 (by rw [hl]; decide)
  rw [pressP, hl, e1, Nat.zero_add, e2, show 1 + 15 = 16 from rfl, e3, show (bs awA).drop 16 = [] from by decide +kernel, lonesB, if_pos rfl, show ((bs awA).drop 0).take (1 - 0) = [97] from by decide +kernel, num_low 16 (by decide), show 1 - 0 = 1 from rfl, num_low 1 (by decide), show 15 - 4 = 11 from rfl, num_low 11 (by decide)]
  rfl
set_option maxRecDepth 100000 in
theorem lzAwake_calls (w : World) :
    Calls Try.prog 31 #[] w fun e w' => e = .returned (.bool true) ∧ Below w.heap.size w w' := by
  have hm := fun w => press_calls awA w (by decide)
  have ha := fun w => press_spread awA 16 w (by decide) (by decide) (by decide)
  rw [awA_press] at hm ha
  have HM := Lib.hid hm
  have HA := Lib.hid ha
  clear hm ha
  go_enter Try.func31, Try.ntmps31
  go_wp2_with fail
  refine (HM.out _).mono ?_
  rintro e w1 ⟨rfl, hb1⟩
  have HB1 := Lib.hid hb1
  clear hb1
  go_wp2_with fail
  refine (HA.out _).mono ?_
  rintro e w2 ⟨rfl, hb2⟩
  have HB2 := Lib.hid hb2
  clear hb2
  have hsz : (((sb [16, 1, 97, 1, 11]).size : Int) == 5) = true := by decide
  go_wp2_with fail
  go_ret
  refine ⟨congrArg (fun x => Ending.returned (.bool x)) (by rw [toL]; decide), HB1.out.trans (HB2.out.mono HB1.out.size)⟩
theorem few04_calls (s : ByteArray) (w : World) (hs : s.size ≤ 140737488351232) :
    Calls Try.prog 29 #[.string s] w fun e w' => ∃ t, e = .returned (.string t) ∧ t = (if 600 < s.size then s.extract 0 600 else s) ∧ w = w' := by
  by_cases h : 600 < s.size
  · have hb : decide ((s.size : Int) > 600) = true := by simp; omega
    go_enter Try.func29, Try.ntmps29
    go_wp2_with fail
    go_ret
    exact ⟨_, rfl, rfl, rfl⟩
  · have hb : decide ((s.size : Int) > 600) = false := by simp; omega
    go_enter Try.func29, Try.ntmps29
    go_wp2_with fail
    go_ret
    exact ⟨_, rfl, rfl, rfl⟩
def fewT (s : ByteArray) : ByteArray := if 600 < s.size then s.extract 0 600 else s
theorem fewT_le (s : ByteArray) : (fewT s).size ≤ 600 := by
  unfold fewT; split
  · rw [ByteArray.size_extract]; omega
  · omega
theorem few04_is (s : ByteArray) (w : World) (hs : s.size ≤ 140737488351232) : Calls Try.prog 29 #[.string s] w fun e w' => e = .returned (.string (fewT s)) ∧ w = w' :=
  (few04_calls s w hs).mono fun e w' ⟨t, h1, h2, h3⟩ => ⟨by rw [h1, h2]; rfl, h3⟩
end Go.Proofs.Ytjgbodgcbagbnaa.Mine
