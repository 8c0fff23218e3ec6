/- The law's own small call, at any number of rounds from ten on; a text that is cut. Plain lists and numbers. -/
import Derived.Test.YtaifljcalfadcaaPureNum
namespace Go.Proofs.Ytaifljcalfadcaa.Mine
open Go.RowKit Go.Proofs.Ytaifljcalfadcaa.PA Go.Proofs.YtaifljcalfadcaaW.PrintWords

theorem num300 : num 300 = [129, 44] := by
  rw [num, rest_pos _ (by omega)]
  simp [rest_zero]
theorem num128 : num 128 = [128, 0] := by
  rw [num, rest_pos _ (by omega)]
  simp [rest_zero]
theorem awake (k : Nat) (hk : 10 ≤ k) : pollardlaw02_awake.f k = some true := by
  have h1 : code_Num.f k 300 = some (sb [129, 44]) := by rw [← num300]; exact codeNum 300 (by omega) k hk
  have h2 : code_Num.f k 128 = some (sb [128, 0]) := by rw [← num128]; exact codeNum 128 (by omega) k hk
  unfold pollardlaw02_awake.f
  rw [h1, h2]
  simp only [toL]
  change (_ : Option Bool) = _
  kernel_rfl
theorem few_some (s : ByteArray) : ∃ t : ByteArray, pollardlaw02_few.f s = some t ∧ t.size ≤ 300 := by
  unfold pollardlaw02_few.f
  by_cases h : (s.size : Int) > 300
  · rw [if_pos h, if_pos (by omega), if_pos (by omega)]
    exact ⟨_, rfl, by rw [ByteArray.size_extract]; omega⟩
  · rw [if_neg h]
    exact ⟨_, rfl, by omega⟩
theorem ite_beq {a b : ByteArray} {α : Type} (h : a = b) (x y : α) : (if a.toList = b.toList then x else y) = x := if_pos (by rw [h])
end Go.Proofs.Ytaifljcalfadcaa.Mine
