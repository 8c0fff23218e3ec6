/- The law's own small sum; the package's sum and the document's are one; a text that is cut. Plain lists and numbers. -/
import Derived.Test.YtjgbodgcbagbnaaPSx
import Derived.Test.YtjgbodgcbagbnaaSumPure2
set_option linter.unusedVariables false
set_option linter.unusedSimpArgs false
namespace Go.Proofs.Ytjgbodgcbagbnaa.Mine
open Go.RowKit Go.Proofs.Ytjgbodgcbagbnaa.PS Go.Proofs.YtjgbodgcbagbnaaW.PrintWords

theorem sha_ref (l : List Nat) : sha l = refSum l := sha_eq l
/-- The sum of at most 55 bytes. -/
theorem sha_short (l : List Nat) (h : (pad l l.length).length = 64) : sha l = outB (stir begin8 ((pad l l.length).take 64)) := by
  rw [sha_eq, eat_step _ _ (by omega), eat_end _ _ (by rw [List.length_drop]; omega)]
theorem sha_abc : sha [97, 98, 99] = [186, 120, 22, 191, 143, 1, 207, 234, 65, 65, 64, 222, 93, 174, 34, 35, 176, 3, 97, 163, 150, 23, 122, 156, 180, 16, 255, 97, 242, 0, 21, 173] := by
  rw [sha_short _ (by decide)]
  decide +kernel
theorem awake : pollardlaw01_awake.f = some true := by
  have h1 : sum_Of.f (⟨#[97, 98, 99]⟩ : ByteArray) = some (sb (sha [97, 98, 99])) := by
    unfold sum_Of.f
    rw [if_pos (by decide)]
    rfl
  unfold pollardlaw01_awake.f
  rw [h1, sha_abc]
  change (_ : Option Bool) = _
  kernel_rfl
theorem few_some (s : ByteArray) : ∃ t : ByteArray, pollardlaw01_few.f s = some t ∧ t.size ≤ 400 := by
  unfold pollardlaw01_few.f
  by_cases h : (s.size : Int) > 400
  · rw [if_pos h, if_pos (by omega), if_pos (by omega)]
    exact ⟨_, rfl, by rw [ByteArray.size_extract]; omega⟩
  · rw [if_neg h]
    exact ⟨_, rfl, by omega⟩
theorem ofF (t : ByteArray) (h : t.size ≤ 400) : sum_Of.f t = some (sb (sha (bs t))) := by unfold sum_Of.f; rw [if_pos (by omega)]
theorem refF (t : ByteArray) (h : t.size ≤ 400) : pollardref01_Sum.f t = some (sb (sha (bs t))) := by unfold pollardref01_Sum.f; rw [if_pos (by omega), ← sha_ref]
end Go.Proofs.Ytjgbodgcbagbnaa.Mine
