/- Whatever letters there are: they are a number in its only form, or refused: for every string. -/
import Derived.Test.YtaifljcalfadcaaPureDec
namespace Go.Proofs.Ytaifljcalfadcaa.Pure
open Go.RowKit Go.Proofs.Ytaifljcalfadcaa.PA Go.Proofs.YtaifljcalfadcaaW.PrintWords Go.Proofs.YtaifljcalfadcaaW.PrintLast Mine

theorem CodeUndec : pollardlaw02_CodeUndec.Pure := by
  intro a0 _
  obtain ⟨t, ht, hs⟩ := few_some a0
  refine ⟨700, ?_⟩
  have h1 : code_Undec.f t = some (two (undec (bs t))) := by
    unfold code_Undec.f
    rw [if_pos (by omega)]
    rfl
  unfold pollardlaw02_CodeUndec.f
  rw [ht]
  simp only [Option.bind_some, h1, refUndec t hs 700 (by omega), awake 700 (by omega), if_true]
  simp
end Go.Proofs.Ytaifljcalfadcaa.Pure
