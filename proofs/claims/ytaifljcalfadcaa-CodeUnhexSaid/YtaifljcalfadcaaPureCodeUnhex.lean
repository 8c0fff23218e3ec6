/- Whatever letters there are: they are bytes in their only form, or refused: for every string. -/
import Derived.Test.YtaifljcalfadcaaPureHex
namespace Go.Proofs.Ytaifljcalfadcaa.Pure
open Go.RowKit Go.Proofs.Ytaifljcalfadcaa.PA Go.Proofs.YtaifljcalfadcaaW.PrintWords Go.Proofs.YtaifljcalfadcaaW.PrintLast Mine

theorem CodeUnhex : pollardlaw02_CodeUnhex.Pure := by
  intro a0 _
  obtain ⟨t, ht, hs⟩ := few_some a0
  refine ⟨1000, ?_⟩
  have h1 : code_Unhex.f t = some (sbi (unhex (bs t))) := by
    unfold code_Unhex.f
    rw [if_pos (by omega)]
    rfl
  unfold pollardlaw02_CodeUnhex.f
  rw [ht]
  simp only [Option.bind_some, h1, refUnhex t hs 1000 (by omega), awake 1000 (by omega), if_true]
  simp
end Go.Proofs.Ytaifljcalfadcaa.Pure
