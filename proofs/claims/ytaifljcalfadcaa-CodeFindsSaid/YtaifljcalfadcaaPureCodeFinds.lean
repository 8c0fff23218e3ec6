/- Whatever bytes there are: they begin with a frame, or not, and why not: for every string. -/
import Derived.Test.YtaifljcalfadcaaPureFrame
namespace Go.Proofs.Ytaifljcalfadcaa.Pure
open Go.RowKit Go.Proofs.Ytaifljcalfadcaa.PA Go.Proofs.YtaifljcalfadcaaW.PrintWords Go.Proofs.YtaifljcalfadcaaW.PrintLast Mine

theorem CodeFinds : pollardlaw02_CodeFinds.Pure := by
  intro a0 _
  obtain ⟨t, ht, hs⟩ := few_some a0
  refine ⟨4000, ?_⟩
  unfold pollardlaw02_CodeFinds.f
  rw [ht]
  simp only [Option.bind_some, codeUnframe t (by omega), refUnframe t (by omega) 4000 (by omega), awake 4000 (by omega), if_true]
  simp
end Go.Proofs.Ytaifljcalfadcaa.Pure
