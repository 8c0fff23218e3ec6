/- The sum of any bytes, cut to 400, is the document's: for every string. -/
import Derived.Test.YtjgbodgcbagbnaaPureSum
namespace Go.Proofs.Ytjgbodgcbagbnaa.Pure
open Go.RowKit Go.Proofs.Ytjgbodgcbagbnaa.PS Go.Proofs.YtjgbodgcbagbnaaW.PrintWords Go.Proofs.YtjgbodgcbagbnaaW.PrintLast Mine

theorem SumOf : pollardlaw01_SumOf.Pure := by
  intro a0 _
  obtain ⟨t, ht, hs⟩ := few_some a0
  unfold pollardlaw01_SumOf.f
  simp only [awake, ht, Option.bind_some, ofF t hs, refF t hs, if_true]
  simp
end Go.Proofs.Ytjgbodgcbagbnaa.Pure
