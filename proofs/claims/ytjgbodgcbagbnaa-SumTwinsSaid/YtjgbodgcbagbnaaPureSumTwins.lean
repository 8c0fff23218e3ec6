/- Twins are two unlike texts of one sum, and nothing else: for every two strings, each cut to 400. -/
import Derived.Test.YtjgbodgcbagbnaaPureSum
namespace Go.Proofs.Ytjgbodgcbagbnaa.Pure
open Go.RowKit Go.Proofs.Ytjgbodgcbagbnaa.PS Go.Proofs.YtjgbodgcbagbnaaW.PrintWords Go.Proofs.YtjgbodgcbagbnaaW.PrintLast Mine

theorem twin_same (t : ByteArray) : sum_Twin.f t t = some false := by
  unfold sum_Twin.f
  rw [if_pos rfl]
theorem SumTwins : pollardlaw01_SumTwins.Pure := by
  intro a0 a1 _ _
  obtain ⟨t, ht, hs⟩ := few_some a0
  obtain ⟨u, hu, hs2⟩ := few_some a1
  unfold pollardlaw01_SumTwins.f
  simp only [awake, ht, hu, Option.bind_some, refF t hs, refF u hs2, if_true, twin_same]
  by_cases h : t.toList = u.toList
  · have h1 : sum_Twin.f t u = some false := by unfold sum_Twin.f; rw [if_pos h]
    simp [h1, h]
  · have h1 : sum_Twin.f t u = some ((sb (sha (bs t))).toList == (sb (sha (bs u))).toList) := by
      unfold sum_Twin.f; rw [if_neg h]; simp only [ofF t hs, ofF u hs2, Option.bind_some]
    simp [h1, h]
end Go.Proofs.Ytjgbodgcbagbnaa.Pure
