/- Whatever bytes there are: they begin with a number, that has just these bytes, or not, and why not: for every string. -/
import Derived.Test.YtaifljcalfadcaaPureAwake
namespace Go.Proofs.Ytaifljcalfadcaa.Pure
open Go.RowKit Go.Proofs.Ytaifljcalfadcaa.PA Go.Proofs.YtaifljcalfadcaaW.PrintWords Go.Proofs.YtaifljcalfadcaaW.PrintLast Mine

theorem CodeUnnum : pollardlaw02_CodeUnnum.Pure := by
  intro a0 _
  obtain ⟨t, ht, hs⟩ := few_some a0
  refine ⟨22, ?_⟩
  have hun : code_Unnum.f t = some (tri (unnum (bs t))) := by
    unfold code_Unnum.f
    rw [if_pos (by omega)]
    rfl
  obtain ⟨hb1, hb2, hb3⟩ := unnum_bounds (bs t) (bs_lt t)
  have hre := refUnnum t 22 (by omega)
  rcases hu : unnum (bs t) with ⟨n, j, e⟩
  rw [hu] at hb1 hb2 hb3 hun hre
  have h1 : code_Unnum.f t = some ((n : Int), (j : Int), (e : Int)) := hun
  have h2 : pollardref02_Unnum.f 22 t = some ((n : Int), (j : Int), (e : Int)) := hre
  unfold pollardlaw02_CodeUnnum.f
  rw [ht, awake 22 (by omega)]
  simp only [Option.bind_some, h1, h2, if_true]
  by_cases he : e = 0
  · subst he
    obtain ⟨_, h2, h3⟩ := unnum_ok (bs t) n j (bs_lt t) hu
    rw [bs_length] at h2
    rw [if_pos (by omega), codeNum n hb1 22 (by omega)]
    simp only [Option.bind_some]
    rw [if_pos (by omega), if_pos (by omega)]
    have : sb (num n) = t.extract 0 ((j : Int)).toNat := by
      rw [h3]
      exact (sb_eq _ _ (by rw [bs_extract]; simp)).symm
    rw [this]
    simp
  · rw [if_neg (by omega)]
end Go.Proofs.Ytaifljcalfadcaa.Pure
