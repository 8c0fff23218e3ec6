/- Numbers have the document's bytes; those below 2^63 are read again: for every number. -/
import Derived.Test.YtaifljcalfadcaaPureAwake
namespace Go.Proofs.Ytaifljcalfadcaa.Pure
open Go.RowKit Go.Proofs.Ytaifljcalfadcaa.PA Go.Proofs.YtaifljcalfadcaaW.PrintWords Go.Proofs.YtaifljcalfadcaaW.PrintLast Mine

theorem CodeNum : pollardlaw02_CodeNum.Pure := by
  intro a0 hw
  have hb : 0 ≤ a0 ∧ a0 ≤ 18446744073709551615 := by simpa [Lit.wf, IntKind.min, IntKind.max, IntKind.signed, IntKind.bits] using hw
  obtain ⟨n, rfl⟩ := Int.eq_ofNat_of_zero_le hb.1
  have hn : n < 18446744073709551616 := by omega
  refine ⟨22, ?_⟩
  have hl := num_length n hn
  have hun : code_Unnum.f (sb (num n)) = some (tri (unnum (num n))) := by
    unfold code_Unnum.f
    rw [if_pos (by rw [sb_size]; omega), bs_sb _ (num_lt n)]
    rfl
  unfold pollardlaw02_CodeNum.f
  rw [codeNum n hn 22 (by omega), awake 22 (by omega), refNum n hn 22 (by omega)]
  simp only [Option.bind_some, hun, if_true]
  by_cases h63 : n < 9223372036854775808
  · have h := unnum_num n h63 []
    rw [List.append_nil] at h
    rw [h, if_neg (by omega)]
    simp [tri, sb_size]
  · rw [if_pos (by omega)]
end Go.Proofs.Ytaifljcalfadcaa.Pure
