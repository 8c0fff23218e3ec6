/- Numbers are told as decimal digits, and read again: for every number. -/
import Derived.Test.YtaifljcalfadcaaPureDec
namespace Go.Proofs.Ytaifljcalfadcaa.Pure
open Go.RowKit Go.Proofs.Ytaifljcalfadcaa.PA Go.Proofs.YtaifljcalfadcaaW.PrintWords Go.Proofs.YtaifljcalfadcaaW.PrintLast Mine

theorem CodeDec : pollardlaw02_CodeDec.Pure := by
  intro a0 hw
  have hb : 0 ≤ a0 ∧ a0 ≤ 18446744073709551615 := by simpa [Lit.wf, IntKind.min, IntKind.max, IntKind.signed, IntKind.bits] using hw
  obtain ⟨n, rfl⟩ := Int.eq_ofNat_of_zero_le hb.1
  have hn : n < 18446744073709551616 := by omega
  refine ⟨30, ?_⟩
  have h1 : code_Dec.f (n : Int) = some (sb (dec n)) := by
    unfold code_Dec.f
    rw [if_pos (by omega)]
    rfl
  have h2 : code_Undec.f (sb (dec n)) = some ((n : Int), (0 : Int)) := by
    have hle := dec_le n hn
    unfold code_Undec.f
    rw [if_pos (by rw [sb_size]; omega), bs_sb _ (dec_lt n), undec_dec n hn]
    rfl
  unfold pollardlaw02_CodeDec.f
  rw [h1]
  simp only [Option.bind_some, h2, awake 30 (by omega), refDec 19 n 30 (by omega) (by omega) hn (by omega), if_true]
  simp
end Go.Proofs.Ytaifljcalfadcaa.Pure
