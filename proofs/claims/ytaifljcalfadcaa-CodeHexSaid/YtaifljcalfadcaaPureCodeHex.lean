/- Bytes are told as digits, and read again: for every string. -/
import Derived.Test.YtaifljcalfadcaaPureHex
namespace Go.Proofs.Ytaifljcalfadcaa.Pure
open Go.RowKit Go.Proofs.Ytaifljcalfadcaa.PA Go.Proofs.YtaifljcalfadcaaW.PrintWords Go.Proofs.YtaifljcalfadcaaW.PrintLast Mine

theorem CodeHex : pollardlaw02_CodeHex.Pure := by
  intro a0 _
  obtain ⟨t, ht, hs⟩ := few_some a0
  refine ⟨1000, ?_⟩
  have h1 : code_Hex.f t = some (sb (hex (bs t))) := by
    unfold code_Hex.f
    rw [if_pos (by omega)]
  have h2 : code_Unhex.f (sb (hex (bs t))) = some (t, (0 : Int)) := by
    have hl := hex_length (bs t)
    have hb := bs_length t
    unfold code_Unhex.f
    rw [if_pos (by rw [sb_size]; omega), bs_sb _ (hex_lt _ (bs_lt t)), unhex_hex _ (bs_lt t)]
    simp only [sb_bs]
    rfl
  unfold pollardlaw02_CodeHex.f
  rw [ht]
  simp only [Option.bind_some, h1, h2, refHex t hs 1000 (by omega), awake 1000 (by omega), if_true]
  simp
end Go.Proofs.Ytaifljcalfadcaa.Pure
