/- Texts are framed, and read again, whatever stands behind: for every two strings. -/
import Derived.Test.YtaifljcalfadcaaPureFrame
namespace Go.Proofs.Ytaifljcalfadcaa.Pure
open Go.RowKit Go.Proofs.Ytaifljcalfadcaa.PA Go.Proofs.YtaifljcalfadcaaW.PrintWords Go.Proofs.YtaifljcalfadcaaW.PrintLast Mine

theorem CodeFrames : pollardlaw02_CodeFrames.Pure := by
  intro a0 a1 _ _
  obtain ⟨t, ht, hs⟩ := few_some a0
  obtain ⟨m, hm, hsm⟩ := few_some a1
  have hl := bs_length t
  have hnl := num_length (bs t).length (by omega)
  have hfl := frame_length (bs t)
  have z1 := sb_size (frame (bs t))
  refine ⟨4000, ?_⟩
  unfold pollardlaw02_CodeFrames.f
  rw [ht, hm]
  simp only [Option.bind_some, codeFrame t (by omega) 4000 (by omega), refFrame t (by omega) 4000 (by omega), awake 4000 (by omega), if_true]
  have z2 : (sb (frame (bs t)) ++ m).size = (frame (bs t)).length + m.size := by rw [ByteArray.size_append, z1]
  have hun : unframe (bs (sb (frame (bs t)) ++ m)) = (bs t, (frame (bs t)).length, 0) := by
    rw [bs_append, bs_sb _ (frame_lt _ (bs_lt t)), unframe_frame _ _ (by omega)]
  rw [if_pos (by omega), codeUnframe _ (by omega), hun]
  have ht2 : some (tris (bs t, (frame (bs t)).length, 0)) = some (t, ((frame (bs t)).length : Int), (0 : Int)) := by
    unfold tris
    simp only [sb_bs]
    rfl
  rw [ht2]
  simp only [Option.bind_some, if_true]
  simp [z1]
end Go.Proofs.Ytaifljcalfadcaa.Pure
