import Derived.Test.YtcfdplmapdgfmaaQPkEntry
import Derived.Test.YtcfdplmapdgfmaaQSmB
import Derived.Test.YtcfdplmapdgfmaaQLzB
set_option linter.unusedVariables false
set_option linter.unusedSimpArgs false
namespace Go.Proofs.Ytcfdplmapdgfmaa.Mine
open Go.RowKit Go.Proofs.YtcfdplmapdgfmaaW.PrintWords
theorem add_at (x : Addr) (m n : Nat) (h : n ≠ 0) : x.add (m + n) = ⟨(x.add m).block, (x.add m).off + n, none⟩ := by
 unfold Addr.add
 by_cases hm : m = 0
 ·subst hm; simp [h]
 ·simp [h, hm, Nat.add_assoc]
theorem eat_len8 : ∀ (k : Nat) (v p : List Nat), p.length ≤ k → v.length = 8 → (eat v p).1.length = 8 := by
 intro k
 induction k with
 | zero => intro v p hk hv; rw [eat_end v p (by omega)]; exact hv
 | succ k ih =>
  intro v p hk hv
  by_cases h : 64 ≤ p.length
  ·rw [eat_step v p h]; exact ih _ _ (by rw [List.length_drop]; omega) (stir_length _ _)
  ·rw [eat_end v p (by omega)]; exact hv
theorem sha_length (l : List Nat) : (sha l).length = 32 := by
 rw [sha_eq, z0j, eat_len8 _ _ _ (Nat.le_refl _) rfl]
end Go.Proofs.Ytcfdplmapdgfmaa.Mine
