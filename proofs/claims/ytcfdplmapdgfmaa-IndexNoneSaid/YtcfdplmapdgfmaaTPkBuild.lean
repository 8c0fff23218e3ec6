import Derived.Test.YtcfdplmapdgfmaaTPkEntry
import Derived.Test.YtcfdplmapdgfmaaTSmB
import Derived.Test.YtcfdplmapdgfmaaTLzA
import Derived.Test.YtcfdplmapdgfmaaProg
import Derived.Below
import Derived.Deep.Draws
import Derived.Deep.AppendLies
import Derived.Maps.AppendAt
import Derived.OwnWalk
import Derived.Laws.BytesArg
import Derived.Laws.MakeOwn
import Derived.Laws.OwnMore
import Derived.Deep.OwnRows
import Derived.Tactics
import Derived.Lib.ConvBytes
import Derived.Laws.Slices
import Derived.WalkKit
import Derived.KernelRfl
import Derived.RowKit3
import Derived.Deep.LoopGhost
import Derived.Deep.QuietTactic
import Derived.BigQuiet
import Derived.WideLaws
import Derived.Deep.DeepCutAuto
import Derived.Deep.CutBlock
import Derived.Deep.RegionHeld3
import Derived.Laws.Rows
import Derived.Lib.AppendStr
import Derived.ArgAppend
import Derived.Laws.IdiomCopy
import Derived.OrdersHeld
import Derived.Laws.BitsLemmas
import Derived.RowKit
import Derived.Test.YtcfdplmapdgfmaaTCNum
import Derived.Test.YtcfdplmapdgfmaaTWWords
import Derived.Test.YtcfdplmapdgfmaaTWApart
import Derived.Test.YtcfdplmapdgfmaaTWShare
import Derived.Test.YtcfdplmapdgfmaaTWN
import Derived.Laws.StructEq
import Derived.Test.YtcfdplmapdgfmaaTWRepsOne
import Derived.Test.YtcfdplmapdgfmaaTWMore
set_option linter.unusedVariables false
set_option linter.unusedSimpArgs false
namespace Go.Proofs.Ytcfdplmapdgfmaa.Mine
open Go.RowKit Go.Proofs.YtcfdplmapdgfmaaW.PrintWords
theorem add_at (x : Addr) (m n : Nat) (h : n ≠ 0) : x.add (m + n) = ⟨(x.add m).block, (x.add m).off + n, none⟩ := by
 unfold Addr.add
 by_cases hm : m = 0
 ·subst hm; simp [h]
 ·simp [h, hm, Nat.add_assoc]
theorem eat_len8 : ∀ (k : Nat) (v p : List Nat), p.length ≤ k → v.length = 8 → (eat v p).1.length = 8 := by
 intro k
 induction k with
 | zero => intro v p hk hv; rw [eat_end v p (by omega)]; exact hv
 | succ k ih =>
  intro v p hk hv
  by_cases h : 64 ≤ p.length
  ·rw [eat_step v p h]; exact ih _ _ (by rw [List.length_drop]; omega) (stir_length _ _)
  ·rw [eat_end v p (by omega)]; exact hv
theorem sha_length (l : List Nat) : (sha l).length = 32 := by
 rw [sha_eq, outB_length, eat_len8 _ _ _ (Nat.le_refl _) rfl]
end Go.Proofs.Ytcfdplmapdgfmaa.Mine
