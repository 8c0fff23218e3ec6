import Derived.Test.YtcfdplmapdgfmaaQBase
import Derived.Test.YtcfdplmapdgfmaaProg
import Derived.Laws.Strings2
import Derived.Laws.Slices
import Derived.WalkKit
import Derived.Maps.OwnSet
import Derived.Maps.Views
import Derived.Test.YtcfdplmapdgfmaaQCNum
import Derived.Lib.Hide
import Derived.Outline
import Derived.Deep.QuietTactic
import Derived.BigQuiet
import Derived.Deep.LoopGhost
import Derived.Lib.AppendStr
import Derived.Laws.AppendOwn
import Derived.OwnWalk
import Derived.Below
import Derived.Lib.FrozenHead
import Derived.Lib.ConvBytes
import Derived.Test.YtcfdplmapdgfmaaQCPure
import Derived.Deep.RegionHeld3
import Derived.Deep.DrawnRows
set_option linter.unusedVariables false
set_option linter.unusedSimpArgs false
namespace Go.Proofs.Ytcfdplmapdgfmaa.Mine
open Go.RowKit Go.Proofs.YtcfdplmapdgfmaaW.PrintWords
theorem slice_run (s : ByteArray) (a b : Nat) (x y : Int) (hx : x = (a : Int)) (hy : y = (b : Int)) (hab : a ≤ b) (hb : b ≤ s.size) :
  ∀ W : World, (Instr.slice 9 (.string s) (some (.int .i64 x)) (some (.int .i64 y)) none).run Try.prog W = .ok (.string (s.extract a b)) W := by
 intro W
 subst hx hy
 have h := run_slice_string (P := Try.prog) (w := W) 9 s .i64 .i64 (a : Int) (b : Int) Try.underlying9 (by omega) (by omega) (by omega)
 simpa using h
theorem bsD_lt (s : ByteArray) (i : Nat) : (bs s).getD i 0 < 256 := by
 rw [List.getD_eq_getElem?_getD]
 by_cases h : i < (bs s).length
 ·rw [List.getElem?_eq_getElem h]; exact bs_lt s _ (List.getElem_mem h)
 ·rw [List.getElem?_eq_none (by omega)]; simp
theorem index_run (s : ByteArray) (j c : Nat) (z : Int) (hz : z = (j : Int)) (hj : j < s.size) (hc : c = (bs s).getD j 0) :
  ∀ W : World, (Instr.index 9 (.string s) (.int .i64 z)).run Try.prog W = .ok (.int .u8 (c : Int)) W := by
 intro W
 subst hz
 rw [run_index_string _ _ _ _ _ Try.underlying9, dif_pos ⟨by omega, by omega⟩]
 have e : (s[(j : Int).toNat]'(by simpa using hj)).toNat = c := by
  rw [hc, List.getD_eq_getElem?_getD, List.getElem?_eq_getElem (by rw [z05]; exact hj)]
  have e0 : s[(j : Int).toNat]'(by simpa using hj) = s[j] := by simp
  rw [e0]
  unfold bs
  rw [List.getElem_map]
  rfl
 exact congrArg (fun n : Nat => Result.ok (Value.int .u8 (n : Int)) W) e
end Go.Proofs.Ytcfdplmapdgfmaa.Mine
namespace Go.Proofs.Ytcfdplmapdgfmaa.Mine
open Go Go.RowKit
theorem wrap_at (x : Int) (h : 0 ≤ x) (h2 : x ≤ 9223372036854775807) : IntKind.i64.wrap x = x := by
 rw [IntKind.wrap_i64]; omega
end Go.Proofs.Ytcfdplmapdgfmaa.Mine
set_option linter.unusedVariables false
set_option linter.unusedSimpArgs false
namespace Go.Proofs.Ytcfdplmapdgfmaa.Mine
open Go.RowKit Go.Proofs.YtcfdplmapdgfmaaW.PrintWords
end Go.Proofs.Ytcfdplmapdgfmaa.Mine
set_option linter.unusedVariables false
set_option linter.unusedSimpArgs false
namespace Go.Proofs.Ytcfdplmapdgfmaa.Mine
open Go.RowKit Go.Proofs.YtcfdplmapdgfmaaW.PrintWords
def w4 (l : List Nat) (i : Nat) : List Nat := (l.drop i).take 4
end Go.Proofs.Ytcfdplmapdgfmaa.Mine
set_option linter.unusedVariables false
set_option linter.unusedSimpArgs false
namespace Go.Proofs.Ytcfdplmapdgfmaa.Mine
open Go.RowKit Go.Proofs.YtcfdplmapdgfmaaW.PrintWords
end Go.Proofs.Ytcfdplmapdgfmaa.Mine
set_option linter.unusedVariables false
set_option linter.unusedSimpArgs false
namespace Go.Proofs.Ytcfdplmapdgfmaa.Mine
open Go.RowKit Go.Proofs.YtcfdplmapdgfmaaW.PrintWords
end Go.Proofs.Ytcfdplmapdgfmaa.Mine
set_option linter.unusedVariables false
set_option linter.unusedSimpArgs false
namespace Go.Proofs.Ytcfdplmapdgfmaa.Mine
open Go.RowKit Go.Proofs.YtcfdplmapdgfmaaW.PrintWords
section
variable {B : Nat} {l : List Nat} {v : Value} {w w' : World}
end
end Go.Proofs.Ytcfdplmapdgfmaa.Mine
set_option linter.unusedVariables false
set_option linter.unusedSimpArgs false
namespace Go.Proofs.Ytcfdplmapdgfmaa.Mine
open Go Go.RowKit Go.Lib Go.Proofs.YtcfdplmapdgfmaaW.PrintWords
section
variable {B : Nat} {l : List Nat} {v : Value} {w w' : World}
end
end Go.Proofs.Ytcfdplmapdgfmaa.Mine
set_option linter.unusedVariables false
set_option linter.unusedSimpArgs false
namespace Go.Proofs.Ytcfdplmapdgfmaa.Mine
open Go.RowKit Go.Proofs.YtcfdplmapdgfmaaW.PrintWords
theorem grown_of_below {w w' : World} (h : Below w.heap.size w w') : w.grownBy w' none := ⟨h.os, h.tape, h.output, h.size, fun i hi _ => h.block i hi⟩
end Go.Proofs.Ytcfdplmapdgfmaa.Mine
set_option linter.unusedVariables false
set_option linter.unusedSimpArgs false
namespace Go.Proofs.Ytcfdplmapdgfmaa.Mine
open Go.RowKit Go.Proofs.YtcfdplmapdgfmaaW.PrintWords
attribute [local go_sem ↓] Go.wp_at_zero Go.wp_at_succ
end Go.Proofs.Ytcfdplmapdgfmaa.Mine
set_option linter.unusedVariables false
set_option linter.unusedSimpArgs false
namespace Go.Proofs.Ytcfdplmapdgfmaa.Mine
open Go.RowKit Go.Proofs.YtcfdplmapdgfmaaW.PrintWords
end Go.Proofs.Ytcfdplmapdgfmaa.Mine
