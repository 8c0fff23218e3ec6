import Derived.Test.YtcfdplmapdgfmaaQBase
import Derived.Test.YtcfdplmapdgfmaaProg
import Derived.Lib.Hide
import Derived.Laws.BitsAllLaws
namespace Go.Proofs.Ytcfdplmapdgfmaa.Mine
open Go.RowKit Go.Proofs.YtcfdplmapdgfmaaW.PrintWords
end Go.Proofs.Ytcfdplmapdgfmaa.Mine
namespace Go.Proofs.Ytcfdplmapdgfmaa.Mine
open Go.RowKit Go.Proofs.YtcfdplmapdgfmaaW.PrintWords
end Go.Proofs.Ytcfdplmapdgfmaa.Mine
set_option linter.unusedVariables false
set_option linter.unusedSimpArgs false
namespace Go.Proofs.Ytcfdplmapdgfmaa.Mine
open Go.RowKit Go.Proofs.YtcfdplmapdgfmaaW.PrintWords
def rest (x : Nat) : List Nat := if _h : x = 0 then [] else rest ((x - 1) / 128) ++ [(x - 1) % 128 + 128]
termination_by x
decreasing_by omega
def num (n : Nat) : List Nat := rest (n / 128) ++ [n % 128]
end Go.Proofs.Ytcfdplmapdgfmaa.Mine
