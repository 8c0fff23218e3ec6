import Derived.Test.YtcfdplmapdgfmaaQCNum
import Derived.Test.YtcfdplmapdgfmaaProg
import Derived.Below
import Derived.Deep.Draws
import Derived.Deep.AppendLies
import Derived.Maps.AppendAt
import Derived.OwnWalk
import Derived.Laws.BytesArg
import Derived.Laws.MakeOwn
import Derived.Laws.OwnMore
import Derived.Deep.OwnRows
import Derived.Tactics
import Derived.Lib.ConvBytes
import Derived.Laws.Slices
import Derived.WalkKit
import Derived.KernelRfl
import Derived.RowKit3
import Derived.Deep.LoopGhost
import Derived.Deep.QuietTactic
import Derived.BigQuiet
import Derived.WideLaws
import Derived.Deep.DeepCutAuto
import Derived.Deep.CutBlock
import Derived.Deep.RegionHeld3
import Derived.Laws.Rows
import Derived.Lib.AppendStr
import Derived.ArgAppend
import Derived.Laws.IdiomCopy
import Derived.OrdersHeld
import Derived.Laws.BitsLemmas
import Derived.RowKit
import Derived.Test.YtcfdplmapdgfmaaQWWords
import Derived.Test.YtcfdplmapdgfmaaQWApart
import Derived.Test.YtcfdplmapdgfmaaQWShare
import Derived.Test.YtcfdplmapdgfmaaQWN
import Derived.Laws.StructEq
import Derived.Test.YtcfdplmapdgfmaaQWRepsOne
import Derived.Test.YtcfdplmapdgfmaaQWMore
import Derived.Test.YtcfdplmapdgfmaaQBase
import Derived.Laws.BitsAllLaws
set_option linter.unusedVariables false
set_option linter.unusedSimpArgs false
namespace Go.Proofs.Ytcfdplmapdgfmaa.Mine
open Go.RowKit Go.Proofs.YtcfdplmapdgfmaaW.PrintWords
end Go.Proofs.Ytcfdplmapdgfmaa.Mine
namespace Go.Proofs.Ytcfdplmapdgfmaa.Mine
open Go.RowKit Go.Proofs.YtcfdplmapdgfmaaW.PrintWords
end Go.Proofs.Ytcfdplmapdgfmaa.Mine
namespace Go.Proofs.Ytcfdplmapdgfmaa.Mine
open Go.RowKit Go.Proofs.YtcfdplmapdgfmaaW.PrintWords Go.Proofs.YtcfdplmapdgfmaaW.PrintMore
end Go.Proofs.Ytcfdplmapdgfmaa.Mine
namespace Go.Proofs.Ytcfdplmapdgfmaa.Mine
open Go.RowKit Go.Proofs.YtcfdplmapdgfmaaW.PrintWords Go.Proofs.YtcfdplmapdgfmaaW.PrintMore
end Go.Proofs.Ytcfdplmapdgfmaa.Mine
namespace Go.Proofs.Ytcfdplmapdgfmaa.Mine
open Go.RowKit Go.Proofs.YtcfdplmapdgfmaaW.PrintWords
def four (r : Nat) : List Nat := [r / 16777216 % 256, r / 65536 % 256, r / 256 % 256, r % 256]
def frame (l : List Nat) : List Nat := num l.length ++ l ++ four (crc (num l.length ++ l))
end Go.Proofs.Ytcfdplmapdgfmaa.Mine
