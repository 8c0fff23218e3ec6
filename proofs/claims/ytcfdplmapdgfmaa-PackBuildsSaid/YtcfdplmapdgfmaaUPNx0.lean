import Derived.Test.YtcfdplmapdgfmaaProg
import Derived.Below
import Derived.Deep.Draws
import Derived.Deep.AppendLies
import Derived.Maps.AppendAt
import Derived.OwnWalk
import Derived.Laws.BytesArg
import Derived.Laws.MakeOwn
import Derived.Laws.OwnMore
import Derived.Deep.OwnRows
import Derived.Tactics
import Derived.Lib.ConvBytes
import Derived.Laws.Slices
import Derived.WalkKit
import Derived.KernelRfl
import Derived.RowKit3
import Derived.Deep.LoopGhost
import Derived.Deep.QuietTactic
import Derived.BigQuiet
import Derived.WideLaws
import Derived.Deep.DeepCutAuto
import Derived.Deep.CutBlock
import Derived.Deep.RegionHeld3
import Derived.Laws.Rows
import Derived.Lib.AppendStr
import Derived.ArgAppend
import Derived.Laws.IdiomCopy
import Derived.OrdersHeld
import Derived.Laws.BitsLemmas
import Derived.RowKit
import Derived.Test.YtcfdplmapdgfmaaUCNum
import Derived.Test.YtcfdplmapdgfmaaUWWords
import Derived.Test.YtcfdplmapdgfmaaUWLast
import Derived.Test.YtcfdplmapdgfmaaUWApart
import Derived.Test.YtcfdplmapdgfmaaUWKept
import Derived.Test.YtcfdplmapdgfmaaUWShare
import Derived.Test.YtcfdplmapdgfmaaUWN
import Derived.Laws.StructEq
import Derived.Test.YtcfdplmapdgfmaaUWRepsOne
import Derived.Test.YtcfdplmapdgfmaaUWInv
import Derived.Test.YtcfdplmapdgfmaaUWMore
namespace Go.Proofs.Ytcfdplmapdgfmaa.PN
open Go.RowKit Go.Proofs.YtcfdplmapdgfmaaW.PrintWords Go.Proofs.YtcfdplmapdgfmaaW.PrintLast Go.Proofs.YtcfdplmapdgfmaaW.PrintMore
attribute [local go_sem] z13 z14 max_two min_two z15 z17 z18 z19   -- for this text's walks alone
set_option linter.unusedVariables false
set_option linter.unusedSimpArgs false
def errW : Option Int → Value
 | none => .nilIface
 | some c => .iface 0 (.int .i64 c)
theorem z0o : errW none = .nilIface := rfl
theorem z0p (c : Int) : errW (some c) = .iface 0 (.int .i64 c) := rfl
theorem info5 : (Try.prog.info? 5).map (fun i => (i.zero, i.size, i.bytes)) = some (some (.int .u8 0), 1, 1) := by kernel_rfl
-- the values' own types
end Go.Proofs.Ytcfdplmapdgfmaa.PN
