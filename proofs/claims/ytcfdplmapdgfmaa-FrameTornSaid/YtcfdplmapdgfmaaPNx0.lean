/- Laid by a program of this session (wip/xprint.py) out of the translation: Go functions as Lean functions, and that the calls come to them; over contracts of this session that stand in the texts imported. -/
import Derived.Test.YtcfdplmapdgfmaaProg
import Derived.Below
import Derived.Deep.Draws
import Derived.Deep.AppendLies
import Derived.Maps.AppendAt
import Derived.OwnWalk
import Derived.Laws.BytesArg
import Derived.Laws.MakeOwn
import Derived.Laws.OwnMore
import Derived.Deep.OwnRows
import Derived.Tactics
import Derived.Lib.ConvBytes
import Derived.Laws.Slices
import Derived.WalkKit
import Derived.KernelRfl
import Derived.RowKit3
import Derived.Deep.LoopGhost
import Derived.Deep.QuietTactic
import Derived.BigQuiet
import Derived.WideLaws
import Derived.Deep.DeepCutAuto
import Derived.Deep.CutBlock
import Derived.Deep.RegionHeld3
import Derived.Laws.Rows
import Derived.Lib.AppendStr
import Derived.ArgAppend
import Derived.Laws.IdiomCopy
import Derived.OrdersHeld
import Derived.Laws.BitsLemmas
import Derived.RowKit
import Derived.Test.YtcfdplmapdgfmaaCNum
import Derived.Test.YtcfdplmapdgfmaaCNum
import Derived.Test.YtcfdplmapdgfmaaWWords
import Derived.Test.YtcfdplmapdgfmaaWLast
import Derived.Test.YtcfdplmapdgfmaaWTab
import Derived.Test.YtcfdplmapdgfmaaWFour
import Derived.Test.YtcfdplmapdgfmaaWQPut
import Derived.Test.YtcfdplmapdgfmaaWApart
import Derived.Test.YtcfdplmapdgfmaaWArr
import Derived.Test.YtcfdplmapdgfmaaWZeros
import Derived.Test.YtcfdplmapdgfmaaWFoot
import Derived.Test.YtcfdplmapdgfmaaWKept
import Derived.Test.YtcfdplmapdgfmaaWShare
import Derived.Test.YtcfdplmapdgfmaaWN
import Derived.Test.YtcfdplmapdgfmaaWFootNe
import Derived.Test.YtcfdplmapdgfmaaWAt
import Derived.Test.YtcfdplmapdgfmaaWEqStruct
import Derived.Test.YtcfdplmapdgfmaaWRepsOne
import Derived.Test.YtcfdplmapdgfmaaWInv
import Derived.Test.YtcfdplmapdgfmaaWInvWords
import Derived.Test.YtcfdplmapdgfmaaWGuard
import Derived.Test.YtcfdplmapdgfmaaWNEv
import Derived.Test.YtcfdplmapdgfmaaWMore
namespace Go.Proofs.Ytcfdplmapdgfmaa.PN
open Go.RowKit Go.Proofs.YtcfdplmapdgfmaaW.PrintWords Go.Proofs.YtcfdplmapdgfmaaW.PrintLast Go.Proofs.YtcfdplmapdgfmaaW.PrintMore
attribute [local go_sem] max2_int min2_int max_two min_two max_three min_three max_four min_four   -- for this text's walks alone
set_option linter.unusedVariables false
set_option linter.unusedSimpArgs false



def errW : Option Int → Value
  | none => .nilIface
  | some c => .iface 0 (.int .i64 c)
theorem errW_none : errW none = .nilIface := rfl
theorem errW_some (c : Int) : errW (some c) = .iface 0 (.int .i64 c) := rfl

theorem info5 : (Try.prog.info? 5).map (fun i => (i.zero, i.size, i.bytes)) = some (some (.int .u8 0), 1, 1) := by kernel_rfl
-- the values' own types

end Go.Proofs.Ytcfdplmapdgfmaa.PN
