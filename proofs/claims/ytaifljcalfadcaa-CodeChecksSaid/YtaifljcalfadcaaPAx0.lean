/- Laid by a program of this session (wip/xprint.py) out of the translation: Go functions as Lean functions, and that the calls come to them; over contracts of this session that stand in the texts imported. -/
import Derived.Test.YtaifljcalfadcaaProg
import Derived.Below
import Derived.Deep.Draws
import Derived.Deep.AppendLies
import Derived.Maps.AppendAt
import Derived.OwnWalk
import Derived.Laws.BytesArg
import Derived.Laws.MakeOwn
import Derived.Laws.OwnMore
import Derived.Deep.OwnRows
import Derived.Tactics
import Derived.Lib.ConvBytes
import Derived.Laws.Slices
import Derived.WalkKit
import Derived.KernelRfl
import Derived.RowKit3
import Derived.Deep.LoopGhost
import Derived.Deep.QuietTactic
import Derived.BigQuiet
import Derived.WideLaws
import Derived.Deep.DeepCutAuto
import Derived.Deep.CutBlock
import Derived.Deep.RegionHeld3
import Derived.Laws.Rows
import Derived.Lib.AppendStr
import Derived.ArgAppend
import Derived.Laws.IdiomCopy
import Derived.OrdersHeld
import Derived.Laws.BitsLemmas
import Derived.RowKit
import Derived.Test.YtaifljcalfadcaaUnnum
import Derived.Test.YtaifljcalfadcaaCheck
import Derived.Test.YtaifljcalfadcaaDec
import Derived.Test.YtaifljcalfadcaaHex
import Derived.Test.YtaifljcalfadcaaUnhex
import Derived.Test.YtaifljcalfadcaaWWords
import Derived.Test.YtaifljcalfadcaaWLast
import Derived.Test.YtaifljcalfadcaaWTab
import Derived.Test.YtaifljcalfadcaaWFour
import Derived.Test.YtaifljcalfadcaaWQPut
import Derived.Test.YtaifljcalfadcaaWApart
import Derived.Test.YtaifljcalfadcaaWArr
import Derived.Test.YtaifljcalfadcaaWZeros
import Derived.Test.YtaifljcalfadcaaWFoot
import Derived.Test.YtaifljcalfadcaaWKept
import Derived.Test.YtaifljcalfadcaaWShare
import Derived.Test.YtaifljcalfadcaaWN
import Derived.Test.YtaifljcalfadcaaWFootNe
import Derived.Test.YtaifljcalfadcaaWAt
import Derived.Test.YtaifljcalfadcaaWEqStruct
import Derived.Test.YtaifljcalfadcaaWRepsOne
import Derived.Test.YtaifljcalfadcaaWInv
import Derived.Test.YtaifljcalfadcaaWInvWords
import Derived.Test.YtaifljcalfadcaaWGuard
import Derived.Test.YtaifljcalfadcaaWNEv
import Derived.Test.YtaifljcalfadcaaWMore
namespace Go.Proofs.Ytaifljcalfadcaa.PA
open Go.RowKit Go.Proofs.YtaifljcalfadcaaW.PrintWords Go.Proofs.YtaifljcalfadcaaW.PrintLast Go.Proofs.YtaifljcalfadcaaW.PrintMore
attribute [local go_sem] max2_int min2_int max_two min_two max_three min_three max_four min_four   -- for this text's walks alone
set_option linter.unusedVariables false
set_option linter.unusedSimpArgs false



def errW : Option Int → Value
  | none => .nilIface
  | some c => .iface 0 (.int .i64 c)
theorem errW_none : errW none = .nilIface := rfl
theorem errW_some (c : Int) : errW (some c) = .iface 0 (.int .i64 c) := rfl

theorem info5 : (Try.prog.info? 5).map (fun i => (i.zero, i.size, i.bytes)) = some (some (.int .u8 0), 1, 1) := by kernel_rfl
-- the values' own types

end Go.Proofs.Ytaifljcalfadcaa.PA
