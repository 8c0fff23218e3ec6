import Derived.Test.YtcfdplmapdgfmaaZWInv
import Derived.Test.YtcfdplmapdgfmaaZWFootNe
namespace Go.Proofs.YtcfdplmapdgfmaaW.PrintWords
open Go.RowKit
end Go.Proofs.YtcfdplmapdgfmaaW.PrintWords
namespace Go.Proofs.YtcfdplmapdgfmaaW.PrintLast
section
variable {ops : Array Oper} {a : Act} {o og : Oper} {g : Nat} {t : Tmp} {u : Bool}
end
end Go.Proofs.YtcfdplmapdgfmaaW.PrintLast
