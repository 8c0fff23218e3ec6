import Derived.Test.YtcfdplmapdgfmaaQPkItem
import Derived.Test.YtcfdplmapdgfmaaQCPure
import Derived.Test.YtcfdplmapdgfmaaQLzA
import Derived.Test.YtcfdplmapdgfmaaQSmC
set_option linter.unusedVariables false
set_option linter.unusedSimpArgs false
namespace Go.Proofs.Ytcfdplmapdgfmaa.Mine
open Go.RowKit Go.Proofs.YtcfdplmapdgfmaaW.PrintWords
theorem sha_ref (l : List Nat) : sha l = refSum l := sha_eq l
end Go.Proofs.Ytcfdplmapdgfmaa.Mine
