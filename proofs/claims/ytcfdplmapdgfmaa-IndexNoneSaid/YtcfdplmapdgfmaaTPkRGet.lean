import Derived.Test.YtcfdplmapdgfmaaTPkItem
import Derived.Test.YtcfdplmapdgfmaaTCPure
import Derived.Test.YtcfdplmapdgfmaaTLzA
import Derived.Test.YtcfdplmapdgfmaaTSmC
set_option linter.unusedVariables false
set_option linter.unusedSimpArgs false
namespace Go.Proofs.Ytcfdplmapdgfmaa.Mine
open Go.RowKit Go.Proofs.YtcfdplmapdgfmaaW.PrintWords
theorem sha_ref (l : List Nat) : sha l = refSum l := sha_eq l
end Go.Proofs.Ytcfdplmapdgfmaa.Mine
