/- Laid by a program of this session (wip/xprint.py) out of the translation: Go functions as Lean functions, and that the calls come to them; over contracts of this session that stand in the texts imported. -/
import Derived.Test.YtcfdplmapdgfmaaPGx0
import Derived.Test.YtcfdplmapdgfmaaPGx1
import Derived.Test.YtcfdplmapdgfmaaPGx2
namespace Go.Proofs.Ytcfdplmapdgfmaa.PG
open Go.RowKit Go.Proofs.YtcfdplmapdgfmaaW.PrintWords Go.Proofs.YtcfdplmapdgfmaaW.PrintLast Go.Proofs.YtcfdplmapdgfmaaW.PrintMore
attribute [local go_sem] max2_int min2_int max_two min_two max_three min_three max_four min_four   -- for this text's walks alone
set_option linter.unusedVariables false
set_option linter.unusedSimpArgs false

end Go.Proofs.Ytcfdplmapdgfmaa.PG
