/- Laid by a program of this session (wip/xprint.py) out of the translation: Go functions as Lean functions, and that the calls come to them; over contracts of this session that stand in the texts imported. -/
import Derived.Test.YtaifljcalfadcaaPAx0
import Derived.Test.YtaifljcalfadcaaPAx1
import Derived.Test.YtaifljcalfadcaaPAx2
import Derived.Test.YtaifljcalfadcaaPAx3
import Derived.Test.YtaifljcalfadcaaPAx4
import Derived.Test.YtaifljcalfadcaaPAx5
import Derived.Test.YtaifljcalfadcaaPAx6
import Derived.Test.YtaifljcalfadcaaPAx7
import Derived.Test.YtaifljcalfadcaaPAx8
namespace Go.Proofs.Ytaifljcalfadcaa.PA
open Go.RowKit Go.Proofs.YtaifljcalfadcaaW.PrintWords Go.Proofs.YtaifljcalfadcaaW.PrintLast Go.Proofs.YtaifljcalfadcaaW.PrintMore
attribute [local go_sem] max2_int min2_int max_two min_two max_three min_three max_four min_four   -- for this text's walks alone
set_option linter.unusedVariables false
set_option linter.unusedSimpArgs false

end Go.Proofs.Ytaifljcalfadcaa.PA
