import Derived.Test.YtcfdplmapdgfmaaZPFx0
import Derived.Test.YtcfdplmapdgfmaaZPFx1
import Derived.Test.YtcfdplmapdgfmaaZPFx2
import Derived.Test.YtcfdplmapdgfmaaZPFx3
import Derived.Test.YtcfdplmapdgfmaaZPFx4
import Derived.Test.YtcfdplmapdgfmaaZPFx5
import Derived.Test.YtcfdplmapdgfmaaZPFx6
import Derived.Test.YtcfdplmapdgfmaaZPFx7
namespace Go.Proofs.Ytcfdplmapdgfmaa.PF
open Go.RowKit Go.Proofs.YtcfdplmapdgfmaaW.PrintWords Go.Proofs.YtcfdplmapdgfmaaW.PrintLast Go.Proofs.YtcfdplmapdgfmaaW.PrintMore
attribute [local go_sem] z2s z2t z2u z2v z2w z2x z2y z2z   -- for this text's walks alone
set_option linter.unusedVariables false
set_option linter.unusedSimpArgs false
end Go.Proofs.Ytcfdplmapdgfmaa.PF
