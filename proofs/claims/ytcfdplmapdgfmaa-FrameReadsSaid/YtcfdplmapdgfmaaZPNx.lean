import Derived.Test.YtcfdplmapdgfmaaZPNx0
import Derived.Test.YtcfdplmapdgfmaaZPNx1
import Derived.Test.YtcfdplmapdgfmaaZPNx2
import Derived.Test.YtcfdplmapdgfmaaZPNx3
import Derived.Test.YtcfdplmapdgfmaaZPNx4
namespace Go.Proofs.Ytcfdplmapdgfmaa.PN
open Go.RowKit Go.Proofs.YtcfdplmapdgfmaaW.PrintWords Go.Proofs.YtcfdplmapdgfmaaW.PrintLast Go.Proofs.YtcfdplmapdgfmaaW.PrintMore
attribute [local go_sem] z2s z2t z2u z2v z2w z2x z2y z2z   -- for this text's walks alone
set_option linter.unusedVariables false
set_option linter.unusedSimpArgs false
end Go.Proofs.Ytcfdplmapdgfmaa.PN
