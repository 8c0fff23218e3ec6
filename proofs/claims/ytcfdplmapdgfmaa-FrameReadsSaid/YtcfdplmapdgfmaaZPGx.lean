import Derived.Test.YtcfdplmapdgfmaaZPGx0
import Derived.Test.YtcfdplmapdgfmaaZPGx1
import Derived.Test.YtcfdplmapdgfmaaZPGx2
namespace Go.Proofs.Ytcfdplmapdgfmaa.PG
open Go.RowKit Go.Proofs.YtcfdplmapdgfmaaW.PrintWords Go.Proofs.YtcfdplmapdgfmaaW.PrintLast Go.Proofs.YtcfdplmapdgfmaaW.PrintMore
attribute [local go_sem] z2s z2t z2u z2v z2w z2x z2y z2z   -- for this text's walks alone
set_option linter.unusedVariables false
set_option linter.unusedSimpArgs false
end Go.Proofs.Ytcfdplmapdgfmaa.PG
