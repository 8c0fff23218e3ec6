import Derived.Test.YtcfdplmapdgfmaaQLzA
import Derived.Test.YtcfdplmapdgfmaaQCPure
set_option linter.unusedVariables false
set_option linter.unusedSimpArgs false
namespace Go.Proofs.Ytcfdplmapdgfmaa.Mine
open Go.RowKit Go.Proofs.YtcfdplmapdgfmaaW.PrintWords
structure ItemP where
 base : ByteArray
 data : ByteArray
 pos : Int
end Go.Proofs.Ytcfdplmapdgfmaa.Mine
