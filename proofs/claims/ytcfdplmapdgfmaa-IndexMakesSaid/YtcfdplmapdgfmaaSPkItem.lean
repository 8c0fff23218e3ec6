import Derived.Test.YtcfdplmapdgfmaaSPkBuild
set_option linter.unusedVariables false
set_option linter.unusedSimpArgs false
namespace Go.Proofs.Ytcfdplmapdgfmaa.Mine
open Go.RowKit Go.Proofs.YtcfdplmapdgfmaaW.PrintWords
theorem index_runz (s : ByteArray) (j : Nat) (c : Int) (z : Int) (hz : z = (j : Int)) (hj : j < s.size) (hc : c = (((bs s).getD j 0 : Nat) : Int)) : ∀ W : World, (Instr.index 9 (.string s) (.int .i64 z)).run Try.prog W = .ok (.int .u8 c) W := by
 subst hc; exact index_run s j _ z hz hj rfl
end Go.Proofs.Ytcfdplmapdgfmaa.Mine
