import Derived.Test.YtcfdplmapdgfmaaQPkBuild
set_option linter.unusedVariables false
set_option linter.unusedSimpArgs false
namespace Go.Proofs.Ytcfdplmapdgfmaa.Mine
open Go.RowKit Go.Proofs.YtcfdplmapdgfmaaW.PrintWords
theorem slice_to (s : ByteArray) (b : Nat) (z : Int) (k : IntKind) (hz : z = (b : Int)) (hb : b ≤ s.size) : ∀ W : World, (Instr.slice 9 (.string s) none (some (.int k z)) none).run Try.prog W = .ok (.string (s.extract 0 b)) W := by
 intro W
 subst hz
 have h := run_slice_string_to_if (P := Try.prog) (w := W) 9 s k (b : Int) Try.underlying9
 rw [h]
 have h1 : (0 : Int) ≤ (b : Int) ∧ (b : Int) ≤ s.size := by omega
 simp [h1]
theorem slice_fromz (s : ByteArray) (a : Nat) (z : Int) (k : IntKind) (hz : z = (a : Int)) (hb : a ≤ s.size) : ∀ W : World, (Instr.slice 9 (.string s) (some (.int k z)) none none).run Try.prog W = .ok (.string (s.extract a s.size)) W := by
 subst hz
 intro W
 have h := run_slice_string_from_if (P := Try.prog) (w := W) 9 s k (a : Int) Try.underlying9
 rw [h]
 have h1 : (0 : Int) ≤ (a : Int) ∧ (a : Int) ≤ s.size := by omega
 simp [h1]
theorem z0e (s : ByteArray) (j : Nat) (c : Int) (z : Int) (hz : z = (j : Int)) (hj : j < s.size) (hc : c = (((bs s).getD j 0 : Nat) : Int)) : ∀ W : World, (Instr.index 9 (.string s) (.int .i64 z)).run Try.prog W = .ok (.int .u8 c) W := by
 subst hc; exact index_run s j _ z hz hj rfl
end Go.Proofs.Ytcfdplmapdgfmaa.Mine
