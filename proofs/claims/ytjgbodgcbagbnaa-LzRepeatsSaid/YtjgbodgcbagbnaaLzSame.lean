/- lz: how many bytes from two places on are the same; the places of each four bytes. -/
import Derived.Test.YtjgbodgcbagbnaaLzBase
import Derived.Test.YtjgbodgcbagbnaaMapView
import Derived.Test.YtjgbodgcbagbnaaLoopKit
import Derived.Lib.Hide
import Derived.Outline
import Derived.Deep.QuietTactic
import Derived.BigQuiet
import Derived.Deep.LoopGhost
set_option linter.unusedVariables false
set_option linter.unusedSimpArgs false
namespace Go.Proofs.Ytjgbodgcbagbnaa.Mine
open Go.RowKit Go.Proofs.YtjgbodgcbagbnaaW.PrintWords

set_option maxRecDepth 100000 in
set_option maxHeartbeats 1000000 in
theorem same_calls (s : ByteArray) (a b : Nat) (w : World) (hs : s.size ≤ 10000000) (hab : a ≤ b) (hb : b ≤ s.size) :
    Calls Try.prog 57 #[.string s, .int .i64 a, .int .i64 b] w fun e w' => e = .returned (.int .i64 (lcp ((bs s).drop b) ((bs s).drop a) : Nat)) ∧ Below w.heap.size w w' := by
  obtain ⟨N, hN⟩ : ∃ N, N = lcp ((bs s).drop b) ((bs s).drop a) := ⟨_, rfl⟩
  rw [← hN]
  have HN := Lib.hid hN
  clear hN
  go_enter Try.func57, Try.ntmps57
  go_wp2_with (fail)
  go_loopg [7] (s.size - b) (fun g s7 wz => ∃ (j : Nat), b + j ≤ s.size ∧ g = s.size - b - j ∧ s7 = .int .i64 j ∧ Hid (N = j + lcp ((bs s).drop (b + j)) ((bs s).drop (a + j))) ∧ Hid (Drawn0 w wz))
  case atStart =>
    exact ⟨0, hb, rfl, rfl, by unfold Hid; rw [Nat.add_zero, Nat.add_zero, Nat.zero_add]; exact HN.out, Drawn0.refl _⟩
  case round =>
    obtain ⟨j, hj1, hg, rfl, HJ, HD⟩ := hrel
    have HG := Lib.hid hg
    clear hg
    have z1 : IntKind.i64.wrap ((a : Int) + j) = (a : Int) + j := wrap_at _ (by omega) (by omega)
    have z2 : IntKind.i64.wrap ((b : Int) + j) = (b : Int) + j := wrap_at _ (by omega) (by omega)
    by_cases h1 : b + j < s.size
    · have h1b : decide ((b : Int) + j < s.size) = true := by simp; omega
      obtain ⟨c, hc⟩ : ∃ c, c = (bs s).getD (a + j) 0 := ⟨_, rfl⟩
      obtain ⟨d, hd⟩ : ∃ d, d = (bs s).getD (b + j) 0 := ⟨_, rfl⟩
      have hx1 := index_run s (a + j) c ((a : Int) + j) (by omega) (by omega) hc
      have hx2 := index_run s (b + j) d ((b : Int) + j) (by omega) h1 hd
      have HC := Lib.hid (And.intro hc hd)
      clear hc hd
      have hl : Hid (N = j + (if d = c then lcp ((bs s).drop (b + (j + 1))) ((bs s).drop (a + (j + 1))) + 1 else 0)) := by
        have hn := HJ.out
        rw [lcp_at _ _ _ _ (by rw [bs_length]; exact h1) (by rw [bs_length]; omega), ← HC.out.1, ← HC.out.2] at hn
        exact hn
      by_cases h3 : c = d
      · subst h3
        go_wp2_with (fail)
        go_quiet (fail)
        go_wp2_with (fail)
        go_roundg (s.size - b - (j + 1))
        case measure => have := HG.out; omega
        case rel =>
          refine ⟨j + 1, by omega, rfl, by go_num, ?_, HD.out.step nq⟩
          have hn := hl.out
          rw [if_pos True.intro] at hn
          unfold Hid
          omega
      · have h3b : ((c : Int) == (d : Int)) = false := by simp; omega
        go_wp2_with (fail)
        go_quiet (fail)
        go_wp2_with (fail)
        go_ret
        have hn := hl.out
        rw [if_neg (fun e => h3 e.symm), Nat.add_zero] at hn
        subst hn
        exact ⟨rfl, (HD.out.step nq).below⟩
    · have h1b : decide ((b : Int) + j < s.size) = false := by simp; omega
      go_wp2_with (fail)
      go_quiet (fail)
      go_wp2_with (fail)
      go_ret
      have hn := HJ.out
      rw [List.drop_eq_nil_of_le (show (bs s).length ≤ b + j from by rw [bs_length]; omega), lcp_nil_left, Nat.add_zero] at hn
      subst hn
      exact ⟨rfl, (HD.out.step nq).below⟩
end Go.Proofs.Ytjgbodgcbagbnaa.Mine
