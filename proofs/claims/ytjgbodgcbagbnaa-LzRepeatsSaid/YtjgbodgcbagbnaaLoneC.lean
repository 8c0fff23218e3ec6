/- The law's own test: does each four bytes of a text that goes round stand once? -/
import Derived.Test.YtjgbodgcbagbnaaPureRep
import Derived.Test.YtjgbodgcbagbnaaLzSame
set_option linter.unusedVariables false
set_option linter.unusedSimpArgs false
namespace Go.Proofs.Ytjgbodgcbagbnaa.Mine
open Go.RowKit Go.Proofs.YtjgbodgcbagbnaaW.PrintWords

theorem w4_ext' (s : ByteArray) (j : Nat) : bs (s.extract j (j + 4)) = w4 (bs s) j := by
  rw [bs_extract, w4]; congr 1; omega
set_option maxRecDepth 100000 in
set_option maxHeartbeats 2000000 in
theorem lone_calls (t : ByteArray) (w : World) (ht : t.size ≤ 1000) :
    Calls Try.prog 34 #[.string t] w fun e w' => ∃ b, e = .returned (.bool b) ∧ (b = true → LoneT (bs t)) ∧ Below w.heap.size w w' := by
  obtain ⟨U, hU⟩ : ∃ U, U = t ++ t := ⟨_, rfl⟩
  have hUb : bs U = bs t ++ bs t := by rw [hU, bs_append]
  have hUz : U.size = t.size + t.size := by rw [hU, ByteArray.size_append]
  have HUB := Lib.hid hUb
  by_cases h4 : 4 ≤ t.size
  · have h4b : decide ((t.size : Int) ≥ 4) = true := by simp; omega
    have h4c : decide (4 ≤ t.size) = true := by simp; omega
    clear hUb
    go_enter Try.func34, Try.ntmps34
    go_wp2_with fail
    rw [← hU]
    clear hU
    go_loopg [4] t.size (fun g s4 wr => ∃ (i : Nat), i ≤ t.size ∧ g = t.size - i ∧ s4 = .int .i64 i ∧ Hid (∀ a k, k < a → a < i → w4 (bs U) a ≠ w4 (bs U) k) ∧ Hid (Drawn0 w wr))
    case atStart =>
      exact ⟨0, Nat.zero_le _, rfl, rfl, fun a k h1 h2 => by omega, Drawn0.refl _⟩
    case round =>
      obtain ⟨i, hi, hg, rfl, HI, HD⟩ := hrel
      have HG := Lib.hid hg
      clear hg
      by_cases hlt : i < t.size
      · have hltb : decide ((i : Int) < (t.size : Int)) = true := by simp; omega
        go_wp2_with fail
        go_loopg [5] i (fun g s5 wz => ∃ (j : Nat), j ≤ i ∧ g = i - j ∧ s5 = .int .i64 j ∧ Hid (∀ k, k < j → w4 (bs U) i ≠ w4 (bs U) k) ∧ Hid (Drawn0 w wz))
        case atStart =>
          exact ⟨0, Nat.zero_le _, rfl, rfl, fun k h1 => by omega, HD.out⟩
        case round =>
          obtain ⟨j, hj, hg, rfl, HJ, HDJ⟩ := hrel
          have HGJ := Lib.hid hg
          clear hg
          by_cases hji : j < i
          · have hjib : decide ((j : Int) < (i : Int)) = true := by simp; omega
            have hs1 := slice_run U i (i + 4) (i : Int) ((i : Int) + 4) rfl (by omega) (by omega) (by omega)
            have hs2 := slice_run U j (j + 4) (j : Int) ((j : Int) + 4) rfl (by omega) (by omega) (by omega)
            obtain ⟨k1, hk1⟩ : ∃ k1, k1 = U.extract i (i + 4) := ⟨_, rfl⟩
            obtain ⟨k2, hk2⟩ : ∃ k2, k2 = U.extract j (j + 4) := ⟨_, rfl⟩
            have b1 : bs k1 = w4 (bs U) i := by rw [hk1]; exact w4_ext' U i
            have b2 : bs k2 = w4 (bs U) j := by rw [hk2]; exact w4_ext' U j
            rw [← hk1] at hs1
            rw [← hk2] at hs2
            have z1 : IntKind.i64.wrap ((i : Int) + 4) = (i : Int) + 4 := wrap_at _ (by omega) (by omega)
            have z2 : IntKind.i64.wrap ((j : Int) + 4) = (j : Int) + 4 := wrap_at _ (by omega) (by omega)
            have HBB := Lib.hid (And.intro b1 b2)
            clear hk1 hk2 b1 b2
            by_cases he : k1 = k2
            · subst he
              have heb : (k1.toList == k1.toList) = true := by simp
              go_wp2_with fail
              go_quiet (fail)
              go_wp2_with fail
              go_ret
              exact ⟨false, rfl, fun h => absurd h (by simp), (HDJ.out.step nq).below⟩
            · have hne : ¬ k1.toList = k2.toList := fun e => he (bs_inj (by rw [toL, toL] at e; simp [bs, e]))
              have heb : (k1.toList == k2.toList) = false := by simpa using hne
              go_wp2_with fail
              go_quiet (fail)
              go_wp2_with fail
              go_roundg (i - (j + 1))
              case measure => have := HGJ.out; omega
              case rel =>
                refine ⟨j + 1, by omega, rfl, by go_num, ?_, HDJ.out.step nq⟩
                intro k hk
                by_cases e : k = j
                · subst e
                  rw [← HBB.out.1, ← HBB.out.2]
                  exact fun e => he (bs_inj e)
                · exact HJ.out k (by omega)
          · have hjib : decide ((j : Int) < (i : Int)) = false := by simp; omega
            obtain rfl : j = i := by omega
            go_wp2_with fail
            go_roundg (t.size - (j + 1))
            case measure => have := HG.out; omega
            case rel =>
              refine ⟨j + 1, by omega, rfl, by go_num, ?_, HDJ.out⟩
              intro a k h1 h2
              by_cases e : a = j
              · subst e; exact HJ.out k h1
              · exact HI.out a k h1 (by omega)
      · have hltb : decide ((i : Int) < (t.size : Int)) = false := by simp; omega
        obtain rfl : i = t.size := by omega
        go_wp2_with fail
        go_ret
        refine ⟨true, rfl, fun _ => ⟨by rw [bs_length]; exact h4, fun a k h1 h2 => ?_⟩, HD.out.below⟩
        rw [bs_length] at h2
        rw [← HUB.out]
        exact HI.out a k h1 h2
  · have h4b : decide ((t.size : Int) ≥ 4) = false := by simp; omega
    have h4c : decide (4 ≤ t.size) = false := by simp; omega
    clear hUb
    go_enter Try.func34, Try.ntmps34
    go_wp2_with fail
    rw [← hU]
    clear hU
    go_loopg [4] 1 (fun g s4 wr => g = 1 ∧ s4 = .int .i64 0 ∧ Hid (Drawn0 w wr))
    case atStart =>
      exact ⟨rfl, rfl, Drawn0.refl _⟩
    case round =>
      obtain ⟨hg, rfl, HD⟩ := hrel
      clear hg
      by_cases h0 : 0 < t.size
      · have h0b : decide ((0 : Int) < (t.size : Int)) = true := decide_eq_true (by omega)
        go_wp2_with fail
        go_ret
        exact ⟨false, rfl, fun h => absurd h (by simp), HD.out.below⟩
      · have h0b : decide ((0 : Int) < (t.size : Int)) = false := decide_eq_false (by omega)
        go_wp2_with fail
        go_ret
        exact ⟨false, rfl, fun h => absurd h (by simp), HD.out.below⟩
end Go.Proofs.Ytjgbodgcbagbnaa.Mine
