/- Words of chapter 4: how a text is pressed, on lists of numbers. No program in sight. -/
import Derived.Test.YtjgbodgcbagbnaaNumPure
import Derived.Test.YtjgbodgcbagbnaaStrKit
set_option linter.unusedVariables false
set_option linter.unusedSimpArgs false
namespace Go.Proofs.Ytjgbodgcbagbnaa.Mine
open Go.RowKit Go.Proofs.YtjgbodgcbagbnaaW.PrintWords

/-- The four bytes at a place. -/
def w4 (l : List Nat) (i : Nat) : List Nat := (l.drop i).take 4
/-- Where four bytes stood last, of the places ahead of j. -/
def lastF (l : List Nat) : Nat → List Nat → Option Nat
  | 0 => fun _ => none
  | j + 1 => if j + 4 ≤ l.length then updF (lastF l j) (w4 l j) j else lastF l j
theorem lastF_at (l : List Nat) : ∀ (j : Nat) (b : List Nat) (k : Nat), lastF l j b = some k → k < j ∧ k + 4 ≤ l.length ∧ w4 l k = b ∧ ∀ i, k < i → i < j → i + 4 ≤ l.length → w4 l i ≠ b
  | 0, _, _, h => by cases h
  | j + 1, b, k, h => by
    rw [lastF] at h
    split at h
    · rename_i hj
      rw [updF] at h
      split at h
      · rename_i e
        obtain rfl : j = k := Option.some.inj h
        exact ⟨by omega, hj, e.symm, fun i h1 h2 => by omega⟩
      · rename_i hne
        obtain ⟨h1, h2, h3, h4⟩ := lastF_at l j b k h
        refine ⟨by omega, h2, h3, fun i h5 h6 h7 => ?_⟩
        by_cases e : i = j
        · subst e; exact fun e => hne e.symm
        · exact h4 i h5 (by omega) h7
    · rename_i hj
      obtain ⟨h1, h2, h3, h4⟩ := lastF_at l j b k h
      exact ⟨by omega, h2, h3, fun i h5 h6 h7 => h4 i h5 (by omega) h7⟩
theorem lastF_none (l : List Nat) : ∀ (j : Nat) (b : List Nat), lastF l j b = none → ∀ i, i < j → i + 4 ≤ l.length → w4 l i ≠ b
  | 0, _, _, i, hi, _ => by omega
  | j + 1, b, h, i, hi, h4 => by
    rw [lastF] at h
    split at h
    · rw [updF] at h
      split at h
      · cases h
      · rename_i hne
        by_cases e : i = j
        · subst e; exact fun e => hne e.symm
        · exact lastF_none l j b h i (by omega) h4
    · rename_i hj
      exact lastF_none l j b h i (by omega) h4
theorem lastF_step (l : List Nat) (j : Nat) (h : j + 4 ≤ l.length) : lastF l (j + 1) = updF (lastF l j) (w4 l j) j := by rw [lastF, if_pos h]
theorem lastF_over (l : List Nat) (j : Nat) (h : l.length < j + 4) : ∀ d, lastF l (j + d) = lastF l j
  | 0 => rfl
  | d + 1 => by rw [show j + (d + 1) = (j + d) + 1 from by omega, lastF, if_neg (by omega), lastF_over l j h d]
/-- How far back the four bytes at a place stood last; 0: nowhere near. -/
def backP (l : List Nat) (at_ : Nat) : Nat :=
  if at_ + 4 ≤ l.length then match lastF l at_ (w4 l at_) with
    | none => 0
    | some k => if 32768 < at_ - k then 0 else at_ - k
  else 0
theorem backP_ok (l : List Nat) (at_ : Nat) (h : backP l at_ ≠ 0) : at_ + 4 ≤ l.length ∧ backP l at_ ≤ at_ ∧ backP l at_ ≤ 32768 ∧ w4 l (at_ - backP l at_) = w4 l at_ ∧ lastF l at_ (w4 l at_) = some (at_ - backP l at_) := by
  unfold backP at h ⊢
  split at h
  · rename_i h4
    rw [if_pos h4]
    split at h
    · exact absurd rfl h
    · rename_i k hk
      split at h
      · exact absurd rfl h
      · rename_i hf
        obtain ⟨h1, h2, h3, _⟩ := lastF_at l at_ _ k hk
        rw [hk, if_neg hf, show at_ - (at_ - k) = k from by omega]
        exact ⟨h4, by omega, by omega, h3, rfl⟩
  · exact absurd rfl h
theorem same4 (l : List Nat) (a b : Nat) (ha : a + 4 ≤ l.length) (hb : b + 4 ≤ l.length) (h : w4 l a = w4 l b) : lcp (l.drop b) (l.drop a) = 4 + lcp (l.drop (b + 4)) (l.drop (a + 4)) := by
  have := lcp_add 4 (l.drop b) (l.drop a) (by rw [List.length_drop]; omega) (by rw [List.length_drop]; omega) h.symm
  rwa [List.drop_drop, List.drop_drop] at this
/-- What is told of bytes that stand alone. -/
def lonesB (l : List Nat) : List Nat := if l = [] then [] else num l.length ++ l
/-- The steps from a place on; what stands from 'fr' on isn't told yet. -/
def mkP (l : List Nat) (at_ fr : Nat) : List Nat :=
  if _h : at_ < l.length then
    if backP l at_ = 0 then mkP l (at_ + 1) fr
    else num (at_ - fr) ++ (l.drop fr).take (at_ - fr) ++ num (backP l at_) ++ num (lcp (l.drop (at_ + 4)) (l.drop (at_ - backP l at_ + 4))) ++ mkP l (at_ + (4 + lcp (l.drop (at_ + 4)) (l.drop (at_ - backP l at_ + 4)))) (at_ + (4 + lcp (l.drop (at_ + 4)) (l.drop (at_ - backP l at_ + 4))))
  else lonesB (l.drop fr)
termination_by l.length - at_
decreasing_by all_goals omega
theorem mkP_end (l : List Nat) (at_ fr : Nat) (h : l.length ≤ at_) : mkP l at_ fr = lonesB (l.drop fr) := by
  rw [mkP, dif_neg (by omega)]
theorem mkP_none (l : List Nat) (at_ fr : Nat) (h : at_ < l.length) (hf : backP l at_ = 0) : mkP l at_ fr = mkP l (at_ + 1) fr := by
  rw [mkP, dif_pos h, if_pos hf]
theorem mkP_some (l : List Nat) (at_ fr b n : Nat) (h : at_ < l.length) (hb : backP l at_ = b) (hf : b ≠ 0) (hn : n = lcp (l.drop at_) (l.drop (at_ - b))) :
    4 ≤ n ∧ at_ + n ≤ l.length ∧ mkP l at_ fr = num (at_ - fr) ++ (l.drop fr).take (at_ - fr) ++ num b ++ num (n - 4) ++ mkP l (at_ + n) (at_ + n) := by
  subst hb
  obtain ⟨h1, h2, h3, h4, _⟩ := backP_ok l at_ hf
  have hs := same4 l (at_ - backP l at_) at_ (by omega) h1 h4
  rw [hs] at hn
  have hle := (lcp_le (l.drop (at_ + 4)) (l.drop (at_ - backP l at_ + 4))).1
  rw [List.length_drop] at hle
  refine ⟨by omega, by omega, ?_⟩
  rw [mkP, dif_pos h, if_neg hf, hn, show 4 + lcp (l.drop (at_ + 4)) (l.drop (at_ - backP l at_ + 4)) - 4 = lcp (l.drop (at_ + 4)) (l.drop (at_ - backP l at_ + 4)) from by omega]
/-- A text, pressed. -/
def pressP (l : List Nat) : List Nat := num l.length ++ mkP l 0 0
end Go.Proofs.Ytjgbodgcbagbnaa.Mine
