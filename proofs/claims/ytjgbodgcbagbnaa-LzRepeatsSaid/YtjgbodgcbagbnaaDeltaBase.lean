/- Words of chapter 9: how a text is made of another one, on lists of numbers. No program in sight. -/
import Derived.Test.YtjgbodgcbagbnaaNumPure
import Derived.Test.YtjgbodgcbagbnaaStrKit
set_option linter.unusedVariables false
set_option linter.unusedSimpArgs false
namespace Go.Proofs.Ytjgbodgcbagbnaa.Mine
open Go.RowKit Go.Proofs.YtjgbodgcbagbnaaW.PrintWords

/-- The bytes of what is put in. -/
def insB (l : List Nat) : List Nat := if l = [] then [] else num (2 * (l.length - 1)) ++ l
theorem insB_nil : insB [] = [] := rfl
theorem insB_pos (l : List Nat) (h : l ≠ []) : insB l = num (2 * (l.length - 1)) ++ l := by rw [insB, if_neg h]
theorem insB_length (l : List Nat) (h : l.length ≤ 1000000000000) : (insB l).length ≤ l.length + 10 := by
  by_cases e : l = []
  · subst e; simp [insB]
  · rw [insB_pos l e, List.length_append]
    have := num_length (2 * (l.length - 1)) (by omega)
    omega
theorem insB_lt (l : List Nat) (h : ∀ c ∈ l, c < 256) : ∀ c ∈ insB l, c < 256 := by
  by_cases e : l = []
  · subst e; simp [insB]
  · rw [insB_pos l e]
    intro c hc
    rcases List.mem_append.1 hc with h1 | h1
    · exact num_lt _ c h1
    · exact h c h1
/-- What one step of a repetition tells. -/
def repB (n k : Nat) : List Nat := num (2 * (n - 1) + 1) ++ num k
/-- The steps from a place on; what stands from 'fr' on isn't told yet. f: where a block of the base stands. -/
def mkD (f : List Nat → Option Nat) (base s : List Nat) (at_ fr : Nat) : List Nat :=
  if _h : at_ + 16 ≤ s.length then
    match f ((s.drop at_).take 16) with
    | none => mkD f base s (at_ + 1) fr
    | some k => insB ((s.drop fr).take (at_ - fr)) ++ repB (16 + lcp (s.drop (at_ + 16)) (base.drop (k + 16))) k ++ mkD f base s (at_ + (16 + lcp (s.drop (at_ + 16)) (base.drop (k + 16)))) (at_ + (16 + lcp (s.drop (at_ + 16)) (base.drop (k + 16))))
  else insB (s.drop fr)
termination_by s.length - at_
decreasing_by all_goals omega
theorem mkD_end (f : List Nat → Option Nat) (base s : List Nat) (at_ fr : Nat) (h : s.length < at_ + 16) : mkD f base s at_ fr = insB (s.drop fr) := by
  rw [mkD, dif_neg (by omega)]
theorem mkD_none (f : List Nat → Option Nat) (base s : List Nat) (at_ fr : Nat) (h : at_ + 16 ≤ s.length) (hf : f ((s.drop at_).take 16) = none) : mkD f base s at_ fr = mkD f base s (at_ + 1) fr := by
  rw [mkD, dif_pos h, hf]
theorem mkD_some (f : List Nat → Option Nat) (base s : List Nat) (at_ fr k n : Nat) (h : at_ + 16 ≤ s.length) (hf : f ((s.drop at_).take 16) = some k) (hn : n = 16 + lcp (s.drop (at_ + 16)) (base.drop (k + 16))) :
    mkD f base s at_ fr = insB ((s.drop fr).take (at_ - fr)) ++ repB n k ++ mkD f base s (at_ + n) (at_ + n) := by
  rw [mkD, dif_pos h, hf]
  subst hn
  rfl
/-- Block j of a text. -/
def blkB (l : List Nat) (j : Nat) : List Nat := (l.drop (16 * j)).take 16
/-- Where each block of a text first stands, of the first j ones. -/
def blkF (l : List Nat) : Nat → List Nat → Option Nat
  | 0 => fun _ => none
  | j + 1 => if (blkF l j (blkB l j)).isSome then blkF l j else updF (blkF l j) (blkB l j) (16 * j)
theorem blkF_at (l : List Nat) : ∀ (j : Nat) (b : List Nat) (k : Nat), blkF l j b = some k → ∃ i, i < j ∧ k = 16 * i ∧ blkB l i = b
  | 0, _, _, h => by cases h
  | j + 1, b, k, h => by
    rw [blkF] at h
    split at h
    · obtain ⟨i, h1, h2⟩ := blkF_at l j b k h
      exact ⟨i, by omega, h2⟩
    · rw [updF] at h
      split at h
      · rename_i e
        exact ⟨j, by omega, (Option.some.inj h).symm, e.symm⟩
      · obtain ⟨i, h1, h2⟩ := blkF_at l j b k h
        exact ⟨i, by omega, h2⟩
/-- How a text is made of a base. -/
def makeD (base s : List Nat) : List Nat := num base.length ++ num s.length ++ mkD (blkF base (base.length / 16)) base s 0 0
end Go.Proofs.Ytjgbodgcbagbnaa.Mine
