/- A text that comes again and again, of which each four bytes stand once: its bytes, pressed, on lists. -/
import Derived.Test.YtjgbodgcbagbnaaPureFar
set_option linter.unusedVariables false
set_option linter.unusedSimpArgs false
namespace Go.Proofs.Ytjgbodgcbagbnaa.Mine
open Go.RowKit Go.Proofs.YtjgbodgcbagbnaaW.PrintWords

/-- A text, so many times. -/
def repT (t : List Nat) : Nat → List Nat
  | 0 => []
  | n + 1 => repT t n ++ t
theorem repT_length (t : List Nat) : ∀ n, (repT t n).length = n * t.length
  | 0 => by simp [repT]
  | n + 1 => by rw [repT, List.length_append, repT_length t n, Nat.succ_mul]
theorem repT_front (t : List Nat) : ∀ n, repT t (n + 1) = t ++ repT t n
  | 0 => by simp [repT]
  | n + 1 => by
    show repT t (n + 1) ++ t = t ++ (repT t n ++ t)
    rw [repT_front t n, List.append_assoc]
/-- Each four bytes of a text that goes round stand once. -/
def LoneT (t : List Nat) : Prop := 4 ≤ t.length ∧ ∀ i k, k < i → i < t.length → w4 (t ++ t) i ≠ w4 (t ++ t) k
theorem w4_front (a b : List Nat) (i : Nat) (h : i + 4 ≤ a.length) : w4 (a ++ b) i = w4 a i := by
  unfold w4
  rw [List.drop_append_of_le_length (by omega), List.take_append_of_le_length (by rw [List.length_drop]; omega)]
theorem lcp_pre (l m : List Nat) : lcp l (l ++ m) = l.length := by
  induction l with
  | nil => exact lcp_nil_left _
  | cons a l ih => rw [List.cons_append, lcp, if_pos rfl, ih]; rfl
theorem rep_press (t : List Nat) (n : Nat) (hn : 2 ≤ n) (ht : t.length ≤ 32768) (h : LoneT t) : pressP (repT t n) = num (n * t.length) ++ (num t.length ++ t ++ num t.length ++ num (n * t.length - t.length - 4)) := by
  obtain ⟨h4, hd⟩ := h
  obtain ⟨k, rfl⟩ : ∃ k, n = k + 2 := ⟨n - 2, by omega⟩
  obtain ⟨l, hl⟩ : ∃ l, l = repT t (k + 2) := ⟨_, rfl⟩
  have hll : l.length = (k + 2) * t.length := by rw [hl, repT_length]
  have hl2 : 2 * t.length ≤ l.length := by rw [hll]; exact Nat.mul_le_mul_right _ (by omega)
  have e1 : l = (t ++ t) ++ repT t k := by rw [hl, repT_front, repT_front, List.append_assoc]
  have e2 : l = t ++ repT t (k + 1) := by rw [hl, repT_front]
  have e3 : l = repT t (k + 1) ++ t := by rw [hl]; rfl
  have w : ∀ i, i ≤ t.length → w4 l i = w4 (t ++ t) i := fun i hi => by rw [e1]; exact w4_front _ _ _ (by rw [List.length_append]; omega)
  have z : ∀ at_, at_ < t.length → backP l at_ = 0 := fun at_ ha => backP_zero _ _ fun q hq e => by
    rw [w q (by omega), w at_ (by omega)] at e
    exact hd at_ q hq ha e.symm
  have hw0 : w4 l 0 = w4 l t.length := by
    have a1 : w4 l 0 = w4 t 0 := by rw [e2]; exact w4_front _ _ _ (by omega)
    have a2 : w4 l t.length = w4 t 0 := by
      unfold w4
      rw [e2, List.drop_left' rfl, repT_front, List.take_append_of_le_length (by omega), List.drop_zero]
    rw [a1, a2]
  have hb : backP l t.length = t.length := by
    rw [backP_at l t.length 0 (by omega) (by omega) hw0 (fun i h1 h2 e => by
      rw [← hw0, w i (by omega), w 0 (by omega)] at e
      exact hd i 0 h1 h2 e), if_neg (by omega), Nat.sub_zero]
  have hN : l.length - t.length = lcp (l.drop t.length) (l.drop (t.length - t.length)) := by
    rw [Nat.sub_self, List.drop_zero]
    have d : l.drop t.length = repT t (k + 1) := by rw [e2]; exact List.drop_left' rfl
    rw [d]
    have := lcp_pre (repT t (k + 1)) t
    rw [← e3] at this
    rw [this, repT_length, hll, Nat.succ_mul (k + 1)]
    omega
  obtain ⟨m1, m2, m3⟩ := mkP_some l t.length 0 t.length (l.length - t.length) (by omega) hb (by omega) hN
  have walk : ∀ d at_, at_ + d = t.length → mkP l at_ 0 = mkP l t.length 0 := by
    intro d
    induction d with
    | zero => intro at_ h; rw [← h, Nat.add_zero]
    | succ d ih => intro at_ h; rw [mkP_none _ _ _ (by omega) (z at_ (by omega)), ih (at_ + 1) (by omega)]
  have hz : l.drop (t.length + (l.length - t.length)) = [] := List.drop_eq_nil_of_le (by omega)
  rw [← hl, pressP, walk t.length 0 (by omega), m3, mkP_end _ _ _ (by omega), hz, lonesB, if_pos rfl, List.append_nil, Nat.sub_zero, List.drop_zero, hll]
  have ht0 : l.take t.length = t := by rw [e2]; exact List.take_left' rfl
  rw [ht0]
end Go.Proofs.Ytjgbodgcbagbnaa.Mine
