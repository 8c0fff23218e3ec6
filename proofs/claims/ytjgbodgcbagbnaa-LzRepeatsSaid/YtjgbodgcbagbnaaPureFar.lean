/- What stood farther back than may be is told by itself; what stood just so far is a repetition: the bytes, on lists. -/
import Derived.Test.YtjgbodgcbagbnaaLzBase
set_option linter.unusedVariables false
set_option linter.unusedSimpArgs false
namespace Go.Proofs.Ytjgbodgcbagbnaa.Mine
open Go.RowKit Go.Proofs.YtjgbodgcbagbnaaW.PrintWords

theorem w4_getD (l : List Nat) (i d : Nat) (h : d < 4) : (w4 l i).getD d 0 = l.getD (i + d) 0 := by
  rw [w4, List.getD_eq_getElem?_getD, List.getElem?_take, if_pos h, List.getElem?_drop, ← List.getD_eq_getElem?_getD]
theorem w4_eq {l : List Nat} {i j : Nat} (h : w4 l i = w4 l j) (d : Nat) (hd : d < 4) : l.getD (i + d) 0 = l.getD (j + d) 0 := by
  rw [← w4_getD l i d hd, ← w4_getD l j d hd, h]
theorem backP_zero (l : List Nat) (at_ : Nat) (h : ∀ k, k < at_ → w4 l k ≠ w4 l at_) : backP l at_ = 0 := by
  unfold backP
  split
  · cases hf : lastF l at_ (w4 l at_) with
    | none => rfl
    | some k =>
      obtain ⟨h1, _, h3, _⟩ := lastF_at _ _ _ _ hf
      exact absurd h3 (h k h1)
  · rfl
/-- Where the last place is known. -/
theorem backP_at (l : List Nat) (at_ k : Nat) (h4 : at_ + 4 ≤ l.length) (hk : k < at_) (he : w4 l k = w4 l at_) (hl : ∀ i, k < i → i < at_ → w4 l i ≠ w4 l at_) : backP l at_ = if 32768 < at_ - k then 0 else at_ - k := by
  unfold backP
  rw [if_pos h4]
  cases hf : lastF l at_ (w4 l at_) with
  | none => exact absurd he (lastF_none _ _ _ hf k hk (by omega))
  | some q =>
    obtain ⟨h1, h2, h3, h5⟩ := lastF_at _ _ _ _ hf
    have : q = k := by
      rcases Nat.lt_trichotomy q k with h | h | h
      · exact absurd he (h5 k h hk (by omega))
      · exact h
      · exact absurd h3 (hl q h h1)
    rw [this]
def keyB : List Nat := [107, 101, 121, 33]
def farL (n : Nat) : List Nat := keyB ++ (List.replicate n 97 ++ keyB)
theorem farL_length (n : Nat) : (farL n).length = n + 8 := by simp [farL, keyB]
theorem farL_get (n i : Nat) : (farL n).getD i 0 = if i < 4 then keyB.getD i 0 else if i < n + 4 then 97 else keyB.getD (i - (n + 4)) 0 := by
  unfold farL
  rw [List.getD_eq_getElem?_getD]
  by_cases h : i < 4
  · rw [if_pos h, List.getElem?_append_left (by simpa [keyB] using h), ← List.getD_eq_getElem?_getD]
  · rw [if_neg h, List.getElem?_append_right (by simp [keyB]; omega), show keyB.length = 4 from rfl]
    by_cases h2 : i < n + 4
    · rw [if_pos h2, List.getElem?_append_left (by simp; omega), List.getElem?_replicate, if_pos (by omega)]; rfl
    · rw [if_neg h2, List.getElem?_append_right (by simp; omega), List.length_replicate, show i - 4 - n = i - (n + 4) from by omega, ← List.getD_eq_getElem?_getD]
theorem keyB_107 (i : Nat) (h : keyB.getD i 0 = 107) : i = 0 := by
  match i, h with
  | 0, _ => rfl
  | 1, h => simp [keyB] at h
  | 2, h => simp [keyB] at h
  | 3, h => simp [keyB] at h
  | (i + 4), h => simp [keyB] at h
theorem lcp_rep (m : Nat) : lcp (List.replicate m 97 ++ keyB) (List.replicate (m + 1) 97 ++ keyB) = m := by
  induction m with
  | zero => simp [keyB, lcp]
  | succ m ih =>
    rw [List.replicate_succ, List.replicate_succ (n := m + 1), List.cons_append, List.cons_append, lcp, if_pos rfl, ih]
theorem backP_short (l : List Nat) (at_ : Nat) (h : l.length < at_ + 4) : backP l at_ = 0 := by
  unfold backP; rw [if_neg (by omega)]
theorem far_zero (n : Nat) (hn : 5 ≤ n) (at_ : Nat) (h : at_ ≤ 4) : backP (farL n) at_ = 0 := by
  refine backP_zero _ _ fun k hk e => ?_
  have := w4_eq e 0 (by omega)
  rw [Nat.add_zero, Nat.add_zero, farL_get, farL_get, if_pos (by omega)] at this
  match at_, k, h, hk with
  | 1, 0, _, _ => simp [keyB] at this
  | 2, 0, _, _ => simp [keyB] at this
  | 2, 1, _, _ => simp [keyB] at this
  | 3, 0, _, _ => simp [keyB] at this
  | 3, 1, _, _ => simp [keyB] at this
  | 3, 2, _, _ => simp [keyB] at this
  | 4, 0, _, _ => rw [if_neg (by omega), if_pos (by omega)] at this; simp [keyB] at this
  | 4, 1, _, _ => rw [if_neg (by omega), if_pos (by omega)] at this; simp [keyB] at this
  | 4, 2, _, _ => rw [if_neg (by omega), if_pos (by omega)] at this; simp [keyB] at this
  | 4, 3, _, _ => rw [if_neg (by omega), if_pos (by omega)] at this; simp [keyB] at this
theorem far_head (m : Nat) : mkP (farL (m + 5)) 0 0 = num 5 ++ (keyB ++ [97]) ++ num 1 ++ num m ++ mkP (farL (m + 5)) (m + 9) (m + 9) := by
  have hl := farL_length (m + 5)
  have h5 : backP (farL (m + 5)) 5 = 1 := by
    rw [backP_at (farL (m + 5)) 5 4 (by rw [hl]; omega) (by omega) (by rfl) (fun i h1 h2 => by omega)]
    rfl
  have hn : m + 4 = lcp ((farL (m + 5)).drop 5) ((farL (m + 5)).drop (5 - 1)) := by
    have e1 : (farL (m + 5)).drop 5 = List.replicate (m + 4) 97 ++ keyB := rfl
    have e2 : (farL (m + 5)).drop (5 - 1) = List.replicate (m + 4 + 1) 97 ++ keyB := rfl
    rw [e1, e2, lcp_rep]
  obtain ⟨_, _, e⟩ := mkP_some (farL (m + 5)) 5 0 1 (m + 4) (by rw [hl]; omega) h5 (by decide) hn
  rw [mkP_none _ 0 0 (by rw [hl]; omega) (far_zero _ (by omega) 0 (by omega)), mkP_none _ 1 0 (by rw [hl]; omega) (far_zero _ (by omega) 1 (by omega)), mkP_none _ 2 0 (by rw [hl]; omega) (far_zero _ (by omega) 2 (by omega)),
    mkP_none _ 3 0 (by rw [hl]; omega) (far_zero _ (by omega) 3 (by omega)), mkP_none _ 4 0 (by rw [hl]; omega) (far_zero _ (by omega) 4 (by omega)), e, show m + 4 - 4 = m from by omega, show 5 + (m + 4) = m + 9 from by omega, show 5 - 0 = 5 from rfl,
    show ((farL (m + 5)).drop 0).take 5 = keyB ++ [97] from rfl]
theorem far_drop (n : Nat) : (farL n).drop (n + 4) = keyB := by
  unfold farL
  rw [← List.append_assoc]
  have h : (keyB ++ List.replicate n 97).length = n + 4 := by simp [keyB]
  rw [← h, List.drop_left']
  rfl
theorem far_tail (n : Nat) (hn : 5 ≤ n) : mkP (farL n) (n + 4) (n + 4) = if n + 4 ≤ 32768 then num 0 ++ num (n + 4) ++ num 0 else num 4 ++ keyB := by
  have hl := farL_length n
  have hd := far_drop n
  have hb : backP (farL n) (n + 4) = if 32768 < n + 4 - 0 then 0 else n + 4 - 0 := by
    refine backP_at (farL n) (n + 4) 0 (by rw [hl]; omega) (by omega) ?_ fun i h1 h2 e => ?_
    · have e1 : w4 (farL n) 0 = keyB := rfl
      rw [e1, w4, hd]; rfl
    · have := w4_eq e 0 (by omega)
      rw [Nat.add_zero, Nat.add_zero, farL_get, farL_get, if_neg (show ¬ n + 4 < 4 from by omega), if_neg (show ¬ n + 4 < n + 4 from by omega), Nat.sub_self] at this
      by_cases hi : i < 4
      · rw [if_pos hi] at this
        have := keyB_107 i this
        omega
      · rw [if_neg hi, if_pos (by omega)] at this
        simp [keyB] at this
  by_cases hf : n + 4 ≤ 32768
  · rw [if_neg (by omega), Nat.sub_zero] at hb
    have hN : (4 : Nat) = lcp ((farL n).drop (n + 4)) ((farL n).drop (n + 4 - (n + 4))) := by
      rw [hd, Nat.sub_self, List.drop_zero]
      simp [farL, keyB, lcp, lcp_nil_left]
    obtain ⟨_, _, e⟩ := mkP_some (farL n) (n + 4) (n + 4) (n + 4) 4 (by rw [hl]; omega) hb (by omega) hN
    rw [if_pos hf, e, Nat.sub_self, List.take_zero, mkP_end _ _ _ (by rw [hl]; omega), List.drop_eq_nil_of_le (by rw [hl]; omega), lonesB, if_pos rfl]
    simp
  · rw [if_pos (by omega)] at hb
    rw [if_neg hf, mkP_none _ _ _ (by rw [hl]; omega) hb, mkP_none _ _ _ (by rw [hl]; omega) (backP_short _ _ (by rw [hl]; omega)), mkP_none _ _ _ (by rw [hl]; omega) (backP_short _ _ (by rw [hl]; omega)), mkP_none _ _ _ (by rw [hl]; omega) (backP_short _ _ (by rw [hl]; omega)),
      mkP_end _ _ _ (by rw [hl]; omega), hd, lonesB, if_neg (by decide)]
    rfl
theorem far_press (m : Nat) : pressP (farL (m + 5)) = num (m + 13) ++ (num 5 ++ (keyB ++ [97]) ++ num 1 ++ num m ++ (if m + 9 ≤ 32768 then num 0 ++ num (m + 9) ++ num 0 else num 4 ++ keyB)) := by
  rw [pressP, farL_length, far_head, show m + 9 = m + 5 + 4 from rfl, far_tail (m + 5) (by omega)]
end Go.Proofs.Ytjgbodgcbagbnaa.Mine
