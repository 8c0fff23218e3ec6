import Derived.Test.YtcfdplmapdgfmaaTSmA
import Derived.Maps.RangeWalk
set_option linter.unusedVariables false
set_option linter.unusedSimpArgs false
namespace Go.Proofs.Ytcfdplmapdgfmaa.Mine
open Go.RowKit Go.Proofs.YtcfdplmapdgfmaaW.PrintWords
end Go.Proofs.Ytcfdplmapdgfmaa.Mine
set_option linter.unusedVariables false
set_option linter.unusedSimpArgs false
namespace Go.Proofs.Ytcfdplmapdgfmaa.Mine
open Go.RowKit Go.Proofs.YtcfdplmapdgfmaaW.PrintWords
section
variable {B : Nat} {l : List Nat} {v : Value} {W0 w w' : World}
end
section
variable {P : Program}
end
end Go.Proofs.Ytcfdplmapdgfmaa.Mine
set_option linter.unusedVariables false
set_option linter.unusedSimpArgs false
namespace Go.Proofs.Ytcfdplmapdgfmaa.Mine
open Go.RowKit Go.Proofs.YtcfdplmapdgfmaaW.PrintWords
def gap (m : Nat) : Nat := (119 - m % 64) % 64
def lenB (m : Nat) : List Nat := (List.range 8).map fun i => m * 8 / 2 ^ (8 * (7 - i)) % 256
def pad (held : List Nat) (many : Nat) : List Nat := held ++ [128] ++ List.replicate (gap held.length) 0 ++ lenB many
def wordB (n : Nat) : List Nat := (List.range 4).map fun j => n / 2 ^ (24 - 8 * j) % 256
def outB (v : List Nat) : List Nat := v.flatMap wordB
theorem outB_length (v : List Nat) : (outB v).length = 4 * v.length := by
 induction v with
 | nil => rfl
 | cons a v ih => rw [outB, List.flatMap_cons, List.length_append, List.length_cons]; unfold outB at ih; rw [ih]; simp [wordB]; omega
theorem take_len8 (m i : Nat) (h : i ≤ 8) : ((lenB m).take i).length = i := by simp [lenB]; omega
theorem take_succ8 (m i : Nat) (h : i < 8) : (lenB m).take (i + 1) = (lenB m).take i ++ [m * 8 / 2 ^ (8 * (7 - i)) % 256] := by
 rw [List.take_succ_eq_append_getElem (by simp [lenB]; exact h)]
 simp [lenB]
end Go.Proofs.Ytcfdplmapdgfmaa.Mine
set_option linter.unusedVariables false
set_option linter.unusedSimpArgs false
namespace Go.Proofs.Ytcfdplmapdgfmaa.Mine
open Go.RowKit Go.Proofs.YtcfdplmapdgfmaaW.PrintWords
def shaEnd (v held : List Nat) (many : Nat) : List Nat := outB (eat v (pad held many)).1
def sha (l : List Nat) : List Nat := shaEnd (eat begin8 l).1 (eat begin8 l).2 l.length
end Go.Proofs.Ytcfdplmapdgfmaa.Mine
set_option linter.unusedVariables false
set_option linter.unusedSimpArgs false
namespace Go.Proofs.Ytcfdplmapdgfmaa.Mine
open Go.RowKit Go.Proofs.YtcfdplmapdgfmaaW.PrintWords
def wnew (W : List Nat) (i : Nat) : Nat := (W.getD (i - 16) 0 + W.getD (i - 7) 0 + small (W.getD (i - 15) 0) + great (W.getD (i - 2) 0)) % 4294967296
def extend : Nat → Nat → List Nat → List Nat
 | 0, _, W => W
 | k + 1, i, W => extend k (i + 1) (W.set i (wnew W i))
theorem getD_set_ne (W : List Nat) (i j x : Nat) (h : i ≠ j) : (W.set i x).getD j 0 = W.getD j 0 := by
 rw [List.getD_eq_getElem?_getD, List.getElem?_set_ne h, ← List.getD_eq_getElem?_getD]
theorem getD_set_eq (W : List Nat) (i x : Nat) (h : i < W.length) : (W.set i x).getD i 0 = x := by
 rw [List.getD_eq_getElem?_getD, List.getElem?_set_self h]; rfl
theorem extend_length : ∀ (k i : Nat) (W : List Nat), (extend k i W).length = W.length
 | 0, _, _ => rfl
 | k + 1, i, W => by rw [extend, extend_length k]; simp
theorem extend_old : ∀ (k i : Nat) (W : List Nat) (j : Nat), j < i → (extend k i W).getD j 0 = W.getD j 0
 | 0, _, _, _, _ => rfl
 | k + 1, i, W, j, h => by rw [extend, extend_old k (i + 1) _ j (by omega), getD_set_ne _ _ _ _ (by omega)]
theorem extend_new : ∀ (k i : Nat) (W : List Nat) (j : Nat), 16 ≤ i → i ≤ j → j < i + k → i + k ≤ W.length → (extend k i W).getD j 0 = wnew (extend k i W) j
 | 0, i, W, j, _, h1, h2, _ => by omega
 | k + 1, i, W, j, h0, h1, h2, h3 => by
  by_cases hij : i = j
  ·subst hij
   have e : ∀ m, m < i → (extend (k + 1) i W).getD m 0 = W.getD m 0 := extend_old (k + 1) i W
   have e2 : (extend (k + 1) i W).getD i 0 = wnew W i := by
    rw [extend, extend_old k (i + 1) _ i (by omega), getD_set_eq _ _ _ (by omega)]
   rw [e2]
   unfold wnew
   rw [e _ (by omega), e _ (by omega), e _ (by omega), e _ (by omega)]
  ·rw [extend]
   exact extend_new k (i + 1) _ j (by omega) (by omega) (by omega) (by simp; omega)
def rounds : List Nat → Nat → List Nat → List Nat → List Nat
 | [], _, _, x => x
 | k :: ks, i, W, x => rounds ks (i + 1) W (stepX k (W.getD i 0) x)
def Ring (W wl : List Nat) (i : Nat) : Prop := wl.length = 16 ∧ ∀ j, j < max i 16 → max i 16 ≤ j + 16 → wl.getD (j % 16) 0 = W.getD j 0
theorem Ring.step {W wl : List Nat} {i : Nat} (h : Ring W wl i) (hW : ∀ j, 16 ≤ j → j < 64 → W.getD j 0 = wnew W j) (hi : i < 64) :
  Ring W (roundW wl i) (i + 1) ∧ (roundW wl i).getD (i % 16) 0 = W.getD i 0 := by
 unfold roundW
 by_cases h16 : 16 ≤ i
 ·rw [if_pos h16]
  have m1 : max i 16 = i := by omega
  have m2 : max (i + 1) 16 = i + 1 := by omega
  have hr := h.2
  rw [m1] at hr
  have e0 := hr (i - 16) (by omega) (by omega)
  have e1 := hr (i - 15) (by omega) (by omega)
  have e9 := hr (i - 7) (by omega) (by omega)
  have e14 := hr (i - 2) (by omega) (by omega)
  rw [show (i - 16) % 16 = i % 16 from by omega] at e0
  rw [show (i - 15) % 16 = (i + 1) % 16 from by omega] at e1
  rw [show (i - 7) % 16 = (i + 9) % 16 from by omega] at e9
  rw [show (i - 2) % 16 = (i + 14) % 16 from by omega] at e14
  have hv : (wl.getD (i % 16) 0 + (small (wl.getD ((i + 1) % 16) 0) + wl.getD ((i + 9) % 16) 0 + great (wl.getD ((i + 14) % 16) 0))) % 4294967296 = W.getD i 0 := by
   rw [hW i h16 hi, e0, e1, e9, e14]
   unfold wnew
   congr 1
   omega
  rw [hv]
  refine ⟨⟨by simp [h.1], fun j h1 h2 => ?_⟩, getD_set_eq _ _ _ (by rw [h.1]; omega)⟩
  rw [m2] at h1 h2
  by_cases hj : j = i
  ·subst hj
   exact getD_set_eq _ _ _ (by rw [h.1]; omega)
  ·rw [getD_set_ne _ _ _ _ (by omega)]
   exact hr j (by omega) (by omega)
 ·rw [if_neg h16]
  have m1 : max i 16 = 16 := by omega
  have m2 : max (i + 1) 16 = 16 := by omega
  have hr := h.2
  rw [m1] at hr
  refine ⟨⟨h.1, fun j h1 h2 => hr j (by omega) (by omega)⟩, hr i (by omega) (by omega)⟩
theorem stirGo_rounds (W : List Nat) (hW : ∀ j, 16 ≤ j → j < 64 → W.getD j 0 = wnew W j) :
  ∀ (ks : List Nat) (i : Nat) (wl x : List Nat), i + ks.length ≤ 64 → Ring W wl i → stirGo ks i wl x = rounds ks i W x
 | [], _, _, _, _, _ => rfl
 | k :: ks, i, wl, x, hl, hr => by
  rw [List.length_cons] at hl
  obtain ⟨h1, h2⟩ := hr.step hW (by omega)
  rw [stirGo, rounds, h2]
  exact stirGo_rounds W hW ks (i + 1) _ _ (by omega) h1
theorem fill_more : ∀ (p wl more : List Nat) (i : Nat), i + p.length ≤ 4 * wl.length → fill (wl ++ more) p i = fill wl p i ++ more
 | [], _, _, _, _ => rfl
 | c :: cs, wl, more, i, h => by
  rw [List.length_cons] at h
  have hi : i / 4 < wl.length := by omega
  have e : (wl ++ more).getD (i / 4) 0 = wl.getD (i / 4) 0 := by
   rw [List.getD_eq_getElem?_getD, List.getElem?_append_left hi, ← List.getD_eq_getElem?_getD]
  rw [fill, fill, e, List.set_append_left _ _ hi]
  exact fill_more cs _ more (i + 1) (by rw [List.length_set]; omega)
def sched (p : List Nat) : List Nat := extend 48 16 (fill (List.replicate 64 0) p 0)
def stirR (v p : List Nat) : List Nat := (List.range 8).map fun j => (v.getD j 0 + (rounds salts 0 (sched p) v).getD j 0) % 4294967296
theorem stir_stirR (v p : List Nat) (hp : p.length = 64) : stir v p = stirR v p := by
 unfold stir stirR
 have hW : ∀ j, 16 ≤ j → j < 64 → (sched p).getD j 0 = wnew (sched p) j := fun j h1 h2 =>
  extend_new 48 16 _ j (Nat.le_refl _) h1 (by omega) (by rw [fill_length]; simp)
 have hr : Ring (sched p) (fill (List.replicate 16 0) p 0) 0 := by
  refine ⟨by rw [fill_length]; simp, fun j h1 _ => ?_⟩
  have hj : j < 16 := by omega
  unfold sched
  rw [extend_old 48 16 _ j hj, show List.replicate 64 0 = List.replicate 16 0 ++ List.replicate 48 0 from rfl, fill_more p _ _ 0 (by rw [hp]; simp), Nat.mod_eq_of_lt hj]
  have hl : j < (fill (List.replicate 16 0) p 0).length := by rw [fill_length]; simpa using hj
  rw [List.getD_eq_getElem?_getD, List.getD_eq_getElem?_getD, List.getElem?_append_left hl]
 rw [stirGo_rounds (sched p) hW salts 0 _ _ (by decide) hr]
end Go.Proofs.Ytcfdplmapdgfmaa.Mine
set_option linter.unusedVariables false
set_option linter.unusedSimpArgs false
namespace Go.Proofs.Ytcfdplmapdgfmaa.Mine
open Go.RowKit Go.Proofs.YtcfdplmapdgfmaaW.PrintWords
theorem eat_append : ∀ (k : Nat) (v a b : List Nat), a.length ≤ k → eat v (a ++ b) = eat (eat v a).1 ((eat v a).2 ++ b) := by
 intro k
 induction k with
 | zero => intro v a b hk; rw [eat_end v a (by omega)]
 | succ k ih =>
  intro v a b hk
  by_cases h : 64 ≤ a.length
  ·rw [eat_step v (a ++ b) (by rw [List.length_append]; omega), eat_step v a h, List.take_append_of_le_length h, List.drop_append_of_le_length h]
   exact ih _ _ _ (by rw [List.length_drop]; omega)
  ·rw [eat_end v a (by omega)]
theorem eat_mod : ∀ (k : Nat) (v a : List Nat), a.length ≤ k → (eat v a).2.length = a.length % 64 := by
 intro k
 induction k with
 | zero => intro v a hk; rw [eat_end v a (by omega)]; show a.length = a.length % 64; omega
 | succ k ih =>
  intro v a hk
  by_cases h : 64 ≤ a.length
  ·rw [eat_step v a h, ih _ _ (by rw [List.length_drop]; omega), List.length_drop]; omega
  ·rw [eat_end v a (by omega)]; show a.length = a.length % 64; omega
def tail (m : Nat) : List Nat := [128] ++ List.replicate (gap m) 0 ++ lenB m
theorem pad_tail (held : List Nat) (m : Nat) (h : held.length % 64 = m % 64) : pad held m = held ++ tail m := by
 have e : gap held.length = gap m := by unfold gap; rw [h]
 simp [pad, tail, e]
theorem shaEnd_eat (v a : List Nat) (m : Nat) (h : a.length % 64 = m % 64) : shaEnd (eat v a).1 (eat v a).2 m = outB (eat v (a ++ tail m)).1 := by
 unfold shaEnd
 rw [pad_tail _ _ (by rw [eat_mod _ v a (Nat.le_refl _)]; omega), eat_append _ v a _ (Nat.le_refl _)]
theorem sha_eq (l : List Nat) : sha l = outB (eat begin8 (pad l l.length)).1 := by
 unfold sha
 rw [shaEnd_eat _ _ _ rfl, pad_tail _ _ rfl]
end Go.Proofs.Ytcfdplmapdgfmaa.Mine
