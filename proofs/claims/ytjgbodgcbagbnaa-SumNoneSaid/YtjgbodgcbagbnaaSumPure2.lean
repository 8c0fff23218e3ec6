/- Bytes in pieces: plain laws. -/
import Derived.Test.YtjgbodgcbagbnaaSumOfC
set_option linter.unusedVariables false
set_option linter.unusedSimpArgs false
namespace Go.Proofs.Ytjgbodgcbagbnaa.Mine
open Go.RowKit Go.Proofs.YtjgbodgcbagbnaaW.PrintWords

theorem eat_append : ∀ (k : Nat) (v a b : List Nat), a.length ≤ k → eat v (a ++ b) = eat (eat v a).1 ((eat v a).2 ++ b) := by
  intro k
  induction k with
  | zero => intro v a b hk; rw [eat_end v a (by omega)]
  | succ k ih =>
    intro v a b hk
    by_cases h : 64 ≤ a.length
    · rw [eat_step v (a ++ b) (by rw [List.length_append]; omega), eat_step v a h, List.take_append_of_le_length h, List.drop_append_of_le_length h]
      exact ih _ _ _ (by rw [List.length_drop]; omega)
    · rw [eat_end v a (by omega)]
theorem eat_mod : ∀ (k : Nat) (v a : List Nat), a.length ≤ k → (eat v a).2.length = a.length % 64 := by
  intro k
  induction k with
  | zero => intro v a hk; rw [eat_end v a (by omega)]; show a.length = a.length % 64; omega
  | succ k ih =>
    intro v a hk
    by_cases h : 64 ≤ a.length
    · rw [eat_step v a h, ih _ _ (by rw [List.length_drop]; omega), List.length_drop]; omega
    · rw [eat_end v a (by omega)]; show a.length = a.length % 64; omega
/-- What comes behind bytes at the end. -/
def tail (m : Nat) : List Nat := [128] ++ List.replicate (gap m) 0 ++ lenB m
theorem pad_tail (held : List Nat) (m : Nat) (h : held.length % 64 = m % 64) : pad held m = held ++ tail m := by
  have e : gap held.length = gap m := by unfold gap; rw [h]
  simp [pad, tail, e]
theorem shaEnd_eat (v a : List Nat) (m : Nat) (h : a.length % 64 = m % 64) : shaEnd (eat v a).1 (eat v a).2 m = outB (eat v (a ++ tail m)).1 := by
  unfold shaEnd
  rw [pad_tail _ _ (by rw [eat_mod _ v a (Nat.le_refl _)]; omega), eat_append _ v a _ (Nat.le_refl _)]
theorem sha_eq (l : List Nat) : sha l = outB (eat begin8 (pad l l.length)).1 := by
  unfold sha
  rw [shaEnd_eat _ _ _ rfl, pad_tail _ _ rfl]
theorem eat_two (v a b : List Nat) : eat (eat v a).1 ((eat v a).2 ++ b) = eat v (a ++ b) := (eat_append _ v a b (Nat.le_refl _)).symm
end Go.Proofs.Ytjgbodgcbagbnaa.Mine
