/- Runs of the operations on strings, at numbers that are known. -/
import Derived.Test.YtjgbodgcbagbnaaBase
import Derived.Test.YtjgbodgcbagbnaaProg
import Derived.Laws.Strings2
import Derived.Laws.Slices
import Derived.WalkKit
set_option linter.unusedVariables false
set_option linter.unusedSimpArgs false
namespace Go.Proofs.Ytjgbodgcbagbnaa.Mine
open Go.RowKit Go.Proofs.YtjgbodgcbagbnaaW.PrintWords

theorem slice_run (s : ByteArray) (a b : Nat) (x y : Int) (hx : x = (a : Int)) (hy : y = (b : Int)) (hab : a ≤ b) (hb : b ≤ s.size) :
    ∀ W : World, (Instr.slice 9 (.string s) (some (.int .i64 x)) (some (.int .i64 y)) none).run Try.prog W = .ok (.string (s.extract a b)) W := by
  intro W
  subst hx hy
  have h := run_slice_string (P := Try.prog) (w := W) 9 s .i64 .i64 (a : Int) (b : Int) Try.underlying9 (by omega) (by omega) (by omega)
  simpa using h
theorem bsD_lt (s : ByteArray) (i : Nat) : (bs s).getD i 0 < 256 := by
  rw [List.getD_eq_getElem?_getD]
  by_cases h : i < (bs s).length
  · rw [List.getElem?_eq_getElem h]; exact bs_lt s _ (List.getElem_mem h)
  · rw [List.getElem?_eq_none (by omega)]; simp
theorem index_run (s : ByteArray) (j c : Nat) (z : Int) (hz : z = (j : Int)) (hj : j < s.size) (hc : c = (bs s).getD j 0) :
    ∀ W : World, (Instr.index 9 (.string s) (.int .i64 z)).run Try.prog W = .ok (.int .u8 (c : Int)) W := by
  intro W
  subst hz
  rw [run_index_string _ _ _ _ _ Try.underlying9, dif_pos ⟨by omega, by omega⟩]
  have e : (s[(j : Int).toNat]'(by simpa using hj)).toNat = c := by
    rw [hc, List.getD_eq_getElem?_getD, List.getElem?_eq_getElem (by rw [bs_length]; exact hj)]
    have e0 : s[(j : Int).toNat]'(by simpa using hj) = s[j] := by simp
    rw [e0]
    unfold bs
    rw [List.getElem_map]
    rfl
  exact congrArg (fun n : Nat => Result.ok (Value.int .u8 (n : Int)) W) e
theorem getD_drop (l : List Nat) (a i : Nat) : (l.drop a).getD i 0 = l.getD (a + i) 0 := by
  rw [List.getD_eq_getElem?_getD, List.getD_eq_getElem?_getD, List.getElem?_drop]
def updF (f : List Nat → Option Nat) (k : List Nat) (n : Nat) : List Nat → Option Nat := fun x => if x = k then some n else f x
/-- How many at the beginning of two lists are the same. -/
def lcp : List Nat → List Nat → Nat
  | a :: l, b :: m => if a = b then lcp l m + 1 else 0
  | _, _ => 0
theorem lcp_step (l m : List Nat) (h1 : 0 < l.length) (h2 : 0 < m.length) : lcp l m = if l.getD 0 0 = m.getD 0 0 then lcp (l.drop 1) (m.drop 1) + 1 else 0 := by
  match l, m, h1, h2 with
  | a :: l, b :: m, _, _ => simp [lcp]
theorem lcp_at (l m : List Nat) (a b : Nat) (h1 : a < l.length) (h2 : b < m.length) : lcp (l.drop a) (m.drop b) = if l.getD a 0 = m.getD b 0 then lcp (l.drop (a + 1)) (m.drop (b + 1)) + 1 else 0 := by
  rw [lcp_step _ _ (by rw [List.length_drop]; omega) (by rw [List.length_drop]; omega), getD_drop, getD_drop, List.drop_drop, List.drop_drop, Nat.add_zero, Nat.add_zero]
theorem lcp_nil_left (m : List Nat) : lcp [] m = 0 := by rw [lcp]; intros; simp_all
theorem lcp_nil_right (l : List Nat) : lcp l [] = 0 := by cases l <;> rfl
theorem lcp_le : ∀ (l m : List Nat), lcp l m ≤ l.length ∧ lcp l m ≤ m.length
  | [], m => by simp [lcp_nil_left]
  | a :: l, [] => by simp [lcp_nil_right]
  | a :: l, b :: m => by
    have := lcp_le l m
    rw [lcp]
    split
    · simp; omega
    · simp
theorem lcp_same : ∀ (l m : List Nat), l.take (lcp l m) = m.take (lcp l m)
  | [], m => by simp [lcp_nil_left]
  | a :: l, [] => by simp [lcp_nil_right]
  | a :: l, b :: m => by
    rw [lcp]
    split
    · rename_i h; subst h; simp [lcp_same l m]
    · simp
/-- .. of which the first n are. -/
theorem lcp_add : ∀ (n : Nat) (l m : List Nat), n ≤ l.length → n ≤ m.length → l.take n = m.take n → lcp l m = n + lcp (l.drop n) (m.drop n)
  | 0, l, m, _, _, _ => by simp
  | n + 1, a :: l, b :: m, h1, h2, h => by
    simp only [List.take_succ_cons, List.cons.injEq] at h
    rw [lcp, if_pos h.1, lcp_add n l m (by simpa using h1) (by simpa using h2) h.2]
    simp; omega
end Go.Proofs.Ytjgbodgcbagbnaa.Mine
