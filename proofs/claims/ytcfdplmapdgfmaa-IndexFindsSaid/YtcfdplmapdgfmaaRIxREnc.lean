import Derived.Test.YtcfdplmapdgfmaaRIxNew
import Derived.Test.YtcfdplmapdgfmaaRIxNum
import Derived.Test.YtcfdplmapdgfmaaRPkRGet
import Derived.Test.YtcfdplmapdgfmaaRIxAw
set_option linter.unusedVariables false
set_option linter.unusedSimpArgs false
namespace Go.Proofs.Ytcfdplmapdgfmaa.Mine
open Go.RowKit Go.Proofs.YtcfdplmapdgfmaaW.PrintWords
def ixHead (pack : ByteArray) : List Nat := [112, 111, 108, 108, 97, 114, 100, 32, 105, 110, 100, 101, 120, 10] ++ bs pack
def fansB (S : List SpotP) (m : Nat) : List Nat := ((List.range m).map fun b => fourB (fanN S (b + 1))).flatten
def rowsB (S : List SpotP) : List Nat := (S.map fun x => bs x.id ++ fourB x.pos.toNat).flatten
def encI (pack : ByteArray) (S : List SpotP) : List Nat := ixHead pack ++ fansB S 256 ++ rowsB S
theorem fansB_step (S : List SpotP) (m : Nat) : fansB S (m + 1) = fansB S m ++ fourB (fanN S (m + 1)) := by
 rw [fansB, fansB, List.range_succ, List.map_append, List.flatten_append]; simp
theorem fansB_len (S : List SpotP) (m : Nat) : (fansB S m).length = 4 * m := by
 induction m with
 | zero => rfl
 | succ m ih => rw [fansB_step, List.length_append, ih, fourB_length]; omega
theorem rowsB_step (S : List SpotP) (j : Nat) (hj : j < S.length) : rowsB (S.take (j + 1)) = rowsB (S.take j) ++ (bs S[j].id ++ fourB S[j].pos.toNat) := by
 rw [rowsB, rowsB, List.take_succ_eq_append_getElem hj, List.map_append, List.flatten_append]; simp
theorem rowsB_len (S : List SpotP) (hg : ∀ x ∈ S, goodS x) : (rowsB S).length = 36 * S.length := by
 induction S with
 | nil => rfl
 | cons x S ih =>
  have h1 := (hg x (List.mem_cons_self ..)).1
  have h2 := ih fun y hy => hg y (List.mem_cons_of_mem _ hy)
  rw [show rowsB (x :: S) = (bs x.id ++ fourB x.pos.toNat) ++ rowsB S from rfl, List.length_append, List.length_append, z02, fourB_length, h1, h2, List.length_cons]; omega
theorem fansB_lt (S : List SpotP) (m : Nat) : ∀ c ∈ fansB S m, c < 256 := by
 intro c hc
 obtain ⟨y, hy, hcy⟩ := List.mem_flatten.1 hc
 obtain ⟨b, _, rfl⟩ := List.mem_map.1 hy
 exact fourB_lt _ c hcy
theorem rowsB_lt (S : List SpotP) : ∀ c ∈ rowsB S, c < 256 := by
 intro c hc
 obtain ⟨y, hy, hcy⟩ := List.mem_flatten.1 hc
 obtain ⟨b, _, rfl⟩ := List.mem_map.1 hy
 exact lt_app (bs_lt _) (fourB_lt _) c hcy
theorem ixHead_lt (pack : ByteArray) : ∀ c ∈ ixHead pack, c < 256 := lt_app (by intro c hc; simp at hc; omega) (bs_lt _)
theorem encI_lt (pack : ByteArray) (S : List SpotP) : ∀ c ∈ encI pack S, c < 256 := lt_app (lt_app (ixHead_lt _) (fansB_lt _ _)) (rowsB_lt _)
theorem encI_len (pack : ByteArray) (S : List SpotP) (hp : pack.size = 32) (hg : ∀ x ∈ S, goodS x) : (encI pack S).length = 1070 + 36 * S.length := by
 rw [encI, List.length_append, List.length_append, fansB_len, rowsB_len S hg, ixHead, List.length_append, z02, hp]; simp
end Go.Proofs.Ytcfdplmapdgfmaa.Mine
