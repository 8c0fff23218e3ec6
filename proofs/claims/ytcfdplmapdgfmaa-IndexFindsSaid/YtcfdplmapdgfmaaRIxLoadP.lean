import Derived.Test.YtcfdplmapdgfmaaRIxVal
set_option linter.unusedVariables false
set_option linter.unusedSimpArgs false
namespace Go.Proofs.Ytcfdplmapdgfmaa.Mine
open Go.RowKit Go.Proofs.YtcfdplmapdgfmaaW.PrintWords
def titleI : ByteArray := ⟨#[112, 111, 108, 108, 97, 114, 100, 32, 105, 110, 100, 101, 120, 10]⟩
def SumOk (s : ByteArray) : Prop := sb (sha (bs (s.extract 0 (s.size - 32)))) = s.extract (s.size - 32) s.size
def rowsL (s : ByteArray) : List SpotP := rowsOf s ((s.size - 1102) / 36)
structure GoodL (s : ByteArray) (S : List SpotP) : Prop where
 len : 1102 ≤ s.size
 sum : SumOk s
 tit : s.extract 0 14 = titleI
 mul : (s.size - 1102) % 36 = 0
 perm : S.Perm (rowsL s)
 strict : Strict S
 good : ∀ x ∈ rowsL s, goodS x
 enc : sb (encI (s.extract 14 46) S ++ sha (encI (s.extract 14 46) S)) = s
def LoadBad (s : ByteArray) (k : Int) : Prop := (s.size < 1102 ∧ k = 4) ∨ (1102 ≤ s.size ∧ ¬ SumOk s ∧ k = 80) ∨ (1102 ≤ s.size ∧ SumOk s ∧ (∀ S, ¬ GoodL s S) ∧ k = 6)
theorem LoadBad.one {s : ByteArray} {k m : Int} (h : LoadBad s k) (g : LoadBad s m) : k = m := by
 rcases h with ⟨h1, h2⟩ | ⟨h1, h2, h3⟩ | ⟨h1, h2, _, h3⟩ <;> rcases g with ⟨g1, g2⟩ | ⟨g1, g2, g3⟩ | ⟨g1, g2, _, g3⟩ <;> first | omega | (exact absurd g2 h2) | (exact absurd h2 g2)
theorem LoadBad.no {s : ByteArray} {k : Int} {S : List SpotP} (h : LoadBad s k) (g : GoodL s S) : False := by
 rcases h with ⟨h1, h2⟩ | ⟨h1, h2, h3⟩ | ⟨h1, h2, h3, _⟩
 ·have := g.len; omega
 ·exact h2 g.sum
 ·exact h3 S g
theorem LoadBad.pos {s : ByteArray} {k : Int} (h : LoadBad s k) : k = 4 ∨ k = 80 ∨ k = 6 := by
 rcases h with ⟨_, h⟩ | ⟨_, _, h⟩ | ⟨_, _, _, h⟩ <;> simp [h]
theorem GoodL.one {s : ByteArray} {S T : List SpotP} (h : GoodL s S) (g : GoodL s T) : S = T := strict_unique (h.perm.trans g.perm.symm) h.strict g.strict
theorem valN_four (n : Nat) (hn : n ≤ 4194304) : valN (n / 16777216 % 256) (n / 65536 % 256) (n / 256 % 256) (n % 256) = n := by unfold valN; omega
theorem part_sb (a b c : List Nat) (n m : Nat) (hn : n = a.length) (hm : m = a.length + b.length) : (sb (a ++ b ++ c)).extract n m = sb b := by
 subst hn hm
 rw [sb_append, sb_append]
 have ha : (sb a).size = a.length := z0a a
 have hb : (sb b).size = b.length := z0a b
 rw [← ha, ← hb, ByteArray.append_assoc]
 have h1 := ByteArray.extract_append_size_add (a := sb a) (b := sb b ++ sb c) (i := 0) (j := (sb b).size)
 rw [Nat.add_zero] at h1
 rw [h1]
 exact ByteArray.extract_append_eq_left rfl
theorem rowsB_split (S : List SpotP) (j : Nat) (hj : j < S.length) : rowsB S = rowsB (S.take j) ++ (bs S[j].id ++ fourB S[j].pos.toNat) ++ rowsB (S.drop (j + 1)) := by
 have h : S = S.take j ++ (S[j] :: S.drop (j + 1)) := by rw [← List.drop_eq_getElem_cons hj, List.take_append_drop]
 conv => lhs; rw [h]
 rw [rowsB, List.map_append, List.flatten_append, List.map_cons, List.flatten_cons, ← List.append_assoc]; rfl
theorem row_enc (pack : ByteArray) (S : List SpotP) (X : List Nat) (hp : pack.size = 32) (hg : ∀ x ∈ S, goodS x) (hX : ∀ c ∈ X, c < 256) (j : Nat) (hj : j < S.length) :
  rowAt (sb (encI pack S ++ X)) (1070 + 36 * j) = S[j] := by
 have hgj := hg _ (List.getElem_mem hj)
 have hrl := rowsB_len (S.take j) fun x hx => hg x (List.mem_of_mem_take hx)
 rw [List.length_take, Nat.min_eq_left (by omega)] at hrl
 have hh : (ixHead pack ++ fansB S 256 ++ rowsB (S.take j)).length = 1070 + 36 * j := by
  rw [List.length_append, List.length_append, fansB_len, hrl, ixHead, List.length_append, z02, hp]; simp
 have e : encI pack S ++ X = (ixHead pack ++ fansB S 256 ++ rowsB (S.take j)) ++ bs S[j].id ++ (fourB S[j].pos.toNat ++ (rowsB (S.drop (j + 1)) ++ X)) := by
  rw [encI, rowsB_split S j hj]; simp only [List.append_assoc]
 have hlt : ∀ c ∈ encI pack S ++ X, c < 256 := lt_app (encI_lt _ _) hX
 have h1 : (sb (encI pack S ++ X)).extract (1070 + 36 * j) (1070 + 36 * j + 32) = S[j].id := by
  rw [e, part_sb _ _ _ _ _ hh.symm (by rw [hh, z02, hgj.1]), sb_bs]
 have hd : ∀ i, (encI pack S ++ X).getD (1070 + 36 * j + 32 + i) 0 = (fourB S[j].pos.toNat ++ (rowsB (S.drop (j + 1)) ++ X)).getD i 0 := fun i => by
  rw [e, List.getD_eq_getElem?_getD, List.getD_eq_getElem?_getD, List.getElem?_append_right (by rw [List.length_append, hh, z02, hgj.1]; omega), List.length_append, hh, z02, hgj.1]
  congr 2; omega
 have h2 : valB (sb (encI pack S ++ X)) (1070 + 36 * j + 32) = S[j].pos.toNat := by
  unfold valB
  rw [bs_sb _ hlt]
  have d0 := hd 0
  rw [Nat.add_zero] at d0
  rw [d0, hd 1, hd 2, hd 3]
  exact valN_four _ (by have := hgj.2.1; have := hgj.2.2; omega)
 unfold rowAt
 rw [h1, h2]
 have : ((S[j].pos.toNat : Nat) : Int) = S[j].pos := by have := hgj.2.1; omega
 rw [this]
theorem good_enc (pack : ByteArray) (S : List SpotP) (hp : pack.size = 32) (hg : ∀ x ∈ S, goodS x) (hs : Strict S) :
  (sb (encI pack S ++ sha (encI pack S))).size = 1102 + 36 * S.length ∧ (sb (encI pack S ++ sha (encI pack S))).extract 14 46 = pack ∧ GoodL (sb (encI pack S ++ sha (encI pack S))) S := by
 have hrow := row_enc pack S (sha (encI pack S)) hp hg (sha_lt _)
 have hsz : (sb (encI pack S ++ sha (encI pack S))).size = 1102 + 36 * S.length := by rw [z0a, List.length_append, sha_length, encI_len pack S hp hg]; omega
 have hsplit : encI pack S ++ sha (encI pack S) = [112, 111, 108, 108, 97, 114, 100, 32, 105, 110, 100, 101, 120, 10] ++ bs pack ++ (fansB S 256 ++ (rowsB S ++ sha (encI pack S))) := by
  rw [encI, ixHead]; simp only [List.append_assoc]
 have hpk : (sb (encI pack S ++ sha (encI pack S))).extract 14 46 = pack := by
  rw [hsplit, part_sb _ _ _ 14 46 rfl (by rw [z02, hp]; rfl), sb_bs]
 have htt : (sb (encI pack S ++ sha (encI pack S))).extract 0 14 = titleI := by
  rw [hsplit, List.append_assoc]
  exact sb_ahead [112, 111, 108, 108, 97, 114, 100, 32, 105, 110, 100, 101, 120, 10] _
 have he : (sb (encI pack S ++ sha (encI pack S))).size - 32 = (encI pack S).length := by rw [z0a, List.length_append, sha_length]; omega
 have hsum : SumOk (sb (encI pack S ++ sha (encI pack S))) := by
  unfold SumOk
  rw [he, sb_ahead, sb_behind, bs_sb _ (encI_lt _ _)]
 have hrows : rowsL (sb (encI pack S ++ sha (encI pack S))) = S := by
  unfold rowsL
  rw [hsz, show (1102 + 36 * S.length - 1102) / 36 = S.length from by omega]
  refine List.ext_getElem (rowsOf_length _ _) fun j h1 h2 => ?_
  rw [← hrow j h2]
  simp [rowsOf]
 exact ⟨hsz, hpk, by omega, hsum, htt, by omega, by rw [hrows], hs, by rw [hrows]; exact hg, by rw [hpk]⟩
end Go.Proofs.Ytcfdplmapdgfmaa.Mine
