import Derived.Test.YtcfdplmapdgfmaaQPkCut
import Derived.Test.YtcfdplmapdgfmaaQShelf
import Derived.Sort.Statements
set_option linter.unusedVariables false
set_option linter.unusedSimpArgs false
namespace Go.Proofs.Ytcfdplmapdgfmaa.Mine
open Go.RowKit Go.Proofs.YtcfdplmapdgfmaaW.PrintWords
structure SpotP where
 id : ByteArray
 pos : Int
instance : Inhabited SpotP := ⟨⟨⟨#[]⟩, 0⟩⟩
def spotK : Kd SpotP := Kd.iso (Kd.pair Kd.string (Kd.int .i64)) (fun x => (x.id, x.pos))
theorem cmp_self : ∀ a : List UInt8, Lib.compareBytes a a = 0
 | [] => rfl
 | a :: xs => by rw [Lib.compareBytes, if_neg (UInt8.lt_irrefl a), if_neg (UInt8.lt_irrefl a)]; exact cmp_self xs
theorem cmp_zero : ∀ a b : List UInt8, Lib.compareBytes a b = 0 → a = b
 | [], [], _ => rfl
 | [], _ :: _, h => by simp [Lib.compareBytes] at h
 | _ :: _, [], h => by simp [Lib.compareBytes] at h
 | a :: xs, b :: bs, h => by
  rw [Lib.compareBytes] at h
  by_cases h1 : a < b
  ·rw [if_pos h1] at h; cases h
  ·rw [if_neg h1] at h
   by_cases h2 : b < a
   ·rw [if_pos h2] at h; cases h
   ·rw [if_neg h2] at h
    have hab : a = b := UInt8.le_antisymm (UInt8.not_lt.1 h2) (UInt8.not_lt.1 h1)
    rw [hab, cmp_zero xs bs h]
theorem cmp_anti : ∀ a b : List UInt8, Lib.compareBytes a b = - Lib.compareBytes b a
 | [], [] => rfl
 | [], _ :: _ => rfl
 | _ :: _, [] => rfl
 | a :: xs, b :: bs => by
  rw [Lib.compareBytes, Lib.compareBytes]
  by_cases h1 : a < b
  ·rw [if_pos h1, if_neg (UInt8.lt_asymm h1), if_pos h1]
  ·by_cases h2 : b < a
   ·rw [if_neg h1, if_pos h2, if_pos h2]; rfl
   ·rw [if_neg h1, if_neg h2, if_neg h2, if_neg h1]; exact cmp_anti xs bs
theorem cmp_trans : ∀ a b c : List UInt8, Lib.compareBytes a b < 0 → Lib.compareBytes b c < 0 → Lib.compareBytes a c < 0
 | [], [], _, h, _ => by simp [Lib.compareBytes] at h
 | [], _ :: _, [], _, h => by simp [Lib.compareBytes] at h
 | [], _ :: _, _ :: _, _, _ => by simp [Lib.compareBytes]
 | _ :: _, [], _, h, _ => by simp [Lib.compareBytes] at h
 | _ :: _, _ :: _, [], _, h => by simp [Lib.compareBytes] at h
 | a :: xs, b :: bs, c :: cs, h1, h2 => by
  rw [Lib.compareBytes] at h1 h2 ⊢
  by_cases ab : a < b
  ·by_cases bc : b < c
   ·rw [if_pos (UInt8.lt_trans ab bc)]; decide
   ·rw [if_neg bc] at h2
    by_cases cb : c < b
    ·rw [if_pos cb] at h2; exact absurd h2 (by decide)
    ·have : b = c := UInt8.le_antisymm (UInt8.not_lt.1 cb) (UInt8.not_lt.1 bc)
     rw [← this, if_pos ab]; decide
  ·rw [if_neg ab] at h1
   by_cases ba : b < a
   ·rw [if_pos ba] at h1; exact absurd h1 (by decide)
   ·rw [if_neg ba] at h1
    have : a = b := UInt8.le_antisymm (UInt8.not_lt.1 ba) (UInt8.not_lt.1 ab)
    subst this
    by_cases bc : a < c
    ·rw [if_pos bc]; decide
    ·rw [if_neg bc] at h2 ⊢
     by_cases cb : c < a
     ·rw [if_pos cb] at h2; exact absurd h2 (by decide)
     ·rw [if_neg cb] at h2 ⊢
      exact cmp_trans xs bs cs h1 h2
def cmpI (a b : ByteArray) : Int := Lib.compareBytes a.data.toList b.data.toList
theorem z0c (a b : ByteArray) : cmpI a b = 0 ↔ a = b := by
 constructor
 ·intro h
  exact ByteArray.ext (Array.ext' (cmp_zero _ _ h))
 ·rintro rfl; exact cmp_self _
theorem cmpI_anti (a b : ByteArray) : cmpI a b = - cmpI b a := cmp_anti _ _
theorem z0f (a b c : ByteArray) : cmpI a b < 0 → cmpI b c < 0 → cmpI a c < 0 := cmp_trans _ _ _
def Strict (l : List SpotP) : Prop := l.Pairwise fun x y => cmpI x.id y.id < 0
def Asc (l : List SpotP) : Prop := l.Pairwise fun x y => ¬ cmpI y.id x.id < 0
theorem strict_unique {l m : List SpotP} (hp : l.Perm m) (hl : Strict l) (hm : Strict m) : l = m :=
 List.Perm.eq_of_pairwise (fun a b _ _ h1 h2 => by
  have := z0f _ _ _ h1 h2
  rw [(z0c _ _).2 rfl] at this
  exact absurd this (by decide)) hl hm hp
def spotCs (x : SpotP) : List Value := [.string x.id, .int .i64 x.pos]
theorem spot_M (w : World) (b : Nat) (ok : Nat → Prop) (x : SpotP) : spotK.M w b ok x (spotCs x) := ⟨[.string x.id], [.int .i64 x.pos], rfl, rfl, rfl⟩
def RowB (w : World) (g : Nat) (S : List SpotP) : Prop := ∃ cs, w.heap[g]? = some (.cells cs 78 (0, 0)) ∧ ∀ j (hj : j < S.length), cs[j * 2]? = some (.string S[j].id) ∧ cs[j * 2 + 1]? = some (.int .i64 S[j].pos)
def RowV (w : World) (A : Option Addr) (S : List SpotP) : Prop := S = [] ∨ ∃ g, A = some ⟨g, 0, none⟩ ∧ RowB w g S
theorem RowV.reads {w : World} {A : Option Addr} {S : List SpotP} (h : RowV w A S) (hl : S.length ≤ 9223372036854775807) : Kd.C spotK w A S.length S := by
 rcases h with rfl | ⟨g, rfl, cs, hg, hc⟩
 ·exact ⟨rfl, by simp, fun h => absurd h (Nat.lt_irrefl 0)⟩
 ·refine ⟨rfl, hl, fun _ => ⟨_, rfl, fun j p hj => ?_⟩⟩
  obtain ⟨hjl, rfl⟩ := List.getElem?_eq_some_iff.1 hj
  refine ⟨spotCs S[j], rfl, spotK.K_of_M (spot_M w 0 (fun _ => True) S[j]), fun i u hu => ?_⟩
  have ha : (⟨g, 0, none⟩ : Addr).add (j * spotK.sz + i) = ⟨g, j * 2 + i, none⟩ := by
   rw [show spotK.sz = 2 from rfl]; unfold Addr.add; split <;> simp_all
  rw [ha, z02 hg]
  match i, hu with
  | 0, hu => simp [spotCs] at hu; subst hu; exact (hc j hjl).1
  | 1, hu => simp [spotCs] at hu; subst hu; exact (hc j hjl).2
  | i + 2, hu => simp [spotCs] at hu
theorem RowV.below {w w' : World} {A : Option Addr} {S : List SpotP} (h : RowV w A S) (hb : Below w.heap.size w w') : RowV w' A S := by
 rcases h with h | ⟨g, hA, cs, hg, hc⟩
 ·exact .inl h
 ·exact .inr ⟨g, hA, cs, blk_below hg hb, hc⟩
theorem RowV.far {w : World} {A : Option Addr} {S : List SpotP} (h : RowV w A S) {X t : Nat} {cs : Array Value} (hX : w.heap[X]? = some (.cells cs t (0, 0))) (ht : t ≠ 78) (i : Nat) (u : Value) : RowV (w.setCell ⟨X, i, none⟩ u) A S := by
 rcases h with h | ⟨g, hA, ds, hg, hc⟩
 ·exact .inl h
 ·exact .inr ⟨g, hA, ds, blk_far hg (blk_ne hg hX (Ne.symm ht)) u, hc⟩
theorem spotC_at {w : World} {A : Option Addr} {l : List SpotP} (h : Kd.C spotK w A l.length l) (j : Nat) (hj : j < l.length) : ∃ x, A = some x ∧ w.cell? (x.add (j * 2)) = some (.string l[j].id) ∧ w.cell? ⟨(x.add (j * 2)).block, (x.add (j * 2)).off + 1, none⟩ = some (.int .i64 l[j].pos) := by
 obtain ⟨ad, c, hA, hl, hK, hc⟩ := Kd.C_get h ⟨ByteArray.empty, 0⟩ (j : Int) (Int.natCast_nonneg _) (by omega)
 refine ⟨ad, hA, ?_⟩
 obtain ⟨c0, c1, rfl, hK0, hK1⟩ := hK
 have k0 : c0 = [Value.string (l.getD (j : Int).toNat ⟨ByteArray.empty, 0⟩).id] := hK0
 have k1 : c1 = [Value.int .i64 (l.getD (j : Int).toNat ⟨ByteArray.empty, 0⟩).pos] := hK1
 subst k0 k1
 have h0 := hc 0 _ rfl
 have h1 := hc 1 _ rfl
 simp only [List.getD_eq_getElem?_getD, Int.toNat_natCast, List.getElem?_eq_getElem hj, Option.getD_some] at h0 h1
 have e : spotK.sz = 2 := rfl
 rw [e, add_at _ _ _ (by decide)] at h1
 exact ⟨h0, h1⟩
end Go.Proofs.Ytcfdplmapdgfmaa.Mine
