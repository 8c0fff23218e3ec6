import Derived.Test.YtcfdplmapdgfmaaQIxVal
set_option linter.unusedVariables false
set_option linter.unusedSimpArgs false
namespace Go.Proofs.Ytcfdplmapdgfmaa.Mine
open Go.RowKit Go.Proofs.YtcfdplmapdgfmaaW.PrintWords
def titleI : ByteArray := ⟨#[112, 111, 108, 108, 97, 114, 100, 32, 105, 110, 100, 101, 120, 10]⟩
def SumOk (s : ByteArray) : Prop := sb (sha (bs (s.extract 0 (s.size - 32)))) = s.extract (s.size - 32) s.size
def rowsL (s : ByteArray) : List SpotP := rowsOf s ((s.size - 1102) / 36)
structure GoodL (s : ByteArray) (S : List SpotP) : Prop where
 len : 1102 ≤ s.size
 sum : SumOk s
 tit : s.extract 0 14 = titleI
 mul : (s.size - 1102) % 36 = 0
 perm : S.Perm (rowsL s)
 strict : Strict S
 good : ∀ x ∈ rowsL s, goodS x
 enc : sb (encI (s.extract 14 46) S ++ sha (encI (s.extract 14 46) S)) = s
def LoadBad (s : ByteArray) (k : Int) : Prop := (s.size < 1102 ∧ k = 4) ∨ (1102 ≤ s.size ∧ ¬ SumOk s ∧ k = 80) ∨ (1102 ≤ s.size ∧ SumOk s ∧ (∀ S, ¬ GoodL s S) ∧ k = 6)
theorem LoadBad.one {s : ByteArray} {k m : Int} (h : LoadBad s k) (g : LoadBad s m) : k = m := by
 rcases h with ⟨h1, h2⟩ | ⟨h1, h2, h3⟩ | ⟨h1, h2, _, h3⟩ <;> rcases g with ⟨g1, g2⟩ | ⟨g1, g2, g3⟩ | ⟨g1, g2, _, g3⟩ <;> first | omega | (exact absurd g2 h2) | (exact absurd h2 g2)
theorem LoadBad.no {s : ByteArray} {k : Int} {S : List SpotP} (h : LoadBad s k) (g : GoodL s S) : False := by
 rcases h with ⟨h1, h2⟩ | ⟨h1, h2, h3⟩ | ⟨h1, h2, h3, _⟩
 ·have := g.len; omega
 ·exact h2 g.sum
 ·exact h3 S g
theorem LoadBad.pos {s : ByteArray} {k : Int} (h : LoadBad s k) : k = 4 ∨ k = 80 ∨ k = 6 := by
 rcases h with ⟨_, h⟩ | ⟨_, _, h⟩ | ⟨_, _, _, h⟩ <;> simp [h]
theorem GoodL.one {s : ByteArray} {S T : List SpotP} (h : GoodL s S) (g : GoodL s T) : S = T := strict_unique (h.perm.trans g.perm.symm) h.strict g.strict
end Go.Proofs.Ytcfdplmapdgfmaa.Mine
