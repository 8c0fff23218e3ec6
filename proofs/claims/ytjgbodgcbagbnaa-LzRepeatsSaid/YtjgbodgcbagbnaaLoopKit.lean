/- Loops by themselves. -/
import Derived.WalkKit
namespace Go.Proofs.Ytjgbodgcbagbnaa.Mine
open Go Go.RowKit

/-- The loops of a text, the outer ones first. -/
def loopsIn : Code → List Code
  | .loop c => .loop c :: loopsIn c
  | .seq a b => loopsIn a ++ loopsIn b
  | .block _ c => loopsIn c
  | .scope c => loopsIn c
  | .cond _ a b => loopsIn a ++ loopsIn b
  | _ => []
/-- A piece of code that ends at one exit alone. -/
def OneExit (id : Nat) (R : Act → World → Prop) : Exit → Act → World → Prop
  | .exit i, a, w => i = id ∧ R a w
  | _, _, _ => False
theorem oneExit_of {id : Nat} {Q : Exit → Act → World → Prop} : ∀ (e : Exit) (a : Act) (w : World), OneExit id (Q (.exit id)) e a w → Q e a w
  | .exit _, _, _, ⟨h, q⟩ => by subst h; exact q
theorem wrap_at (x : Int) (h : 0 ≤ x) (h2 : x ≤ 9223372036854775807) : IntKind.i64.wrap x = x := by
  rw [IntKind.wrap_i64]; omega
end Go.Proofs.Ytjgbodgcbagbnaa.Mine
