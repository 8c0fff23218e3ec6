/- The contract of sum.Of. -/
import Derived.Test.YtjgbodgcbagbnaaSumWrite
import Derived.Test.YtjgbodgcbagbnaaSumSum
set_option linter.unusedVariables false
set_option linter.unusedSimpArgs false
namespace Go.Proofs.Ytjgbodgcbagbnaa.Mine
open Go.RowKit Go.Proofs.YtjgbodgcbagbnaaW.PrintWords

/-- The sum of what came into words v, with held bytes, many in all. -/
def shaEnd (v held : List Nat) (many : Nat) : List Nat := outB (eat v (pad held many)).1
/-- The sum of bytes, as package sum reckons it. -/
def sha (l : List Nat) : List Nat := shaEnd (eat begin8 l).1 (eat begin8 l).2 l.length
theorem eat_len (v p : List Nat) : (eat v p).2.length ≤ p.length := by
  suffices h : ∀ k v p, p.length ≤ k → (eat v p).2.length ≤ p.length from h p.length v p (Nat.le_refl _)
  intro k
  induction k with
  | zero => intro v p hp; rw [eat_end _ _ (by omega)]; exact Nat.le_refl _
  | succ k ih =>
    intro v p hp
    by_cases h : 64 ≤ p.length
    · rw [eat_step _ _ h]
      have := ih (stir v (p.take 64)) (p.drop 64) (by rw [List.length_drop]; omega)
      rw [List.length_drop] at this
      omega
    · rw [eat_end _ _ (by omega)]; exact Nat.le_refl _
set_option maxRecDepth 100000 in
theorem of_calls (t : ByteArray) (w : World) (ht : t.size ≤ 70368744177664) :
    Calls Try.prog 15 #[.string t] w fun e w' => e = .returned (.string (sb (sha (bs t)))) ∧ Below w.heap.size w w' := by
  go_enter Try.func15, Try.ntmps15
  go_wp2_with (first
    | (go_at_call 18; refine (new_calls _).mono ?_; rintro e w1 ⟨b, rfl, hb, hst, hbel⟩; have HS := Lib.hid hst; have HB := Lib.hid (And.intro hb hbel); clear hst hb hbel)
    | (go_at_call 19; refine (write_calls b b begin8 [] 0 (.slice none 0 0) t _ HS.out (by omega) (Nat.le_refl _)).mono ?_; rintro e w2 ⟨rfl, hv2, hst2, hbel2⟩; have HS2 := Lib.hid hst2; have HB2 := Lib.hid hbel2; clear hst2 hbel2)
    | (go_at_call 20; refine (sum_calls b b _ _ _ hv2 _ HS2.out (by omega) (by have := eat_len begin8 ([] ++ bs t); rw [List.nil_append, bs_length] at this; simpa using this)).mono ?_; rintro e w3 ⟨rfl, hbel3⟩; have HB3 := Lib.hid hbel3; clear hbel3))
  go_ret
  refine ⟨?_, ?_⟩
  · unfold sha shaEnd
    rw [bs_length]
    simp
  · refine HB.out.2.trans ?_
    have h2 := HB2.out.mono (B' := w.heap.size) HB.out.1
    refine h2.trans (HB3.out.mono ?_)
    have := HB.out.2.size
    have := HB2.out.size
    omega
end Go.Proofs.Ytjgbodgcbagbnaa.Mine
