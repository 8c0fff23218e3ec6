import Derived.Test.YtcfdplmapdgfmaaROpenRows
import Derived.Test.YtcfdplmapdgfmaaRIxBase
set_option linter.unusedVariables false
set_option linter.unusedSimpArgs false
namespace Go.Proofs.Ytcfdplmapdgfmaa.Mine
open Go.RowKit Go.ChangeShapes Go.WideShapes Go.Deep Go.Joins Go.Proofs.YtcfdplmapdgfmaaW.PrintWords
section
variable {H : Type} {enc : TypeId × Value → H} {w : World} {base : Nat} {spare : Nat → Bool} {held : Bool}
set_option maxRecDepth 100000 in
theorem open_spots {r : Reach} {b0 : Nat} {v : Value} {d : DataW H} {p : List MemPlace} (hv : Value.okWide Try.prog w r b0 64 v) (h : DataW.Trod enc Try.prog w base spare held 64 v d p) :
  ∃ (A : Option Addr) (cap : Nat) (l : List SpotP), v = .slice A l.length cap ∧ l.length ≤ 9223372036854775807 ∧ Kd.C spotK w A l.length l := by
 obtain ⟨A0, len0, cap0, rfl⟩ := okWide_slice Try.underlying64 hv
 obtain ⟨fuel, hf⟩ := h
 obtain ⟨A, len, cap, hcs, hl, hm, hi⟩ := open_cells Try.underlying64 Try.underlying78 (by kernel_rfl) (by kernel_rfl) hf
 simp [Value.cells] at hcs
 obtain ⟨rfl, rfl, rfl⟩ := hcs
 obtain ⟨l, hll, hp⟩ := rows_of (P := fun i (r : SpotP) => ∃ ad, A0 = some ad ∧ w.cell? (ad.add (i * 2 + 0)) = some (.string r.id) ∧ w.cell? (ad.add (i * 2 + 1)) = some (.int .i64 r.pos)) len0 (by
  intro i hil
  obtain ⟨ad, hA, hf⟩ := hi i hil
  obtain ⟨v0, y0, n0, c0, t0⟩ := hf 0 _ rfl
  obtain ⟨v1, y1, n1, c1, t1⟩ := hf 1 _ rfl
  obtain ⟨s0, e0, _, _⟩ := DataW.trod_string Try.underlying9 t0
  obtain ⟨s1, e1, _, _⟩ := DataW.trod_int Try.underlying3 t1
  have e0' : v0 = .string s0 := by simpa using e0
  have e1' : v1 = .int .i64 s1 := by simpa using e1
  subst e0' e1'
  exact ⟨⟨s0, s1⟩, ad, hA, c0, c1⟩)
 subst hll
 have hm' := hm
 unfold maxLen at hm'
 refine ⟨A0, cap0, l, rfl, by omega, ⟨rfl, by omega, fun hn => ?_⟩⟩
 obtain ⟨ad, hA, _⟩ := hp 0 _ (List.getElem?_eq_getElem hn)
 refine ⟨ad, hA, fun j r hj => ?_⟩
 obtain ⟨ad', hA', c0, c1⟩ := hp j r hj
 have : ad' = ad := by rw [hA] at hA'; exact (Option.some.inj hA').symm
 subst this
 refine ⟨spotCs r, rfl, spotK.K_of_M (spot_M w 0 (fun _ => True) r), fun i u hu => ?_⟩
 match i, hu with
 | 0, hu => simp [spotCs] at hu; subst hu; exact c0
 | 1, hu => simp [spotCs] at hu; subst hu; exact c1
 | i + 2, hu => simp [spotCs] at hu
end
end Go.Proofs.Ytcfdplmapdgfmaa.Mine
