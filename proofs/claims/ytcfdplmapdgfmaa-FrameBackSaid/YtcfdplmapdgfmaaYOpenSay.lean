import Derived.Test.YtcfdplmapdgfmaaYOpenRows
import Derived.Test.YtcfdplmapdgfmaaYFrC
set_option linter.unusedVariables false
set_option linter.unusedSimpArgs false
namespace Go.Proofs.Ytcfdplmapdgfmaa.Mine
open Go.RowKit Go.ChangeShapes Go.WideShapes Go.Deep Go.Joins Go.Proofs.YtcfdplmapdgfmaaW.PrintWords
theorem u64_wf {n : Int} (h : (Lit.int .u64 n).wf = true) : 0 ≤ n ∧ n ≤ 18446744073709551615 := by
 simpa [Lit.wf, IntKind.min, IntKind.max, IntKind.signed, IntKind.bits] using h
section
variable {H : Type} {enc : TypeId × Value → H} {w : World} {base : Nat} {spare : Nat → Bool} {held : Bool}
theorem open_refs {fuel : Nat} {cs : List Value} {x : DataW H × List MemPlace} (h : DataW.trod enc Try.prog w base spare held fuel 24 cs = some x) :
  ∃ (A : Option Addr) (cap : Nat) (l : List RefP), cs = [.slice A l.length cap] ∧ l.length ≤ cap ∧ Kd.C refK w A l.length l ∧ ∀ r ∈ l, r.1.size ≤ 9223372036854775807 := by
 obtain ⟨A, len, cap, rfl, hl, hm, hi⟩ := open_cells Try.underlying24 Try.underlying91 (by kernel_rfl) (by kernel_rfl) h
 obtain ⟨l, hll, hp⟩ := rows_of (P := fun i (r : RefP) => ∃ ad, A = some ad ∧ w.cell? (ad.add (i * 2 + 0)) = some (.string r.1) ∧ w.cell? (ad.add (i * 2 + 1)) = some (.string r.2) ∧ r.1.size ≤ 9223372036854775807) len (by
  intro i hil
  obtain ⟨ad, hA, hf⟩ := hi i hil
  obtain ⟨v0, y0, n0, c0, t0⟩ := hf 0 _ rfl
  obtain ⟨v1, y1, n1, c1, t1⟩ := hf 1 _ rfl
  obtain ⟨s0, e0, _, z0⟩ := DataW.trod_string Try.underlying9 t0
  obtain ⟨s1, e1, _, z1⟩ := DataW.trod_string Try.underlying9 t1
  have e0' : v0 = .string s0 := by simpa using e0
  have e1' : v1 = .string s1 := by simpa using e1
  subst e0' e1'
  unfold maxLen at z0
  exact ⟨(s0, s1), ad, hA, c0, c1, z0⟩)
 subst hll
 have hm' := hm
 unfold maxLen at hm'
 refine ⟨A, cap, l, rfl, hl, ⟨rfl, by omega, fun hn => ?_⟩, fun r hr => ?_⟩
 ·obtain ⟨ad, hA, _⟩ := hp 0 _ (List.getElem?_eq_getElem hn)
  refine ⟨ad, hA, fun j r hj => ?_⟩
  obtain ⟨ad', hA', c0, c1, _⟩ := hp j r hj
  have : ad' = ad := by rw [hA] at hA'; exact (Option.some.inj hA').symm
  subst this
  refine ⟨[.string r.1, .string r.2], rfl, ⟨[.string r.1], [.string r.2], rfl, rfl, rfl⟩, fun i u hu => ?_⟩
  match i, hu with
  | 0, hu => simp at hu; subst hu; exact c0
  | 1, hu => simp at hu; subst hu; exact c1
  | i + 2, hu => simp at hu
 ·obtain ⟨i, hil, hir⟩ := List.getElem_of_mem hr
  obtain ⟨_, _, _, _, hz⟩ := hp i r (by rw [← hir]; exact List.getElem?_eq_getElem hil)
  exact hz
set_option maxRecDepth 100000 in
theorem open_say {r : Reach} {b0 : Nat} {v : Value} {d : DataW H} {p : List MemPlace} (hv : Value.okWide Try.prog w r b0 26 v) (h : DataW.Trod enc Try.prog w base spare held 26 v d p) :
  ∃ x : SayP, SayV w v x ∧ 0 ≤ x.ask ∧ ∀ y ∈ x.refs, y.1.size ≤ 9223372036854775807 := by
 obtain ⟨cs, rfl, hsz, hf⟩ := open_agg Try.underlying26 (by kernel_rfl) (by kernel_rfl) hv h
 obtain ⟨l⟩ := cs
 have hl9 : l.length = 9 := hsz
 match l, hl9 with
 | [c0, c1, c2, c3, c4, c5, c6, c7, c8], _ =>
  obtain ⟨x0, y0, n0, g0, t0⟩ := hf 0 _ rfl
  obtain ⟨x1, y1, n1, g1, t1⟩ := hf 1 _ rfl
  obtain ⟨x2, y2, n2, g2, t2⟩ := hf 2 _ rfl
  obtain ⟨x3, y3, n3, g3, t3⟩ := hf 3 _ rfl
  obtain ⟨x4, y4, n4, g4, t4⟩ := hf 4 _ rfl
  obtain ⟨x5, y5, n5, g5, t5⟩ := hf 5 _ rfl
  obtain ⟨x6, y6, n6, g6, t6⟩ := hf 6 _ rfl
  obtain ⟨x7, y7, n7, g7, t7⟩ := hf 7 _ rfl
  obtain ⟨x8, y8, n8, g8, t8⟩ := hf 8 _ rfl
  obtain rfl : c0 = x0 := by simpa using g0
  obtain rfl : c1 = x1 := by simpa using g1
  obtain rfl : c2 = x2 := by simpa using g2
  obtain rfl : c3 = x3 := by simpa using g3
  obtain rfl : c4 = x4 := by simpa using g4
  obtain rfl : c5 = x5 := by simpa using g5
  obtain rfl : c6 = x6 := by simpa using g6
  obtain rfl : c7 = x7 := by simpa using g7
  obtain rfl : c8 = x8 := by simpa using g8
  obtain ⟨kind, e0, _, _⟩ := DataW.trod_int Try.underlying3 t0
  obtain ⟨ask, e1, _, w1⟩ := DataW.trod_int Try.underlying22 t1
  obtain ⟨A2, k2, ids, e2, l2, _, r2⟩ := open_strs Try.underlying23 Try.underlying9 (by kernel_rfl) t2
  obtain ⟨A3, k3, no, e3, l3, _, r3⟩ := open_strs Try.underlying23 Try.underlying9 (by kernel_rfl) t3
  obtain ⟨A4, k4, refs, e4, l4, r4, hsm⟩ := open_refs t4
  obtain ⟨ticket, e5, _, _⟩ := DataW.trod_string Try.underlying9 t5
  obtain ⟨n, e6, _, _⟩ := DataW.trod_int Try.underlying3 t6
  obtain ⟨of, e7, _, _⟩ := DataW.trod_int Try.underlying3 t7
  obtain ⟨data, e8, _, _⟩ := DataW.trod_string Try.underlying9 t8
  obtain rfl : c0 = .int .i64 kind := by simpa using e0
  obtain rfl : c1 = .int .u64 ask := by simpa using e1
  obtain rfl : c2 = .slice A2 ids.length k2 := by simpa using e2
  obtain rfl : c3 = .slice A3 no.length k3 := by simpa using e3
  obtain rfl : c4 = .slice A4 refs.length k4 := by simpa using e4
  obtain rfl : c5 = .string ticket := by simpa using e5
  obtain rfl : c6 = .int .i64 n := by simpa using e6
  obtain rfl : c7 = .int .i64 of := by simpa using e7
  obtain rfl : c8 = .string data := by simpa using e8
  exact ⟨⟨kind, ask, ids, no, refs, ticket, n, of, data⟩, ⟨A2, k2, A3, k3, A4, k4, rfl, r2, l2, r3, l3, r4, l4⟩, (u64_wf w1).1, hsm⟩
end
end Go.Proofs.Ytcfdplmapdgfmaa.Mine
