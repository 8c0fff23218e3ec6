/- A buffer of bytes that a call owns, from append to append. -/
import Derived.Test.YtjgbodgcbagbnaaSumState
set_option linter.unusedVariables false
set_option linter.unusedSimpArgs false
namespace Go.Proofs.Ytjgbodgcbagbnaa.Mine
open Go.RowKit Go.Proofs.YtjgbodgcbagbnaaW.PrintWords

structure Buf (B : Nat) (l : List Nat) (v : Value) (W0 w : World) : Prop where
  own : w.ownsRow B 5 1 v l.length (u8s l)
  below : Below B W0 w
  size : B ≤ w.heap.size
section
variable {B : Nat} {l : List Nat} {v : Value} {W0 w w' : World}
theorem Buf.nil (w : World) : Buf w.heap.size [] (.slice none 0 0) w w := ⟨World.ownsRow_nil w _ _ 1, Below.refl _ w, Nat.le_refl _⟩
theorem Buf.form (h : Buf B l v W0 w) : ∃ p c, v = .slice p l.length c ∧ l.length ≤ c ∧ c ≤ maxLen ∧ (l ≠ [] → ∃ g, p = some ⟨g, 0, none⟩ ∧ B ≤ g ∧ g < w.heap.size ∧ ∀ j, j < l.length → w.cell? ((⟨g, 0, none⟩ : Addr).add j) = some (.int .u8 ((l.getD j 0 : Nat) : Int))) := by
  rcases h.own.2 with ⟨h1, h2⟩ | ⟨g, cap, cur, hv, hb, hg, hc, hm, hs, ht⟩
  · have : l = [] := List.eq_nil_of_length_eq_zero h2
    subst this
    exact ⟨none, 0, h1, Nat.le_refl _, Nat.zero_le _, fun e => absurd rfl e⟩
  · refine ⟨some ⟨g, 0, none⟩, cap, hv, hc, hm, fun _ => ⟨g, rfl, hb, (Array.getElem?_eq_some_iff.1 hg).1, fun j hj => ?_⟩⟩
    refine h.own.cells (g := g) (by rw [hv]; rfl) j _ ?_
    simp [u8s, List.getElem?_eq_getElem hj, List.getD_eq_getElem?_getD]
theorem Buf.alloc (h : Buf B l v W0 w) (o : Obj) : Buf B l v W0 (w.alloc o) := ⟨h.own.alloc o, h.below.alloc h.size o, by have := h.size; simp; omega⟩
theorem Buf.grown {l' : List Nat} {v' : Value} (h : Buf B l v W0 w) (ho : w'.ownsRow B 5 1 v' l'.length (u8s l')) (hg : w.grownBy w' v.ownBlock) : Buf B l' v' W0 w' :=
  ⟨ho, h.below.grown hg h.size (fun k hk => (h.own.lt k hk).1), Nat.le_trans h.size hg.size⟩
end
section
variable {P : Program}
theorem wpList_append_c {ops : Array Oper} {rest : List Oper} {o : Oper} {a : Act} {Q : Exit → Act → World → Prop} (hgd : o.guard = none) (s x : Operand) (t : TypeId)
    (ho : o.op = .call { callee := .builtin .append, args := #[s, x], argTypes := #[t, t] })
    (i : TypeInfo) (ht : P.underlying t = some (.slice 5)) (hi : P.info? 5 = some i) (hz : i.zero = some (.int .u8 0)) (hsize : i.size = 1) (hby : i.bytes = 1)
    (B : Nat) (l : List Nat) (v : Value) (hs : a.eval s = v) (W0 w0 : World) (z : Int) (c : Nat) (hzc : z = (c : Int)) (hb : Buf B l v W0 w0)
    (hx : a.eval x = .slice (some ⟨w0.heap.size, 0, none⟩) 1 1) (hlen : l.length + 1 ≤ 140737488355328)
    (h : ∀ v' w', Buf B (l ++ [c]) v' W0 w' → wpList P ops Q rest (a.put o.dst v') w') : wpList P ops Q (o :: rest) a (w0.alloc (.cells #[.int .u8 z] 5)) := by
  subst hzc
  have hb' := hb.alloc (.cells #[.int .u8 (c : Int)] 5)
  refine wpList_append_own _ hgd s x t ho B 5 i (.int .u8 0) 1 1 ht hi hz hsize hby rfl (by decide) v l.length (u8s l) hs hb'.own ⟨w0.heap.size, 0, none⟩ 1 1 [.int .u8 (c : Int)] hx rfl ?_ ?_ (by unfold maxLen; omega) (by omega) hb'.size ?_
  · intro j u hj
    match j, hj with
    | 0, hj => simp at hj; subst hj; simp [Addr.add]
    | (j + 1), hj => simp at hj
  · intro u hu; simp at hu; subst hu; rfl
  · intro v' w' ho' hg _
    refine h v' w' (hb'.grown ?_ hg)
    rw [u8s_append, List.length_append]
    exact ho'
/-- append(p, q...) of a slice of bytes that lies anywhere. -/
theorem wpList_append_q {ops : Array Oper} {rest : List Oper} {o : Oper} {a : Act} {Q : Exit → Act → World → Prop} (hgd : o.guard = none) (s x : Operand) (t : TypeId)
    (ho : o.op = .call { callee := .builtin .append, args := #[s, x], argTypes := #[t, t] })
    (i : TypeInfo) (ht : P.underlying t = some (.slice 5)) (hi : P.info? 5 = some i) (hz : i.zero = some (.int .u8 0)) (hsize : i.size = 1) (hby : i.bytes = 1)
    (B : Nat) (l : List Nat) (v : Value) (hs : a.eval s = v) (W0 w : World) (hb : Buf B l v W0 w)
    (ad : Addr) (m c : Nat) (q : List Nat) (hx : a.eval x = .slice (some ad) m c) (hm : q.length = m) (hq : ∀ j, j < q.length → w.cell? (ad.add j) = some (.int .u8 ((q.getD j 0 : Nat) : Int))) (hlen : l.length + m ≤ 140737488355328)
    (h : ∀ v' w', Buf B (l ++ q) v' W0 w' → wpList P ops Q rest (a.put o.dst v') w') : wpList P ops Q (o :: rest) a w := by
  subst hm
  refine wpList_append_own _ hgd s x t ho B 5 i (.int .u8 0) 1 1 ht hi hz hsize hby rfl (by decide) v l.length (u8s l) hs hb.own ad q.length c (u8s q) hx (by rw [u8s_length]; omega) ?_ ?_ (by unfold maxLen; omega) (by omega) hb.size ?_
  · intro j u hj
    have hl : j < q.length := by have := (List.getElem?_eq_some_iff.1 hj).1; rwa [u8s_length] at this
    rw [hq j hl, ← hj]
    simp [u8s, List.getElem?_eq_getElem hl, List.getD_eq_getElem?_getD]
  · intro u hu
    simp only [u8s, List.mem_map] at hu
    obtain ⟨c, _, rfl⟩ := hu; rfl
  · intro v' w' ho' hg _
    refine h v' w' (hb.grown ?_ hg)
    rw [u8s_append, List.length_append]
    exact ho'
theorem run_append_none (w : World) (t ty e : TypeId) (i : TypeInfo) (ht : P.underlying t = some (.slice e)) (hi : P.info? e = some i) (base : Option Addr) (sLen sCap : Nat) (hle : sLen ≤ sCap) (c : Nat) :
    (Builtin.append_ #[t, t] ty #[.slice base sLen sCap, .slice none 0 c]).run P w = .ok (.slice base sLen sCap) w := by
  cases base <;> simp [Builtin.append_, run_underlying ht, sizeOf, typeInfo, hi, Builtin.lenOf, hle, Builtin.firstCells, storeCells]
theorem wpList_append_none {ops : Array Oper} {rest : List Oper} {o : Oper} {a : Act} {Q : Exit → Act → World → Prop} (w : World) (hgd : o.guard = none) (s x : Operand) (t e : TypeId)
    (ho : o.op = .call { callee := .builtin .append, args := #[s, x], argTypes := #[t, t] })
    (i : TypeInfo) (ht : P.underlying t = some (.slice e)) (hi : P.info? e = some i) (base : Option Addr) (sLen sCap c : Nat) (hle : sLen ≤ sCap) (hs : a.eval s = .slice base sLen sCap) (hx : a.eval x = .slice none 0 c)
    (h : wpList P ops Q rest (a.put o.dst (.slice base sLen sCap)) w) : wpList P ops Q (o :: rest) a w := by
  refine wpList_plain hgd fun K hK => ?_
  have hr := run_append_none (P := P) w t o.type e i ht hi base sLen sCap hle c
  unfold Oper.wp execOp
  simp only [ho, resolve, invoke, builtin, Sem.run_bind, Sem.run_pure, Result.andThen_ok, List.map_toArray, List.map_cons, List.map_nil, hs, hx, hr]
  exact hK _ _ h
end
end Go.Proofs.Ytjgbodgcbagbnaa.Mine
