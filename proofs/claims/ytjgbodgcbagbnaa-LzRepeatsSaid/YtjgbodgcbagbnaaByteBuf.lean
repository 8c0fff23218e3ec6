/- A buffer of bytes that a call owns, from append to append. -/
import Derived.Test.YtjgbodgcbagbnaaBase
import Derived.Test.YtjgbodgcbagbnaaProg
import Derived.Lib.AppendStr
import Derived.Laws.AppendOwn
import Derived.OwnWalk
import Derived.Below
set_option linter.unusedVariables false
set_option linter.unusedSimpArgs false
namespace Go.Proofs.Ytjgbodgcbagbnaa.Mine
open Go.RowKit Go.Proofs.YtjgbodgcbagbnaaW.PrintWords

structure BBuf (B : Nat) (l : List Nat) (v : Value) (w : World) : Prop where
  own : w.ownsRow B 5 1 v l.length (u8s l)
  size : B ≤ w.heap.size
section
variable {B : Nat} {l : List Nat} {v : Value} {w w' : World}
theorem strCells_u8 (s : ByteArray) : Lib.strCells s = u8s (bs s) := by simp [Lib.strCells, u8s, bs]
theorem BBuf.nil (w : World) : BBuf w.heap.size [] (.slice none 0 0) w := ⟨World.ownsRow_nil w _ _ 1, Nat.le_refl _⟩
theorem BBuf.form (h : BBuf B l v w) : ∃ p c, v = .slice p l.length c ∧ l.length ≤ c ∧ c ≤ maxLen := by
  rcases h.own.2 with ⟨h1, h2⟩ | ⟨g, cap, cur, hv, hb, hg, hc, hm, hs, ht⟩
  · have : l = [] := List.eq_nil_of_length_eq_zero h2
    subst this
    exact ⟨none, 0, h1, Nat.le_refl _, Nat.zero_le _⟩
  · exact ⟨some ⟨g, 0, none⟩, cap, hv, hc, hm⟩
theorem BBuf.filled (h : BBuf B l v w) (hl : l ≠ []) : ∃ g c, v = .slice (some ⟨g, 0, none⟩) l.length c ∧ l.length ≤ c ∧ c ≤ maxLen ∧ B ≤ g ∧ g < w.heap.size ∧ ∀ j, j < l.length → w.cell? ((⟨g, 0, none⟩ : Addr).add j) = some (.int .u8 ((l.getD j 0 : Nat) : Int)) := by
  rcases h.own.2 with ⟨h1, h2⟩ | ⟨g, cap, cur, hv, hb, hg, hc, hm, hs, ht⟩
  · exact absurd (List.eq_nil_of_length_eq_zero h2) hl
  · refine ⟨g, cap, hv, hc, hm, hb, (Array.getElem?_eq_some_iff.1 hg).1, fun j hj => ?_⟩
    refine h.own.cells (g := g) (by rw [hv]; rfl) j _ ?_
    simp [u8s, List.getElem?_eq_getElem hj, List.getD_eq_getElem?_getD]
theorem owns_kept {base e size n : Nat} {xs : List Value} (h : w.ownsRow base e size v n xs) (hk : ∀ k, v.ownBlock = some k → w'.heap[k]? = w.heap[k]?) : w'.ownsRow base e size v n xs := by
  refine ⟨h.1, ?_⟩
  rcases h.2 with hn | ⟨g, cap, cur, rfl, hb, hg, rest⟩
  · exact .inl hn
  · exact .inr ⟨g, cap, cur, rfl, hb, (hk g rfl).trans hg, rest⟩
theorem BBuf.kept (h : BBuf B l v w) (hs : w.heap.size ≤ w'.heap.size) (hk : ∀ k, B ≤ k → k < w.heap.size → w'.heap[k]? = w.heap[k]?) : BBuf B l v w' :=
  ⟨owns_kept h.own fun k e => hk k (h.own.lt k e).1 (h.own.lt k e).2, Nat.le_trans h.size hs⟩
theorem BBuf.below (h : BBuf B l v w) (hb : Below w.heap.size w w') : BBuf B l v w' := h.kept hb.size fun k _ h2 => hb.block k h2
theorem BBuf.alloc (h : BBuf B l v w) (o : Obj) : BBuf B l v (w.alloc o) := ⟨h.own.alloc o, by have := h.size; simp; omega⟩
theorem BBuf.lt (h : BBuf B l v w) : ∀ k, v.ownBlock = some k → B ≤ k ∧ k < w.heap.size := h.own.lt
theorem BBuf.string (h : BBuf B l v w) : (convert 46 9 v).run Try.prog w = .ok (.string (sb l)) w :=
  conv_own Try.underlying46 Try.underlying5 Try.underlying9 h.own
theorem below_grow {W0 : World} {row : Option Nat} {n₀ : Nat} (h : Below n₀ W0 w) (hg : w.grownBy w' row) (hs : n₀ ≤ w.heap.size) (hr : ∀ k, row = some k → n₀ ≤ k) : Below n₀ W0 w' := h.grown hg hs hr
end
theorem u8info : ∃ i, Try.prog.info? 5 = some i ∧ i.zero = some (.int .u8 0) ∧ i.size = 1 ∧ i.bytes = 1 := ⟨_, rfl, rfl, rfl, rfl⟩
/-- append(out, s...) of a string. -/
theorem wpList_append_str {ops : Array Oper} {rest : List Oper} {o : Oper} {a : Act} {w : World} {Q : Exit → Act → World → Prop} (hgd : o.guard = none) (sl x : Operand)
    (ho : o.op = .call { callee := .builtin .append, args := #[sl, x], argTypes := #[46, 9] })
    (B : Nat) (l : List Nat) (v : Value) (hs : a.eval sl = v) (hb : BBuf B l v w) (s : ByteArray) (hx : a.eval x = .string s) (hlen : l.length + s.size ≤ 140737488355328)
    (h : ∀ v' w', BBuf B (l ++ bs s) v' w' → w.grownBy w' v.ownBlock → wpList Try.prog ops Q rest (a.put o.dst v') w') : wpList Try.prog ops Q (o :: rest) a w := by
  obtain ⟨i, hi, hz, hz1, hz2⟩ := u8info
  refine Lib.wpList_append_own_string w hgd sl x 46 9 ho B 5 i Try.underlying46 Try.underlying9 hi hz hz1 hz2 v l.length (u8s l) hs hb.own s hx (by unfold maxLen; omega) hlen hb.size ?_
  intro v' w' ho' hg _
  refine h v' w' ⟨?_, Nat.le_trans hb.size hg.size⟩ hg
  rw [List.length_append, bs_length, u8s_append, ← strCells_u8]
  exact ho'
/-- append(out, c) of one byte. -/
theorem wpList_append_one {ops : Array Oper} {rest : List Oper} {o : Oper} {a : Act} {Q : Exit → Act → World → Prop} (hgd : o.guard = none) (sl x : Operand)
    (ho : o.op = .call { callee := .builtin .append, args := #[sl, x], argTypes := #[46, 46] })
    (B : Nat) (l : List Nat) (v : Value) (hs : a.eval sl = v) (w0 : World) (z : Int) (c : Nat) (hzc : z = (c : Int)) (hb : BBuf B l v w0)
    (hx : a.eval x = .slice (some ⟨w0.heap.size, 0, none⟩) 1 1) (hlen : l.length + 1 ≤ 140737488355328)
    (h : ∀ v' w', BBuf B (l ++ [c]) v' w' → (w0.alloc (.cells #[.int .u8 z] 5)).grownBy w' v.ownBlock → wpList Try.prog ops Q rest (a.put o.dst v') w') : wpList Try.prog ops Q (o :: rest) a (w0.alloc (.cells #[.int .u8 z] 5)) := by
  subst hzc
  obtain ⟨i, hi, hz, hsize, hby⟩ := u8info
  have hb' := hb.alloc (.cells #[.int .u8 (c : Int)] 5)
  refine wpList_append_own _ hgd sl x 46 ho B 5 i (.int .u8 0) 1 1 Try.underlying46 hi hz hsize hby rfl (by decide) v l.length (u8s l) hs hb'.own ⟨w0.heap.size, 0, none⟩ 1 1 [.int .u8 (c : Int)] hx rfl ?_ ?_ (by unfold maxLen; omega) (by omega) hb'.size ?_
  · intro j u hj
    match j, hj with
    | 0, hj => simp at hj; subst hj; simp [Addr.add]
    | (j + 1), hj => simp at hj
  · intro u hu; simp at hu; subst hu; rfl
  · intro v' w' ho' hg _
    refine h v' w' ⟨?_, Nat.le_trans hb'.size hg.size⟩ hg
    rw [u8s_append, List.length_append]
    exact ho'
end Go.Proofs.Ytjgbodgcbagbnaa.Mine
