/- A buffer of bytes that a call owns, made by a conversion of a string: behind its capacity stands a mark, that no append of a string's bytes reads. The laws are the kit's (FrozenHead), the frozen stretch being behind the cells instead of ahead of them. -/
import Derived.Test.YtjgbodgcbagbnaaByteBuf
import Derived.Lib.FrozenHead
import Derived.Lib.ConvBytes
set_option linter.unusedVariables false
set_option linter.unusedSimpArgs false
namespace Go.Proofs.Ytjgbodgcbagbnaa.Mine
open Go Go.RowKit Go.Lib Go.Proofs.YtjgbodgcbagbnaaW.PrintWords

/-- None of the first n cells is frozen. -/
def Unfz (fz : Nat × Nat) (n : Nat) : Prop := ∀ j, j < n → ¬ (fz.1 ≤ j ∧ j < fz.2)
theorem storeCells_un (P : Program) (g o : Nat) (t : TypeId) (fz : Nat × Nat) : ∀ (vs : List Value) (i : Nat) (cur : Array Value) (w : World), w.heap[g]? = some (.cells cur t fz) → Unfz fz cur.size → o + i + vs.length ≤ cur.size → (∀ v ∈ vs, v.oneCell' = true) →
    (storeCells ⟨g, o, none⟩ vs i).run P w = .ok () (w.setRow g (cur.toList.take (o + i) ++ vs ++ cur.toList.drop (o + i + vs.length)).toArray)
  | [], i, cur, w, hg, _, _, _ => by
    simp only [storeCells, List.append_nil, List.length_nil, Nat.add_zero, List.take_append_drop, Array.toArray_toList]
    rw [setRow_self w g cur t fz hg]
    rfl
  | v :: rest, i, cur, w, hg, hfz, hl, h1 => by
    have hi : o + i < cur.size := by simp at hl; omega
    have hadd : (⟨g, o, none⟩ : Addr).add i = ⟨g, o + i, none⟩ := by unfold Addr.add; split <;> simp_all
    have hcell : w.cell? ⟨g, o + i, none⟩ = some cur[o + i] := by simp [World.cell?, hg, hi]
    have hfro : w.frozen? ⟨g, o + i, none⟩ = false := by
      have := hfz (o + i) hi
      obtain ⟨lo, hi'⟩ := fz
      simp only [World.frozen?, hg, Bool.and_eq_false_iff, decide_eq_false_iff_not]
      simp only at this
      omega
    have hst : (store ((⟨g, o, none⟩ : Addr).add i) v).run P w = .ok () (w.setRow g (cur.setIfInBounds (o + i) v)) := by
      rw [hadd, run_store P w _ v _ (h1 v (by simp)), hcell]
      simp [hfro, setCell_eq_setRow w g (o + i) cur t fz v hg]
    have ih := storeCells_un P g o t fz rest (i + 1) (cur.setIfInBounds (o + i) v) (w.setRow g (cur.setIfInBounds (o + i) v)) (setRow_heap w g cur _ t _ hg) (by simpa using hfz) (by simp at hl ⊢; omega) (fun x hx => h1 x (by simp [hx]))
    simp only [storeCells, Sem.run_bind, hst, Result.andThen_ok, ih, setRow_setRow]
    congr 3
    have e := list_seg_step cur.toList (o + i) v rest (by simp at hl ⊢; omega)
    simpa [Array.toList_setIfInBounds, Nat.add_assoc] using e
theorem foldl_push_nums : ∀ (xs : List Int) (r : ByteArray), xs.foldl (fun r n => r.push (UInt8.ofNat n.toNat)) r = ⟨r.data ++ (xs.map fun n => UInt8.ofNat n.toNat).toArray⟩
  | [], r => by simp
  | b :: l, r => by
    simp only [List.foldl_cons]
    rw [foldl_push_nums l]
    simp [ByteArray.push]
/-- Bytes of a row of its own, none of its cells frozen. -/
structure MBuf (B : Nat) (l : List Nat) (v : Value) (w : World) : Prop where
  own : (v = .slice none 0 0 ∧ l = []) ∨ ∃ g cap cur fz, v = .slice (some ⟨g, 0, none⟩) l.length cap ∧ B ≤ g ∧ w.heap[g]? = some (.cells cur 5 fz) ∧ Unfz fz cur.size ∧ l.length ≤ cap ∧ cap ≤ maxLen ∧ cur.size = cap ∧ cur.toList.take l.length = u8s l
  size : B ≤ w.heap.size
theorem BBuf.toM {B : Nat} {l : List Nat} {v : Value} {w : World} (h : BBuf B l v w) : MBuf B l v w := by
  refine ⟨?_, h.size⟩
  rcases h.own.2 with ⟨h1, h2⟩ | ⟨g, cap, cur, hv, hb, hg, hc, hm, hs, ht⟩
  · exact .inl ⟨h1, List.eq_nil_of_length_eq_zero h2⟩
  · exact .inr ⟨g, cap, cur, (0, 0), hv, hb, hg, fun j hj h => by simp at h, hc, hm, by simpa using hs, by simpa using ht⟩
section
variable {B : Nat} {l : List Nat} {v : Value} {w w' : World}
theorem MBuf.kept (h : MBuf B l v w) (hs : w.heap.size ≤ w'.heap.size) (hk : ∀ k, v.ownBlock = some k → k < w.heap.size → w'.heap[k]? = w.heap[k]?) : MBuf B l v w' := by
  refine ⟨?_, Nat.le_trans h.size hs⟩
  rcases h.own with hn | ⟨g, cap, cur, fz, rfl, hb, hg, rest⟩
  · exact .inl hn
  · exact .inr ⟨g, cap, cur, fz, rfl, hb, (hk g rfl (Array.getElem?_eq_some_iff.1 hg).1).trans hg, rest⟩
theorem MBuf.below (h : MBuf B l v w) (hb : Below w.heap.size w w') : MBuf B l v w' := h.kept hb.size fun k _ h2 => hb.block k h2
theorem MBuf.grown {row : Option Nat} (h : MBuf B l v w) (hg : w.grownBy w' row) (hr : v.ownBlock ≠ row ∨ v.ownBlock = none) : MBuf B l v w' := by
  refine h.kept hg.size fun k e h2 => hg.block k h2 fun e2 => ?_
  rcases hr with hr | hr
  · exact hr (e.trans e2)
  · rw [hr] at e; cases e
theorem MBuf.lt (h : MBuf B l v w) : ∀ k, v.ownBlock = some k → B ≤ k ∧ k < w.heap.size := by
  intro k hk
  rcases h.own with ⟨rfl, _⟩ | ⟨g, cap, cur, fz, rfl, hb, hg, _⟩
  · simp [Value.ownBlock] at hk
  · simp [Value.ownBlock] at hk
    subst hk
    exact ⟨hb, (Array.getElem?_eq_some_iff.1 hg).1⟩
theorem MBuf.cells (h : MBuf B l v w) {g : Nat} (hg : v.ownBlock = some g) : ∀ j u, (u8s l)[j]? = some u → w.cell? ((⟨g, 0, none⟩ : Addr).add j) = some u := by
  intro j u hu
  rcases h.own with ⟨rfl, _⟩ | ⟨g', cap, cur, fz, rfl, _, hgg, _, _, _, _, htake⟩
  · simp [Value.ownBlock] at hg
  · simp [Value.ownBlock] at hg
    subst hg
    have hadd : (⟨g', 0, none⟩ : Addr).add j = ⟨g', j, none⟩ := by unfold Addr.add; split <;> simp_all
    rw [hadd, cell_of_row w g' j cur _ fz hgg]
    rw [← htake, List.getElem?_take] at hu
    split at hu
    · simpa using hu
    · cases hu
theorem MBuf.string (h : MBuf B l v w) : (convert 46 9 v).run Try.prog w = .ok (.string (sb l)) w := by
  rcases h.own with ⟨rfl, hl⟩ | ⟨g, cap, cur, fz, rfl, hb, hg, hfz, hc, hm, hs, ht⟩
  · subst hl
    exact (BBuf.string (B := w.heap.size) (BBuf.nil w))
  · have e2 : sb l = strOfNums (l.map fun (c : Nat) => (c : Int)) := by simp [sb, strOfNums]
    rw [e2, run_convert_bytes_string w _ _ _ _ _ cap Try.underlying46 Try.underlying5 Try.underlying9]
    have hl := run_loadCells_list (P := Try.prog) w ⟨g, 0, none⟩ ((l.map fun (c : Nat) => (c : Int)).map (Value.int .u8)) (fun j u hj => h.cells (g := g) rfl j u (by simpa [u8s] using hj))
    simp only [List.length_map] at hl
    rw [run_bytesToString w _ l.length cap _ hl, foldl_push_nums]
    simp [strOfNums]
end
theorem append_run_M (w : World) (B : Nat) (l : List Nat) (v : Value) (ty : TypeId) (hb : MBuf B l v w) (s : ByteArray) (hlen : l.length + s.size ≤ 140737488355328) :
    ∃ v' w', (Builtin.append_ #[46, 9] ty #[v, .string s]).run Try.prog w = .ok v' w' ∧ MBuf B (l ++ bs s) v' w' ∧ w.grownBy w' v.ownBlock ∧ ∀ k, v'.ownBlock = some k → some k = v.ownBlock ∨ w.heap.size ≤ k := by
  obtain ⟨i, hi, hz, hsize, hby⟩ := u8info
  rcases hb.own with ⟨rfl, hl⟩ | ⟨g, cap, cur, fz, rfl, hbg, hg, hfz, hnc, hcm, hcs, htake⟩
  · subst hl
    obtain ⟨v', w', h1, h2, h3, h4⟩ := run_append_own_string (P := Try.prog) w w.heap.size 46 9 ty 5 i Try.underlying46 Try.underlying9 hi hz hsize hby (.slice none 0 0) 0 [] (World.ownsRow_nil w _ _ 1) s (by unfold maxLen; simp at hlen ⊢; omega) (by simpa using hlen) (Nat.le_refl _)
    have hB : BBuf w.heap.size (bs s) v' w' := ⟨by rw [bs_length, ← strCells_u8]; simpa using h2, h3.size⟩
    refine ⟨v', w', h1, ?_, h3, fun k hk => .inr (h2.lt k hk).1⟩
    have hm := hB.toM
    refine ⟨?_, Nat.le_trans hb.size hm.size⟩
    rcases hm.own with hn | ⟨g, cap, cur, fz, hv, hbg, rest⟩
    · exact .inl hn
    · exact .inr ⟨g, cap, cur, fz, hv, Nat.le_trans hb.size hbg, rest⟩
  · have hsmall : l.length + s.size ≤ 9223372036854775807 := by omega
    have hll : (l ++ bs s).length = l.length + s.size := by rw [List.length_append, bs_length]
    have hxl : (u8s l).length = l.length := u8s_length l
    have hu : u8s (l ++ bs s) = u8s l ++ strCells s := by rw [u8s_append, strCells_u8]
    by_cases hroom : l.length + s.size ≤ cap
    · have hf := run_firstCells_string (P := Try.prog) w 1 s
      have hst := storeCells_un Try.prog g l.length 5 fz (strCells s) 0 cur w hg hfz (by simp only [strCells_length]; omega) (strCells_oneCell s)
      simp only [Nat.add_zero, strCells_length] at hst
      have hr : (Builtin.append_ #[46, 9] ty #[.slice (some ⟨g, 0, none⟩) l.length cap, .string s]).run Try.prog w =
          .ok (.slice (some ⟨g, 0, none⟩) (l.length + s.size) cap) (w.setRow g (cur.toList.take l.length ++ strCells s ++ cur.toList.drop (l.length + s.size)).toArray) := by
        simp [Builtin.append_, run_underlying Try.underlying46, run_underlying Try.underlying9, sizeOf, typeInfo, hi, hsize, Builtin.lenOf, hroom, hf, Addr.add_lit, hst]
      have hcs2 : (cur.toList.take l.length ++ strCells s ++ cur.toList.drop (l.length + s.size)).toArray.size = cap := by
        simp only [List.size_toArray, List.length_append, List.length_take, List.length_drop, Array.length_toList, strCells_length]
        omega
      refine ⟨_, _, hr, ⟨.inr ⟨g, cap, _, fz, by rw [hll], hbg, setRow_heap w g cur _ _ _ hg, by rw [hcs2, ← hcs]; exact hfz, by omega, hcm, hcs2, ?_⟩, by simpa using hb.size⟩, ⟨rfl, rfl, rfl, by simp, fun k _ hk => setRow_other w g k _ (fun e => hk (by simp [Value.ownBlock, e]))⟩, fun k hk => .inl hk.symm⟩
      rw [htake, hu, hll]
      have : (u8s l ++ strCells s).length = l.length + s.size := by rw [List.length_append, hxl, strCells_length]
      rw [← this]
      exact List.take_left
    · have holds : ∀ j u, (u8s l)[j]? = some u → w.cell? ((⟨g, 0, none⟩ : Addr).add j) = some u := hb.cells (g := g) rfl
      have hr := run_append_grow_string (P := Try.prog) w 46 9 ty 5 i (.int .u8 0) Try.underlying46 Try.underlying9 hi hz ⟨g, 0, none⟩ l.length cap (u8s l) (by rw [hsize, hxl, Nat.mul_one]) holds s (by omega) (by omega) (by rw [hby]; exact growslice_fits (by omega) (by omega))
      have hge := grownCap_ge w (l.length + s.size) cap 5
      have hcm2 : grownCap w (l.length + s.size) cap 5 ≤ maxLen := grownCap_le_maxLen w (l.length + s.size) cap 5 (by unfold maxLen; omega)
      refine ⟨_, _, hr, ⟨.inr ⟨w.heap.size, _, _, (0, 0), by rw [hll], hb.size, heap_alloc_new w.drew _, fun j hj h => by simp at h, by rw [hll]; exact hge, hcm2, ?_, ?_⟩, by have := hb.size; simp; omega⟩, ⟨rfl, rfl, rfl, by simp, fun k hk hn => (World.grownBy_alloc w.drew _ _).block k hk hn⟩, fun k hk => .inr (by simp [Value.ownBlock] at hk; omega)⟩
      · have hz1 : (Value.int IntKind.u8 0).cells.size = 1 := rfl
        simp only [Array.size_append, List.size_toArray, size_zeroCells, hz1, hxl, strCells_length]
        omega
      · simp only [Array.toList_append, List.append_assoc]
        rw [hu, hll, ← List.append_assoc]
        have : (u8s l ++ strCells s).length = l.length + s.size := by rw [List.length_append, hxl, strCells_length]
        rw [← this]
        exact List.take_left
theorem append_run_1 (w : World) (B : Nat) (l : List Nat) (v : Value) (ty : TypeId) (hb : MBuf B l v w) (hl : l ≠ []) (a : Addr) (x : Nat) (hx : ∀ (j : Nat) (u : Value), ([Value.int .u8 (x : Int)] : List Value)[j]? = some u → w.cell? (a.add j) = some u) (hlen : l.length + 1 ≤ 140737488355328) :
    ∃ v' w', (Builtin.append_ #[46, 46] ty #[v, .slice (some a) 1 1]).run Try.prog w = .ok v' w' ∧ MBuf B (l ++ [x]) v' w' ∧ w.grownBy w' v.ownBlock := by
  obtain ⟨i, hi, hz, hsize, hby⟩ := u8info
  rcases hb.own with ⟨_, hl0⟩ | ⟨g, cap, cur, fz, rfl, hbg, hg, hfz, hnc, hcm, hcs, htake⟩
  · exact absurd hl0 hl
  · have hsmall : l.length + 1 ≤ 9223372036854775807 := by omega
    have hll : (l ++ [x]).length = l.length + 1 := by simp
    have hxl : (u8s l).length = l.length := u8s_length l
    have hu : u8s (l ++ [x]) = u8s l ++ [Value.int .u8 (x : Int)] := by rw [u8s_append]; rfl
    have h1 : ∀ u ∈ ([Value.int .u8 (x : Int)] : List Value), u.oneCell' = true := by intro u hu; simp at hu; subst hu; rfl
    have hnl : ([Value.int .u8 (x : Int)] : List Value).length = 1 * i.size := by rw [hsize]; rfl
    by_cases hroom : l.length + 1 ≤ cap
    · have hf := run_firstCells_some (P := Try.prog) w i.size 1 a 1 1 [Value.int .u8 (x : Int)] hnl hx
      have hst := storeCells_un Try.prog g l.length 5 fz [Value.int .u8 (x : Int)] 0 cur w hg hfz (by simp; omega) h1
      simp only [Nat.add_zero, List.length_singleton] at hst
      have hr : (Builtin.append_ #[46, 46] ty #[.slice (some ⟨g, 0, none⟩) l.length cap, .slice (some a) 1 1]).run Try.prog w =
          .ok (.slice (some ⟨g, 0, none⟩) (l.length + 1) cap) (w.setRow g (cur.toList.take l.length ++ [Value.int .u8 (x : Int)] ++ cur.toList.drop (l.length + 1)).toArray) := by
        rw [hsize] at hf
        simp only [Builtin.append_, Sem.run_bind, run_underlying Try.underlying46, sizeOf, typeInfo, hi, hsize, Builtin.lenOf, hroom, hf, Addr.add_lit, hst, Result.andThen_ok, Sem.run_pure]
        simp [Builtin.append_, run_underlying Try.underlying46, sizeOf, typeInfo, hi, hsize, Builtin.lenOf, hroom, hf, Addr.add_lit, hst]
      have hcs2 : (cur.toList.take l.length ++ [Value.int .u8 (x : Int)] ++ cur.toList.drop (l.length + 1)).toArray.size = cap := by
        simp only [List.size_toArray, List.length_append, List.length_take, List.length_drop, Array.length_toList, List.length_singleton]
        omega
      refine ⟨_, _, hr, ⟨.inr ⟨g, cap, _, fz, by rw [hll], hbg, setRow_heap w g cur _ _ _ hg, by rw [hcs2, ← hcs]; exact hfz, by omega, hcm, hcs2, ?_⟩, by simpa using hb.size⟩, ⟨rfl, rfl, rfl, by simp, fun k _ hk => setRow_other w g k _ (fun e => hk (by simp [Value.ownBlock, e]))⟩⟩
      rw [htake, hu, hll]
      have : (u8s l ++ [Value.int .u8 (x : Int)]).length = l.length + 1 := by rw [List.length_append, hxl]; rfl
      rw [← this]
      exact List.take_left
    · have holds : ∀ j u, (u8s l)[j]? = some u → w.cell? ((⟨g, 0, none⟩ : Addr).add j) = some u := hb.cells (g := g) rfl
      have hr := run_append_grow (P := Try.prog) w 46 ty 5 i (.int .u8 0) Try.underlying46 hi hz ⟨g, 0, none⟩ l.length cap (u8s l) (by rw [hsize, hxl, Nat.mul_one]) holds a 1 1 [Value.int .u8 (x : Int)] hnl hx (by omega) (by omega) (by rw [hby]; exact growslice_fits (by omega) (by omega))
      have hge := grownCap_ge w (l.length + 1) cap 5
      have hcm2 : grownCap w (l.length + 1) cap 5 ≤ maxLen := grownCap_le_maxLen w (l.length + 1) cap 5 (by unfold maxLen; omega)
      refine ⟨_, _, hr, ⟨.inr ⟨w.heap.size, _, _, (0, 0), by rw [hll], hb.size, heap_alloc_new w.drew _, fun j hj h => by simp at h, by rw [hll]; exact hge, hcm2, ?_, ?_⟩, by have := hb.size; simp; omega⟩, ⟨rfl, rfl, rfl, by simp, fun k hk hn => (World.grownBy_alloc w.drew _ _).block k hk hn⟩⟩
      · have hz1 : (Value.int IntKind.u8 0).cells.size = 1 := rfl
        simp only [Array.size_append, List.size_toArray, size_zeroCells, hz1, hxl, List.length_singleton]
        omega
      · simp only [Array.toList_append, List.append_assoc]
        rw [hu, hll, ← List.append_assoc]
        have : (u8s l ++ [Value.int .u8 (x : Int)]).length = l.length + 1 := by rw [List.length_append, hxl]; rfl
        rw [← this]
        exact List.take_left
theorem MBuf.alloc {B : Nat} {l : List Nat} {v : Value} {w : World} (h : MBuf B l v w) (o : Obj) : MBuf B l v (w.alloc o) := h.below ((Below.refl _ _).alloc (Nat.le_refl _) o)
/-- append(out, c) of one byte that stands in a new row. -/
theorem wpList_append_oneM {ops : Array Oper} {rest : List Oper} {o : Oper} {a : Act} {Q : Exit → Act → World → Prop} (hgd : o.guard = none) (sl x : Operand)
    (ho : o.op = .call { callee := .builtin .append, args := #[sl, x], argTypes := #[46, 46] })
    (B : Nat) (l : List Nat) (v : Value) (hs : a.eval sl = v) (w0 : World) (z : Int) (c : Nat) (hzc : z = (c : Int)) (hb : MBuf B l v w0) (hl : l ≠ [])
    (hx : a.eval x = .slice (some ⟨w0.heap.size, 0, none⟩) 1 1) (hlen : l.length + 1 ≤ 140737488355328)
    (h : ∀ v' w', MBuf B (l ++ [c]) v' w' → (w0.alloc (.cells #[.int .u8 z] 5)).grownBy w' v.ownBlock → wpList Try.prog ops Q rest (a.put o.dst v') w') : wpList Try.prog ops Q (o :: rest) a (w0.alloc (.cells #[.int .u8 z] 5)) := by
  subst hzc
  refine wpList_plain hgd fun K hK => ?_
  obtain ⟨v', w', hr, h2, h3⟩ := append_run_1 _ B l v o.type (hb.alloc (.cells #[.int .u8 (c : Int)] 5)) hl ⟨w0.heap.size, 0, none⟩ c (by
    intro j u hj
    match j, hj with
    | 0, hj => simp at hj; subst hj; simp [Addr.add]
    | (j + 1), hj => simp at hj) hlen
  unfold Oper.wp execOp
  simp only [ho, resolve, invoke, builtin, Sem.run_bind, Sem.run_pure, Result.andThen_ok, List.map_toArray, List.map_cons, List.map_nil, hs, hx, hr]
  exact hK _ _ (h v' w' h2 h3)
/-- A constant's bytes, as '[]byte("..")' lays them. -/
theorem MBuf.const (w : World) (l : List Nat) (hl : l.length ≤ 1000) : MBuf w.heap.size l (.slice (some ⟨w.heap.size, 0, none⟩) l.length l.length) (w.alloc (.cells (u8s l).toArray 5 (l.length, l.length + 1))) := by
  refine ⟨.inr ⟨w.heap.size, l.length, (u8s l).toArray, (l.length, l.length + 1), rfl, Nat.le_refl _, heap_alloc_new w _, fun j hj h => by simp [u8s] at hj h; omega, Nat.le_refl _, by unfold maxLen; omega, by simp [u8s], ?_⟩, by simp⟩
  exact List.take_of_length_le (by rw [u8s_length]; exact Nat.le_refl _)
theorem wpList_append_strM {ops : Array Oper} {rest : List Oper} {o : Oper} {a : Act} {w : World} {Q : Exit → Act → World → Prop} (hgd : o.guard = none) (sl x : Operand)
    (ho : o.op = .call { callee := .builtin .append, args := #[sl, x], argTypes := #[46, 9] })
    (B : Nat) (l : List Nat) (v : Value) (hs : a.eval sl = v) (hb : MBuf B l v w) (s : ByteArray) (hx : a.eval x = .string s) (hlen : l.length + s.size ≤ 140737488355328)
    (h : ∀ v' w', MBuf B (l ++ bs s) v' w' → w.grownBy w' v.ownBlock → (∀ k, v'.ownBlock = some k → some k = v.ownBlock ∨ w.heap.size ≤ k) → wpList Try.prog ops Q rest (a.put o.dst v') w') : wpList Try.prog ops Q (o :: rest) a w := by
  refine wpList_plain hgd fun K hK => ?_
  obtain ⟨v', w', hr, h2, h3, h4⟩ := append_run_M w B l v o.type hb s hlen
  unfold Oper.wp execOp
  simp only [ho, resolve, invoke, builtin, Sem.run_bind, Sem.run_pure, Result.andThen_ok, List.map_toArray, List.map_cons, List.map_nil, hs, hx, hr]
  exact hK _ _ (h v' w' h2 h3 h4)
theorem step_append_strM {ops : Array Oper} {o : Oper} {a : Act} {w : World} {K : Act → World → Prop} {Q : Exit → Act → World → Prop} {E : Prop} (hgd : o.guard = none) (sl x : Operand)
    (ho : o.op = .call { callee := .builtin .append, args := #[sl, x], argTypes := #[46, 9] })
    (B : Nat) (l : List Nat) (v : Value) (hs : a.eval sl = v) (hb : MBuf B l v w) (s : ByteArray) (hx : a.eval x = .string s) (hlen : l.length + s.size ≤ 140737488355328)
    (h : ∀ v' w', MBuf B (l ++ bs s) v' w' → w.grownBy w' v.ownBlock → (∀ k, v'.ownBlock = some k → some k = v.ownBlock ∨ w.heap.size ≤ k) → K (a.put o.dst v') w') :
    if Region.wanted o (yielded ops a.tmps) = true then Oper.wp Try.prog o a w K Q else E := by
  have hw : Region.wanted o (yielded ops a.tmps) = true := by simp [Region.wanted, hgd]
  rw [if_pos hw]
  obtain ⟨v', w', hr, h2, h3, h4⟩ := append_run_M w B l v o.type hb s hlen
  unfold Oper.wp execOp
  simp only [ho, resolve, invoke, builtin, Sem.run_bind, Sem.run_pure, Result.andThen_ok, List.map_toArray, List.map_cons, List.map_nil, hs, hx, hr]
  exact h v' w' h2 h3 h4
/-- '[]byte(s)'. -/
theorem conv_M (w : World) (s : ByteArray) (hs : s.size ≤ 9223372036854775807) : ∃ v w', (convert 9 46 (.string s)).run Try.prog w = .ok v w' ∧ MBuf w.heap.size (bs s) v w' ∧ Below w.heap.size w w' := by
  refine ⟨_, _, Lib.run_convert_string_bytes (P := Try.prog) w 9 46 5 s Try.underlying9 Try.underlying46 Try.underlying5, ?_, ?_⟩
  · have hge := grownCap_ge w s.size 0 5
    have hcm := grownCap_le_maxLen w s.size 0 5 (by unfold maxLen; exact hs)
    have hsz : (bytesCells w 5 s).size = grownCap w s.size 0 5 := by
      simp only [bytesCells, Array.size_append, Array.size_map, Array.size_replicate]
      have : s.data.size = s.size := rfl
      omega
    refine ⟨.inr ⟨w.heap.size, _, _, _, by rw [bs_length], Nat.le_refl _, bytesWorld_at_new w _ s, fun j hj h => by simp at h; omega, by rw [bs_length]; exact hge, hcm, hsz, ?_⟩, by rw [bytesWorld_size]; omega⟩
    rw [← strCells_u8, bs_length]
    have hl : (strCells s).length = s.size := strCells_length s
    simp only [bytesCells, Array.toList_append, Array.toList_map]
    rw [show s.data.toList.map (fun b => Value.int .u8 b.toNat) = strCells s from rfl, ← hl]
    exact List.take_left
  · exact ⟨rfl, rfl, rfl, by rw [bytesWorld_size]; omega, fun i hi => bytesWorld_at_old w _ s i hi⟩
end Go.Proofs.Ytjgbodgcbagbnaa.Mine
