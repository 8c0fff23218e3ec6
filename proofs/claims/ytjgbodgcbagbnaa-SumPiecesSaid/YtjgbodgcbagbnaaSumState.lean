/- The state of a sum: its block, the row of what it holds; the contracts of New and Write. -/
import Derived.Test.YtjgbodgcbagbnaaStir
import Derived.Test.YtjgbodgcbagbnaaSumRow
import Derived.Deep.MidRow
import Derived.Deep.RegionHeld3
set_option linter.unusedVariables false
set_option linter.unusedSimpArgs false
namespace Go.Proofs.Ytjgbodgcbagbnaa.Mine
open Go.RowKit Go.Proofs.YtjgbodgcbagbnaaW.PrintWords

theorem strCells_u8s (s : ByteArray) : Lib.strCells s = u8s (bs s) := by simp [Lib.strCells, u8s, bs]

/-- All whole spans are taken in. -/
def eat (v p : List Nat) : List Nat × List Nat := if _h : 64 ≤ p.length then eat (stir v (p.take 64)) (p.drop 64) else (v, p)
termination_by p.length
decreasing_by simp; omega
theorem eat_step (v p : List Nat) (h : 64 ≤ p.length) : eat v p = eat (stir v (p.take 64)) (p.drop 64) := by rw [eat, dif_pos h]
theorem eat_end (v p : List Nat) (h : p.length < 64) : eat v p = (v, p) := by rw [eat, dif_neg (by omega)]
theorem stir_length (v p : List Nat) : (stir v p).length = 8 := by simp [stir]
theorem stir_words (v p : List Nat) : Words (stir v p) := by
  intro x hx
  simp only [stir, List.mem_map] at hx
  obtain ⟨j, _, rfl⟩ := hx
  omega

/-- The state in block b: its words v, what it holds (hv: the slice), how many bytes came. -/
structure St (w : World) (base b : Nat) (v held : List Nat) (many : Nat) (hv : Value) : Prop where
  row : w.heap[b]? = some (.cells (u32a v ++ #[hv, .int .u64 (many : Int)]) 57 (0, 0))
  len : v.length = 8
  words : Words v
  bytes : ∀ x ∈ held, x < 256
  held : Row w base 5 hv (u8s held)
  low : base ≤ b
  apart : ∀ k, hv.ownBlock = some k → k ≠ b

section
variable {w w' : World} {base b : Nat} {v held : List Nat} {many : Nat} {hv : Value}
theorem St.lt (h : St w base b v held many hv) : b < w.heap.size := (Array.getElem?_eq_some_iff.1 h.row).1
theorem St.cell (h : St w base b v held many hv) (j : Nat) : w.cell? ⟨b, j, none⟩ = (u32a v ++ #[hv, .int .u64 (many : Int)])[j]? := cell_of_row w b j _ _ _ h.row
theorem St.c8 (h : St w base b v held many hv) : w.cell? ⟨b, 8, none⟩ = some hv := by
  rw [h.cell, Array.getElem?_append_right (by rw [u32a_size, h.len]; omega), u32a_size, h.len]; rfl
theorem St.c9 (h : St w base b v held many hv) : w.cell? ⟨b, 9, none⟩ = some (.int .u64 (many : Int)) := by
  rw [h.cell, Array.getElem?_append_right (by rw [u32a_size, h.len]; omega), u32a_size, h.len]; rfl
theorem St.fr (h : St w base b v held many hv) (j : Nat) : w.frozen? ⟨b, j, none⟩ = false := frozen_of_row w b j _ _ h.row
theorem St.range (h : St w base b v held many hv) : w.rangeAt b 0 (cells v) := by
  intro j x hx
  have hj : j < 8 := by
    have := (List.getElem?_eq_some_iff.1 hx).1
    simp [cells] at this
    have := h.len
    omega
  rw [h.cell, Nat.zero_add, Array.getElem?_append_left (by rw [u32a_size, h.len]; exact hj), u32a_get v j (by rw [h.len]; exact hj)]
  rw [← hx]
  simp [cells, List.getElem?_eq_getElem (show j < v.length from by rw [h.len]; exact hj), List.getD_eq_getElem?_getD]
theorem St.there (h : St w base b v held many hv) : w.there b 0 8 := by
  intro j hj
  refine ⟨?_, h.fr _⟩
  rw [h.cell, Nat.zero_add, Array.getElem?_append_left (by rw [u32a_size, h.len]; exact hj), u32a_get v j (by rw [h.len]; exact hj)]
  rfl
/-- What leaves the state's block and the row of what it holds alone leaves the state. -/
theorem St.below (h : St w base b v held many hv) {B : Nat} (hb : Below B w w') (hB : w.heap.size ≤ B) : St w' base b v held many hv :=
  ⟨(hb.block b (by have := h.lt; omega)).trans h.row, h.len, h.words, h.bytes, h.held.kept fun k hk => hb.block k (by have := (h.held.lt k hk).2; omega), h.low, h.apart⟩
theorem St.form (h : St w base b v held many hv) : ∃ p c, hv = .slice p held.length c := by
  obtain ⟨p, c, h1⟩ := h.held.form
  exact ⟨p, c, by rw [h1, u8s_length]⟩
theorem St.filled (h : St w base b v held many hv) (h1 : 0 < held.length) : ∃ g off c, hv = .slice (some ⟨g, off, none⟩) held.length c ∧ held.length ≤ c ∧ c ≤ maxLen ∧ g ≠ b ∧ base ≤ g ∧ g < w.heap.size ∧
    ∀ j, j < held.length → w.cell? ((⟨g, off, none⟩ : Addr).add j) = some (.int .u8 ((held.getD j 0 : Nat) : Int)) := by
  rcases h.held with ⟨_, h2⟩ | ⟨g, off, c, cur, hv', hb, hg, hc, hm, ho, ht⟩
  · have := congrArg List.length h2
    rw [u8s_length] at this
    simp at this; subst this; simp at h1
  · rw [u8s_length] at hv' hc ht
    refine ⟨g, off, c, hv', hc, hm, h.apart g (by rw [hv']; rfl), hb, (Array.getElem?_eq_some_iff.1 hg).1, fun j hj => ?_⟩
    rw [Addr.add_lit, cell_of_row w g (off + j) cur _ _ hg]
    have e1 : (u8s held)[j]? = some (.int .u8 ((held.getD j 0 : Nat) : Int)) := by
      simp [u8s, List.getElem?_eq_getElem hj, List.getD_eq_getElem?_getD]
    rw [← ht, List.getElem?_take, if_pos hj, List.getElem?_drop] at e1
    simpa using e1
theorem below_of_drew {B : Nat} (h : Below B w.drew w') : Below B w w' := ⟨h.os, h.tape, h.output, h.size, h.block⟩
theorem St.cellv (h : St w base b v held many hv) (j : Nat) (hj : j < 8) : w.cell? ⟨b, j, none⟩ = some (.int .u32 ((v.getD j 0 : Nat) : Int)) := by
  rw [h.cell, Array.getElem?_append_left (by rw [u32a_size, h.len]; exact hj), u32a_get v j (by rw [h.len]; exact hj)]
theorem St.setv (h : St w base b v held many hv) (j x : Nat) (hj : j < 8) (hx : x < 4294967296) : St (w.setCell ⟨b, j, none⟩ (.int .u32 (x : Int))) base b (v.set j x) held many hv := by
  refine ⟨?_, by rw [List.length_set]; exact h.len, h.words.set_ _ _ hx, h.bytes, h.held.kept fun k hk => Below.heap_setCell w _ _ k (h.apart k hk), h.low, h.apart⟩
  rw [heap_setCell_same w b j _ _ _ h.row]
  congr 2
  apply Array.ext'
  rw [Array.toList_setIfInBounds, Array.toList_append, List.set_append_left _ _ (by rw [Array.length_toList, u32a_size, h.len]; exact hj), Array.toList_append]
  congr 1
  simp [u32a, List.map_set]
theorem u32a_lit (a b c d e f g h : Nat) : u32a [a, b, c, d, e, f, g, h] = #[.int .u32 (a : Int), .int .u32 (b : Int), .int .u32 (c : Int), .int .u32 (d : Int), .int .u32 (e : Int), .int .u32 (f : Int), .int .u32 (g : Int), .int .u32 (h : Int)] := rfl
theorem list8w (v : List Nat) (h : v.length = 8) : ∃ a b c d e f g k, v = [a, b, c, d, e, f, g, k] ∧ u32a v = #[.int .u32 (a : Int), .int .u32 (b : Int), .int .u32 (c : Int), .int .u32 (d : Int), .int .u32 (e : Int), .int .u32 (f : Int), .int .u32 (g : Int), .int .u32 (k : Int)] := by
  obtain ⟨a, b, c, d, e, f, g, k, rfl⟩ := list8 v h
  exact ⟨a, b, c, d, e, f, g, k, rfl, rfl⟩
/-- Eight words stored one by one. -/
theorem St.set8 {a b' c d e f g k : Nat} (h : St w base b v held many hv) (hw : Words [a, b', c, d, e, f, g, k]) :
    St ((((((((w.setCell ⟨b, 0, none⟩ (.int .u32 (a : Int))).setCell ⟨b, 1, none⟩ (.int .u32 (b' : Int))).setCell ⟨b, 2, none⟩ (.int .u32 (c : Int))).setCell ⟨b, 3, none⟩ (.int .u32 (d : Int))).setCell ⟨b, 4, none⟩ (.int .u32 (e : Int))).setCell ⟨b, 5, none⟩ (.int .u32 (f : Int))).setCell ⟨b, 6, none⟩ (.int .u32 (g : Int))).setCell ⟨b, 7, none⟩ (.int .u32 (k : Int))) base b [a, b', c, d, e, f, g, k] held many hv := by
  have h1 := (((((((h.setv 0 a (by omega) (hw a (by simp))).setv 1 b' (by omega) (hw b' (by simp))).setv 2 c (by omega) (hw c (by simp))).setv 3 d (by omega) (hw d (by simp))).setv 4 e (by omega) (hw e (by simp))).setv 5 f (by omega) (hw f (by simp))).setv 6 g (by omega) (hw g (by simp))).setv 7 k (by omega) (hw k (by simp))
  obtain ⟨v0, v1, v2, v3, v4, v5, v6, v7, rfl⟩ := list8 v h.len
  exact h1
theorem St.set9 (h : St w base b v held many hv) (m : Nat) : St (w.setCell ⟨b, 9, none⟩ (.int .u64 (m : Int))) base b v held m hv := by
  refine ⟨?_, h.len, h.words, h.bytes, h.held.kept fun k hk => Below.heap_setCell w _ _ k (h.apart k hk), h.low, h.apart⟩
  rw [heap_setCell_same w b 9 _ _ _ h.row]
  congr 2
  apply Array.ext'
  rw [Array.toList_setIfInBounds, Array.toList_append, List.set_append_right _ _ (by rw [Array.length_toList, u32a_size, h.len]; omega)]
  rw [Array.length_toList, u32a_size, h.len]
  simp
theorem St.grow (h : St w base b v held many hv) {w1 : World} {held' : List Nat} {hv' : Value} (hg : w.grownBy w1 hv.ownBlock) (hr : Row w1 base 5 hv' (u8s held')) (hb : ∀ x ∈ held', x < 256)
    (ho : ∀ k, hv'.ownBlock = some k → hv.ownBlock = some k ∨ w.heap.size ≤ k) : St (w1.setCell ⟨b, 8, none⟩ hv') base b v held' many hv' := by
  have hap : ∀ k, hv'.ownBlock = some k → k ≠ b := by
    intro k hk
    rcases ho k hk with h1 | h1
    · exact h.apart k h1
    · have := h.lt; omega
  have hrow : w1.heap[b]? = some (.cells (u32a v ++ #[hv, .int .u64 (many : Int)]) 57 (0, 0)) :=
    (hg.block b h.lt (fun e => h.apart b e.symm rfl)).trans h.row
  refine ⟨?_, h.len, h.words, hb, hr.kept fun k hk => Below.heap_setCell w1 _ _ k (hap k hk), h.low, hap⟩
  rw [heap_setCell_same w1 b 8 _ _ _ hrow]
  congr 2
  apply Array.ext'
  rw [Array.toList_setIfInBounds, Array.toList_append, List.set_append_right _ _ (by rw [Array.length_toList, u32a_size, h.len]; omega)]
  rw [Array.length_toList, u32a_size, h.len]
  simp
theorem St.cut {g off n c : Nat} (h : St w base b v held many (.slice (some ⟨g, off, none⟩) n c)) (hn : n = held.length) (h64 : 64 ≤ n) (hc : c ≠ 64) :
    St (w.setCell ⟨b, 8, none⟩ (.slice (some ⟨g, off + 64, none⟩) (n - 64) (c - 64))) base b v (held.drop 64) many (.slice (some ⟨g, off + 64, none⟩) (n - 64) (c - 64)) := by
  refine h.grow (w1 := w) ⟨rfl, rfl, rfl, Nat.le_refl _, fun _ _ _ => rfl⟩ ?_ (fun x hx => h.bytes x (List.mem_of_mem_drop hx)) (fun k hk => .inl hk)
  rcases h.held with ⟨h1, _⟩ | ⟨g', off', c', cur, hv', hb, hg, hc', hm, ho, ht⟩
  · cases h1
  · simp only [Value.slice.injEq, Option.some.injEq, Addr.mk.injEq] at hv'
    obtain ⟨⟨rfl, rfl, _⟩, hn', rfl⟩ := hv'
    rw [u8s_length] at hc' ht
    have e1 : u8s (held.drop 64) = (u8s held).drop 64 := by simp [u8s]
    have e2 : (u8s (held.drop 64)).length = n - 64 := by rw [u8s_length, List.length_drop, hn]
    refine .inr ⟨g, off + 64, c - 64, cur, by rw [e2], hb, hg, by rw [e2]; omega, by omega, by omega, ?_⟩
    rw [e2, e1, ← ht, List.drop_take, List.drop_drop, hn]
theorem St.cut0 {g off : Nat} (h : St w base b v held many (.slice (some ⟨g, off, none⟩) 64 64)) (hn : 64 = held.length) :
    St (w.setCell ⟨b, 8, none⟩ (.slice (some ⟨g, off, none⟩) 0 0)) base b v (held.drop 64) many (.slice (some ⟨g, off, none⟩) 0 0) := by
  refine h.grow (w1 := w) ⟨rfl, rfl, rfl, Nat.le_refl _, fun _ _ _ => rfl⟩ ?_ (fun x hx => h.bytes x (List.mem_of_mem_drop hx)) (fun k hk => .inl hk)
  rw [List.drop_eq_nil_of_le (by omega)]
  rcases h.held with ⟨h1, _⟩ | ⟨g', off', c', cur, hv', hb, hg, hc', hm, ho, ht⟩
  · cases h1
  · simp only [Value.slice.injEq, Option.some.injEq, Addr.mk.injEq] at hv'
    obtain ⟨⟨rfl, rfl, _⟩, hn', rfl⟩ := hv'
    exact .inr ⟨g, off, 0, cur, rfl, hb, hg, Nat.le_refl _, by omega, by omega, rfl⟩
theorem St.mono {base' : Nat} (h : St w base b v held many hv) (hb : base' ≤ base) : St w base' b v held many hv :=
  ⟨h.row, h.len, h.words, h.bytes, h.held.mono hb, by have := h.low; omega, h.apart⟩
end

theorem size57 : (Try.prog.info? 57).map (·.size) = some 10 := by kernel_rfl
set_option maxRecDepth 100000 in
theorem new_calls (w : World) :
    Calls Try.prog 18 #[] w fun e w' => ∃ b, e = .returned (.pointer (some ⟨b, 0, none⟩)) ∧ w.heap.size ≤ b ∧ St w' b b begin8 [] 0 (.slice none 0 0) ∧ Below w.heap.size w w' := by
  go_enter Try.func18, Try.ntmps18
  go_wp2_with (first | (refine wpList_build_as rfl 57 _ rfl (u32a begin8 ++ #[.slice none 0 0, .int .u64 0]) (by kernel_rfl) ?_) | (go_at_call 38; refine (begin_calls _).mono ?_; rintro e w2 ⟨rfl, hb2⟩))
  go_ret
  exact ⟨w2.heap.size, rfl, hb2.size, ⟨heap_alloc_new w2 _, rfl, by unfold Words; decide, by simp, Row.nil _ _ _, Nat.le_refl _, by simp [Value.ownBlock]⟩, hb2.alloc hb2.size _⟩
end Go.Proofs.Ytjgbodgcbagbnaa.Mine
