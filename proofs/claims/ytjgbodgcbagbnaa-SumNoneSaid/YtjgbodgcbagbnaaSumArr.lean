/- Blocks that are known whole: arrays of words. -/
import Derived.Test.YtjgbodgcbagbnaaSumBase
import Derived.Lib.Builder
import Derived.Test.YtjgbodgcbagbnaaProg
namespace Go.Proofs.Ytjgbodgcbagbnaa.Mine
open Go.RowKit Go.Proofs.YtjgbodgcbagbnaaW.PrintWords

def u32a (l : List Nat) : Array Value := (l.map fun (c : Nat) => Value.int .u32 (c : Int)).toArray
theorem u32a_size (l : List Nat) : (u32a l).size = l.length := by simp [u32a]
theorem u32a_get (l : List Nat) (j : Nat) (h : j < l.length) : (u32a l)[j]? = some (.int .u32 ((l.getD j 0 : Nat) : Int)) := by
  simp [u32a, List.getElem?_eq_getElem h, List.getD_eq_getElem?_getD]
/-- Block g is just these words. -/
def Arr (w : World) (g : Nat) (t : TypeId) (l : List Nat) : Prop := w.heap[g]? = some (.cells (u32a l) t (0, 0))
section
variable {w w' : World} {g : Nat} {t : TypeId} {l : List Nat}
theorem Arr.lt (h : Arr w g t l) : g < w.heap.size := by
  rcases Nat.lt_or_ge g w.heap.size with hlt | hge
  · exact hlt
  · unfold Arr at h; rw [Array.getElem?_eq_none hge] at h; cases h
theorem Arr.cell (h : Arr w g t l) (j : Nat) (hj : j < l.length) : w.cell? ⟨g, j, none⟩ = some (.int .u32 ((l.getD j 0 : Nat) : Int)) := by
  rw [Lib.cell_of_heap h, u32a_get l j hj]
theorem Arr.frozen (h : Arr w g t l) (j : Nat) : w.frozen? ⟨g, j, none⟩ = false := Lib.frozen_of_heap h j
theorem Arr.drewN (h : Arr w g t l) (n : Nat) : Arr (w.drewN n) g t l := h
theorem Arr.alloc (h : Arr w g t l) (o : Obj) : Arr (w.alloc o) g t l := (Below.heap_alloc w o g h.lt).trans h
theorem Arr.set_ (h : Arr w g t l) (i v : Nat) : Arr (w.setCell ⟨g, i, none⟩ (.int .u32 (v : Int))) g t (l.set i v) := by
  unfold Arr at h ⊢
  have e : u32a (l.set i v) = (u32a l).setIfInBounds i (.int .u32 (v : Int)) := by
    apply Array.ext'
    simp [u32a, List.map_set]
  rw [e]
  simp [World.setCell, Array.getElem?_modify, h]
theorem Arr.far (h : Arr w g t l) {p : Addr} (hp : g ≠ p.block) (u : Value) : Arr (w.setCell p u) g t l := (Below.heap_setCell w p u g hp).trans h
theorem Arr.below {B : Nat} (h : Arr w g t l) (hb : Below B w w') (hg : g < B) : Arr w' g t l := (hb.block g hg).trans h
theorem Arr.new (w : World) (t : TypeId) (l : List Nat) : Arr (w.alloc (.cells (u32a l) t)) w.heap.size t l := heap_alloc_new w _
end
theorem run_index_arr (t : TypeId) (len : Nat) (l : List Nat) (i : Nat) (k : IntKind) (w : World) (ht : Try.prog.underlying t = some (.array len 50)) (hl : l.length = len) (hi : i < len) :
    (Instr.index t (.agg (u32a l)) (.int k (i : Int))).run Try.prog w = .ok (.int .u32 ((l.getD i 0 : Nat) : Int)) w := by
  have hg := u32a_get l i (by omega)
  simp [Instr.index, run_underlying ht, asIntOf, part, Result.andThen, hg, hi]
end Go.Proofs.Ytjgbodgcbagbnaa.Mine
