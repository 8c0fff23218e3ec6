/- The contracts of sum.salts, sum.begin and of the document's salts. -/
import Derived.Test.YtjgbodgcbagbnaaSumArr
import Derived.Test.YtjgbodgcbagbnaaProg
import Derived.Lib.Hide
import Derived.Laws.Rows
import Derived.Laws.Tables
import Derived.Deep.WholeRow
namespace Go.Proofs.Ytjgbodgcbagbnaa.Mine
open Go.RowKit Go.Proofs.YtjgbodgcbagbnaaW.PrintWords

theorem size8 : (Try.prog.info? 51).map (·.size) = some 8 := by kernel_rfl
theorem size64 : (Try.prog.info? 52).map (·.size) = some 64 := by kernel_rfl
theorem wpList_build_as {P : Program} {ops : Array Oper} {rest : List Oper} {o : Oper} {a : Act} {w : World} {Q : Exit → Act → World → Prop} (hg : o.guard = none) (t : TypeId) (parts : Array (Nat × Operand)) (ho : o.op = .build t parts)
    (v : Array Value) (hv : P.built t (parts.map fun (i, x) => (i, a.eval x)).toList = some v)
    (h : wpList P ops Q rest (a.put o.dst (.agg v)) w) : wpList P ops Q (o :: rest) a w := by
  refine wpList_build hg t parts ho (by rw [hv]; rfl) ?_
  rw [hv]
  exact h
theorem u32a_salts_size : some 64 = some (u32a salts).size := by kernel_rfl
theorem u32a_begin_size : some 8 = some (u32a begin8).size := by kernel_rfl
set_option maxRecDepth 1000000 in
set_option maxHeartbeats 1000000 in
theorem begin_calls (w : World) :
    Calls Try.prog 38 #[] w fun e w' => e = .returned (.agg (u32a begin8)) ∧ Below w.heap.size w w' := by
  go_enter Try.func38, Try.ntmps38
  go_wp2_with (first
    | (refine wpList_build_as rfl 51 _ rfl (u32a begin8) (by kernel_rfl) ?_)
    | (refine wpList_store_row rfl 51 _ _ rfl w.heap.size (u32a begin8) rfl rfl 51 _ (heap_alloc_last w _) (by kernel_rfl) (by kernel_rfl) (by kernel_rfl) ?_; rw [World.setRow_alloc_new]))
  exact bodyPost_ret (v := .agg (u32a begin8)) (results_cell_row rfl _ _ w.heap.size 51 (u32a begin8) (0, 0) _ rfl (heap_alloc_last w _) Try.underlying51 rfl (size8.trans u32a_begin_size)) rfl ⟨rfl, (Below.refl _ w).alloc (Nat.le_refl _) _⟩
set_option maxRecDepth 1000000 in
set_option maxHeartbeats 1000000 in
theorem salts_calls (w : World) :
    Calls Try.prog 53 #[] w fun e w' => e = .returned (.agg (u32a salts)) ∧ Below w.heap.size w w' := by
  go_enter Try.func53, Try.ntmps53
  go_wp2_with (first
    | (refine wpList_build_as rfl 52 _ rfl (u32a salts) (by kernel_rfl) ?_)
    | (refine wpList_store_row rfl 52 _ _ rfl w.heap.size (u32a salts) rfl rfl 52 _ (heap_alloc_last w _) (by kernel_rfl) (by kernel_rfl) (by kernel_rfl) ?_; rw [World.setRow_alloc_new]))
  exact bodyPost_ret (v := .agg (u32a salts)) (results_cell_row rfl _ _ w.heap.size 52 (u32a salts) (0, 0) _ rfl (heap_alloc_last w _) Try.underlying52 rfl (size64.trans u32a_salts_size)) rfl ⟨rfl, (Below.refl _ w).alloc (Nat.le_refl _) _⟩
set_option maxRecDepth 1000000 in
set_option maxHeartbeats 1000000 in
theorem refsalts_calls (w : World) :
    Calls Try.prog 36 #[] w fun e w' => e = .returned (.agg (u32a salts)) ∧ Below w.heap.size w w' := by
  go_enter Try.func36, Try.ntmps36
  go_wp2_with (first
    | (refine wpList_build_as rfl 52 _ rfl (u32a salts) (by kernel_rfl) ?_)
    | (refine wpList_store_row rfl 52 _ _ rfl w.heap.size (u32a salts) rfl rfl 52 _ (heap_alloc_last w _) (by kernel_rfl) (by kernel_rfl) (by kernel_rfl) ?_; rw [World.setRow_alloc_new]))
  exact bodyPost_ret (v := .agg (u32a salts)) (results_cell_row rfl _ _ w.heap.size 52 (u32a salts) (0, 0) _ rfl (heap_alloc_last w _) Try.underlying52 rfl (size64.trans u32a_salts_size)) rfl ⟨rfl, (Below.refl _ w).alloc (Nat.le_refl _) _⟩
end Go.Proofs.Ytjgbodgcbagbnaa.Mine
