import Derived.Test.YtcfdplmapdgfmaaQPkRScan
import Derived.Test.YtcfdplmapdgfmaaQPkItem
import Derived.Deep.RegionHeld3
set_option linter.unusedVariables false
set_option linter.unusedSimpArgs false
namespace Go.Proofs.Ytcfdplmapdgfmaa.Mine
open Go.RowKit Go.Proofs.YtcfdplmapdgfmaaW.PrintWords
section
variable {w W : World} {v4 v5 : Value} {x4 x5 : List ItemP} {B : Nat} {y : ItemP}
variable {ops : Array Oper} {o : Oper} {a : Act} {Q : Exit → Act → World → Prop} {Kc : Act → World → Prop}
end
theorem blk_new2 (w : World) (o o2 : Obj) : ((w.alloc o).alloc o2).heap[w.heap.size + 1]? = some o2 := by
 have h := blk_new (w.alloc o) o2
 rwa [show (w.alloc o).heap.size = w.heap.size + 1 from by simp] at h
end Go.Proofs.Ytcfdplmapdgfmaa.Mine
