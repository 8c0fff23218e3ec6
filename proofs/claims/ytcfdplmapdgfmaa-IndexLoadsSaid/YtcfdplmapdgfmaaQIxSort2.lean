import Derived.Test.YtcfdplmapdgfmaaQIxSort
import Derived.Test.YtcfdplmapdgfmaaQShelf2
set_option linter.unusedVariables false
set_option linter.unusedSimpArgs false
namespace Go.Proofs.Ytcfdplmapdgfmaa.Mine
open Go.RowKit Go.Shelf Go.Sort Go.Proofs.YtcfdplmapdgfmaaW.PrintWords
theorem spot_isAgg : ∀ w, (isAgg 78).run Try.prog w = .ok true w := Try.isAgg78
theorem spot_sizeOf : ∀ w, (Go.sizeOf 78).run Try.prog w = .ok 2 w := Try.sizeOf78
def cmpS (x y : SpotP) : Int := cmpI x.id y.id
theorem ltS (x y : SpotP) : ltOf cmpS x y = decide (cmpI x.id y.id < 0) := rfl
theorem swoS : SWO (ltOf cmpS) where
 irrefl x := by rw [ltS, (z0c _ _).2 rfl]; rfl
 trans x y z h1 h2 := by
  rw [ltS] at *
  exact decide_eq_true (z0f _ _ _ (of_decide_eq_true h1) (of_decide_eq_true h2))
 ntrans x y z h1 h2 := by
  rw [ltS] at *
  have g1 := of_decide_eq_false h1
  have g2 := of_decide_eq_false h2
  refine decide_eq_false fun h => ?_
  -- x < z; not x < y: y ≤ x; not y < z: z ≤ y
  rw [cmpI_anti] at g1 g2
  rcases Int.lt_trichotomy (cmpI y.id x.id) 0 with h3 | h3 | h3
  ·have := z0f _ _ _ h3 h
   rw [cmpI_anti] at this; omega
  ·have := (z0c _ _).1 h3
   rw [this, cmpI_anti] at g2; omega
  ·omega
theorem cmpLaysS (blk off size : Nat) (w : World) : CmpLays Try.prog 73 #[] spotCs 2 cmpS blk off size w :=
 fun m os dk _ x y => (byID_calls x y _).mono fun e w' ⟨he, hw⟩ => ⟨he, 0, #[.cells (spotCs x).toArray 78] ++ #[.cells (spotCs y).toArray 78], hw.trans (by rw [alloc_eq_grow, alloc_eq_grow, grow_grow]; rfl)⟩
theorem flat_at (l : List SpotP) (j i : Nat) (hj : j < l.length) (hi : i < 2) : (flatK spotCs 2 l.toArray)[j * 2 + i]! = (spotCs l[j])[i]! := by
 rw [get_flatK _ _ _ _ (by simp; omega), show (j * 2 + i) / 2 = j from by omega, show (j * 2 + i) % 2 = i from by omega]
 congr 2
 simp [hj]
theorem holds_of_row {w : World} {g : Nat} {l : List SpotP} (h : RowB w g l) : HoldsK spotCs 2 w g 0 l.toArray := by
 obtain ⟨cs, hg, hc⟩ := h
 intro t ht
 have ht2 : t < l.length * 2 := by simpa using ht
 have hj : t / 2 < l.length := by omega
 have e : t = t / 2 * 2 + t % 2 := by omega
 rw [Nat.zero_add]
 refine ⟨?_, blk_frozen hg t⟩
 rw [z02 hg, e, flat_at l (t / 2) (t % 2) hj (by omega)]
 have h2 : t % 2 = 0 ∨ t % 2 = 1 := by omega
 rcases h2 with h2 | h2
 ·rw [h2]; exact (hc _ hj).1
 ·rw [h2]; exact (hc _ hj).2
theorem row_of_holds {w : World} {g : Nat} {S : List SpotP} {cs : Array Value} (hg : w.heap[g]? = some (.cells cs 78 (0, 0))) (h : HoldsK spotCs 2 w g 0 S.toArray) : RowB w g S := by
 refine ⟨cs, hg, fun j hj => ?_⟩
 have at_ : ∀ i, i < 2 → cs[j * 2 + i]? = some ((spotCs S[j])[i]!) := fun i hi => by
  have := (h (j * 2 + i) (by simp; omega)).1
  rw [Nat.zero_add, z02 hg, flat_at S j i hj hi] at this
  exact this
 exact ⟨at_ 0 (by omega), at_ 1 (by omega)⟩
theorem asc_of {d : Array SpotP} (h : SortedIn (ltOf cmpS) 0 d.size d) : Asc d.toList := by
 rw [Asc, List.pairwise_iff_getElem]
 intro i j hi hj hij
 have := h i j (Nat.zero_le _) hij (by simpa using hj)
 rw [ltS] at this
 have := of_decide_eq_false this
 simpa [getElem!_pos d i (by simpa using hi), getElem!_pos d j (by simpa using hj)] using this
theorem sort_calls (l : List SpotP) (A : Option Addr) (cap : Nat) (w : World) (hr : RowV w A l) (hA : ∀ g, (Value.slice A l.length cap).ownBlock = some g → g < w.heap.size) (hl : l.length ≤ 1000000) :
  Calls Try.prog 72 #[.slice A l.length cap, .func (.func 73) #[] #[]] w fun e w' => e = .returned (.tuple #[]) ∧ ∃ S : List SpotP, S.Perm l ∧ Asc S ∧ RowV w' A S ∧ w.grownBy w' (Value.slice A l.length cap).ownBlock := by
 rcases hr with rfl | ⟨g, rfl, hb⟩
 ·have := AnyF.slices_SortFunc_none (P := Try.prog) (ρ := Try.sortF_ren) Try.sortF A cap (.func (.func 73) #[] #[]) w
  exact this.mono fun e w' ⟨he, hw⟩ => ⟨he, [], List.Perm.refl _, List.Pairwise.nil, .inl rfl, by rw [hw]; exact World.grownBy.refl _ _⟩
 ·have eg : ∀ args w, (callFunc 73 args).run Try.prog w = .ok (.enter 73 args) w := enters_of Try.func73 (by kernel_rfl) rfl
  have hH := holds_of_row hb
  have hgs := hA g (by simp [Value.ownBlock])
  obtain ⟨cs, hg, hc⟩ := hb
  have hcon := AnyQ.slices_SortFunc (P := Try.prog) (ρ := Try.sortF_ren) Try.sortF 2 spot_isAgg spot_sizeOf spotCs (fun _ => rfl) (fun x v hv => by simp [spotCs] at hv; rcases hv with rfl | rfl <;> rfl) cmpS swoS 73 #[] g 0 cap l.toArray w eg (cmpLaysS g 0 l.toArray.size w) hH hgs (by simp; omega)
  rw [List.size_toArray] at hcon
  refine hcon.mono fun e w' ⟨he, d', n, os, hp, hs, hw⟩ => ⟨he, d'.toList, ?_, ?_, ?_, ?_⟩
  ·have h1 := hp.2.2
   have hsz : d'.size = l.length := by rw [hp.1]; simp
   rw [show d'.extract 0 l.length = d' from by rw [← hsz]; simp, show l.toArray.extract 0 l.length = l.toArray from by simp] at h1
   simpa using h1
  ·have hsz : d'.size = l.length := by rw [hp.1]; simp
   rw [← hsz] at hs
   exact asc_of hs
  ·refine .inr ⟨g, rfl, ?_⟩
   have hh : w'.heap[g]? = some (.cells (putCells id 0 (flatK spotCs 2 d') cs) 78 (0, 0)) := by
    rw [hw, sortWorldK]
    rw [heap_grow_old _ _ (by rw [putRowK, size_putRow]; exact hgs)]
    simp [putRowK, putRow, mapBlock, Array.getElem?_modify, onCells, ahead, hg]
   refine row_of_holds hh ?_
   rw [Array.toArray_toList, hw]
   exact holdsK_sortWorldK_c spotCs 2 w g 0 l.toArray d' n os hH hgs (by rw [hp.1])
  ·rw [hw, sortWorldK]
   refine ⟨rfl, rfl, rfl, ?_, fun k hk hn => ?_⟩
   ·simp [putRowK, putRow, mapBlock, ahead, grow]
   ·rw [heap_grow_old _ _ (by rw [putRowK, size_putRow]; exact hk)]
    have hkg : g ≠ k := fun e => hn (by simp [Value.ownBlock, e])
    simp [putRowK, putRow, mapBlock, Array.getElem?_modify, ahead, hkg]
end Go.Proofs.Ytcfdplmapdgfmaa.Mine
