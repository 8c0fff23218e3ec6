import Derived.Test.YtcfdplmapdgfmaaQIxSort
import Derived.Deep.RegionHeld3
set_option linter.unusedVariables false
set_option linter.unusedSimpArgs false
namespace Go.Proofs.Ytcfdplmapdgfmaa.Mine
open Go.RowKit Go.Proofs.YtcfdplmapdgfmaaW.PrintWords
theorem info_rspot : (Try.prog.info? 77).map (fun i => (i.zero, i.size, i.bytes)) = some (some (.agg #[.string ⟨#[]⟩, .int .i64 0]), spotK.sz, 24) := by kernel_rfl
def spotRow (x : SpotP) (cs : List Value) : Prop := cs = spotCs x
theorem spot_row {W : World} {g : Nat} {t : TypeId} {x : SpotP} (h : W.heap[g]? = some (.cells #[.string x.id, .int .i64 x.pos] t (0, 0))) : ReadsRow spotRow spotK.sz W (some ⟨g, 0, none⟩) 1 [x] := by
 refine ⟨rfl, by decide, fun _ => ⟨_, rfl, fun j p hj => ?_⟩⟩
 have hj0 : j = 0 := by
  rcases Nat.eq_zero_or_pos j with h | h
  ·exact h
  ·rw [List.getElem?_eq_none (by rw [List.length_singleton]; omega)] at hj; cases hj
 subst hj0
 simp only [List.getElem?_cons_zero, Option.some.injEq] at hj
 subst hj
 refine ⟨spotCs x, rfl, rfl, fun i u hu => ?_⟩
 have ha : (⟨g, 0, none⟩ : Addr).add (0 * spotK.sz + i) = ⟨g, i, none⟩ := by unfold Addr.add; split <;> simp_all
 rw [ha, z02 h i, ← hu]
 simp [spotCs]
section
variable {w W : World} {v4 v5 : Value} {x4 x5 : List SpotP} {y : SpotP}
variable {ops : Array Oper} {o : Oper} {a : Act} {Q : Exit → Act → World → Prop} {Kc : Act → World → Prop}
end
end Go.Proofs.Ytcfdplmapdgfmaa.Mine
