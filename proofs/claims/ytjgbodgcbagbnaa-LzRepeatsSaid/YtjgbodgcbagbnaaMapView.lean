/- A map of strings to whole numbers, as a function on bytes. -/
import Derived.Test.YtjgbodgcbagbnaaStrKit
import Derived.Test.YtjgbodgcbagbnaaProg
import Derived.Maps.OwnSet
import Derived.Maps.Views
set_option linter.unusedVariables false
set_option linter.unusedSimpArgs false
namespace Go.Proofs.Ytjgbodgcbagbnaa.Mine
open Go.RowKit Go.Proofs.YtjgbodgcbagbnaaW.PrintWords

def klit (s : ByteArray) : Lit := .string s.data.toList
theorem klit_ne {a b : ByteArray} (h : bs a ≠ bs b) : klit a ≠ klit b := by
  intro e
  apply h
  have : a.data.toList = b.data.toList := by injection e
  simp [bs, this]
/-- What a map holds, as a function on bytes. -/
def MapF (D : DataW Unit) (f : List Nat → Option Nat) : Prop :=
  Maps.IsMap D ∧ ∀ key : ByteArray, Maps.has D (klit key) = (f (bs key)).isSome ∧ ∀ n, f (bs key) = some n → D.atKey (klit key) (.lit (.int .i64 0)) = .lit (.int .i64 (n : Int))
theorem MapF.empty : MapF (.map []) fun _ => none := ⟨Maps.isMap_empty, fun key => ⟨rfl, fun n h => by cases h⟩⟩
theorem MapF.put {D : DataW Unit} {f : List Nat → Option Nat} (h : MapF D f) (s : ByteArray) (n : Nat) : MapF (D.put (klit s) (.lit (.int .i64 (n : Int)))) (updF f (bs s) n) := by
  refine ⟨h.1.put _ _, fun key => ?_⟩
  unfold updF
  by_cases e : bs key = bs s
  · have : key = s := bs_inj e
    subst this
    rw [if_pos rfl]
    refine ⟨Maps.has_put_same h.1 (show WideAt.IsKeyLit (klit key) from True.intro) _, fun m hm => ?_⟩
    obtain rfl : n = m := Option.some.inj hm
    exact Maps.atKey_put_same h.1 (show WideAt.IsKeyLit (klit key) from True.intro) _ _
  · rw [if_neg e]
    have hne := klit_ne e
    rw [Maps.has_put_other hne]
    refine ⟨(h.2 key).1, fun m hm => ?_⟩
    rw [Maps.atKey_put_other hne]
    exact (h.2 key).2 m hm
theorem MapF.has_ {D : DataW Unit} {f : List Nat → Option Nat} (h : MapF D f) (s : ByteArray) : Maps.has D (klit s) = (f (bs s)).isSome := (h.2 s).1
theorem MapF.at_ {D : DataW Unit} {f : List Nat → Option Nat} (h : MapF D f) (s : ByteArray) {n : Nat} (hn : f (bs s) = some n) {c : Int} (hc : D.atKey (klit s) (.lit (.int .i64 0)) = .lit (.int .i64 c)) : c = (n : Int) := by
  have := (h.2 s).2 n hn
  rw [hc] at this
  injection this with e
  injection e
theorem keyS (s : ByteArray) (hs : s.size ≤ 9223372036854775807) : keyOf Try.prog 9 (.string s) = some (klit s) :=
  WideMaps.keyOf_string_mk Try.underlying9 (by unfold maxLen; exact hs)
theorem zeroI (w : World) : (zeroValue 3).run Try.prog w = .ok (.int .i64 0) w := by kernel_rfl
theorem elemI (n : Nat) (h : n ≤ 9223372036854775807) : plainElem (H := Unit) Try.prog 3 (.int .i64 (n : Int)) = some (.lit (.int .i64 (n : Int)), []) :=
  plainElem_int Try.underlying3 (by simp [Lit.wf, IntKind.min, IntKind.max, IntKind.signed, IntKind.bits]; omega)
end Go.Proofs.Ytjgbodgcbagbnaa.Mine
