/- How any text is made of any other one is the document's; it makes it: for every two strings, each cut to 400. -/
import Derived.Test.YtjgbodgcbagbnaaPureDelta
namespace Go.Proofs.Ytjgbodgcbagbnaa.Pure
open Go.RowKit Go.Proofs.Ytjgbodgcbagbnaa.PD Go.Proofs.YtjgbodgcbagbnaaW.PrintWords Go.Proofs.YtjgbodgcbagbnaaW.PrintLast Mine

theorem makes_is (t u M : ByteArray) (p q : Option ByteArray) (mk : ByteArray → ByteArray → Option ByteArray) (ap : ByteArray → ByteArray → Int → Option (ByteArray × Int)) (r : ByteArray → ByteArray → Option ByteArray) (aw : Option Bool)
    (hp : p = some t) (hq : q = some u) (hm : mk t u = some M) (hr : r t u = some M) (ha : ap t M (u.size : Int) = some (u, 0)) (hw : aw = some true) :
    (p.bind fun t125 => q.bind fun t126 => (mk t125 t126).bind fun t127 => p.bind fun t128 => q.bind fun t129 => (ap t128 t127 (t129.size : Int)).bind fun bt130 => aw.bind fun t132 => (if t132 = true then (p.bind fun t133 => q.bind fun t134 => (r t133 t134).bind fun t135 => (if t127.toList = t135.toList then (if bt130.2 = 0 then (q.bind fun t136 => some (bt130.1.toList == t136.toList)) else some false) else some false)) else some false)) = some true := by
  subst hp hq hw
  simp [hm, hr, ha]
theorem DeltaMakes_at (k : Nat) (hk : 2000 ≤ k) (a0 a1 : ByteArray) : pollardlaw09_DeltaMakes.f k a0 a1 = some true := by
  obtain ⟨t, ht, hs⟩ := few_some a0
  obtain ⟨u, hu, hs2⟩ := few_some a1
  have h3 := refMake_is t u (by omega) (by omega) k (by omega)
  unfold pollardlaw09_DeltaMakes.f
  exact makes_is t u _ _ _ delta_Make.f delta_Apply.f (pollardref09_Make.f k) _ ht hu (makeF t u (by omega) (by omega)) h3 (applyD t u (by omega) (by omega)) awakeD
theorem DeltaMakes : pollardlaw09_DeltaMakes.Pure := by
  intro a0 a1 _ _
  obtain ⟨k, hk⟩ : ∃ k, 2000 ≤ k := ⟨2000, Nat.le_refl _⟩
  exact ⟨k, DeltaMakes_at k hk a0 a1⟩
end Go.Proofs.Ytjgbodgcbagbnaa.Pure
