import Derived.Test.YtcfdplmapdgfmaaQIxBase
import Derived.Lib.LazyBuf
set_option linter.unusedVariables false
set_option linter.unusedSimpArgs false
namespace Go.Proofs.Ytcfdplmapdgfmaa.Mine
open Go.RowKit Go.Proofs.YtcfdplmapdgfmaaW.PrintWords
theorem spot_inv {w : World} {x : SpotP} {cs : List Value} (h : spotK.K w x cs) : cs = spotCs x := by
 obtain ⟨c0, c1, rfl, h0, h1⟩ := h
 have k0 : c0 = [Value.string x.id] := h0
 have k1 : c1 = [Value.int .i64 x.pos] := h1
 subst k0 k1
 rfl
theorem info_spot : (Try.prog.info? 78).map (fun i => (i.zero, i.size, i.bytes)) = some (some (.agg #[.string ⟨#[]⟩, .int .i64 0]), spotK.sz, 24) := by kernel_rfl
theorem R_rowV {w : World} {base : Nat} {ok : Nat → Prop} {v : Value} {S : List SpotP} (h : Kd.R spotK 78 w base ok v S) : ∃ A c, v = .slice A S.length c ∧ RowV w A S ∧ S.length ≤ c ∧ ∀ g, (Value.slice A S.length c).ownBlock = some g → base ≤ g ∧ g < w.heap.size := by
 obtain ⟨_, inner, hown, hreps⟩ := h
 rcases hown.2 with ⟨rfl, hn⟩ | ⟨g, cap, cur, rfl, hb, hg, hc, hm, hs, ht⟩
 ·have : S = [] := List.eq_nil_of_length_eq_zero hn
  subst this
  exact ⟨none, 0, rfl, .inl rfl, Nat.le_refl _, fun g e => by simp [Value.ownBlock] at e⟩
 ·refine ⟨some ⟨g, 0, none⟩, cap, rfl, .inr ⟨g, rfl, cur, hg, fun j hj => ?_⟩, hc, fun g' e => ?_⟩
  ·have h1 := hreps.2 j _ (List.getElem?_eq_getElem hj)
   have h2 := spot_inv (spotK.K_of_M h1)
   have e : spotK.sz = 2 := rfl
   rw [e] at h2 ht
   have at_ : ∀ i u, i < 2 → (spotCs S[j])[i]? = some u → cur[j * 2 + i]? = some u := by
    intro i u hi hu
    rw [← h2, List.getElem?_take, if_pos hi, List.getElem?_drop, ← ht, List.getElem?_take] at hu
    split at hu
    ·rw [← Array.getElem?_toList]; exact hu
    ·cases hu
   exact ⟨by have := at_ 0 (.string S[j].id) (by omega) rfl; simpa using this, at_ 1 (.int .i64 S[j].pos) (by omega) rfl⟩
  ·simp [Value.ownBlock] at e; subst e
   exact ⟨hb, (Array.getElem?_eq_some_iff.1 hg).1⟩
theorem clone_calls (l : List SpotP) (A : Option Addr) (c : Nat) (w : World) (hC : Kd.C spotK w A l.length l) (hl : l.length ≤ 1000000) :
  Calls Try.prog 71 #[.slice A l.length c] w fun e w' => ∃ A1 c1, e = .returned (.slice A1 l.length c1) ∧ RowV w' A1 l ∧ Below w.heap.size w w' ∧ l.length ≤ c1 ∧ ∀ g, (Value.slice A1 l.length c1).ownBlock = some g → w.heap.size ≤ g ∧ g < w'.heap.size := by
 have hq : ∀ (w : World) (a : Option Addr) (n c : Nat), (binOp .eql 64 (.slice a n c) (.slice none 0 0)).run Try.prog w = .ok (.bool a.isNone) w := fun w a n c => run_eql_slice_nil w _ _ a n c Try.underlying64
 cases A with
 | none =>
  have : l = [] := by
   rcases Nat.eq_zero_or_pos l.length with h | h
   ·exact List.eq_nil_of_length_eq_zero h
   ·obtain ⟨ad, h, _⟩ := hC.2.2 h; cases h
  subst this
  clear hC
  go_enter Try.func71, Try.ntmps71
  go_wp2_with fail
  go_ret
  exact ⟨none, 0, rfl, .inl rfl, Below.refl _ _, Nat.le_refl _, fun g e => by simp [Value.ownBlock] at e⟩
 | some ad =>
  have HC := Lib.hid (Kd.z07 hC (z01 (Below.refl _ _) (.cells #[] 78)))
  obtain ⟨n, hn⟩ : ∃ n, n = l.length := ⟨_, rfl⟩
  rw [← hn] at HC ⊢
  have HN := Lib.hid hn
  clear hC hn
  have HE := Lib.hid (Kd.R_empty spotK 78 w w.heap.size (Nat.le_refl _))
  go_enter Try.func71, Try.ntmps71
  go_wp2_with (at_builtin; refine Kd.R_append_rows spotK (Rr := spotK.K (w.alloc (.cells #[] 78))) (w0 := w) w.heap.size (by rfl) (.tmp 5) (.tmp 6) 64 78 (.agg #[.string ⟨#[]⟩, .int .i64 0]) 24 rfl Try.underlying64 info_spot rfl (by decide) (by omega) (.slice (some ⟨w.heap.size, 0, none⟩) 0 0) [] l (some ad) n c (fun _ => True) (fun _ => False) rfl rfl HE.out HC.out (fun x cs h => by rw [spot_inv h]; exact spot_M _ _ _ _) (fun _ hk => hk.elim) (fun _ _ => trivial) (z01 (Below.refl _ _) _) (by simp) (by rw [HN.out]; simp; omega) ?_; intro v1 w1 hr1 hb1 hg1 hat1; have H1 := Lib.hid (And.intro hr1 hb1); clear hr1 hb1 hg1 hat1)
  go_ret
  obtain ⟨A1, c1, e1, hv, hlc, hg⟩ := R_rowV H1.out.1
  exact ⟨A1, c1, by rw [HN.out]; exact congrArg Ending.returned e1, hv, H1.out.2, by rw [HN.out]; exact hlc, by rw [HN.out]; exact hg⟩
theorem byID_calls (x y : SpotP) (w : World) :
  Calls Try.prog 73 #[.agg (spotCs x).toArray, .agg (spotCs y).toArray] w fun e w' => e = .returned (.int .i64 (cmpI x.id y.id)) ∧ w' = (w.alloc (.cells (spotCs x).toArray 78)).alloc (.cells (spotCs y).toArray 78) := by
 have hs := fun w => Try.strings_Compare x.id y.id w
 rw [show Lib.compareBytes x.id.data.toList y.id.data.toList = cmpI x.id y.id from rfl] at hs
 obtain ⟨r, hr⟩ : ∃ r, r = cmpI x.id y.id := ⟨_, rfl⟩
 rw [← hr] at hs ⊢
 clear hr
 simp only [spotCs]
 go_enter Try.func73, Try.ntmps73
 go_wp2_with fail
 refine (hs _).mono ?_
 rintro e w1 ⟨rfl, hw⟩
 rw [hw]
 clear hw
 go_wp2_with fail
 go_ret
 exact ⟨rfl, rfl⟩
end Go.Proofs.Ytcfdplmapdgfmaa.Mine
