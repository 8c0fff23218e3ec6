import Derived.Test.YtcfdplmapdgfmaaQIxFind
set_option linter.unusedVariables false
set_option linter.unusedSimpArgs false
namespace Go.Proofs.Ytcfdplmapdgfmaa.Mine
open List renaming setIfInBounds_toArray → q1, set_cons_zero → q2, set_cons_succ → q3
open Go.RowKit Go.Proofs.YtcfdplmapdgfmaaW.PrintWords
theorem C_subO {w : World} {A : Option Addr} {S : List SpotP} (h : Kd.C spotK w A S.length S) (a b : Nat) (hab : a ≤ b) (hb : b ≤ S.length) : Kd.C spotK w (A.map fun x => x.add (a * 2)) (b - a) ((S.drop a).take (b - a)) := by
 cases A with
 | none =>
  have h0 : S.length = 0 := by
   rcases Nat.eq_zero_or_pos S.length with h0 | h0
   ·exact h0
   ·obtain ⟨ad, h1, _⟩ := h.2.2 h0; cases h1
  refine ⟨by rw [List.length_take, List.length_drop]; omega, by omega, fun h1 => by omega⟩
 | some x => exact C_sub h a b hab hb
def FindOut (S : List SpotP) (id : ByteArray) (w : World) (e : Ending) (w' : World) : Prop := Below w.heap.size w w' ∧
 ((∃ y ∈ S, y.id = id ∧ e = .returned (.tuple #[.int .i64 y.pos, .bool true])) ∨ ((∀ y ∈ S, y.id ≠ id) ∧ e = .returned (.tuple #[.int .i64 0, .bool false])))
set_option maxRecDepth 100000 in
theorem pack_calls (S : List SpotP) (pack : ByteArray) (g : Nat) (w : World) (hI : IxV w g pack S) :
  Calls Try.prog 36 #[.pointer (some ⟨g, 0, none⟩)] w fun e w' => e = .returned (.string pack) ∧ w = w' := by
 obtain ⟨A, c, hx, _⟩ := hI
 have c0 : w.cell? ⟨g, 0, none⟩ = some (.string pack) := (z02 hx 0).trans (ixCs_0 _ _ _)
 clear hx
 go_enter Try.func36, Try.ntmps36
 go_wp2_with fail
 go_ret
 exact ⟨rfl, rfl⟩
set_option maxRecDepth 100000 in
theorem all_calls (S : List SpotP) (pack : ByteArray) (g : Nat) (w : World) (hI : IxV w g pack S) (hl : S.length ≤ 2048) :
  Calls Try.prog 32 #[.pointer (some ⟨g, 0, none⟩)] w fun e w' => ∃ A c, e = .returned (.slice A S.length c) ∧ Kd.C spotK w' A S.length S ∧ Below w.heap.size w w' := by
 obtain ⟨A, c, hx, hr, _⟩ := hI
 have c1 : w.cell? ⟨g, 1, none⟩ = some (.slice A S.length c) := (z02 hx 1).trans (ixCs_1 _ _ _)
 have hcl := clone_calls S A c w (hr.reads (by omega)) (by omega)
 clear hx hr
 go_enter Try.func32, Try.ntmps32
 go_wp2_with fail
 refine hcl.mono ?_
 rintro e w1 ⟨A1, c1, rfl, hr1, hb1, _⟩
 have H := Lib.hid (And.intro (hr1.reads (by omega)) hb1)
 clear hr1 hb1 hcl
 go_wp2_with fail
 go_ret
 exact ⟨A1, c1, rfl, H.out.1, H.out.2⟩
set_option maxRecDepth 100000 in
set_option maxHeartbeats 400000 in
theorem ixFind_calls (S : List SpotP) (pack id : ByteArray) (g : Nat) (w : World) (hI : IxV w g pack S) (hs : Strict S) (hg : ∀ x ∈ S, goodS x) (hl : S.length ≤ 2048) :
  Calls Try.prog 35 #[.pointer (some ⟨g, 0, none⟩), .string id] w fun e w' => FindOut S id w e w' := by
 by_cases h32 : id.size = 32
 ·obtain ⟨A, c, hx, hr, hc⟩ := hI
  obtain ⟨f, hf⟩ : ∃ f, f = (bs id).getD 0 0 := ⟨_, rfl⟩
  have hf256 : f < 256 := by rw [hf]; exact bsD_lt _ _
  have hb : ((id.size : Int) != 32) = false := by rw [h32]; rfl
  have hix := z0e id 0 (f : Int) 0 rfl (by omega) (by rw [hf])
  obtain ⟨a, ha⟩ : ∃ a, a = fanN S f := ⟨_, rfl⟩
  obtain ⟨b, hbb⟩ : ∃ b, b = fanN S (f + 1) := ⟨_, rfl⟩
  have c1 : w.cell? ⟨g, 1, none⟩ = some (.slice A S.length c) := (z02 hx 1).trans (ixCs_1 _ _ _)
  have d1 : w.cell? ⟨g, 2 + f, none⟩ = some (.int .i64 (a : Int)) := (z02 hx (2 + f)).trans (by rw [ixCs_at _ _ _ f (by omega), ha])
  have d2 : w.cell? ⟨g, 2 + (f + 1), none⟩ = some (.int .i64 (b : Int)) := (z02 hx (2 + (f + 1))).trans (by rw [ixCs_at _ _ _ (f + 1) (by omega), hbb])
  have hab : a ≤ b := by
   rw [ha, hbb]
   exact List.countP_mono_left fun x _ h => by simp at h ⊢; omega
  have hbn : b ≤ S.length := by rw [hbb]; exact fan_le _ _
  have hbc : b ≤ c := by omega
  have hw : IntKind.i64.wrap ((f : Int) + 1) = (f : Int) + 1 := by rw [IntKind.wrap_i64]; omega
  have q1 : (f : Int) < 257 := by omega
  have q2 : (f : Int) + 1 < 257 := by omega
  have q3 : ((f : Int) + 1).toNat = f + 1 := by omega
  have HR := Lib.hid hr
  have HFB := Lib.hid (And.intro hf (And.intro ha hbb))
  have HS := Lib.hid (And.intro hs hg)
  have HC := Lib.hid hc
  clear hx hr hf ha hbb hs hg hc h32
  go_enter Try.func35, Try.ntmps35
  go_wp2_with fail
  go_quiet (fail)
  have hTC := C_subO (HR.out.reads (by omega)) a b hab hbn
  have hTl : ((S.drop a).take (b - a)).length = b - a := by rw [List.length_take, List.length_drop]; omega
  have hTs : Strict ((S.drop a).take (b - a)) := (HS.out.1.drop).take
  obtain ⟨T, hT⟩ : ∃ T, T = (S.drop a).take (b - a) := ⟨_, rfl⟩
  rw [← hT] at hTC hTl hTs
  have hTat : ∀ k (hk : k < T.length), ∃ hk2 : a + k < S.length, T[k] = S[a + k] := fun k hk => by
   subst hT
   exact ⟨by rw [hTl] at hk; omega, by rw [List.getElem_take, List.getElem_drop]⟩
  have hC1 := Kd.z07 hTC (z0a (Below.refl w.heap.size w) nq)
  have hC2 : b - a = 0 → Kd.C spotK (w.drewN nq) A (b - a) T := fun h => ⟨hTl, by omega, fun h1 => by omega⟩
  have hbs := fun A' c' (hC : Kd.C spotK (w.drewN nq) A' (b - a) T) => bsearch_calls T id 0 A' (b - a) c' (w.drewN nq) hTl hC (by omega) hTs
  have HT := Lib.hid (And.intro hTl (And.intro hTs hTat))
  have HBS := Lib.hid hbs
  have HC2 := Lib.hid hC2
  have HC1 := Lib.hid hC1
  clear hTC hTl hTs hTat hT hbs hC1 hC2
  rcases Nat.eq_zero_or_pos (c - a) with hca | hca
  ·go_wp2_with fail
   refine (HBS.out A 0 (HC2.out (by omega))).mono ?_
   rintro e w2 ⟨hb2, i, hpl, rfl⟩
   have hB2 : Below w.heap.size w w2 := (z0a (Below.refl _ _) _).trans hb2
   have HB2 := Lib.hid hB2
   have HPL := Lib.hid hpl
   clear hb2 hB2 hpl d1 d2 hix
   by_cases hfound : ∃ h : i < T.length, T[i].id = id
   ·obtain ⟨hiT, hid⟩ := hfound
    obtain ⟨hiS, heS⟩ := HT.out.2.2 i hiT
    rw [decide_eq_true (⟨hiT, hid⟩ : ∃ h : i < T.length, T[i].id = id)]
    have hr2 := HR.out.below HB2.out
    obtain ⟨x, rfl, k0, k1⟩ := spotC_at (hr2.reads (by omega)) (a + i) hiS
    have cc : w2.cell? ⟨g, 1, none⟩ = some (.slice (some x) S.length c) := z00 HB2.out c1
    have hw2 : IntKind.i64.wrap ((a : Int) + (i : Int)) = ((a + i : Nat) : Int) := by rw [IntKind.wrap_i64]; omega
    have q4 : a + i < S.length := hiS
    have hin : S[a + i] ∈ S := List.getElem_mem hiS
    have hide : S[a + i].id = id := by rw [← heS]; exact hid
    obtain ⟨y, hy⟩ : ∃ y, y = S[a + i] := ⟨_, rfl⟩
    rw [← hy] at k0 k1 hin hide
    have HY := Lib.hid (And.intro hin hide)
    clear hy hr2 hid heS hiS c1 hin hide
    go_wp2_with fail
    go_ret2
    exact ⟨HB2.out, .inl ⟨y, HY.out.1, HY.out.2, rfl⟩⟩
   ·rw [decide_eq_false hfound]
    have hno : ∀ y ∈ S, y.id ≠ id := fun y hy e => by
     obtain ⟨p, hp, rfl⟩ := List.getElem_of_mem hy
     have hfy : fb S[p] = f := by unfold fb; rw [e, HFB.out.1]
     have h1 : ¬ p < a := by rw [HFB.out.2.1, ← fan_at HS.out.1 HS.out.2 f p hp]; omega
     have h2 : p < b := by rw [HFB.out.2.2, ← fan_at HS.out.1 HS.out.2 (f + 1) p hp]; omega
     have hq : p - a < T.length := by rw [HT.out.1]; omega
     obtain ⟨hq2, hqe⟩ := HT.out.2.2 (p - a) hq
     have hpe : T[p - a].id = id := by rw [hqe, ← e]; congr 2; omega
     have hz := (z0c _ _).2 hpe
     rcases Nat.lt_or_ge (p - a) i with h3 | h3
     ·have := HPL.out.lo (p - a) hq h3; omega
     ·have hiT : i < T.length := by omega
      rcases Nat.lt_or_ge i (p - a) with h4 | h4
      ·have h5 := List.pairwise_iff_getElem.1 HT.out.2.1 i (p - a) hiT hq h4
       rw [hpe] at h5
       exact HPL.out.hi i hiT (Nat.le_refl _) h5
      ·have : i = p - a := by omega
       subst this
       exact hfound ⟨hq, hpe⟩
    have HNO := Lib.hid hno
    clear hno hfound
    go_wp2_with fail
    go_ret2
    exact ⟨HB2.out, .inr ⟨HNO.out, rfl⟩⟩
  ·have hcn : c - a ≠ 0 := by omega
   go_wp2_with fail
   refine (HBS.out (A.map fun x => x.add (a * 2)) (c - a) HC1.out).mono ?_
   rintro e w2 ⟨hb2, i, hpl, rfl⟩
   have hB2 : Below w.heap.size w w2 := (z0a (Below.refl _ _) _).trans hb2
   have HB2 := Lib.hid hB2
   have HPL := Lib.hid hpl
   clear hb2 hB2 hpl d1 d2 hix
   by_cases hfound : ∃ h : i < T.length, T[i].id = id
   ·obtain ⟨hiT, hid⟩ := hfound
    obtain ⟨hiS, heS⟩ := HT.out.2.2 i hiT
    rw [decide_eq_true (⟨hiT, hid⟩ : ∃ h : i < T.length, T[i].id = id)]
    have hr2 := HR.out.below HB2.out
    obtain ⟨x, rfl, k0, k1⟩ := spotC_at (hr2.reads (by omega)) (a + i) hiS
    have cc : w2.cell? ⟨g, 1, none⟩ = some (.slice (some x) S.length c) := z00 HB2.out c1
    have hw2 : IntKind.i64.wrap ((a : Int) + (i : Int)) = ((a + i : Nat) : Int) := by rw [IntKind.wrap_i64]; omega
    have q4 : a + i < S.length := hiS
    have hin : S[a + i] ∈ S := List.getElem_mem hiS
    have hide : S[a + i].id = id := by rw [← heS]; exact hid
    obtain ⟨y, hy⟩ : ∃ y, y = S[a + i] := ⟨_, rfl⟩
    rw [← hy] at k0 k1 hin hide
    have HY := Lib.hid (And.intro hin hide)
    clear hy hr2 hid heS hiS c1 hin hide
    go_wp2_with fail
    go_ret2
    exact ⟨HB2.out, .inl ⟨y, HY.out.1, HY.out.2, rfl⟩⟩
   ·rw [decide_eq_false hfound]
    have hno : ∀ y ∈ S, y.id ≠ id := fun y hy e => by
     obtain ⟨p, hp, rfl⟩ := List.getElem_of_mem hy
     have hfy : fb S[p] = f := by unfold fb; rw [e, HFB.out.1]
     have h1 : ¬ p < a := by rw [HFB.out.2.1, ← fan_at HS.out.1 HS.out.2 f p hp]; omega
     have h2 : p < b := by rw [HFB.out.2.2, ← fan_at HS.out.1 HS.out.2 (f + 1) p hp]; omega
     have hq : p - a < T.length := by rw [HT.out.1]; omega
     obtain ⟨hq2, hqe⟩ := HT.out.2.2 (p - a) hq
     have hpe : T[p - a].id = id := by rw [hqe, ← e]; congr 2; omega
     have hz := (z0c _ _).2 hpe
     rcases Nat.lt_or_ge (p - a) i with h3 | h3
     ·have := HPL.out.lo (p - a) hq h3; omega
     ·have hiT : i < T.length := by omega
      rcases Nat.lt_or_ge i (p - a) with h4 | h4
      ·have h5 := List.pairwise_iff_getElem.1 HT.out.2.1 i (p - a) hiT hq h4
       rw [hpe] at h5
       exact HPL.out.hi i hiT (Nat.le_refl _) h5
      ·have : i = p - a := by omega
       subst this
       exact hfound ⟨hq, hpe⟩
    have HNO := Lib.hid hno
    clear hno hfound
    go_wp2_with fail
    go_ret2
    exact ⟨HB2.out, .inr ⟨HNO.out, rfl⟩⟩
 ·have hb : ((id.size : Int) != 32) = true := by simp; omega
  have hno : ∀ y ∈ S, y.id ≠ id := fun y hy e => h32 (by rw [← e]; exact (hg y hy).1)
  have HNO := Lib.hid hno
  clear hno hI hs hg
  go_enter Try.func35, Try.ntmps35
  go_wp2_with fail
  go_ret2
  exact ⟨Below.refl _ _, .inr ⟨HNO.out, rfl⟩⟩
end Go.Proofs.Ytcfdplmapdgfmaa.Mine
