import Derived.Test.YtcfdplmapdgfmaaQIxSort2
set_option linter.unusedVariables false
set_option linter.unusedSimpArgs false
namespace Go.Proofs.Ytcfdplmapdgfmaa.Mine
open List renaming setIfInBounds_toArray → q1, set_cons_zero → q2, set_cons_succ → q3
open Go.RowKit Go.Proofs.YtcfdplmapdgfmaaW.PrintWords
def fb (x : SpotP) : Nat := (bs x.id).getD 0 0
def fanN (L : List SpotP) (k : Nat) : Nat := L.countP fun x => decide (fb x < k)
def ixCs (pack : ByteArray) (v : Value) (F : Nat → Nat) : Array Value := #[.string pack, v] ++ ((List.range 257).map fun k => Value.int .i64 (F k : Nat)).toArray
theorem ixCs_at (pack : ByteArray) (v : Value) (F : Nat → Nat) (k : Nat) (hk : k < 257) : (ixCs pack v F)[2 + k]? = some (.int .i64 (F k : Nat)) := by
 rw [ixCs, Array.getElem?_append_right (by simp)]
 simp [hk]
theorem ixCs_0 (pack : ByteArray) (v : Value) (F : Nat → Nat) : (ixCs pack v F)[0]? = some (.string pack) := by simp [ixCs]
theorem ixCs_1 (pack : ByteArray) (v : Value) (F : Nat → Nat) : (ixCs pack v F)[1]? = some v := by simp [ixCs]
theorem ixCs_size (pack : ByteArray) (v : Value) (F : Nat → Nat) : (ixCs pack v F).size = 259 := by simp [ixCs]
theorem ixCs_set (pack : ByteArray) (v : Value) (F : Nat → Nat) (k m : Nat) (hk : k < 257) : (ixCs pack v F).setIfInBounds (2 + k) (.int .i64 (m : Nat)) = ixCs pack v (fun i => if i = k then m else F i) := by
 refine Array.ext (by simp [ixCs]) fun t h1 h2 => ?_
 have ht : t < 259 := by rw [ixCs_size] at h2; exact h2
 rw [Array.getElem_setIfInBounds (by simpa using h1)]
 by_cases e : 2 + k = t
 ·subst e
  rw [if_pos rfl]
  have := ixCs_at pack v (fun i => if i = k then m else F i) k hk
  rw [Array.getElem?_eq_getElem h2] at this
  simp only [if_true] at this
  exact (Option.some.inj this).symm
 ·rw [if_neg e]
  rcases Nat.lt_or_ge t 2 with h3 | h3
  ·have : t = 0 ∨ t = 1 := by omega
   rcases this with rfl | rfl <;> simp [ixCs]
  ·obtain ⟨u, rfl⟩ : ∃ u, t = 2 + u := ⟨t - 2, by omega⟩
   have a1 := ixCs_at pack v F u (by omega)
   have a2 := ixCs_at pack v (fun i => if i = k then m else F i) u (by omega)
   rw [Array.getElem?_eq_getElem (by simpa [ixCs] using h1)] at a1
   rw [Array.getElem?_eq_getElem h2] at a2
   rw [Option.some.inj a1, Option.some.inj a2, if_neg (by omega)]
theorem ix_zero (pack : ByteArray) (A : Option Addr) (n c : Nat) : ((Try.zeroCells131).setIfInBounds 0 (.string pack)).setIfInBounds 1 (.slice A n c) = ixCs pack (.slice A n c) (fun _ => 0) := by kernel_rfl
theorem ixCs_congr (pack : ByteArray) (v : Value) (F G : Nat → Nat) (h : ∀ k, k < 257 → F k = G k) : ixCs pack v F = ixCs pack v G := by
 rw [ixCs, ixCs]
 congr 2
 refine List.map_congr_left fun k hk => ?_
 rw [h k (by simpa using hk)]
def goodS (x : SpotP) : Prop := x.id.size = 32 ∧ 0 ≤ x.pos ∧ x.pos ≤ 4194304
def IxV (w : World) (g : Nat) (pack : ByteArray) (S : List SpotP) : Prop := ∃ A c, w.heap[g]? = some (.cells (ixCs pack (.slice A S.length c) (fanN S)) 131 (0, 0)) ∧ RowV w A S ∧ S.length ≤ c
theorem IxV.below {w w' : World} {g : Nat} {pack : ByteArray} {S : List SpotP} (h : IxV w g pack S) (hb : Below w.heap.size w w') : IxV w' g pack S := by
 obtain ⟨A, c, h1, h2, h3⟩ := h
 exact ⟨A, c, blk_below h1 hb, h2.below hb, h3⟩
def OkP (l : List SpotP) : Prop := (∀ x ∈ l, goodS x) ∧ (l.map SpotP.id).Nodup
def NewOut (pack : ByteArray) (l : List SpotP) (w : World) (e : Ending) (w' : World) : Prop := Below w.heap.size w w' ∧
 ((e = .returned (.tuple #[.pointer none, .int .i64 1]) ∧ ¬ OkP l) ∨
  ∃ g S, e = .returned (.tuple #[.pointer (some ⟨g, 0, none⟩), .int .i64 0]) ∧ S.Perm l ∧ Strict S ∧ (∀ x ∈ l, goodS x) ∧ IxV w' g pack S)
structure NewI (w W : World) (X : Nat) (pack : ByteArray) (A1 : Option Addr) (n c1 : Nat) (S : List SpotP) (L : List SpotP) : Prop where
 hx : W.heap[X]? = some (.cells (ixCs pack (.slice A1 n c1) (fanN L)) 131 (0, 0))
 row : RowV W A1 S
 bel : Below w.heap.size w W
theorem NewI.next {w W W' : World} {X : Nat} {pack : ByteArray} {A1 : Option Addr} {n c1 : Nat} {S L : List SpotP} (h : NewI w W X pack A1 n c1 S L) (hb : Below W.heap.size W W') : NewI w W' X pack A1 n c1 S L :=
 ⟨blk_below h.hx hb, h.row.below hb, h.bel.trans (hb.mono h.bel.size)⟩
theorem fan_step (L : List SpotP) (x : SpotP) (k : Nat) : fanN (L ++ [x]) k = fanN L k + (if fb x < k then 1 else 0) := by
 rw [fanN, fanN, List.countP_append]; simp
theorem fan_le (L : List SpotP) (k : Nat) : fanN L k ≤ L.length := List.countP_le_length
theorem strict_step {S : List SpotP} (hs : Asc S) (i : Nat) (hi : i < S.length) (h : Strict (S.take i)) (hne : ∀ (h0 : 0 < i), (S[i - 1]'(by omega)).id ≠ S[i].id) : Strict (S.take (i + 1)) := by
 rw [List.take_succ_eq_append_getElem hi, Strict, List.pairwise_append]
 refine ⟨h, by simp, fun a ha b hb => ?_⟩
 rw [List.mem_singleton] at hb
 subst hb
 obtain ⟨j, hj, rfl⟩ := List.getElem_of_mem ha
 have hjl : j < i := by simpa using Nat.lt_of_lt_of_le hj (by rw [List.length_take]; exact Nat.min_le_left _ _)
 rw [List.getElem_take]
 have hasc := List.pairwise_iff_getElem.1 hs
 have hlast : cmpI (S[i - 1]'(by omega)).id S[i].id < 0 := by
  have h1 := hasc (i - 1) i (by omega) hi (by omega)
  have h2 : cmpI (S[i - 1]'(by omega)).id S[i].id ≠ 0 := fun e => hne (by omega) ((z0c _ _).1 e)
  rw [cmpI_anti] at h1; omega
 rcases Nat.lt_or_ge j (i - 1) with hlt | hge
 ·have h3 := List.pairwise_iff_getElem.1 h j (i - 1) (by rw [List.length_take]; omega) (by rw [List.length_take]; omega) hlt
  rw [List.getElem_take, List.getElem_take] at h3
  exact z0f _ _ _ h3 hlast
 ·have : j = i - 1 := by omega
  subst this
  exact hlast
set_option maxRecDepth 100000 in
set_option maxHeartbeats 400000 in
theorem ixNew_calls (pack : ByteArray) (l : List SpotP) (A : Option Addr) (c : Nat) (w : World) (hC : Kd.C spotK w A l.length l) (hl : l.length ≤ 2048) (hp : pack.size = 32) :
  Calls Try.prog 29 #[.string pack, .slice A l.length c] w fun e w' => NewOut pack l w e w' := by
 have hp1 : ((pack.size : Int) != 32) = false := by rw [hp]; rfl
 have hl1 : decide ((l.length : Int) > 2048) = false := by simp; omega
 have hcl := clone_calls l A c w hC (by omega)
 clear hC hp
 go_enter Try.func29, Try.ntmps29
 go_wp2_with fail
 refine hcl.mono ?_
 rintro e w1 ⟨A1, c1, rfl, hr1, hb1, hlc, hg1⟩
 have HLC := Lib.hid hlc
 clear hlc
 have H1 := Lib.hid (And.intro hr1 (And.intro hb1 hg1))
 clear hr1 hb1 hg1 hcl
 go_upto_region 6 with fail
 obtain ⟨CS, hCS⟩ : ∃ CS, CS = (Try.zeroCells131.setIfInBounds 0 (.string pack)).setIfInBounds 1 (.slice A1 l.length c1) := ⟨_, rfl⟩
 rw [← hCS]
 have hCSe := hCS.trans (ix_zero pack A1 l.length c1)
 clear hCS
 obtain ⟨W2, hW2⟩ : ∃ W, W = w1.alloc (.cells CS 131) := ⟨_, rfl⟩
 have hx2 : W2.heap[w1.heap.size]? = some (.cells (ixCs pack (.slice A1 l.length c1) (fun _ => 0)) 131 (0, 0)) := by rw [hW2, ← hCSe]; exact blk_new _ _
 have hb2 : Below w.heap.size w W2 := by rw [hW2]; exact z01 H1.out.2.1 _
 have hr2 : RowV W2 A1 l := by rw [hW2]; exact H1.out.1.below (z01 (Below.refl _ _) _)
 have hg2 : ∀ g, (Value.slice A1 l.length c1).ownBlock = some g → w.heap.size ≤ g ∧ g < W2.heap.size := fun g e => by
  have := H1.out.2.2 g e
  rw [hW2]; simp; omega
 rw [← hW2]
 clear hW2 hCSe
 obtain ⟨X, hX⟩ : ∃ X, X = w1.heap.size := ⟨_, rfl⟩
 have hXw : w.heap.size ≤ X := by rw [hX]; exact H1.out.2.1.size
 have hne : some X ≠ (Value.slice A1 l.length c1).ownBlock := fun e => by
  have := (H1.out.2.2 X e.symm).2; rw [hX] at this; exact absurd this (Nat.lt_irrefl _)
 rw [← hX] at hx2 ⊢
 clear hX
 have c1_ : W2.cell? ⟨X, 1, none⟩ = some (.slice A1 l.length c1) := (z02 hx2 1).trans (ixCs_1 _ _ _)
 have hso := sort_calls l A1 c1 W2 hr2 (fun g e => (hg2 g e).2) (by omega)
 have H2 := Lib.hid (And.intro hx2 (And.intro hb2 (And.intro hg2 hne)))
 clear hx2 hb2 hr2 hg2 hne
 go_wp2_with fail
 refine hso.mono ?_
 rintro e w3 ⟨rfl, S, hperm, hasc, hr3, hgr⟩
 have hx3 := blk_grown H2.out.1 hgr H2.out.2.2.2
 have hb3 : Below w.heap.size w w3 := H2.out.2.1.grown hgr H2.out.2.1.size fun k e => (H2.out.2.2.1 k e).1
 have hlen : S.length = l.length := hperm.length_eq
 have c1b : w3.cell? ⟨X, 1, none⟩ = some (.slice A1 l.length c1) := (z02 hx3 1).trans (ixCs_1 _ _ _)
 have H3 := Lib.hid (And.intro hx3 (And.intro hb3 hr3))
 have HP := Lib.hid (And.intro hperm hasc)
 have HLN := Lib.hid hlen
 clear hx3 hb3 hr3 hgr hperm hasc hlen hso c1_
 go_wp2_with fail
 clear c1b
 go_loopg [31] l.length (fun gg s31 wr => ∃ i : Nat, i ≤ l.length ∧ gg = l.length - i ∧ s31 = .int .i64 i ∧ Hid (NewI w wr X pack A1 l.length c1 S (S.take i)) ∧ Hid (Strict (S.take i)) ∧ Hid (∀ x ∈ S.take i, goodS x))
 case atStart =>
  exact ⟨0, Nat.zero_le _, by omega, by go_num, ⟨by rw [List.take_zero]; exact H3.out.1, H3.out.2.2, H3.out.2.1⟩, by unfold Hid; rw [List.take_zero]; exact List.Pairwise.nil, by unfold Hid; rw [List.take_zero]; intro x hx; simp at hx⟩
 case round =>
  obtain ⟨i, hi, hgk, rfl, HI, HST, HGD⟩ := hrel
  have HG := Lib.hid hgk
  clear hgk
  by_cases hlt : i < l.length
  ·have hltb : decide ((i : Int) < (l.length : Int)) = true := by simp; omega
   have hiS : i < S.length := by rw [HLN.out]; exact hlt
   obtain ⟨x, rfl, k0, k1⟩ := spotC_at (HI.out.row.reads (by rw [HLN.out]; omega)) i hiS
   obtain ⟨y, hy⟩ : ∃ y, y = S[i] := ⟨_, rfl⟩
   rw [← hy] at k0 k1
   have HY := Lib.hid hy
   clear hy
   go_upto_region 10 with fail
   obtain ⟨V, hV⟩ : ∃ V, V = wr.alloc (.cells #[.string y.id, .int .i64 y.pos] 78) := ⟨_, rfl⟩
   have hVI := HI.out.next (z01 (Below.refl _ _) (.cells #[.string y.id, .int .i64 y.pos] 78))
   have hVb : V.heap[wr.heap.size]? = some (.cells #[.string y.id, .int .i64 y.pos] 78 (0, 0)) := by rw [hV]; exact blk_new _ _
   rw [← hV] at hVI ⊢
   obtain ⟨Bx, hBx⟩ : ∃ B, B = wr.heap.size := ⟨_, rfl⟩
   rw [← hBx] at hVb ⊢
   have b0 : V.cell? ⟨Bx, 0, none⟩ = some (.string y.id) := (z02 hVb 0).trans rfl
   have b1 : V.cell? ⟨Bx, 1, none⟩ = some (.int .i64 y.pos) := (z02 hVb 1).trans rfl
   have HV := Lib.hid (And.intro hVI hVb)
   clear hV hVI hVb hBx k0 k1 HI
   have hyl : y ∈ l := HP.out.1.mem_iff.1 (by rw [HY.out]; exact List.getElem_mem hiS)
   by_cases hz : y.id.size = 32
   ·have z1 : ((y.id.size : Int) != 32) = false := by rw [hz]; rfl
    by_cases hn : y.pos < 0
    ·have z2 : decide (y.pos < 0) = true := decide_eq_true hn
     go_wp2_with fail
     go_ret2
     exact ⟨HV.out.1.bel, .inl ⟨rfl, fun h => by have := h.1 y hyl; exact absurd this.2.1 (by omega)⟩⟩
    ·have z2 : decide (y.pos < 0) = false := decide_eq_false hn
     by_cases hm : y.pos > 4194304
     ·have z3 : decide (y.pos > 4194304) = true := decide_eq_true hm
      go_wp2_with fail
      go_ret2
      exact ⟨HV.out.1.bel, .inl ⟨rfl, fun h => by have := h.1 y hyl; exact absurd this.2.2 (by omega)⟩⟩
     ·have z3 : decide (y.pos > 4194304) = false := decide_eq_false hm
      have HGY := Lib.hid (show goodS y from ⟨hz, by omega, by omega⟩)
      clear hn hm
      go_upto_region 12 with fail
      clear z1 z2 z3
      rcases Nat.eq_zero_or_pos i with h0 | h0
      ·have hi0 : decide ((i : Int) > 0) = false := by simp; omega
       have hst := strict_step HP.out.2 i hiS HST.out (fun h => by omega)
       go_quiet (fail)
       go_upto_region 14 with fail
       clear hi0
       obtain ⟨V2, hV2⟩ : ∃ W, W = V.drewN nq := ⟨_, rfl⟩
       have hB2 : Below V.heap.size V V2 := by rw [hV2]; exact z0a (Below.refl _ _) _
       rw [← hV2]
       have HV2 := Lib.hid (And.intro (HV.out.1.next hB2) (blk_below HV.out.2 hB2))
       clear hV2 hB2
       have d0 : V2.cell? ⟨Bx, 0, none⟩ = some (.string y.id) := (z02 HV2.out.2 0).trans rfl
       have hix := z0e y.id 0 ((fb y : Nat) : Int) 0 rfl (by omega) rfl
       have hfb : fb y < 256 := by unfold fb; exact bsD_lt _ _
       obtain ⟨f, hf⟩ : ∃ f, f = fb y := ⟨_, rfl⟩
       rw [← hf] at hix hfb
       have hw : IntKind.i64.wrap ((f : Int) + 1) = (f : Int) + 1 := by rw [IntKind.wrap_i64]; omega
       have HF := Lib.hid (And.intro hf hst)
       clear hf hst
       go_wp2_with fail
       go_loopg [9] (257 - (f + 1)) (fun gg s9 wq => ∃ k : Nat, f < k ∧ k ≤ 257 ∧ gg = 257 - k ∧ s9 = .int .i64 k ∧ Hid (wq.heap[X]? = some (.cells (ixCs pack (.slice (some x) l.length c1) (fun t => fanN (S.take i) t + if f < t ∧ t < k then 1 else 0)) 131 (0, 0))) ∧ Hid (RowV wq (some x) S) ∧ Hid (Below w.heap.size w wq))
       case atStart =>
        refine ⟨f + 1, by omega, by omega, rfl, by go_num, ?_, HV2.out.1.row, HV2.out.1.bel⟩
        ·unfold Hid
         rw [HV2.out.1.hx, ixCs_congr pack _ (fanN (S.take i)) (fun t => fanN (S.take i) t + if f < t ∧ t < f + 1 then 1 else 0) fun t _ => by rw [if_neg (by omega)]; rfl]
       case round =>
        obtain ⟨k, hk1, hk2, hgk, rfl, HX, HRW, HB⟩ := hrel
        have HGK := Lib.hid hgk
        clear hgk
        by_cases hk : k ≤ 256
        ·have hkb : decide ((k : Int) ≤ 256) = true := by simp; omega
         have hkX := ixCs_at pack (.slice (some x) l.length c1) (fun t => fanN (S.take i) t + if f < t ∧ t < k then 1 else 0) k (by omega)
         obtain ⟨m, hm⟩ : ∃ m, m = fanN (S.take i) k := ⟨_, rfl⟩
         have hm2 : m ≤ 2048 := by have := fan_le (S.take i) k; rw [List.length_take] at this; omega
         simp only [show ¬ (f < k ∧ k < k) from by omega, if_false, Nat.add_zero, ← hm] at hkX
         have ck : wr.cell? ⟨X, 2 + k, none⟩ = some (.int .i64 (m : Int)) := (z02 HX.out (2 + k)).trans hkX
         have fk : wr.frozen? ⟨X, 2 + k, none⟩ = false := blk_frozen HX.out (2 + k)
         have hwm : IntKind.i64.wrap ((m : Int) + 1) = (m : Int) + 1 := by rw [IntKind.wrap_i64]; omega
         have q1 : (k : Int) < 257 := by omega
         have q2 : k < 257 := by omega
         have HM := Lib.hid hm
         clear hkX hm
         go_wp2_with fail
         go_region
         go_wp2_with fail
         go_roundg (257 - (k + 1))
         case measure => have := HGK.out; omega
         case rel =>
          have hset : (ixCs pack (.slice (some x) l.length c1) (fun t => fanN (S.take i) t + if f < t ∧ t < k then 1 else 0)).setIfInBounds (2 + k) (.int .i64 ((m : Int) + 1)) = ixCs pack (.slice (some x) l.length c1) (fun t => fanN (S.take i) t + if f < t ∧ t < k + 1 then 1 else 0) := by
           rw [show (m : Int) + 1 = ((m + 1 : Nat) : Int) from by omega, ixCs_set _ _ _ k (m + 1) q2]
           refine ixCs_congr _ _ _ _ fun t ht => ?_
           by_cases e : t = k
           ·subst e; rw [if_pos rfl, if_pos (by omega), HM.out]
           ·rw [if_neg e]
            congr 1
            by_cases h : f < t ∧ t < k
            ·rw [if_pos h, if_pos (by omega)]
            ·rw [if_neg h, if_neg (by omega)]
          exact ⟨k + 1, by omega, by omega, rfl, by go_num, blk_drew (blk_put HX.out (2 + k) _ hset), (HRW.out.far HX.out (by decide) (2 + k) _).below (z03 (Below.refl _ _)), z03 (HB.out.setCell (p := ⟨X, 2 + k, none⟩) hXw _)⟩
        ·have hkb : decide ((k : Int) ≤ 256) = false := by simp; omega
         obtain rfl : k = 257 := by omega
         go_wp2_with fail
         go_roundg (l.length - (i + 1))
         case measure => have := HG.out; omega
         case rel =>
          have ht : S.take (i + 1) = S.take i ++ [y] := by rw [List.take_succ_eq_append_getElem hiS, HY.out]
          refine ⟨i + 1, by omega, rfl, by go_num, ⟨?_, HRW.out, HB.out⟩, HF.out.2, ?_⟩
          ·rw [ht, ixCs_congr pack _ (fanN (S.take i ++ [y])) (fun t => fanN (S.take i) t + if f < t ∧ t < 257 then 1 else 0) fun t ht => by rw [fan_step, HF.out.1]; congr 1; by_cases h : fb y < t <;> simp [h, ht]]
           exact HX.out
          ·unfold Hid
           rw [ht]
           intro z hz
           rcases List.mem_append.1 hz with h | h
           ·exact HGD.out z h
           ·rw [List.mem_singleton] at h; rw [h]; exact HGY.out
      ·have hi0 : decide ((i : Int) > 0) = true := by simp; omega
       have hi1 : i - 1 < S.length := by omega
       obtain ⟨x', hx', p0, p1⟩ := spotC_at (HV.out.1.row.reads (by rw [HLN.out]; omega)) (i - 1) hi1
       obtain rfl : x = x' := Option.some.inj hx'
       have cx1 : V.cell? ⟨X, 1, none⟩ = some (.slice (some x) l.length c1) := (z02 HV.out.1.hx 1).trans (ixCs_1 _ _ _)
       have z1 : IntKind.i64.wrap ((i : Int) - 1) = (i : Int) - 1 := wrap_at _ (by omega) (by omega)
       have z2 : (0 : Int) ≤ (i : Int) - 1 := by omega
       have z3 : (i : Int) - 1 < (l.length : Int) := by omega
       have z4 : ((i : Int) - 1).toNat = i - 1 := by omega
       clear hx' p1
       obtain ⟨P, hP⟩ : ∃ P, P = S[i - 1].id := ⟨_, rfl⟩
       rw [← hP] at p0
       by_cases heq : P = y.id
       ·have HPe := Lib.hid (hP.symm.trans heq)
        rw [heq] at p0
        clear heq hP
        go_quiet (fail)
        go_wp2_with fail
        go_ret2
        refine ⟨z0a HV.out.1.bel _, .inl ⟨rfl, fun h => ?_⟩⟩
        have hnd := (HP.out.1.map SpotP.id).nodup_iff.2 h.2
        rw [List.nodup_iff_pairwise_ne, List.pairwise_iff_getElem] at hnd
        have := hnd (i - 1) i (by rw [List.length_map]; exact hi1) (by rw [List.length_map]; exact hiS) (by omega)
        rw [List.getElem_map, List.getElem_map, HPe.out, ← HY.out] at this
        exact this rfl
       ·have hst := strict_step HP.out.2 i hiS HST.out (fun _ => by rw [← hP, ← HY.out]; exact heq)
        have hneq : (P.toList == y.id.toList) = false := by
         rw [beq_eq_false_iff_ne]
         intro e
         rw [toL, toL] at e
         exact heq (ByteArray.ext (Array.ext' e))
        clear heq hP
        go_quiet (fail)
        go_upto_region 14 with fail
        clear hi0 p0 cx1 z1 z2 z3 z4 hneq
        obtain ⟨V2, hV2⟩ : ∃ W, W = V.drewN nq := ⟨_, rfl⟩
        have hB2 : Below V.heap.size V V2 := by rw [hV2]; exact z0a (Below.refl _ _) _
        rw [← hV2]
        have HV2 := Lib.hid (And.intro (HV.out.1.next hB2) (blk_below HV.out.2 hB2))
        clear hV2 hB2
        have d0 : V2.cell? ⟨Bx, 0, none⟩ = some (.string y.id) := (z02 HV2.out.2 0).trans rfl
        have hix := z0e y.id 0 ((fb y : Nat) : Int) 0 rfl (by omega) rfl
        have hfb : fb y < 256 := by unfold fb; exact bsD_lt _ _
        obtain ⟨f, hf⟩ : ∃ f, f = fb y := ⟨_, rfl⟩
        rw [← hf] at hix hfb
        have hw : IntKind.i64.wrap ((f : Int) + 1) = (f : Int) + 1 := by rw [IntKind.wrap_i64]; omega
        have HF := Lib.hid (And.intro hf hst)
        clear hf hst
        go_wp2_with fail
        go_loopg [9] (257 - (f + 1)) (fun gg s9 wq => ∃ k : Nat, f < k ∧ k ≤ 257 ∧ gg = 257 - k ∧ s9 = .int .i64 k ∧ Hid (wq.heap[X]? = some (.cells (ixCs pack (.slice (some x) l.length c1) (fun t => fanN (S.take i) t + if f < t ∧ t < k then 1 else 0)) 131 (0, 0))) ∧ Hid (RowV wq (some x) S) ∧ Hid (Below w.heap.size w wq))
        case atStart =>
         refine ⟨f + 1, by omega, by omega, rfl, by go_num, ?_, HV2.out.1.row, HV2.out.1.bel⟩
         ·unfold Hid
          rw [HV2.out.1.hx, ixCs_congr pack _ (fanN (S.take i)) (fun t => fanN (S.take i) t + if f < t ∧ t < f + 1 then 1 else 0) fun t _ => by rw [if_neg (by omega)]; rfl]
        case round =>
         obtain ⟨k, hk1, hk2, hgk, rfl, HX, HRW, HB⟩ := hrel
         have HGK := Lib.hid hgk
         clear hgk
         by_cases hk : k ≤ 256
         ·have hkb : decide ((k : Int) ≤ 256) = true := by simp; omega
          have hkX := ixCs_at pack (.slice (some x) l.length c1) (fun t => fanN (S.take i) t + if f < t ∧ t < k then 1 else 0) k (by omega)
          obtain ⟨m, hm⟩ : ∃ m, m = fanN (S.take i) k := ⟨_, rfl⟩
          have hm2 : m ≤ 2048 := by have := fan_le (S.take i) k; rw [List.length_take] at this; omega
          simp only [show ¬ (f < k ∧ k < k) from by omega, if_false, Nat.add_zero, ← hm] at hkX
          have ck : wr.cell? ⟨X, 2 + k, none⟩ = some (.int .i64 (m : Int)) := (z02 HX.out (2 + k)).trans hkX
          have fk : wr.frozen? ⟨X, 2 + k, none⟩ = false := blk_frozen HX.out (2 + k)
          have hwm : IntKind.i64.wrap ((m : Int) + 1) = (m : Int) + 1 := by rw [IntKind.wrap_i64]; omega
          have q1 : (k : Int) < 257 := by omega
          have q2 : k < 257 := by omega
          have HM := Lib.hid hm
          clear hkX hm
          go_wp2_with fail
          go_region
          go_wp2_with fail
          go_roundg (257 - (k + 1))
          case measure => have := HGK.out; omega
          case rel =>
           have hset : (ixCs pack (.slice (some x) l.length c1) (fun t => fanN (S.take i) t + if f < t ∧ t < k then 1 else 0)).setIfInBounds (2 + k) (.int .i64 ((m : Int) + 1)) = ixCs pack (.slice (some x) l.length c1) (fun t => fanN (S.take i) t + if f < t ∧ t < k + 1 then 1 else 0) := by
            rw [show (m : Int) + 1 = ((m + 1 : Nat) : Int) from by omega, ixCs_set _ _ _ k (m + 1) q2]
            refine ixCs_congr _ _ _ _ fun t ht => ?_
            by_cases e : t = k
            ·subst e; rw [if_pos rfl, if_pos (by omega), HM.out]
            ·rw [if_neg e]
             congr 1
             by_cases h : f < t ∧ t < k
             ·rw [if_pos h, if_pos (by omega)]
             ·rw [if_neg h, if_neg (by omega)]
           exact ⟨k + 1, by omega, by omega, rfl, by go_num, blk_drew (blk_put HX.out (2 + k) _ hset), (HRW.out.far HX.out (by decide) (2 + k) _).below (z03 (Below.refl _ _)), z03 (HB.out.setCell (p := ⟨X, 2 + k, none⟩) hXw _)⟩
         ·have hkb : decide ((k : Int) ≤ 256) = false := by simp; omega
          obtain rfl : k = 257 := by omega
          go_wp2_with fail
          go_roundg (l.length - (i + 1))
          case measure => have := HG.out; omega
          case rel =>
           have ht : S.take (i + 1) = S.take i ++ [y] := by rw [List.take_succ_eq_append_getElem hiS, HY.out]
           refine ⟨i + 1, by omega, rfl, by go_num, ⟨?_, HRW.out, HB.out⟩, HF.out.2, ?_⟩
           ·rw [ht, ixCs_congr pack _ (fanN (S.take i ++ [y])) (fun t => fanN (S.take i) t + if f < t ∧ t < 257 then 1 else 0) fun t ht => by rw [fan_step, HF.out.1]; congr 1; by_cases h : fb y < t <;> simp [h, ht]]
            exact HX.out
           ·unfold Hid
            rw [ht]
            intro z hz
            rcases List.mem_append.1 hz with h | h
            ·exact HGD.out z h
            ·rw [List.mem_singleton] at h; rw [h]; exact HGY.out
   ·have z1 : ((y.id.size : Int) != 32) = true := by simp; omega
    go_wp2_with fail
    go_ret2
    exact ⟨HV.out.1.bel, .inl ⟨rfl, fun h => hz (h.1 y hyl).1⟩⟩
  ·obtain rfl : i = l.length := by omega
   have hltb : decide ((l.length : Int) < (l.length : Int)) = false := by simp
   have hS : S.take l.length = S := by rw [← HLN.out]; exact List.take_length
   rw [hS] at HI HST HGD
   go_wp2_with fail
   go_ret2
   refine ⟨HI.out.bel, .inr ⟨X, S, rfl, HP.out.1, HST.out, fun x hx => HGD.out x (HP.out.1.mem_iff.2 hx), A1, c1, ?_, HI.out.row, ?_⟩⟩
   ·rw [HLN.out]; exact HI.out.hx
   ·rw [HLN.out]; exact HLC.out
end Go.Proofs.Ytcfdplmapdgfmaa.Mine
