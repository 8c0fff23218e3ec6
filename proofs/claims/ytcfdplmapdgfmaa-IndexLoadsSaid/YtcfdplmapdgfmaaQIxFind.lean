import Derived.Test.YtcfdplmapdgfmaaQIxNew
set_option linter.unusedVariables false
set_option linter.unusedSimpArgs false
namespace Go.Proofs.Ytcfdplmapdgfmaa.Mine
open List renaming setIfInBounds_toArray → q1, set_cons_zero → q2, set_cons_succ → q3
open Go.RowKit Go.Proofs.YtcfdplmapdgfmaaW.PrintWords
structure Place (T : List SpotP) (id : ByteArray) (i : Nat) : Prop where
 le : i ≤ T.length
 lo : ∀ j (h : j < T.length), j < i → cmpI T[j].id id < 0
 hi : ∀ j (h : j < T.length), i ≤ j → ¬ cmpI T[j].id id < 0
set_option maxRecDepth 100000 in
set_option maxHeartbeats 400000 in
theorem bsearch_calls (T : List SpotP) (id : ByteArray) (pos : Int) (A : Option Addr) (n c : Nat) (w : World) (hn : T.length = n) (hC : Kd.C spotK w A n T) (hl : n ≤ 2048) (hs : Strict T) :
  Calls Try.prog 78 #[.slice A n c, .agg #[.string id, .int .i64 pos], .func (.func 73) #[] #[]] w fun e w' => Below w.heap.size w w' ∧ ∃ i, Place T id i ∧ e = .returned (.tuple #[.int .i64 (i : Nat), .bool (decide (∃ h : i < T.length, T[i].id = id))]) := by
 go_enter Try.func78, Try.ntmps78
 go_upto_region 1 with fail
 obtain ⟨V, hV⟩ : ∃ V, V = w.alloc (.cells #[.string id, .int .i64 pos] 78) := ⟨_, rfl⟩
 have hb0 : V.heap[w.heap.size]? = some (.cells #[.string id, .int .i64 pos] 78 (0, 0)) := by rw [hV]; exact blk_new _ _
 have hbel : Below w.heap.size w V := by rw [hV]; exact z01 (Below.refl _ _) _
 rw [← hV]
 have H0 := Lib.hid (And.intro hb0 (And.intro hbel (Kd.z07 hC hbel)))
 have HS := Lib.hid hs
 have HN := Lib.hid hn
 clear hV hb0 hbel hC hs hn
 obtain ⟨Bx, hBx⟩ : ∃ B, B = w.heap.size := ⟨_, rfl⟩
 rw [← hBx] at H0 ⊢
 have HBV := Lib.hid (show Below w.heap.size w V by rw [← hBx]; exact H0.out.2.1)
 clear hBx
 go_wp2_with fail
 go_loopg [9, 10] n (fun gg s9 s10 wr => ∃ i j : Nat, i ≤ j ∧ j ≤ n ∧ gg = j - i ∧ s9 = .int .i64 i ∧ s10 = .int .i64 j ∧ Hid (∀ k (h : k < T.length), k < i → cmpI T[k].id id < 0) ∧ Hid (∀ k (h : k < T.length), j ≤ k → ¬ cmpI T[k].id id < 0) ∧ Hid (Below V.heap.size V wr))
 case atStart =>
  exact ⟨0, n, Nat.zero_le _, Nat.le_refl _, rfl, by go_num, rfl, fun k h h0 => by omega, fun k h h0 => by have := HN.out; omega, Below.refl _ _⟩
 case round =>
  obtain ⟨i, j, hij, hj, hgk, rfl, rfl, HLo, HHi, HB⟩ := hrel
  have HG := Lib.hid hgk
  clear hgk
  have hbx := blk_below H0.out.1 HB.out
  have b0 : wr.cell? ⟨Bx, 0, none⟩ = some (.string id) := (z02 hbx 0).trans rfl
  have b1 : wr.cell? ⟨Bx, 1, none⟩ = some (.int .i64 pos) := (z02 hbx 1).trans rfl
  have HX := Lib.hid (And.intro hbx (Kd.z07 H0.out.2.2 HB.out))
  clear hbx
  by_cases hlt : i < j
  ·have hltb : decide ((i : Int) < (j : Int)) = true := by simp; omega
   obtain ⟨h, hh⟩ : ∃ h : Nat, h = (i + j) / 2 := ⟨_, rfl⟩
   have hz : ((i : Int) + (j : Int)) / 2 = (h : Int) := by omega
   have hhn : h < T.length := by rw [HN.out]; omega
   have hCh := HX.out.2
   rw [← HN.out] at hCh
   obtain ⟨x, rfl, k0, k1⟩ := spotC_at hCh h hhn
   obtain ⟨y, hy⟩ : ∃ y, y = T[h] := ⟨_, rfl⟩
   rw [← hy] at k0 k1
   have HY := Lib.hid hy
   have q1 : (h : Int) < (n : Int) := by omega
   have hij2 : i ≤ h ∧ h < j := by omega
   clear hCh hy hh
   have hw1 : IntKind.i64.wrap ((h : Int) + 1) = (h : Int) + 1 := by rw [IntKind.wrap_i64]; omega
   have hby := fun w => byID_calls y ⟨id, pos⟩ w
   simp only [spotCs] at hby
   obtain ⟨r, hr⟩ : ∃ r, r = cmpI y.id id := ⟨_, rfl⟩
   rw [← hr] at hby
   have HR := Lib.hid hr
   clear hr
   go_upto_region 5 with fail
   clear hz
   have fin := z03 (z01 (z01 HB.out (.cells #[.string y.id, .int .i64 y.pos] 78)) (.cells #[.string id, .int .i64 pos] 78))
   have FIN := Lib.hid fin
   clear fin
   by_cases hc : r < 0
   ·have hcb : decide (r < 0) = true := decide_eq_true hc
    go_region_held3 (fun w' => w'.cell? ⟨Bx, 0, none⟩ = some (.string id) ∧ w'.cell? ⟨Bx, 1, none⟩ = some (.int .i64 pos) ∧ w'.cell? (x.add (h * 2)) = some (.string y.id) ∧ w'.cell? ⟨(x.add (h * 2)).block, (x.add (h * 2)).off + 1, none⟩ = some (.int .i64 y.pos)) (go_keep) (first
     | (go_at_call 73; refine (hby _).mono ?_; rintro e w5 ⟨rfl, hw5⟩))
    go_wp2_with fail
    go_roundg (j - (h + 1))
    case measure => have := HG.out; omega
    case rel =>
     refine ⟨h + 1, j, by omega, hj, rfl, by go_num, rfl, ?_, HHi.out, FIN.out⟩
     unfold Hid
     intro k hk hkl
     have hy0 : cmpI T[h].id id < 0 := by rw [← HY.out, ← HR.out]; exact hc
     rcases Nat.lt_or_ge k h with h1 | h1
     ·exact z0f _ _ _ (List.pairwise_iff_getElem.1 HS.out k h hk hhn h1) hy0
     ·obtain rfl : k = h := by omega
      exact hy0
   ·have hcb : decide (r < 0) = false := decide_eq_false hc
    go_region_held3 (fun w' => w'.cell? ⟨Bx, 0, none⟩ = some (.string id) ∧ w'.cell? ⟨Bx, 1, none⟩ = some (.int .i64 pos) ∧ w'.cell? (x.add (h * 2)) = some (.string y.id) ∧ w'.cell? ⟨(x.add (h * 2)).block, (x.add (h * 2)).off + 1, none⟩ = some (.int .i64 y.pos)) (go_keep) (first
     | (go_at_call 73; refine (hby _).mono ?_; rintro e w5 ⟨rfl, hw5⟩))
    go_wp2_with fail
    go_roundg (h - i)
    case measure => have := HG.out; omega
    case rel =>
     refine ⟨i, h, by omega, by omega, rfl, rfl, by go_num, HLo.out, ?_, FIN.out⟩
     unfold Hid
     intro k hk hkl
     refine Int.not_lt.1 fun hlt2 => ?_
     have hy0 : ¬ cmpI T[h].id id < 0 := by rw [← HY.out, ← HR.out]; omega
     rcases Nat.lt_or_ge h k with h1 | h1
     ·exact hy0 (z0f _ _ _ (List.pairwise_iff_getElem.1 HS.out h k hhn hk h1) hlt2)
     ·obtain rfl : k = h := by omega
      exact hy0 hlt2
  ·obtain rfl : i = j := by omega
   have hltb : decide ((i : Int) < (i : Int)) = false := by simp
   have hpl : Place T id i := ⟨by rw [HN.out]; exact hj, fun k hk h1 => HLo.out k hk h1, fun k hk h1 => HHi.out k hk h1⟩
   have HPL := Lib.hid hpl
   clear hpl
   by_cases hin : i < n
   ·have hinb : decide ((i : Int) < (n : Int)) = true := by simp; omega
    have hhn : i < T.length := by rw [HN.out]; exact hin
    have hCh := HX.out.2
    rw [← HN.out] at hCh
    obtain ⟨x, rfl, k0, k1⟩ := spotC_at hCh i hhn
    obtain ⟨y, hy⟩ : ∃ y, y = T[i] := ⟨_, rfl⟩
    rw [← hy] at k0 k1
    have HY := Lib.hid hy
    clear hCh hy
    have hby := fun w => byID_calls y ⟨id, pos⟩ w
    simp only [spotCs] at hby
    obtain ⟨r, hr⟩ : ∃ r, r = cmpI y.id id := ⟨_, rfl⟩
    rw [← hr] at hby
    have HR := Lib.hid hr
    clear hr
    have fin := z03 (z01 (z01 HB.out (.cells #[.string y.id, .int .i64 y.pos] 78)) (.cells #[.string id, .int .i64 pos] 78))
    have FIN := Lib.hid (HBV.out.trans (fin.mono HBV.out.size))
    clear fin
    obtain ⟨bo, hbo⟩ : ∃ bo : Bool, bo = (r == 0) := ⟨_, rfl⟩
    have hbo' := hbo.symm
    have HBO := Lib.hid hbo
    clear hbo
    go_upto_region 8 with fail
    go_region_held3 (fun w' => w'.cell? ⟨Bx, 0, none⟩ = some (.string id) ∧ w'.cell? ⟨Bx, 1, none⟩ = some (.int .i64 pos) ∧ w'.cell? (x.add (i * 2)) = some (.string y.id) ∧ w'.cell? ⟨(x.add (i * 2)).block, (x.add (i * 2)).off + 1, none⟩ = some (.int .i64 y.pos)) (go_keep) (first
     | (go_at_call 73; refine (hby _).mono ?_; rintro e w5 ⟨rfl, hw5⟩))
    go_wp2_with fail
    go_ret2
    refine ⟨FIN.out, i, HPL.out, ?_⟩
    have : bo = decide (∃ h : i < T.length, T[i].id = id) := by
     rw [HBO.out, HR.out, HY.out]
     by_cases e : T[i].id = id
     ·rw [(z0c _ _).2 e, decide_eq_true ⟨hhn, e⟩]; rfl
     ·rw [decide_eq_false (fun ⟨_, h⟩ => e h)]
      simpa using fun h => e ((z0c _ _).1 h)
    rw [← this]; rfl
   ·have hinb : decide ((i : Int) < (n : Int)) = false := by simp; omega
    go_upto_region 8 with fail
    go_quiet (fail)
    go_wp2_with fail
    go_ret2
    refine ⟨z0a (HBV.out.trans (HB.out.mono HBV.out.size)) _, i, HPL.out, ?_⟩
    rw [decide_eq_false (fun ⟨h, _⟩ => by rw [HN.out] at h; omega)]; rfl
theorem countP_prefix {α : Type} (p : α → Bool) : ∀ (l : List α), l.Pairwise (fun x y => p y = true → p x = true) → ∀ (i : Nat) (h : i < l.length), (p l[i] = true ↔ i < l.countP p)
 | [], _, i, h => by simp at h
 | x :: l, hp, i, h => by
  rw [List.pairwise_cons] at hp
  by_cases hx : p x = true
  ·rw [List.countP_cons_of_pos hx]
   cases i with
   | zero => simp [hx]
   | succ i =>
    have := countP_prefix p l hp.2 i (by simpa using h)
    simp only [List.getElem_cons_succ]
    rw [this]; omega
  ·have h0 : l.countP p = 0 := by
    rw [List.countP_eq_zero]
    intro y hy h1
    exact hx (hp.1 y hy h1)
   rw [List.countP_cons_of_neg hx, h0]
   constructor
   ·intro h1
    cases i with
    | zero => exact absurd h1 hx
    | succ i => exact absurd (hp.1 _ (List.getElem_mem _) (by simpa using h1)) hx
   ·intro h1; omega
theorem fb_le {x y : SpotP} (hx : x.id.size = 32) (hy : y.id.size = 32) (h : cmpI x.id y.id < 0) : fb x ≤ fb y := by
 have e : ∀ z : SpotP, z.id.size = 32 → ∃ c l, z.id.data.toList = c :: l ∧ fb z = c.toNat := by
  intro z hz
  have hl : z.id.data.toList.length = 32 := by rw [Array.length_toList]; exact hz
  cases hd : z.id.data.toList with
  | nil => rw [hd] at hl; simp at hl
  | cons c l =>
   refine ⟨c, l, rfl, ?_⟩
   unfold fb bs
   rw [hd]; rfl
 obtain ⟨a, la, ha, fa⟩ := e x hx
 obtain ⟨b, lb, hb, fb2⟩ := e y hy
 unfold cmpI at h
 rw [ha, hb, Lib.compareBytes] at h
 rw [fa, fb2]
 by_cases h1 : a < b
 ·exact Nat.le_of_lt h1
 ·rw [if_neg h1] at h
  by_cases h2 : b < a
  ·rw [if_pos h2] at h; exact absurd h (by decide)
  ·exact Nat.le_of_not_lt (fun h3 => h2 h3)
theorem fan_at {S : List SpotP} (hs : Strict S) (hg : ∀ x ∈ S, goodS x) (k i : Nat) (h : i < S.length) : fb S[i] < k ↔ i < fanN S k := by
 have hp : S.Pairwise (fun x y => decide (fb y < k) = true → decide (fb x < k) = true) := by
  refine List.Pairwise.imp_of_mem (fun {a b} ha hb hab h1 => ?_) hs
  have := fb_le (hg a ha).1 (hg b hb).1 hab
  exact decide_eq_true (Nat.lt_of_le_of_lt this (of_decide_eq_true h1))
 have := countP_prefix (fun x => decide (fb x < k)) S hp i h
 rw [fanN, ← this, decide_eq_true_iff]
theorem addr_add (x : Addr) (m n : Nat) : (x.add m).add n = x.add (m + n) := by
 unfold Addr.add
 by_cases hm : m = 0
 ·subst hm; simp
 ·by_cases hn : n = 0
  ·subst hn; simp
  ·simp [hm, hn, Nat.add_assoc]
theorem C_sub {w : World} {x : Addr} {S : List SpotP} (h : Kd.C spotK w (some x) S.length S) (a b : Nat) (hab : a ≤ b) (hb : b ≤ S.length) : Kd.C spotK w (some (x.add (a * 2))) (b - a) ((S.drop a).take (b - a)) := by
 have hl : ((S.drop a).take (b - a)).length = b - a := by rw [List.length_take, List.length_drop]; omega
 refine ⟨hl, by have := h.2.1; omega, fun _ => ⟨_, rfl, fun j p hj => ?_⟩⟩
 obtain ⟨hjl, rfl⟩ := List.getElem?_eq_some_iff.1 hj
 have hjS : a + j < S.length := by rw [hl] at hjl; omega
 obtain ⟨ad, hA, hc⟩ := h.2.2 (by omega)
 obtain rfl : x = ad := Option.some.inj hA
 obtain ⟨cs, h1, h2, h3⟩ := hc (a + j) S[a + j] (List.getElem?_eq_getElem hjS)
 refine ⟨cs, h1, ?_, fun i u hu => ?_⟩
 ·rw [List.getElem_take, List.getElem_drop]; exact h2
 ·have := h3 i u hu
  rw [addr_add, show spotK.sz = 2 from rfl] at *
  rw [show a * 2 + (j * 2 + i) = (a + j) * 2 + i from by omega]; exact this
end Go.Proofs.Ytcfdplmapdgfmaa.Mine
