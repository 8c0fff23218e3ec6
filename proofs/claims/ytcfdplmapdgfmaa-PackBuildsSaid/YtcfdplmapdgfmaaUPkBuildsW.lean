import Derived.Test.YtcfdplmapdgfmaaUPkCut
import Derived.Test.YtcfdplmapdgfmaaUPkRBuild
set_option linter.unusedVariables false
set_option linter.unusedSimpArgs false
namespace Go.Proofs.Ytcfdplmapdgfmaa.Mine
open Go.RowKit Go.Proofs.YtcfdplmapdgfmaaW.PrintWords
theorem itemCut_le (x : ItemP) : (itemCut x).base.size ≤ 40 ∧ (itemCut x).data.size ≤ 400 := by
 constructor
 ·simp only [itemCut]; split
  ·rw [ByteArray.size_extract]; omega
  ·omega
 ·simp only [itemCut]; split
  ·rw [ByteArray.size_extract]; omega
  ·omega
theorem cutP_le (l : List ItemP) : ∀ x ∈ cutP l, x.base.size ≤ 40 ∧ x.data.size ≤ 400 := by
 intro x hx
 obtain ⟨y, _, rfl⟩ := List.mem_map.1 hx
 exact itemCut_le y
theorem sumD_all (l : List ItemP) (M : Nat) (h : ∀ x ∈ l, x.data.size ≤ M) : sumD l ≤ l.length * M := by
 induction l with
 | nil => simp [sumD]
 | cons x l ih =>
  have h1 := h x (List.mem_cons_self ..)
  have h2 := ih fun y hy => h y (List.mem_cons_of_mem _ hy)
  rw [show sumD (x :: l) = x.data.size + sumD l from rfl, List.length_cons, Nat.add_mul]; omega
theorem scanP_at (l : List ItemP) (j : Nat) (hj : j < l.length) (hj' : j < (scanP l).length) : (scanP l)[j] = ⟨l[j].base, l[j].data, (posAt l j : Nat)⟩ := by
 simp [scanP]
set_option maxRecDepth 100000 in
set_option maxHeartbeats 4000000 in
theorem packBuilds_calls (l : List ItemP) (A : Option Addr) (c : Nat) (w : World) (hC : Kd.C itemK w A l.length l) (hl : l.length ≤ 9223372036854775807) :
  Calls Try.prog 6 #[.slice A l.length c] w fun e w' => e = .returned (.bool true) ∧ Below w.heap.size w w' := by
 have hct := cut_calls l A c w hC hl
 obtain ⟨k, hk⟩ : ∃ k, k = cutP l := ⟨_, rfl⟩
 have hk20 : k.length ≤ 20 := by rw [hk, cutP_length]; omega
 have hkl : ∀ x ∈ k, x.base.size ≤ 40 ∧ x.data.size ≤ 400 := by rw [hk]; exact cutP_le l
 rw [← hk] at hct
 clear hk hC hl
 have hpl : (packB k).length ≤ 4194272 := by
  have := packB_len k 16101 (by omega) (fun x hx => by
   have h1 := hkl x hx
   have := itemB_len x.base x.data h1.1 (by omega)
   omega)
  have h2 : k.length * 16101 ≤ 20 * 16101 := Nat.mul_le_mul_right _ hk20
  omega
 have hsd : sumD k ≤ 16777216 := by
  have := sumD_all k 400 (fun x hx => (hkl x hx).2)
  omega
 have hd1 : ∀ x ∈ k, x.data.size ≤ 1048576 := fun x hx => by have := hkl x hx; omega
 have hd2 : ∀ x ∈ k, x.data.size ≤ 2000 := fun x hx => by have := hkl x hx; omega
 have hbu := fun A c w (h1 : Kd.C itemK w A k.length k) (h2 : k.length ≤ c) => build_calls k A c w h1 h2 (by omega) hd1 hpl
 have hrb := fun A c w (h1 : Kd.C itemK w A k.length k) => rbuild_calls k A c w h1 (by omega) (fun x hx => (hkl x hx).1) hd2 hpl
 have hsc := fun w h => scan_calls k w h (by omega) hd1 hpl hsd
 have hrs := fun w h => rscan_calls k w h (by omega) hd1 hpl hsd
 have hsl : (scanP k).length = k.length := z1h k
 have HSL := Lib.hid hsl
 have HK20 := Lib.hid hk20
 clear hpl hsd hd1 hd2 hkl hsl hk20
 by_cases hany : (k.any fun x => badBase x.base) = true
 ·simp only [hany, if_true] at hbu hrb
  clear hsc hrs
  go_enter Try.func6, Try.ntmps6
  go_wp2_with fail
  refine hct.mono ?_
  rintro e w1 ⟨A1, c1, A2, c2, rfl, hc1, hc2, hle, hb1⟩
  have H1 := Lib.hid (And.intro hc1 (And.intro hc2 (And.intro hle hb1)))
  clear hc1 hc2 hle hb1 hct
  go_wp2_with fail
  refine (hbu A1 c1 w1 H1.out.1 H1.out.2.2.1).mono ?_
  rintro e w2 ⟨rfl, hb2⟩
  have H2 := Lib.hid (And.intro (Kd.z0t H1.out.2.1 hb2) (z07 H1.out.2.2.2 hb2))
  clear hb2
  go_wp2_with fail
  refine (hrb A2 c2 w2 H2.out.1).mono ?_
  rintro e w3 ⟨rfl, hb3⟩
  have H3 := Lib.hid (z07 H2.out.2 hb3)
  clear hb3
  go_wp2_with fail
  refine (pkAwake_calls _).mono ?_
  rintro e w4 ⟨rfl, hb4⟩
  have H4 := Lib.hid (z07 H3.out hb4)
  clear hb4
  go_wp2_with fail
  go_ret
  exact ⟨rfl, H4.out⟩
 ·have hnb : ∀ x ∈ k, badBase x.base = false := fun x hx => by
   cases h : badBase x.base with
   | false => rfl
   | true => exact absurd (List.any_eq_true.2 ⟨x, hx, h⟩) hany
  have hany' : (k.any fun x => badBase x.base) = false := by simpa using hany
  simp only [hany', Bool.false_eq_true, if_false] at hbu hrb
  have hsc' := fun w => hsc w hnb
  have hrs' := fun w => hrs w hnb
  obtain ⟨P, hP⟩ : ∃ P, P = sb (packB k ++ sha (packB k)) := ⟨_, rfl⟩
  rw [← hP] at hbu hrb hsc' hrs'
  clear hP hsc hrs hany hany' hnb
  go_enter Try.func6, Try.ntmps6
  go_wp2_with fail
  refine hct.mono ?_
  rintro e w1 ⟨A1, c1, A2, c2, rfl, hc1, hc2, hle, hb1⟩
  have H1 := Lib.hid (And.intro hc1 (And.intro hc2 (And.intro hle hb1)))
  clear hc1 hc2 hle hb1 hct
  go_wp2_with fail
  refine (hbu A1 c1 w1 H1.out.1 H1.out.2.2.1).mono ?_
  rintro e w2 ⟨rfl, hb2⟩
  have H2 := Lib.hid (And.intro (Kd.z0t H1.out.2.1 hb2) (And.intro (Kd.z0t H1.out.1 hb2) (z07 H1.out.2.2.2 hb2)))
  clear hb2
  go_wp2_with fail
  refine (hrb A2 c2 w2 H2.out.1).mono ?_
  rintro e w3 ⟨rfl, hb3⟩
  have H3 := Lib.hid (And.intro (Kd.z0t H2.out.2.1 hb3) (z07 H2.out.2.2 hb3))
  clear hb3
  go_wp2_with fail
  refine (pkAwake_calls _).mono ?_
  rintro e w4 ⟨rfl, hb4⟩
  have H4 := Lib.hid (And.intro (Kd.z0t H3.out.1 hb4) (z07 H3.out.2 hb4))
  clear hb4
  go_wp2_with fail
  refine (hsc' _).mono ?_
  rintro e w5 ⟨A5, c5, rfl, hc5, hb5⟩
  have H5 := Lib.hid (And.intro hc5 (And.intro (Kd.z0t H4.out.1 hb5) (z07 H4.out.2 hb5)))
  clear hb5 hc5
  go_wp2_with fail
  refine (hrs' _).mono ?_
  rintro e w6 ⟨A6, c6, rfl, hc6, hb6⟩
  have H6 := Lib.hid (And.intro hc6 (And.intro (Kd.z0t H5.out.1 hb6) (And.intro (Kd.z0t H5.out.2.1 hb6) (z07 H5.out.2.2 hb6))))
  clear hb6 hc6
  go_wp2_with fail
  go_loopg [13] k.length (fun gg s13 wr => ∃ (j : Nat), j ≤ k.length ∧ gg = k.length - j ∧ s13 = .int .i64 j ∧ Hid (Below w6.heap.size w6 wr))
  case atStart =>
   exact ⟨0, Nat.zero_le _, by omega, by go_num, Below.refl _ _⟩
  case round =>
   obtain ⟨j, hj, hgk, rfl, HB⟩ := hrel
   have HG := Lib.hid hgk
   clear hgk
   have hk20 := HK20.out
   by_cases hlt : j < k.length
   ·have hltb : decide ((j : Int) < (k.length : Int)) = true := by simp; omega
    have hjs : j < (scanP k).length := by rw [HSL.out]; exact hlt
    have h1 := Kd.z0t H6.out.1 HB.out
    have h2 := Kd.z0t H6.out.2.1 HB.out
    have h3 := Kd.z0t H6.out.2.2.1 HB.out
    rw [← HSL.out] at h1 h2
    obtain ⟨x1, rfl, a0, a1, a2⟩ := itemC_at h1 j hjs
    obtain ⟨x2, rfl, b0, b1, b2⟩ := itemC_at h2 j hjs
    obtain ⟨x3, rfl, d0, d1, d2⟩ := itemC_at h3 j hlt
    rw [scanP_at k j hlt hjs] at a0 a1 a2 b0 b1 b2
    simp only at a0 a1 a2 b0 b1 b2
    clear h1 h2 h3 hjs
    go_wp2_with fail
    go_quiet (fail)
    go_wp2_with fail
    go_roundg (k.length - (j + 1))
    case measure => have := HG.out; omega
    case rel =>
     exact ⟨j + 1, by omega, rfl, by go_num, z05 HB.out _⟩
   ·obtain rfl : j = k.length := by omega
    have hltb : decide ((k.length : Int) < (k.length : Int)) = false := by simp
    go_wp2_with fail
    go_ret
    exact ⟨rfl, H6.out.2.2.2.trans (HB.out.mono H6.out.2.2.2.size)⟩
end Go.Proofs.Ytcfdplmapdgfmaa.Mine
