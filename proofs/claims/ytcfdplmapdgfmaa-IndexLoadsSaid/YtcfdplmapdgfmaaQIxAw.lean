import Derived.Test.YtcfdplmapdgfmaaQIxFind2
import Derived.Test.YtcfdplmapdgfmaaQPkRGet
set_option linter.unusedVariables false
set_option linter.unusedSimpArgs false
namespace Go.Proofs.Ytcfdplmapdgfmaa.Mine
open Go.RowKit Go.Proofs.YtcfdplmapdgfmaaW.PrintWords
theorem sha_short (l : List Nat) (h : (pad l l.length).length = 64) : sha l = outB (stir begin8 ((pad l l.length).take 64)) := by
 rw [sha_eq, eat_step _ _ (by omega), eat_end _ _ (by rw [List.length_drop]; omega)]
theorem sha_a : (sha [97]).take 2 = [202, 151] := by
 rw [sha_short _ (by decide)]
 decide +kernel
theorem sha_b : (sha [98]).take 2 = [62, 35] := by
 rw [sha_short _ (by decide)]
 decide +kernel
theorem sha_c : (sha [99]).take 2 = [46, 125] := by
 rw [sha_short _ (by decide)]
 decide +kernel
theorem outB_lt (v : List Nat) : ∀ c ∈ outB v, c < 256 := by
 intro c hc
 rw [outB, List.mem_flatMap] at hc
 obtain ⟨x, _, hx⟩ := hc
 simp [wordB] at hx
 omega
theorem sha_lt (l : List Nat) : ∀ c ∈ sha l, c < 256 := by rw [sha_eq]; exact outB_lt _
def sumX (n : Nat) : ByteArray := sb (sha [n])
theorem sumX_size (n : Nat) : (sumX n).size = 32 := by rw [sumX, z09, sha_length]
theorem sumX_ne {m n : Nat} {u v : List Nat} (hm : (sha [m]).take 2 = u) (hn : (sha [n]).take 2 = v) (h : u ≠ v) : sumX m ≠ sumX n := fun e => by
 have := congrArg bs e
 rw [sumX, sumX, bs_sb _ (sha_lt _), bs_sb _ (sha_lt _)] at this
 rw [this, hn] at hm
 exact h hm.symm
theorem sum_lit (s : ByteArray) (n : Nat) (w : World) (hs : s = ⟨#[UInt8.ofNat n]⟩) (hn : n < 256) :
  Calls Try.prog 37 #[.string s] w fun e w' => e = .returned (.string (sumX n)) ∧ Below w.heap.size w w' := by
 have h := refsum_calls s w (by rw [hs]; show 1 ≤ _; decide)
 have hb : bs s = [n] := by
  rw [hs]; unfold bs; simp; omega
 rw [← sha_ref, hb] at h
 exact h
set_option maxRecDepth 100000 in
set_option maxHeartbeats 400000 in
theorem z0g (w : World) : Calls Try.prog 31 #[] w fun e w' => e = .returned (.bool true) ∧ Below w.heap.size w w' := by
 have hab : sumX 97 ≠ sumX 98 := sumX_ne sha_a sha_b (by decide)
 have hca : sumX 99 ≠ sumX 97 := sumX_ne sha_c sha_a (by decide)
 have hcb : sumX 99 ≠ sumX 98 := sumX_ne sha_c sha_b (by decide)
 have s1 := fun w => sum_lit ⟨#[97]⟩ 97 w rfl (by decide)
 have s2 := fun w => sum_lit ⟨#[98]⟩ 98 w rfl (by decide)
 have s3 := fun w => sum_lit ⟨#[99]⟩ 99 w rfl (by decide)
 have z1 := sumX_size 97
 have z2 := sumX_size 98
 obtain ⟨a, ha⟩ : ∃ a, a = sumX 97 := ⟨_, rfl⟩
 obtain ⟨b, hb⟩ : ∃ a, a = sumX 98 := ⟨_, rfl⟩
 obtain ⟨c, hc⟩ : ∃ a, a = sumX 99 := ⟨_, rfl⟩
 rw [← ha] at hab hca s1 z1
 rw [← hb] at hab hcb s2 z2
 rw [← hc] at hca hcb s3
 have HNE := Lib.hid (And.intro hab (And.intro hca hcb))
 have HZ := Lib.hid (And.intro z1 z2)
 clear ha hb hc hab hca hcb z1 z2
 go_enter Try.func31, Try.ntmps31
 go_wp2_with fail
 refine (s1 _).mono ?_
 rintro e w1 ⟨rfl, hb1⟩
 have HB1 := Lib.hid hb1
 clear hb1
 go_wp2_with fail
 refine (s2 _).mono ?_
 rintro e w2 ⟨rfl, hb2⟩
 have HB2 := Lib.hid (HB1.out.trans (hb2.mono HB1.out.size))
 clear hb2
 go_wp2_with fail
 have hrow : RowB (w2.alloc (.cells #[.string a, .int .i64 7, .string b, .int .i64 9] 78)) w2.heap.size [⟨a, 7⟩, ⟨b, 9⟩] := ⟨_, blk_new _ _, fun j hj => by
  match j, hj with
  | 0, _ => exact ⟨rfl, rfl⟩
  | 1, _ => exact ⟨rfl, rfl⟩⟩
 have hrd := RowV.reads (.inr ⟨_, rfl, hrow⟩) (by show 2 ≤ _; decide)
 have hnw := ixNew_calls b [⟨a, 7⟩, ⟨b, 9⟩] _ 2 _ hrd (by show 2 ≤ _; decide) HZ.out.2
 have hgood : ∀ x ∈ [(⟨a, 7⟩ : SpotP), ⟨b, 9⟩], goodS x := by
  intro x hx
  simp only [List.mem_cons, List.not_mem_nil, or_false] at hx
  rcases hx with rfl | rfl
  ·exact ⟨HZ.out.1, by show (0 : Int) ≤ 7; decide, by show (7 : Int) ≤ _; decide⟩
  ·exact ⟨HZ.out.2, by show (0 : Int) ≤ 9; decide, by show (9 : Int) ≤ _; decide⟩
 have HGD := Lib.hid hgood
 clear hrow hrd hgood
 refine hnw.mono ?_
 rintro e w3 ⟨hb3, (⟨_, hno⟩ | ⟨g, S, rfl, hp, hst, _, hix⟩)⟩
 ·exact absurd ⟨HGD.out, by simp; exact HNE.out.1⟩ hno
 have HB3 := Lib.hid (below_step (z01 HB2.out _) hb3)
 have hSg : ∀ x ∈ S, goodS x := fun x hx => HGD.out x (hp.mem_iff.1 hx)
 have HI := Lib.hid hix
 have HS := Lib.hid (And.intro hst (And.intro hSg hp))
 have hSl : S.length = 2 := hp.length_eq
 have HSL := Lib.hid hSl
 clear hb3 hix hst hSg hp hSl hnw
 go_wp2_with fail
 refine (ixFind_calls S b a g w3 HI.out HS.out.1 HS.out.2.1 (by rw [HSL.out]; decide)).mono ?_
 rintro e w4 ⟨hb4, hor⟩
 rcases hor.symm with ⟨hno, rfl⟩ | ⟨y, hy, hya, rfl⟩
 ·exact absurd rfl (hno ⟨a, 7⟩ (HS.out.2.2.mem_iff.2 (by simp)))
 have hy7 : y.pos = 7 := by
  have := HS.out.2.2.mem_iff.1 hy
  simp only [List.mem_cons, List.not_mem_nil, or_false] at this
  rcases this with rfl | rfl
  ·rfl
  ·exact absurd hya (Ne.symm HNE.out.1)
 rw [hy7]
 have HB4 := Lib.hid (HB3.out.trans (hb4.mono HB3.out.size))
 have HI4 := Lib.hid (HI.out.below hb4)
 clear hb4 hy hya hy7
 go_wp2_with fail
 refine (s3 _).mono ?_
 rintro e w5 ⟨rfl, hb5⟩
 have HB5 := Lib.hid (HB4.out.trans (hb5.mono HB4.out.size))
 have HI5 := Lib.hid (HI4.out.below hb5)
 clear hb5
 go_wp2_with fail
 refine (ixFind_calls S b c g w5 HI5.out HS.out.1 HS.out.2.1 (by rw [HSL.out]; decide)).mono ?_
 rintro e w6 ⟨hb6, (⟨y2, hy2, hyc, rfl⟩ | ⟨_, rfl⟩)⟩
 ·have := HS.out.2.2.mem_iff.1 hy2
  simp only [List.mem_cons, List.not_mem_nil, or_false] at this
  rcases this with rfl | rfl
  ·exact absurd hyc.symm HNE.out.2.1
  ·exact absurd hyc.symm HNE.out.2.2
 have HB6 := Lib.hid (HB5.out.trans (hb6.mono HB5.out.size))
 have HI6 := Lib.hid (HI5.out.below hb6)
 clear hb6
 go_wp2_with fail
 refine (pack_calls S b g w6 HI6.out).mono ?_
 rintro e w7 ⟨rfl, rfl⟩
 go_wp2_with fail
 refine (all_calls S b g _ HI6.out (by rw [HSL.out]; decide)).mono ?_
 rintro e w8 ⟨A8, c8, rfl, _, hb8⟩
 have HB8 := Lib.hid (HB6.out.trans (hb8.mono HB6.out.size))
 clear hb8
 rw [HSL.out]
 go_wp2_with fail
 go_ret
 exact ⟨rfl, HB8.out⟩
end Go.Proofs.Ytcfdplmapdgfmaa.Mine
