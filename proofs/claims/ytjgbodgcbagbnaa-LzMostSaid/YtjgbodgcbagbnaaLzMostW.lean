/- Texts up to so many bytes are pressed, longer ones not; one is spread just if it has at most so many: the walk of the law. -/
import Derived.Test.YtjgbodgcbagbnaaLzAwakeW
import Derived.Laws.BitsLemmas
import Derived.Laws.OwnMore
set_option linter.unusedVariables false
set_option linter.unusedSimpArgs false
namespace Go.Proofs.Ytjgbodgcbagbnaa.Mine
open Go.RowKit Go.Proofs.YtjgbodgcbagbnaaW.PrintWords

theorem and3 (n : Int) : bits .and .i64 n 3 = n % 4 := by
  have h3 : (BitVec.ofInt 64 3).toNat = 2 ^ 2 - 1 := by decide
  have key : (BitVec.ofInt 64 n &&& BitVec.ofInt 64 3).toNat = (n % ((2 ^ 64 : Nat) : Int)).toNat % 2 ^ 2 := by
    rw [BitVec.toNat_and, BitVec.toNat_ofInt, h3, Nat.and_two_pow_sub_one_eq_mod]
  show IntKind.i64.wrap ((BitVec.ofInt 64 n &&& BitVec.ofInt 64 3).toNat : Nat) = n % 4
  rw [key, IntKind.wrap_i64]
  omega
theorem made_u8 (k : Nat) : (madeCells (Value.int .u8 0).cells (k * 1)).toList = u8s (List.replicate k 0) := by
  have h : ∀ i, (Value.int IntKind.u8 0).cells[i % (Value.int IntKind.u8 0).cells.size]! = Value.int .u8 0 := fun i => by
    have : i % (Value.int IntKind.u8 0).cells.size = 0 := Nat.mod_one i
    rw [this]; rfl
  simp only [madeCells, h, u8s]
  simp [List.map_const']
theorem u8made : ∃ i, Try.prog.info? 5 = some i ∧ i.zero = some (.int .u8 0) ∧ i.size = 1 ∧ i.bytes = 1 := ⟨_, rfl, rfl, rfl, rfl⟩
theorem refnum_lit (z : Int) (n : Nat) (w : World) (hz : z = (n : Int)) (hn : n < 18446744073709551616) :
    Calls Try.prog 27 #[.int .u64 z] w fun e w' => e = .returned (.string (sb (num n))) ∧ Below w.heap.size w w' := by
  subst hz; exact refnum_calls n w hn
theorem press_much_lit (s : ByteArray) (w : World) (k : Nat) (hk : s.size = k) (hs : 1048576 < k) :
    Calls Try.prog 28 #[.string s] w fun e w' => e = .returned (.tuple #[.string ⟨#[]⟩, .int .i64 3]) ∧ Below w.heap.size w w' := press_much s w (by omega)
theorem spread_bad_lit (P : ByteArray) (N : Nat) (z : Int) (most : Nat) (w : World) (hz : z = (most : Int)) (hs : 1048576 < N) (hN : N ≤ 10000000) (hP : P = sb (num N)) :
    Calls Try.prog 30 #[.string P, .int .i64 z] w fun e w' => e = .returned (.tuple #[.string ⟨#[]⟩, .int .i64 6]) ∧ Below w.heap.size w w' := by
  subst hz; exact spread_bad P N most w hs hN hP
theorem spread_lit (s P : ByteArray) (hP : P = sb (pressP (bs s))) (z : Int) (most k : Nat) (w : World) (hz : z = (most : Int)) (hk : s.size = k) (hs : k ≤ 1048576) (hmb : most ≤ 1000000000) :
    Calls Try.prog 30 #[.string P, .int .i64 z] w fun e w' => e = .returned (if most < k then .tuple #[.string ⟨#[]⟩, .int .i64 3] else .tuple #[.string s, .int .i64 0]) ∧ Below w.heap.size w w' := by
  subst hz hP hk
  by_cases h : most < s.size
  · rw [if_pos h]
    have st := (mkP_steps (bs s) _ 0 0 rfl (Nat.le_refl _) (Nat.zero_le _)).fits (by rw [bs_length]; omega) (bs_lt s)
    rw [bs_length] at st
    exact spread_much _ s.size (mkP (bs s) 0 0) most w hs h (by rw [pressP, bs_length]) st.2.1 (by omega)
  · rw [if_neg h]
    exact press_spread s most w hs (by omega) hmb
set_option maxRecDepth 100000 in
set_option maxHeartbeats 2000000 in
theorem lzMost_calls (n most : Int) (w : World) :
    Calls Try.prog 12 #[.int .i64 n, .int .i64 most] w fun e w' => e = .returned (.bool true) ∧ Below w.heap.size w w' := by
  obtain ⟨j, hj, hj2⟩ : ∃ j : Nat, bits .and .i64 n 3 = (j : Int) ∧ j ≤ 3 := ⟨(n % 4).toNat, by rw [and3]; omega, by omega⟩
  obtain ⟨i, hi, hi2⟩ : ∃ i : Nat, bits .and .i64 most 3 = (i : Int) ∧ i ≤ 3 := ⟨(most % 4).toNat, by rw [and3]; omega, by omega⟩
  obtain ⟨k, hk⟩ : ∃ k : Nat, k = 1048575 + j := ⟨_, rfl⟩
  have hkz : (1048575 : Int) + (j : Int) = (k : Int) := by omega
  obtain ⟨Z, hZ⟩ : ∃ Z, Z = sb (List.replicate k 0) := ⟨_, rfl⟩
  have hZs : Z.size = k := by rw [hZ, sb_size, List.length_replicate]
  obtain ⟨inf, i1, i2, i3, i4⟩ := u8made
  have hk1 : 1048575 ≤ k := by omega
  have hk2 : k ≤ 1048578 := by omega
  have HZ := Lib.hid (And.intro hZ hZs)
  clear hk
  have HI := Lib.hid (And.intro i1 (And.intro i2 (And.intro i3 i4)))
  clear hZ hZs i1 i2 i3 i4
  go_enter Try.func12, Try.ntmps12
  go_wp2_with (at_make; refine wpList_make_full _ rfl _ _ 46 rfl w.heap.size 5 inf (.int .u8 0) 1 Try.underlying46 HI.out.1 HI.out.2.1 HI.out.2.2.1 .i64 .i64 _ _ k rfl rfl rfl rfl (by rw [HI.out.2.2.2]; omega) (by unfold maxLen; omega) (Nat.le_refl _) ?_; intro w1 hown hg1; rw [made_u8] at hown; have hcv := conv_own Try.underlying46 Try.underlying5 Try.underlying9 hown; rw [← HZ.out.1] at hcv; have HB1 := Lib.hid hg1; clear hown hg1)
  have HW1 := Lib.hid ((Below.refl w.heap.size w).grown HB1.out (Nat.le_refl _) (fun k e => by cases e))
  clear hcv HB1 HI
  by_cases hbig : 1048576 < k
  · have hbb : decide ((k : Int) > 1048576) = true := by simp; omega
    refine (press_much_lit Z _ k HZ.out.2 hbig).mono ?_
    rintro e w2 ⟨rfl, hb2⟩
    have HW2 := Lib.hid (HW1.out.trans (hb2.mono HW1.out.size))
    clear hb2 HW1
    go_wp2_with fail
    refine (refnum_lit _ k _ (by omega) (by omega)).mono ?_
    rintro e w3 ⟨rfl, hb3⟩
    have HW3 := Lib.hid (HW2.out.trans (hb3.mono HW2.out.size))
    clear hb3 HW2
    go_wp2_with fail
    refine (spread_bad_lit _ k _ k _ (by omega) hbig (by omega) rfl).mono ?_
    rintro e w4 ⟨rfl, hb4⟩
    have HW4 := Lib.hid (HW3.out.trans (hb4.mono HW3.out.size))
    clear hb4 HW3
    go_wp2_with fail
    refine (lzAwake_calls _).mono ?_
    rintro e w5 ⟨rfl, hb5⟩
    have HW5 := Lib.hid (HW4.out.trans (hb5.mono HW4.out.size))
    clear hb5 HW4
    go_wp2_with fail
    go_ret
    exact ⟨by first | rfl | (simp; done) | (simp; omega), HW5.out⟩
  · have hbb : decide ((k : Int) > 1048576) = false := by simp; omega
    obtain ⟨p, hp⟩ : ∃ p, p = sb (pressP (bs Z)) := ⟨_, rfl⟩
    have HP := Lib.hid hp
    have hpr := press_calls Z w1 (by rw [HZ.out.2]; omega)
    rw [← hp] at hpr
    clear hp
    refine hpr.mono ?_
    clear hpr
    rintro e w2 ⟨rfl, hb2⟩
    have HW2 := Lib.hid (HW1.out.trans (hb2.mono HW1.out.size))
    clear hb2 HW1
    have hm1 : (1 : Int) ≤ (k : Int) := by omega
    have em : (k : Int) - 1 + (i : Int) = ((k - 1 + i : Nat) : Int) := by omega
    go_wp2_with fail
    refine (spread_lit Z p HP.out _ (k - 1 + i) k _ (by omega) HZ.out.2 (by omega) (by omega)).mono ?_
    rintro e w3 ⟨rfl, hb3⟩
    have HW3 := Lib.hid (HW2.out.trans (hb3.mono HW2.out.size))
    clear hb3 HW2
    by_cases hlt : k - 1 + i < k
    · rw [if_pos hlt]
      have hgb : decide ((k : Int) - 1 + (i : Int) ≥ (k : Int)) = false := by simp; omega
      go_wp2_with fail
      refine (lzAwake_calls _).mono ?_
      rintro e w5 ⟨rfl, hb5⟩
      have HW5 := Lib.hid (HW3.out.trans (hb5.mono HW3.out.size))
      clear hb5 HW3
      go_wp2_with fail
      go_ret
      exact ⟨by first | rfl | (simp; done) | (simp; omega), HW5.out⟩
    · rw [if_neg hlt]
      have hgb : decide ((k : Int) - 1 + (i : Int) ≥ (k : Int)) = true := by simp; omega
      have hzk : ((Z.size : Int) == (k : Int)) = true := by rw [HZ.out.2]; simp
      go_wp2_with fail
      refine (lzAwake_calls _).mono ?_
      rintro e w5 ⟨rfl, hb5⟩
      have HW5 := Lib.hid (HW3.out.trans (hb5.mono HW3.out.size))
      clear hb5 HW3
      go_wp2_with fail
      go_ret
      exact ⟨by first | rfl | (simp; done) | (simp; omega), HW5.out⟩
end Go.Proofs.Ytjgbodgcbagbnaa.Mine
