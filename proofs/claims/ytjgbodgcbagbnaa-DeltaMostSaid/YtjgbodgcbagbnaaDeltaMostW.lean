/- A text is made just if it has at most so many bytes, and the base is as long as is said: the walk of the law. -/
import Derived.Test.YtjgbodgcbagbnaaDeltaAwakeW
import Derived.Laws.BitsLemmas
set_option linter.unusedVariables false
set_option linter.unusedSimpArgs false
namespace Go.Proofs.Ytjgbodgcbagbnaa.Mine
open Go.RowKit Go.Proofs.YtjgbodgcbagbnaaW.PrintWords

theorem few09_calls (s : ByteArray) (w : World) (hs : s.size ≤ 140737488351232) :
    Calls Try.prog 23 #[.string s] w fun e w' => ∃ t, e = .returned (.string t) ∧ t = (if 400 < s.size then s.extract 0 400 else s) ∧ w = w' := by
  by_cases h : 400 < s.size
  · have hb : decide ((s.size : Int) > 400) = true := by simp; omega
    go_enter Try.func23, Try.ntmps23
    go_wp2_with fail
    go_ret
    exact ⟨_, rfl, rfl, rfl⟩
  · have hb : decide ((s.size : Int) > 400) = false := by simp; omega
    go_enter Try.func23, Try.ntmps23
    go_wp2_with fail
    go_ret
    exact ⟨_, rfl, rfl, rfl⟩
def fewS (s : ByteArray) : ByteArray := if 400 < s.size then s.extract 0 400 else s
theorem fewS_le (s : ByteArray) : (fewS s).size ≤ 400 := by
  unfold fewS; split
  · rw [ByteArray.size_extract]; omega
  · omega
theorem and511 (n : Int) : bits .and .i64 n 511 = n % 512 := by
  have h127 : (BitVec.ofInt 64 511).toNat = 2 ^ 9 - 1 := by decide
  have key : (BitVec.ofInt 64 n &&& BitVec.ofInt 64 511).toNat = (n % ((2 ^ 64 : Nat) : Int)).toNat % 2 ^ 9 := by
    rw [BitVec.toNat_and, BitVec.toNat_ofInt, h127, Nat.and_two_pow_sub_one_eq_mod]
  show IntKind.i64.wrap ((BitVec.ofInt 64 n &&& BitVec.ofInt 64 511).toNat : Nat) = n % 512
  rw [key, IntKind.wrap_i64]
  omega
set_option maxRecDepth 100000 in
set_option maxHeartbeats 1000000 in
theorem deltaMost_calls (b s : ByteArray) (most : Int) (w : World) (hb : b.size ≤ 140737488351232) (hs : s.size ≤ 140737488351232) :
    Calls Try.prog 9 #[.string b, .string s, .int .i64 most] w fun e w' => e = .returned (.bool true) ∧ Below w.heap.size w w' := by
  obtain ⟨m, hm, hm2⟩ : ∃ m : Nat, bits .and .i64 most 511 = (m : Int) ∧ m ≤ 511 := ⟨(most % 512).toNat, by rw [and511]; omega, by omega⟩
  go_enter Try.func9, Try.ntmps9
  go_wp2_with fail
  refine (few09_calls b _ hb).mono ?_
  rintro e w1 ⟨B, rfl, hB, rfl⟩
  have hBs : B.size ≤ 400 := by rw [hB]; exact fewS_le b
  clear hB
  go_wp2_with fail
  refine (few09_calls s _ hs).mono ?_
  rintro e w1 ⟨S, rfl, hS, rfl⟩
  have hSs : S.size ≤ 400 := by rw [hS]; exact fewS_le s
  clear hS
  go_wp2_with fail
  refine (make_calls B S _ (by omega) (by omega)).mono ?_
  rintro e w2 ⟨rfl, hb2⟩
  have hbad := apply_bad 3000 B S (B ++ ⟨#[120]⟩) 1000 (by omega) (by omega) (by rw [ByteArray.size_append]; show B.size + 1 ≤ 2000; omega) (by omega) (by rw [ByteArray.size_append]; show B.size + 1 ≠ B.size; omega)
  have hbad2 := fun w => apply_calls 3000 (B ++ ⟨#[120]⟩) (sb (makeD (bs B) (bs S))) ((1000 : Nat) : Int) _ _ w hbad
  have hsz1 : (⟨#[120]⟩ : ByteArray).size = 1 := rfl
  obtain ⟨d, hd⟩ : ∃ d, d = sb (makeD (bs B) (bs S)) := ⟨_, rfl⟩
  have HD := Lib.hid hd
  rw [← hd] at hbad2 ⊢
  have HBAD := Lib.hid hbad2
  have HB2 := Lib.hid hb2
  clear hbad hbad2 hb2 hd
  by_cases hle : S.size ≤ m
  · have hok := apply_ok 3000 (by omega) B S m (by omega) (by omega) (by omega) hle
    rw [← HD.out] at hok
    have hap := fun w => apply_calls 3000 B d (m : Int) _ _ w hok
    have HOK := Lib.hid hap
    have hleb : decide (S.size ≤ m) = true := by simpa using hle
    clear hok hap
    go_wp2_with fail
    refine (HOK.out _).mono ?_
    rintro e w3 ⟨rfl, hb3⟩
    have HB3 := Lib.hid hb3
    clear hb3
    go_wp2_with fail
    refine (HBAD.out _).mono ?_
    rintro e w4 ⟨rfl, hb4⟩
    have HB4 := Lib.hid hb4
    clear hb4
    go_wp2_with fail
    refine (deltaAwake_calls _).mono ?_
    rintro e w5 ⟨rfl, hb5⟩
    have HB5 := Lib.hid hb5
    clear hb5
    go_wp2_with fail
    go_ret
    exact ⟨rfl, HB2.out.trans ((HB3.out.mono HB2.out.size).trans ((HB4.out.mono (Nat.le_trans HB2.out.size HB3.out.size)).trans (HB5.out.mono (Nat.le_trans HB2.out.size (Nat.le_trans HB3.out.size HB4.out.size)))))⟩
  · have hok := apply_much 3000 B S m (by omega) (by omega) (by omega) (by omega)
    rw [← HD.out] at hok
    have hap := fun w => apply_calls 3000 B d (m : Int) _ _ w hok
    have HOK := Lib.hid hap
    have hleb : decide (S.size ≤ m) = false := by simpa using hle
    clear hok hap
    go_wp2_with fail
    refine (HOK.out _).mono ?_
    rintro e w3 ⟨rfl, hb3⟩
    have HB3 := Lib.hid hb3
    clear hb3
    go_wp2_with fail
    refine (HBAD.out _).mono ?_
    rintro e w4 ⟨rfl, hb4⟩
    have HB4 := Lib.hid hb4
    clear hb4
    go_wp2_with fail
    refine (deltaAwake_calls _).mono ?_
    rintro e w5 ⟨rfl, hb5⟩
    have HB5 := Lib.hid hb5
    clear hb5
    go_wp2_with fail
    go_ret
    exact ⟨rfl, HB2.out.trans ((HB3.out.mono HB2.out.size).trans ((HB4.out.mono (Nat.le_trans HB2.out.size HB3.out.size)).trans (HB5.out.mono (Nat.le_trans HB2.out.size (Nat.le_trans HB3.out.size HB4.out.size)))))⟩
end Go.Proofs.Ytjgbodgcbagbnaa.Mine
