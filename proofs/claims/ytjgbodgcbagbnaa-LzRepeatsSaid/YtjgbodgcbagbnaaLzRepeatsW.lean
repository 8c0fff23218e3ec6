/- A text that comes again and again, and of which each four bytes stand once, is told once, and as one repetition: the walk of the law. -/
import Derived.Test.YtjgbodgcbagbnaaLzAwakeW
import Derived.Test.YtjgbodgcbagbnaaLoneC
import Derived.Laws.BitsLemmas
set_option linter.unusedVariables false
set_option linter.unusedSimpArgs false
namespace Go.Proofs.Ytjgbodgcbagbnaa.Mine
open Go.RowKit Go.Proofs.YtjgbodgcbagbnaaW.PrintWords

theorem and63 (n : Int) : bits .and .i64 n 63 = n % 64 := by
  have h3 : (BitVec.ofInt 64 63).toNat = 2 ^ 6 - 1 := by decide
  have key : (BitVec.ofInt 64 n &&& BitVec.ofInt 64 63).toNat = (n % ((2 ^ 64 : Nat) : Int)).toNat % 2 ^ 6 := by
    rw [BitVec.toNat_and, BitVec.toNat_ofInt, h3, Nat.and_two_pow_sub_one_eq_mod]
  show IntKind.i64.wrap ((BitVec.ofInt 64 n &&& BitVec.ofInt 64 63).toNat : Nat) = n % 64
  rw [key, IntKind.wrap_i64]
  omega
theorem refnum_lit2 (z : Int) (n : Nat) (w : World) (hz : z = (n : Int)) (hn : n < 18446744073709551616) :
    Calls Try.prog 27 #[.int .u64 z] w fun e w' => e = .returned (.string (sb (num n))) ∧ Below w.heap.size w w' := by
  subst hz; exact refnum_calls n w hn
set_option maxRecDepth 100000 in
theorem repNum_calls (z : Int) (n : Nat) (w : World) (hz : z = (n : Int)) (hn : n ≤ 1000000) :
    Calls Try.prog 33 #[.int .i64 z] w fun e w' => e = .returned (.string (sb (num n))) ∧ Below w.heap.size w w' := by
  subst hz
  go_enter Try.func33, Try.ntmps33
  go_wp2_with fail
  refine (refnum_lit2 _ n _ (by omega) (by omega)).mono ?_
  rintro e w1 ⟨rfl, hb1⟩
  have HB1 := Lib.hid hb1
  clear hb1
  go_wp2_with fail
  go_ret
  exact ⟨rfl, HB1.out⟩
theorem numbs (n : Nat) : bs (sb (num n)) = num n := bs_sb _ (num_lt n)
/-- The loop and what follows it, of a text of at most 60 bytes. -/
def cut60 (s : ByteArray) : ByteArray := if 60 < s.size then s.extract 0 60 else s
theorem cut60_le (s : ByteArray) : (cut60 s).size ≤ 60 := by
  unfold cut60; split
  · rw [ByteArray.size_extract]; omega
  · omega
set_option maxRecDepth 100000 in
set_option maxHeartbeats 2000000 in
theorem lzRepeats_calls (s : ByteArray) (times : Int) (w : World) (hs : s.size ≤ 140737488351232) :
    Calls Try.prog 11 #[.string s, .int .i64 times] w fun e w' => e = .returned (.bool true) ∧ Below w.heap.size w w' := by
  obtain ⟨j, hj, hj2⟩ : ∃ j : Nat, bits .and .i64 times 63 = (j : Int) ∧ j ≤ 63 := ⟨(times % 64).toNat, by rw [and63]; omega, by omega⟩
  obtain ⟨t0, ht0⟩ : ∃ t0, t0 = fewT s := ⟨_, rfl⟩
  have hts0 : t0.size ≤ 600 := by rw [ht0]; exact fewT_le s
  have hfew := fun w => few04_is s w hs
  rw [← ht0] at hfew
  have HF := Lib.hid hfew
  clear hfew ht0
  obtain ⟨t, ht⟩ : ∃ t, t = cut60 t0 := ⟨_, rfl⟩
  have hts : t.size ≤ 60 := by rw [ht]; exact cut60_le t0
  have HT := Lib.hid ht
  clear ht
  go_enter Try.func11, Try.ntmps11
  go_wp2_with fail
  refine (HF.out _).mono ?_
  rintro e w1 ⟨rfl, rfl⟩
  go_upto_if 18 with (fail)
  go_cut [5] from 19 to 20 (fun s5 wz => s5 = .string t ∧ wz = w)
  case first =>
    by_cases h60 : 60 < t0.size
    · have h60b : decide ((t0.size : Int) > 60) = true := by simp; omega
      have e60 : t0.extract 0 60 = t := by rw [HT.out, cut60, if_pos h60]
      go_wp2_with fail
      go_meet
      exact ⟨by first | rfl | exact congrArg Value.string e60, rfl⟩
    · have h60b : decide ((t0.size : Int) > 60) = false := by simp; omega
      have e60 : t0 = t := by rw [HT.out, cut60, if_neg h60]
      go_wp2_with fail
      go_meet
      exact ⟨by first | rfl | exact congrArg Value.string e60, rfl⟩
  case rest =>
    obtain ⟨rfl, hw⟩ := hcut
    have hw2 := hw.symm
    clear hw
    subst hw2
    clear HT HF hts0
    go_wp2_with fail
    go_loopg [7, 8] (j + 2) (fun gg s7 s8 wr => ∃ (i : Nat) (A : ByteArray), i ≤ j + 2 ∧ gg = j + 2 - i ∧ s7 = .string A ∧ s8 = .int .i64 i ∧ A.size ≤ 4000 ∧ Hid (bs A = repT (bs t) i) ∧ Hid (wr = w))
    case atStart =>
      exact ⟨0, ⟨#[]⟩, Nat.zero_le _, rfl, rfl, rfl, by decide, rfl, rfl⟩
    case round =>
      obtain ⟨i, A, hi, hg, rfl, rfl, hA, HA, HW⟩ := hrel
      have HG := Lib.hid hg
      clear hg
      by_cases hlt : i < j + 2
      · have hltb : decide ((i : Int) < (j : Int) + 2) = true := by simp; omega
        have hsz : (A ++ t).size ≤ 4000 := by
          have e : bs (A ++ t) = repT (bs t) (i + 1) := by rw [bs_append, HA.out]; rfl
          rw [← bs_length, e, repT_length, bs_length]
          have := Nat.mul_le_mul (show i + 1 ≤ 65 from by omega) hts
          omega
        have HS := Lib.hid hsz
        clear hsz
        go_wp2_with fail
        go_roundg (j + 2 - (i + 1))
        case measure => have := HG.out; omega
        case rel =>
          refine ⟨i + 1, A ++ t, by omega, rfl, rfl, by go_num, HS.out, ?_, HW.out⟩
          unfold Hid
          rw [bs_append, HA.out]; rfl
      · have hltb : decide ((i : Int) < (j : Int) + 2) = false := by simp; omega
        obtain rfl : i = j + 2 := by omega
        obtain ⟨La, hLa⟩ : ∃ La, La = (j + 2) * t.size := ⟨_, rfl⟩
        have hAs : A.size = La := by rw [← bs_length, HA.out, repT_length, bs_length, hLa]
        have hl2 : 2 * t.size ≤ La := by rw [hLa]; exact Nat.mul_le_mul_right _ (by omega)
        have hl3 : La ≤ 4000 := by omega
        obtain ⟨b, hb⟩ : ∃ b : Bool, b = true → True := ⟨true, fun _ => True.intro⟩
        have hpr := fun w => press_calls A w (by omega)
        have hsp : ∀ (z : Int) w, z = (La : Int) → Calls Try.prog 30 #[.string (sb (pressP (bs A))), .int .i64 z] w fun e w' => e = .returned (.tuple #[.string A, .int .i64 0]) ∧ Below w.heap.size w w' := fun z w hz => by
          subst hz; exact press_spread A La w (by omega) (by omega) (by omega)
        have hwr := HW.out
        subst hwr
        have hrp : LoneT (bs t) → pressP (bs A) = num La ++ (num t.size ++ bs t ++ num t.size ++ num (La - t.size - 4)) := fun h => by
          have := rep_press (bs t) (j + 2) (by omega) (by rw [bs_length]; omega) h
          rw [bs_length, ← hLa] at this
          rw [HA.out]; exact this
        have HRP := Lib.hid hrp
        obtain ⟨p, hp⟩ : ∃ p, p = sb (pressP (bs A)) := ⟨_, rfl⟩
        rw [← hp] at hpr hsp
        have HP := Lib.hid hp
        have HPR := Lib.hid hpr
        have HSP := Lib.hid hsp
        clear hpr hsp hp hrp hb b HA HG hA hLa
        go_wp2_with fail
        refine (HPR.out _).mono ?_
        rintro e w1 ⟨rfl, hb1⟩
        have W1 := Lib.hid hb1
        clear hb1
        go_wp2_with fail
        refine (HSP.out _ _ (by omega)).mono ?_
        rintro e w2 ⟨rfl, hb2⟩
        have W2 := Lib.hid (W1.out.trans (hb2.mono W1.out.size))
        clear hb2 W1
        go_wp2_with fail
        refine (lzAwake_calls _).mono ?_
        rintro e w3 ⟨rfl, hb3⟩
        have W3 := Lib.hid (W2.out.trans (hb3.mono W2.out.size))
        clear hb3 W2
        have hqq : (A.toList != A.toList) = false := by simp
        go_wp2_with fail
        refine (lone_calls t _ (by omega)).mono ?_
        rintro e w4 ⟨b, rfl, hlone, hb4⟩
        have W4 := Lib.hid (W3.out.trans (hb4.mono W3.out.size))
        clear hb4 W3
        cases b with
        | false =>
          go_wp2_with fail
          go_ret
          exact ⟨rfl, W4.out⟩
        | true =>
          have hl := hlone rfl
          have h4 : 4 ≤ t.size := by have := hl.1; rwa [bs_length] at this
          have hpp := HRP.out hl
          clear hlone hl
          obtain ⟨AL, hAL⟩ : ∃ x, x = sb (num La) := ⟨_, rfl⟩
          obtain ⟨AT, hAT⟩ : ∃ x, x = sb (num t.size) := ⟨_, rfl⟩
          obtain ⟨AR, hAR⟩ : ∃ x, x = sb (num (La - t.size - 4)) := ⟨_, rfl⟩
          have hpe : p = ((((AL ++ AT) ++ t) ++ AT) ++ AR) := by
            rw [HP.out, hpp, hAL, hAT, hAR]
            simp only [sb_append, sb_bs, ByteArray.append_assoc]
          have sL : AL.size ≤ 10 := by rw [hAL, sb_size]; exact num_length _ (by omega)
          have sT : AT.size ≤ 10 := by rw [hAT, sb_size]; exact num_length _ (by omega)
          have sR : AR.size ≤ 10 := by rw [hAR, sb_size]; exact num_length _ (by omega)
          have cL : ∀ (z : Int) w, z = (La : Int) → Calls Try.prog 33 #[.int .i64 z] w fun e w' => e = .returned (.string AL) ∧ Below w.heap.size w w' := fun z w hz => by rw [hAL]; exact repNum_calls z _ w hz (by omega)
          have cT : ∀ (z : Int) w, z = (t.size : Int) → Calls Try.prog 33 #[.int .i64 z] w fun e w' => e = .returned (.string AT) ∧ Below w.heap.size w w' := fun z w hz => by rw [hAT]; exact repNum_calls z _ w hz (by omega)
          have cR : ∀ (z : Int) w, z = ((La - t.size - 4 : Nat) : Int) → Calls Try.prog 33 #[.int .i64 z] w fun e w' => e = .returned (.string AR) ∧ Below w.heap.size w w' := fun z w hz => by rw [hAR]; exact repNum_calls z _ w hz (by omega)
          have CL := Lib.hid cL
          have CT := Lib.hid cT
          have CR := Lib.hid cR
          have HPE := Lib.hid hpe
          clear cL cT cR hAL hAT hAR hpp hpe HP HRP HPR HSP
          go_wp2_with fail
          refine (CL.out _ _ (by omega)).mono ?_
          rintro e w5 ⟨rfl, hb5⟩
          have W5 := Lib.hid (W4.out.trans (hb5.mono W4.out.size))
          clear hb5 W4
          go_wp2_with fail
          refine (CT.out _ _ (by omega)).mono ?_
          rintro e w6 ⟨rfl, hb6⟩
          have W6 := Lib.hid (W5.out.trans (hb6.mono W5.out.size))
          clear hb6 W5
          go_wp2_with fail
          refine (CT.out _ _ (by omega)).mono ?_
          rintro e w7 ⟨rfl, hb7⟩
          have W7 := Lib.hid (W6.out.trans (hb7.mono W6.out.size))
          clear hb7 W6
          go_wp2_with fail
          refine (CR.out _ _ (by omega)).mono ?_
          rintro e w8 ⟨rfl, hb8⟩
          have W8 := Lib.hid (W7.out.trans (hb8.mono W7.out.size))
          clear hb8 W7
          go_wp2_with fail
          go_ret
          refine ⟨?_, W8.out⟩
          rw [HPE.out]
          first | rfl | (simp; done)
end Go.Proofs.Ytjgbodgcbagbnaa.Mine
