/- What stood farther back than may be is told by itself; what stood just so far is a repetition: the walk of the law. -/
import Derived.Test.YtjgbodgcbagbnaaLzAwakeW
import Derived.Test.YtjgbodgcbagbnaaPureFar
import Derived.Laws.BitsLemmas
import Derived.Lib.SlBytesConst
set_option linter.unusedVariables false
set_option linter.unusedSimpArgs false
namespace Go.Proofs.Ytjgbodgcbagbnaa.Mine
open Go.RowKit Go.Proofs.YtjgbodgcbagbnaaW.PrintWords

theorem and7 (n : Int) : bits .and .i64 n 7 = n % 8 := by
  have h3 : (BitVec.ofInt 64 7).toNat = 2 ^ 3 - 1 := by decide
  have key : (BitVec.ofInt 64 n &&& BitVec.ofInt 64 7).toNat = (n % ((2 ^ 64 : Nat) : Int)).toNat % 2 ^ 3 := by
    rw [BitVec.toNat_and, BitVec.toNat_ofInt, h3, Nat.and_two_pow_sub_one_eq_mod]
  show IntKind.i64.wrap ((BitVec.ofInt 64 n &&& BitVec.ofInt 64 7).toNat : Nat) = n % 8
  rw [key, IntKind.wrap_i64]
  omega
theorem refnum_lit' (z : Int) (n : Nat) (w : World) (hz : z = (n : Int)) (hn : n < 18446744073709551616) :
    Calls Try.prog 27 #[.int .u64 z] w fun e w' => e = .returned (.string (sb (num n))) ∧ Below w.heap.size w w' := by
  subst hz; exact refnum_calls n w hn
set_option maxRecDepth 100000 in
theorem farNum_calls (z : Int) (n : Nat) (w : World) (hz : z = (n : Int)) (hn : n ≤ 1000000) :
    Calls Try.prog 35 #[.int .i64 z] w fun e w' => e = .returned (.string (sb (num n))) ∧ Below w.heap.size w w' := by
  subst hz
  go_enter Try.func35, Try.ntmps35
  go_wp2_with fail
  refine (refnum_lit' _ n _ (by omega) (by omega)).mono ?_
  rintro e w1 ⟨rfl, hb1⟩
  have HB1 := Lib.hid hb1
  clear hb1
  go_wp2_with fail
  go_ret
  exact ⟨rfl, HB1.out⟩
theorem bs_lit4 : bs ⟨#[107, 101, 121, 33]⟩ = keyB := by decide +kernel
theorem bs_lit5 : bs ⟨#[107, 101, 121, 33, 97]⟩ = keyB ++ [97] := by decide +kernel
theorem keyB_lt : ∀ c ∈ keyB, c < 256 := by decide
theorem farS_bs (m : Nat) (S0 : ByteArray) (h : S0 = sb (keyB ++ List.replicate (m + 5) 97)) : bs (S0 ++ ⟨#[107, 101, 121, 33]⟩) = farL (m + 5) := by
  rw [bs_append, bs_lit4, h, bs_sb _ (fun c hc => by
    rcases List.mem_append.1 hc with h1 | h1
    · exact keyB_lt c h1
    · rw [List.eq_of_mem_replicate h1]; omega), farL, List.append_assoc]
theorem sb_num_bs (n : Nat) : bs (sb (num n)) = num n := bs_sb _ (num_lt n)
set_option maxRecDepth 100000 in
set_option maxHeartbeats 2000000 in
theorem lzFar_calls (gap : Int) (w : World) :
    Calls Try.prog 13 #[.int .i64 gap] w fun e w' => e = .returned (.bool true) ∧ Below w.heap.size w w' := by
  obtain ⟨j, hj, hj2⟩ : ∃ j : Nat, bits .and .i64 gap 7 = (j : Int) ∧ j ≤ 7 := ⟨(gap % 8).toNat, by rw [and7]; omega, by omega⟩
  obtain ⟨m, hm⟩ : ∃ m : Nat, m = 32755 + j := ⟨_, rfl⟩
  have hkz : (32760 : Int) + (j : Int) = (m : Int) + 5 := by omega
  have hm1 : 32755 ≤ m := by omega
  have hm2 : m ≤ 32762 := by omega
  clear hm
  have kc := fun (w : World) (C : Array Value) (n c : Nat) => Lib.run_convert_bytes_const (P := Try.prog) w 46 5 C n c Try.underlying46 Try.underlying5
  have hb0 := (MBuf.const w keyB (by decide))
  have HB0 := Lib.hid hb0
  clear hb0
  go_enter Try.func13, Try.ntmps13
  go_wp2_with fail
  go_loopg [4, 5] (m + 5) (fun gg s4 s5 wr => ∃ (i : Nat), i ≤ m + 5 ∧ gg = m + 5 - i ∧ s5 = .int .i64 i ∧ Hid (MBuf w.heap.size (keyB ++ List.replicate i 97) s4 wr) ∧ Hid (Below w.heap.size w wr))
  case atStart =>
    exact ⟨0, Nat.zero_le _, rfl, rfl, HB0.out, (Below.refl _ _).alloc (Nat.le_refl _) _⟩
  case round =>
    obtain ⟨i, hi, hg, rfl, HM, HB⟩ := hrel
    have HG := Lib.hid hg
    clear hg
    by_cases hlt : i < m + 5
    · have hltb : decide ((i : Int) < (m : Int) + 5) = true := by simp; omega
      go_wp2_with (at_builtin; refine wpList_append_oneM rfl _ _ rfl w.heap.size (keyB ++ List.replicate i 97) u4 rfl wr 97 97 rfl HM.out (by simp [keyB]) rfl (by simp [keyB]; omega) ?_; intro v' w' hb' hg'; have HN := Lib.hid (And.intro hb' hg'); clear hb' hg')
      go_roundg (m + 5 - (i + 1))
      case measure => have := HG.out; omega
      case rel =>
        refine ⟨i + 1, by omega, rfl, by go_num, ?_, ?_⟩
        · have := HN.out.1
          unfold Hid
          rw [List.replicate_succ', ← List.append_assoc]
          exact this
        · exact below_grow (HB.out.alloc HM.out.size _) HN.out.2 (by have := HM.out.size; simp; omega) fun k e => (HM.out.lt k e).1
    · have hltb : decide ((i : Int) < (m : Int) + 5) = false := by simp; omega
      obtain rfl : i = m + 5 := by omega
      have hcv := HM.out.string
      obtain ⟨S0, hS0⟩ : ∃ S0, S0 = sb (keyB ++ List.replicate (m + 5) 97) := ⟨_, rfl⟩
      rw [← hS0] at hcv
      have hs0z : S0.size = m + 9 := by rw [hS0, sb_size]; simp [keyB]
      have HS0 := Lib.hid hS0
      clear hS0
      have hT := farS_bs m S0 HS0.out
      have hTs : (S0 ++ ⟨#[107, 101, 121, 33]⟩ : ByteArray).size = m + 13 := by rw [ByteArray.size_append, hs0z]; rfl
      have hfp := far_press m
      rw [← hT] at hfp
      obtain ⟨A13, h13⟩ : ∃ x, x = sb (num (m + 13)) := ⟨_, rfl⟩
      obtain ⟨A5, h5⟩ : ∃ x, x = sb (num 5) := ⟨_, rfl⟩
      obtain ⟨A1, h1⟩ : ∃ x, x = sb (num 1) := ⟨_, rfl⟩
      obtain ⟨Am, hAm⟩ : ∃ x, x = sb (num m) := ⟨_, rfl⟩
      obtain ⟨A0, h0⟩ : ∃ x, x = sb (num 0) := ⟨_, rfl⟩
      obtain ⟨A9, h9⟩ : ∃ x, x = sb (num (m + 9)) := ⟨_, rfl⟩
      obtain ⟨A4, h4⟩ : ∃ x, x = sb (num 4) := ⟨_, rfl⟩
      have s13 : A13.size ≤ 10 := by rw [h13, sb_size]; exact num_length _ (by omega)
      have s5 : A5.size ≤ 10 := by rw [h5, sb_size]; exact num_length _ (by omega)
      have s1 : A1.size ≤ 10 := by rw [h1, sb_size]; exact num_length _ (by omega)
      have sm : Am.size ≤ 10 := by rw [hAm, sb_size]; exact num_length _ (by omega)
      have s0 : A0.size ≤ 10 := by rw [h0, sb_size]; exact num_length _ (by omega)
      have s9 : A9.size ≤ 10 := by rw [h9, sb_size]; exact num_length _ (by omega)
      have s4 : A4.size ≤ 10 := by rw [h4, sb_size]; exact num_length _ (by omega)
      have c13 : ∀ (z : Int) w, z = ((m + 13 : Nat) : Int) → Calls Try.prog 35 #[.int .i64 z] w fun e w' => e = .returned (.string A13) ∧ Below w.heap.size w w' := fun z w hz => by rw [h13]; exact farNum_calls z _ w hz (by omega)
      have c5 : ∀ (z : Int) w, z = ((5 : Nat) : Int) → Calls Try.prog 35 #[.int .i64 z] w fun e w' => e = .returned (.string A5) ∧ Below w.heap.size w w' := fun z w hz => by rw [h5]; exact farNum_calls z _ w hz (by omega)
      have c1 : ∀ (z : Int) w, z = ((1 : Nat) : Int) → Calls Try.prog 35 #[.int .i64 z] w fun e w' => e = .returned (.string A1) ∧ Below w.heap.size w w' := fun z w hz => by rw [h1]; exact farNum_calls z _ w hz (by omega)
      have cm : ∀ (z : Int) w, z = ((m : Nat) : Int) → Calls Try.prog 35 #[.int .i64 z] w fun e w' => e = .returned (.string Am) ∧ Below w.heap.size w w' := fun z w hz => by rw [hAm]; exact farNum_calls z _ w hz (by omega)
      have c0 : ∀ (z : Int) w, z = ((0 : Nat) : Int) → Calls Try.prog 35 #[.int .i64 z] w fun e w' => e = .returned (.string A0) ∧ Below w.heap.size w w' := fun z w hz => by rw [h0]; exact farNum_calls z _ w hz (by omega)
      have c9 : ∀ (z : Int) w, z = ((m + 9 : Nat) : Int) → Calls Try.prog 35 #[.int .i64 z] w fun e w' => e = .returned (.string A9) ∧ Below w.heap.size w w' := fun z w hz => by rw [h9]; exact farNum_calls z _ w hz (by omega)
      have c4 : ∀ (z : Int) w, z = ((4 : Nat) : Int) → Calls Try.prog 35 #[.int .i64 z] w fun e w' => e = .returned (.string A4) ∧ Below w.heap.size w w' := fun z w hz => by rw [h4]; exact farNum_calls z _ w hz (by omega)
      have C13 := Lib.hid c13
      have C5 := Lib.hid c5
      have C1 := Lib.hid c1
      have CM := Lib.hid cm
      have C0 := Lib.hid c0
      have C9 := Lib.hid c9
      have C4 := Lib.hid c4
      have hpr := fun w => press_calls (S0 ++ ⟨#[107, 101, 121, 33]⟩) w (by rw [hTs]; omega)
      have hsp : ∀ (z : Int) w, z = ((m + 13 : Nat) : Int) → Calls Try.prog 30 #[.string (sb (pressP (bs (S0 ++ ⟨#[107, 101, 121, 33]⟩)))), .int .i64 z] w fun e w' => e = .returned (.tuple #[.string (S0 ++ ⟨#[107, 101, 121, 33]⟩), .int .i64 0]) ∧ Below w.heap.size w w' := fun z w hz => by
        subst hz; exact press_spread (S0 ++ ⟨#[107, 101, 121, 33]⟩) (m + 13) w (by rw [hTs]; omega) (by rw [hTs]; exact Nat.le_refl _) (by omega)
      by_cases hnear : m + 9 ≤ 32768
      · have hnb : decide ((m : Int) + 5 + 4 ≤ 32768) = true := by simp; omega
        rw [if_pos hnear] at hfp
        have hw : sb (pressP (bs (S0 ++ ⟨#[107, 101, 121, 33]⟩))) = ((((A13 ++ A5) ++ ⟨#[107, 101, 121, 33, 97]⟩) ++ A1) ++ Am) ++ ((A0 ++ A9) ++ A0) := by
          apply bs_inj
          rw [hfp, bs_sb _ (by
            intro c hc
            have := bs_lt (((((A13 ++ A5) ++ ⟨#[107, 101, 121, 33, 97]⟩) ++ A1) ++ Am) ++ ((A0 ++ A9) ++ A0)) c
            apply this
            simp only [bs_append, bs_lit5, h13, h5, h1, hAm, h0, h9, sb_num_bs]
            simpa [List.append_assoc] using hc)]
          simp only [bs_append, bs_lit5, h13, h5, h1, hAm, h0, h9, sb_num_bs, List.append_assoc]
        rw [hw] at hpr hsp
        have HPR := Lib.hid hpr
        have HSP := Lib.hid hsp
        clear hpr hsp hw hfp h13 h5 h1 hAm h0 h9 h4 c13 c5 c1 cm c0 c9 c4 hT hkz HB0 HG HM kc
        go_wp2_with fail
        refine (C13.out _ _ (by omega)).mono ?_
        rintro e w1 ⟨rfl, hb1⟩
        have W1 := Lib.hid (HB.out.trans (hb1.mono HB.out.size))
        clear hb1 HB
        go_wp2_with fail
        refine (C5.out _ _ (by omega)).mono ?_
        rintro e w2 ⟨rfl, hb2⟩
        have W2 := Lib.hid (W1.out.trans (hb2.mono W1.out.size))
        clear hb2 W1
        go_wp2_with fail
        refine (C1.out _ _ (by omega)).mono ?_
        rintro e w3 ⟨rfl, hb3⟩
        have W3 := Lib.hid (W2.out.trans (hb3.mono W2.out.size))
        clear hb3 W2
        go_wp2_with fail
        refine (CM.out _ _ (by omega)).mono ?_
        rintro e w4 ⟨rfl, hb4⟩
        have W4 := Lib.hid (W3.out.trans (hb4.mono W3.out.size))
        clear hb4 W3
        go_wp2_with fail
        refine (C0.out _ _ (by omega)).mono ?_
        rintro e w5 ⟨rfl, hb5⟩
        have W5 := Lib.hid (W4.out.trans (hb5.mono W4.out.size))
        clear hb5 W4
        go_wp2_with fail
        refine (C9.out _ _ (by omega)).mono ?_
        rintro e w6 ⟨rfl, hb6⟩
        have W6 := Lib.hid (W5.out.trans (hb6.mono W5.out.size))
        clear hb6 W5
        go_wp2_with fail
        refine (C0.out _ _ (by omega)).mono ?_
        rintro e w7 ⟨rfl, hb7⟩
        have W7 := Lib.hid (W6.out.trans (hb7.mono W6.out.size))
        clear hb7 W6
        go_wp2_with fail
        refine (HPR.out _).mono ?_
        rintro e w8 ⟨rfl, hb8⟩
        have W8 := Lib.hid (W7.out.trans (hb8.mono W7.out.size))
        clear hb8 W7
        go_wp2_with fail
        refine (HSP.out _ _ (by omega)).mono ?_
        rintro e w9 ⟨rfl, hb9⟩
        have W9 := Lib.hid (W8.out.trans (hb9.mono W8.out.size))
        clear hb9 W8
        go_wp2_with fail
        refine (lzAwake_calls _).mono ?_
        rintro e w10 ⟨rfl, hb10⟩
        have W10 := Lib.hid (W9.out.trans (hb10.mono W9.out.size))
        clear hb10 W9
        go_wp2_with fail
        go_ret
        exact ⟨by first | rfl | (simp; done), W10.out⟩
      · have hnb : decide ((m : Int) + 5 + 4 ≤ 32768) = false := by simp; omega
        rw [if_neg hnear] at hfp
        have hw : sb (pressP (bs (S0 ++ ⟨#[107, 101, 121, 33]⟩))) = ((((A13 ++ A5) ++ ⟨#[107, 101, 121, 33, 97]⟩) ++ A1) ++ Am) ++ (A4 ++ ⟨#[107, 101, 121, 33]⟩) := by
          apply bs_inj
          rw [hfp, bs_sb _ (by
            intro c hc
            have := bs_lt (((((A13 ++ A5) ++ ⟨#[107, 101, 121, 33, 97]⟩) ++ A1) ++ Am) ++ (A4 ++ ⟨#[107, 101, 121, 33]⟩)) c
            apply this
            simp only [bs_append, bs_lit5, bs_lit4, h13, h5, h1, hAm, h4, sb_num_bs]
            simpa [List.append_assoc] using hc)]
          simp only [bs_append, bs_lit5, bs_lit4, h13, h5, h1, hAm, h4, sb_num_bs, List.append_assoc]
        rw [hw] at hpr hsp
        have HPR := Lib.hid hpr
        have HSP := Lib.hid hsp
        clear hpr hsp hw hfp h13 h5 h1 hAm h0 h9 h4 c13 c5 c1 cm c0 c9 c4 hT hkz HB0 HG HM kc
        go_wp2_with fail
        refine (C13.out _ _ (by omega)).mono ?_
        rintro e w1 ⟨rfl, hb1⟩
        have W1 := Lib.hid (HB.out.trans (hb1.mono HB.out.size))
        clear hb1 HB
        go_wp2_with fail
        refine (C5.out _ _ (by omega)).mono ?_
        rintro e w2 ⟨rfl, hb2⟩
        have W2 := Lib.hid (W1.out.trans (hb2.mono W1.out.size))
        clear hb2 W1
        go_wp2_with fail
        refine (C1.out _ _ (by omega)).mono ?_
        rintro e w3 ⟨rfl, hb3⟩
        have W3 := Lib.hid (W2.out.trans (hb3.mono W2.out.size))
        clear hb3 W2
        go_wp2_with fail
        refine (CM.out _ _ (by omega)).mono ?_
        rintro e w4 ⟨rfl, hb4⟩
        have W4 := Lib.hid (W3.out.trans (hb4.mono W3.out.size))
        clear hb4 W3
        go_wp2_with fail
        refine (C4.out _ _ (by omega)).mono ?_
        rintro e w7 ⟨rfl, hb7⟩
        have W7 := Lib.hid (W4.out.trans (hb7.mono W4.out.size))
        clear hb7 W4
        go_wp2_with fail
        refine (HPR.out _).mono ?_
        rintro e w8 ⟨rfl, hb8⟩
        have W8 := Lib.hid (W7.out.trans (hb8.mono W7.out.size))
        clear hb8 W7
        go_wp2_with fail
        refine (HSP.out _ _ (by omega)).mono ?_
        rintro e w9 ⟨rfl, hb9⟩
        have W9 := Lib.hid (W8.out.trans (hb9.mono W8.out.size))
        clear hb9 W8
        go_wp2_with fail
        refine (lzAwake_calls _).mono ?_
        rintro e w10 ⟨rfl, hb10⟩
        have W10 := Lib.hid (W9.out.trans (hb10.mono W9.out.size))
        clear hb10 W9
        go_wp2_with fail
        go_ret
        exact ⟨by first | rfl | (simp; done), W10.out⟩
end Go.Proofs.Ytjgbodgcbagbnaa.Mine
