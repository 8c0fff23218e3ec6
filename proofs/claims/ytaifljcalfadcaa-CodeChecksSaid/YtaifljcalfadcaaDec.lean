/- The contracts of code.Dec and code.Undec: for every number and every string. -/
import Derived.Test.YtaifljcalfadcaaBase
import Derived.Test.YtaifljcalfadcaaProg
import Derived.Lib.Hide

namespace Go.Proofs.Ytaifljcalfadcaa.Mine
open Go.RowKit Go.Proofs.YtaifljcalfadcaaW.PrintWords

set_option maxHeartbeats 400000 in
theorem dec_calls (n : Nat) (w : World) (hn : n < 18446744073709551616) :
    Calls Try.prog 21 #[.int .u64 n] w fun e w' => e = .returned (.string (sb (dec n))) ∧ w = w' := by
  have hl := dec_le n hn
  obtain ⟨R, hR⟩ : ∃ r, r = dec n := ⟨_, rfl⟩
  rw [← hR] at hl ⊢
  have HR := Lib.hid hR
  have HN := Lib.hid hn
  clear hR hn
  go_enter Try.func21, Try.ntmps21
  go_wp2
  go_loop [0, 3] (fun n0 n3 => ∃ (m : Nat) (t : List Nat), n0 = .int .u64 m ∧ n3 = .string (sb t) ∧ Hid (m < 18446744073709551616 ∧ dec m ++ t = R)) (fun n0 _ => (intOf n0).toNat)
  case atStart => exact ⟨n, [], rfl, rfl, by unfold Hid; exact ⟨HN.out, by rw [HR.out]; simp⟩⟩
  case round =>
    obtain ⟨m, t, rfl, rfl, H⟩ := hrel
    obtain ⟨hm, ht⟩ := H
    have hts : (sb t).size ≤ 20 := by rw [sb_size]; have := congrArg List.length ht; simp at this; omega
    have HT := Lib.hid ht
    clear ht
    have hm1 : m ≤ 18446744073709551615 := by omega
    clear hm
    obtain ⟨d, hd, hdl⟩ : ∃ d : Nat, d = m % 10 ∧ d < 10 := ⟨_, rfl, by omega⟩
    have hmd : (m : Int) % 10 = (d : Int) := by omega
    have HD := Lib.hid hd
    clear hd
    have q1 : ((d : Int) ≤ (d : Int) + 1) = True := eq_true (by omega)
    have q2 : ((d : Int) + 1 ≤ 16) = True := eq_true (by omega)
    have q3 : decide ((d : Int) ≤ (d : Int) + 1) = true := decide_eq_true (by omega)
    have q4 : decide ((d : Int) + 1 ≤ 16) = true := decide_eq_true (by omega)
    have q5 : ((d : Int) + 1).toNat = d + 1 := by omega
    have hm0 := Lib.hid hmd
    by_cases h10 : m < 10
    · have hz : ((m : Int) / 10 == 0) = true := by simp; omega
      go_wp2
      go_ret
      refine ⟨ret_s ?_, rfl⟩
      rw [digit_at d (by omega), ← sb_append, ← HT.out, dec, if_pos h10, HD.out, Nat.mod_eq_of_lt h10]
    · have hz : ((m : Int) / 10 == 0) = false := by simp; omega
      go_wp2
      go_round
      case rel =>
        refine ⟨m / 10, [48 + d] ++ t, by go_num, by rw [digit_at d (by omega), ← sb_append], ?_⟩
        unfold Hid
        refine ⟨by omega, ?_⟩
        rw [← HT.out, ← List.append_assoc, HD.out]
        conv => rhs; rw [dec, if_neg h10]
      case measure => simp [intOf]; omega

/-- Each byte of a text that Undec reads leaves the number below 2^64. -/
theorem undecGo_lt : ∀ (l : List Nat) (n m : Nat), n < 18446744073709551616 → undecGo l n = some m → m < 18446744073709551616
  | [], n, m, hn, h => by
    simp only [undecGo, Option.some.injEq] at h
    omega
  | c :: l, n, m, hn, h => by
    rw [undecGo] at h
    split at h
    · cases h
    · rename_i hc
      exact undecGo_lt l _ m (by omega) h

set_option maxHeartbeats 1000000 in
theorem undec_calls (s : ByteArray) (w : World) (_hs : s.size ≤ 140737488351232) :
    Calls Try.prog 20 #[.string s] w fun e w' => e = .returned (.tuple #[.int .u64 (undec (bs s)).1, .int .i64 (undec (bs s)).2]) ∧ Below w.heap.size w w' := by
  have kb := Lib.run_convert_string_bytes (P := Try.prog) w 9 35 5 s Try.underlying9 Try.underlying35 Try.underlying5
  obtain ⟨r, hr⟩ : ∃ r, r = undec (bs s) := ⟨_, rfl⟩
  rw [← hr]
  obtain ⟨g, hg0⟩ : ∃ g, g = undecGo (bs s) 0 := ⟨_, rfl⟩
  have Hr := Lib.hid hr
  have HG0 := Lib.hid hg0
  clear hr hg0
  go_enter Try.func20, Try.ntmps20
  go_wp2
  have HB := Lib.hid (bytes_below (Below.refl w.heap.size w) (Nat.le_refl _) 5 s)
  go_loop [4, 6, 7, 11] (fun n4 _ _ n11 => ∃ i n : Nat, i ≤ s.size ∧ n4 = .int .u64 n ∧ n11 = .int .i64 i ∧ Hid (n < 18446744073709551616 ∧ undecGo ((bs s).drop i) n = g)) (fun _ _ _ i => s.size - (intOf i).toNat)
  case atStart => exact ⟨0, 0, Nat.zero_le _, rfl, rfl, by unfold Hid; exact ⟨by omega, by rw [HG0.out]; rfl⟩⟩
  case round =>
    obtain ⟨i, n, hi, rfl, rfl, H⟩ := hrel
    obtain ⟨hn, hg⟩ := H
    by_cases hlt : i < s.size
    · obtain ⟨c, hc, hd, hcs⟩ := bs_drop s i hlt
      have hcell : (Lib.bytesWorld w 5 s).cell? ⟨w.heap.size, i, none⟩ = some (.int .u8 c) := by rw [Lib.bytesWorld_cell w 5 s i hlt, hcs]
      rw [hd] at hg
      have hltb : decide (i < s.size) = true := by simpa using hlt
      have HN := Lib.hid hn
      clear hd hcs hn
      have hn1 : n ≤ 18446744073709551615 := by have := HN.out; omega
      by_cases c1 : c < 48
      · rw [undecGo, if_pos (Or.inl c1)] at hg
        have h6 : r = (0, 6) := by rw [Hr.out, undec, ← HG0.out, ← hg]
        subst h6
        have c1b : decide ((c : Int) < 48) = true := by simp; omega
        clear hg
        go_wp2
        go_ret2
        exact ⟨rfl, HB.out⟩
      · have c1b : decide ((c : Int) < 48) = false := by simp; omega
        have hw : IntKind.u64.wrap ((c : Int) - 48) = ((c - 48 : Nat) : Int) := by rw [IntKind.wrap_u64]; omega
        by_cases c2 : 57 < c
        · rw [undecGo, if_pos (Or.inr (Or.inl c2))] at hg
          have h6 : r = (0, 6) := by rw [Hr.out, undec, ← HG0.out, ← hg]
          subst h6
          have c2b : decide (57 < (c : Int)) = true := by simp; omega
          clear hg
          go_wp2
          go_ret2
          exact ⟨rfl, HB.out⟩
        · have c2b : decide (57 < (c : Int)) = false := by simp; omega
          by_cases c3 : (18446744073709551615 - (c - 48)) / 10 < n
          · rw [undecGo, if_pos (by omega)] at hg
            have h6 : r = (0, 6) := by rw [Hr.out, undec, ← HG0.out, ← hg]
            subst h6
            clear hg hw
            have c3b : decide ((18446744073709551615 - ((c : Int) - 48)) / 10 < (n : Int)) = true := by simp; omega
            go_wp2
            go_ret2
            exact ⟨rfl, HB.out⟩
          · rw [undecGo, if_neg (by omega)] at hg
            have HG := Lib.hid hg
            clear hg hw
            have c3b : decide ((18446744073709551615 - ((c : Int) - 48)) / 10 < (n : Int)) = false := by simp; omega
            go_wp2
            go_round
            case rel => exact ⟨i + 1, n * 10 + (c - 48), by omega, by first | exact int_eq (by omega) | (rw [IntKind.wrap_u64]; exact int_eq (by omega)) | (rw [IntKind.wrap_u64, IntKind.wrap_u64]; exact int_eq (by omega)), by go_num, by unfold Hid; exact ⟨by omega, HG.out⟩⟩
            case measure => simp [intOf]; omega
    · have hltb : decide (i < s.size) = false := by simpa using hlt
      have hnil : (bs s).drop i = [] := List.drop_eq_nil_of_le (by rw [bs_length]; omega)
      rw [hnil, undecGo] at hg
      clear hnil
      subst hg
      have HN := Lib.hid hn
      clear hn
      have hn1 : n ≤ 18446744073709551615 := by have := HN.out; omega
      by_cases hs0 : s.size = 0
      · have he : s = sb [] := by
          apply sb_eq
          have := bs_length s
          rw [hs0] at this
          exact List.eq_nil_of_length_eq_zero this
        have h6 : r = (0, 6) := by rw [Hr.out, undec, ← HG0.out, he]; rfl
        subst h6
        have e1 := str_empty hs0
        have e2 := str_empty' hs0
        clear he hs0
        go_wp2
        go_ret2
        exact ⟨rfl, HB.out⟩
      · have e1 := str_full' hs0
        have e2 := str_full hs0
        have HS := Lib.hid hs0
        clear hs0
        by_cases hd : s = sb (dec n)
        · have q1 := str_beq hd
          have h6 : r = (n, 0) := by
            rw [Hr.out, undec, ← HG0.out]
            have hbs : bs s = dec n := by conv => lhs; rw [hd, bs_sb _ (dec_lt n)]
            have hne : bs s ≠ [] := by intro h; exact HS.out (by rw [← bs_length, h]; rfl)
            simp only
            rw [if_neg (by rintro (h | h); exact hne h; exact h hbs)]
          subst h6
          clear hd
          go_wp2_with (go_at_call 21; refine (dec_calls n _ HN.out).mono ?_; rintro e w' ⟨rfl, rfl⟩)
          go_ret2
          exact ⟨rfl, HB.out⟩
        · have q1 := str_bne hd
          have h6 : r = (0, 6) := by
            rw [Hr.out, undec, ← HG0.out]
            simp only
            rw [if_pos (Or.inr fun h => hd (sb_eq s _ h))]
          subst h6
          clear hd
          go_wp2_with (go_at_call 21; refine (dec_calls n _ HN.out).mono ?_; rintro e w' ⟨rfl, rfl⟩)
          go_ret2
          exact ⟨rfl, HB.out⟩
end Go.Proofs.Ytaifljcalfadcaa.Mine
