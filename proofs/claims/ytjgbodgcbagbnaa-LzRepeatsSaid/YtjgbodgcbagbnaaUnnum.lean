/- The contract of code.Unnum: for every string of at most 2^47 bytes. -/
import Derived.Test.YtjgbodgcbagbnaaBase
import Derived.Test.YtjgbodgcbagbnaaProg
import Derived.Lib.Hide
namespace Go.Proofs.Ytjgbodgcbagbnaa.Mine
open Go.RowKit Go.Proofs.YtjgbodgcbagbnaaW.PrintWords

set_option maxRecDepth 100000 in
set_option maxHeartbeats 400000 in
theorem unnum_calls (s : ByteArray) (w : World) (_hs : s.size ≤ 140737488351232) :
    Calls Try.prog 56 #[.string s] w fun e w' => e = .returned (.tuple #[.int .u64 (unnum (bs s)).1, .int .i64 (unnum (bs s)).2.1, .int .i64 (unnum (bs s)).2.2]) ∧ Below w.heap.size w w' := by
  have kb := Lib.run_convert_string_bytes (P := Try.prog) w 9 46 5 s Try.underlying9 Try.underlying46 Try.underlying5
  obtain ⟨r, hr⟩ : ∃ r, r = unnum (bs s) := ⟨_, rfl⟩
  rw [← hr]
  have Hr := Lib.hid hr
  clear hr
  go_enter Try.func56, Try.ntmps56
  go_wp2
  have HB := Lib.hid (bytes_below (Below.refl w.heap.size w) (Nat.le_refl _) 5 s)
  go_loop [5, 6, 7, 11] (fun n5 _ _ n11 => ∃ i n : Nat, i ≤ s.size ∧ n5 = .int .u64 n ∧ n11 = .int .i64 i ∧ Hid (i ≤ 9 ∧ n + 2 ≤ 2 ^ (7 * i + 1) ∧ unnumGo ((bs s).drop i) i n = r)) (fun _ _ _ i => s.size - (intOf i).toNat)
  case atStart => exact ⟨0, 0, Nat.zero_le _, rfl, rfl, by unfold Hid; exact ⟨by omega, by decide, by rw [Hr.out]; rfl⟩⟩
  case round =>
    obtain ⟨i, n, hi, rfl, rfl, H⟩ := hrel
    obtain ⟨h9, hn, hg⟩ := H
    by_cases hlt : i < s.size
    · obtain ⟨c, hc, hd, hcs⟩ := bs_drop s i hlt
      have hcell : (Lib.bytesWorld w 5 s).cell? ⟨w.heap.size, i, none⟩ = some (.int .u8 c) := by rw [Lib.bytesWorld_cell w 5 s i hlt, hcs]
      rw [hd] at hg
      clear hd hcs
      have hltb : decide (i < s.size) = true := by simpa using hlt
      by_cases h9' : i = 9
      · have h9b : ((i : Int) == 9) = true := by simp; omega
        rw [unnumGo, if_pos h9'] at hg
        subst hg
        clear hn h9' h9
        go_wp2
        go_ret3
        exact ⟨rfl, HB.out⟩
      · have h9b : ((i : Int) == 9) = false := by simp; omega
        have hp : (2 : Nat) ^ (7 * i + 1) ≤ 2 ^ 57 := Nat.pow_le_pow_right (by omega) (by omega)
        have hp2 : (2 : Nat) ^ (7 * (i + 1) + 1) = 128 * 2 ^ (7 * i + 1) := by rw [show 7 * (i + 1) + 1 = 7 + (7 * i + 1) from by omega, Nat.pow_add]
        have hn2 : n ≤ 144115188075855870 := by omega
        have HN := Lib.hid hn
        have HP2 := Lib.hid hp2
        clear hn hp hp2
        by_cases hc1 : c < 128
        · have hcb : decide ((c : Int) < 128) = true := by simp; omega
          rw [unnumGo, if_neg h9', if_pos hc1] at hg
          subst hg
          go_wp2
          go_ret3
          exact ⟨ret3 (by omega) (by omega) rfl, HB.out⟩
        · have hcb : decide ((c : Int) < 128) = false := by simp; omega
          rw [unnumGo, if_neg h9', if_neg hc1] at hg
          have HG := Lib.hid hg
          clear hg
          go_wp2
          go_round
          case rel => exact ⟨i + 1, n * 128 + (c - 128) + 1, by omega, by exact int_eq (by omega), by go_num, by omega, by rw [HP2.out]; have := HN.out; omega, HG.out⟩
          case measure => simp [intOf]; omega
    · have hltb : decide (i < s.size) = false := by simpa using hlt
      have hnil : (bs s).drop i = [] := List.drop_eq_nil_of_le (by rw [bs_length]; omega)
      rw [hnil, unnumGo] at hg
      clear hnil
      by_cases hi9 : 9 ≤ i
      · rw [if_pos hi9] at hg
        subst hg
        clear hn
        have hsb : decide (9 ≤ (s.size : Int)) = true := by simp; omega
        go_wp2
        go_ret3
        exact ⟨rfl, HB.out⟩
      · rw [if_neg hi9] at hg
        subst hg
        clear hn
        have hsb : decide (9 ≤ (s.size : Int)) = false := by simp; omega
        go_wp2
        go_ret3
        exact ⟨rfl, HB.out⟩
end Go.Proofs.Ytjgbodgcbagbnaa.Mine
