/- The contract of code.Check: for every string. -/
import Derived.Test.YtaifljcalfadcaaBase
import Derived.Test.YtaifljcalfadcaaProg
import Derived.Lib.Hide
import Derived.Laws.BitsAllLaws
namespace Go.Proofs.Ytaifljcalfadcaa.Mine
open Go.RowKit Go.Proofs.YtaifljcalfadcaaW.PrintWords

set_option maxHeartbeats 400000 in
theorem check_calls (s : ByteArray) (w : World) (_hs : s.size ≤ 140737488351232) :
    Calls Try.prog 18 #[.string s] w fun e w' => e = .returned (.int .u32 (crc (bs s))) ∧ Below w.heap.size w w' := by
  have kb := Lib.run_convert_string_bytes (P := Try.prog) w 9 35 5 s Try.underlying9 Try.underlying35 Try.underlying5
  obtain ⟨R, hR⟩ : ∃ r, r = crcGo (bs s) 4294967295 := ⟨_, rfl⟩
  have hb := bs_lt s
  have hRl : R < 4294967296 := by rw [hR]; exact crcGo_lt _ _ (by omega) hb
  have HR := Lib.hid hR
  have HBS := Lib.hid hb
  clear hR hb
  go_enter Try.func18, Try.ntmps18
  go_wp2
  have HB := Lib.hid (bytes_below (Below.refl w.heap.size w) (Nat.le_refl _) 5 s)
  go_loop [3, 5, 6, 10, 19] (fun n3 _ _ n10 _ => ∃ i r : Nat, i ≤ s.size ∧ r < 4294967296 ∧ n3 = .int .u32 r ∧ n10 = .int .i64 i ∧ Hid (crcGo ((bs s).drop i) r = R)) (fun _ _ _ i _ => s.size - (intOf i).toNat)
  case atStart => exact ⟨0, 4294967295, Nat.zero_le _, by omega, rfl, rfl, by unfold Hid; rw [HR.out]; rfl⟩
  case round =>
    obtain ⟨i, r, hi, hr, rfl, rfl, H⟩ := hrel
    by_cases hlt : i < s.size
    · obtain ⟨c, hc, hd, hcs⟩ := bs_drop s i hlt
      have hcell : (Lib.bytesWorld w 5 s).cell? ⟨w.heap.size, i, none⟩ = some (.int .u8 c) := by rw [Lib.bytesWorld_cell w 5 s i hlt, hcs]
      have hltb : decide (i < s.size) = true := by simpa using hlt
      have hlx := xor_lt32 hr (show c * 16777216 < 4294967296 by omega)
      have HD := Lib.hid hd
      clear hd hcs
      go_wp2
      go_loop [3, 6, 19] (fun n3 _ n19 => ∃ j q : Nat, j ≤ 8 ∧ q < 4294967296 ∧ n3 = .int .u32 q ∧ n19 = .int .i64 j ∧ Hid (crcBits (8 - j) q = crcByte r c)) (fun _ _ j => 8 - (intOf j).toNat)
      case atStart => exact ⟨0, r ^^^ (c * 16777216), by omega, hlx, int_eq (u32_xor_nat r (c * 16777216) hr (by omega)), rfl, by unfold Hid; rfl⟩
      case round =>
        obtain ⟨j, q, hj, hq, rfl, rfl, H2⟩ := hrel
        by_cases hj8 : j < 8
        · have hjb : decide (j < 8) = true := by simpa using hj8
          go_wp2
          go_round
          case rel => exact ⟨j + 1, crcBit q, by omega, crcBit_lt q hq, int_eq (u32_xor_nat (q * 2 % 4294967296) (79764919 * (q / 2147483648)) (by omega) (by omega)), by go_num, by rw [← H2.out, show 8 - j = (8 - (j + 1)) + 1 from by omega]; rfl⟩
          case measure => simp [intOf]; omega
        · have hjb : decide (j < 8) = false := by simpa using hj8
          obtain rfl : j = 8 := by omega
          have hq2 : q = crcByte r c := H2.out
          have HQ := Lib.hid hq2
          clear hq2
          go_wp2
          go_round
          case rel => exact ⟨i + 1, q, by omega, hq, rfl, by go_num, by unfold Hid; rw [HQ.out, ← H.out, HD.out]; rfl⟩
          case measure => simp [intOf]; omega
    · have hltb : decide (i < s.size) = false := by simpa using hlt
      have hnil : (bs s).drop i = [] := List.drop_eq_nil_of_le (by rw [bs_length]; omega)
      have hrR : r = R := by have := H.out; rw [hnil] at this; exact this
      have HE := Lib.hid hrR
      clear hnil hrR
      go_wp2
      go_ret
      exact ⟨ret1 ((u32_xor_nat r 4294967295 hr (by omega)).trans (by rw [HE.out, HR.out]; rfl)), HB.out⟩
end Go.Proofs.Ytaifljcalfadcaa.Mine
