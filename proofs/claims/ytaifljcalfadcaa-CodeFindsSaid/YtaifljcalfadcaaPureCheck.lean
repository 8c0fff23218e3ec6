/- The document's check is the code's. Plain lists and numbers. -/
import Derived.Test.YtaifljcalfadcaaPureBits
import Derived.Test.YtaifljcalfadcaaPureAwake
import Derived.Test.YtaifljcalfadcaaPAx
namespace Go.Proofs.Ytaifljcalfadcaa.Mine
open Go.RowKit Go.Proofs.Ytaifljcalfadcaa.PA Go.Proofs.YtaifljcalfadcaaW.PrintWords Go.Proofs.YtaifljcalfadcaaW.PrintMore

theorem refCheck_l1 (s : ByteArray) (i c : Nat) (hi : i < s.size) (hb : bt s (i : Int) = (c : Int)) (hc : c < 256) (d : Nat) :
    ∀ (j r k : Nat), j + d = 8 → r < 4294967296 → d < k →
    ∃ r', pollardref02_Check.l1 k s (r : Int) (i : Int) (7 - (j : Int)) = pollardref02_Check.l0 (k - d - 1) s ((r' : Nat) : Int) (wrap64 ((i : Int) + 1)) ∧ r' < 4294967296 ∧
      r' = crcBits d (r ^^^ (c * 16777216 * 2 ^ j % 4294967296)) := by
  induction d with
  | zero =>
    intro j r k hj hr hk
    obtain ⟨k, rfl⟩ : ∃ m, k = m + 1 := ⟨k - 1, by omega⟩
    obtain rfl : j = 8 := by omega
    simp only [pollardref02_Check.l1]
    rw [if_neg (by omega)]
    refine ⟨r, by simp, hr, ?_⟩
    have : c * 16777216 * 2 ^ 8 % 4294967296 = 0 := by simp only [Nat.reducePow]; omega
    rw [this, Nat.xor_zero]
    rfl
  | succ d ih =>
    intro j r k hj hr hk
    obtain ⟨k, rfl⟩ : ∃ m, k = m + 1 := ⟨k - 1, by omega⟩
    simp only [pollardref02_Check.l1]
    have a1 : IntKind.u64.wrap (7 - (j : Int)) = 7 - (j : Int) := by rw [IntKind.wrap_u64]; omega
    rw [if_pos (by omega), if_pos (by omega), if_pos (by omega), if_pos (by rw [a1]; omega), hb]
    clear a1
    have a2 : wrap64 (7 - (j : Int) - 1) = 7 - ((j + 1 : Nat) : Int) := by unfold wrap64; omega
    rw [a2]
    clear a2
    have a3 : (r : Int) * 2 % 4294967296 = ((r * 2 % 4294967296 : Nat) : Int) := by omega
    rw [a3]
    obtain ⟨x, hx⟩ : ∃ x, x = c * 16777216 * 2 ^ j % 4294967296 := ⟨_, rfl⟩
    have hstep := refStep c r j hc hr (by omega) x hx
    have hover := crcBit_over r x hr (by omega)
    have hx2 : x * 2 % 4294967296 = c * 16777216 * 2 ^ (j + 1) % 4294967296 := by
      rw [hx, Nat.pow_succ, ← Nat.mul_assoc (c * 16777216)]
      omega
    rw [← hx]
    rw [crcBits, hover, hx2]
    by_cases ht : r / 2147483648 = x / 2147483648
    · rw [if_neg (by rw [hstep]; exact fun h => h ht), if_pos ht]
      obtain ⟨r', h1, h2, h3⟩ := ih (j + 1) (r * 2 % 4294967296) k (by omega) (by omega) (by omega)
      exact ⟨r', by rw [h1, show k + 1 - (d + 1) - 1 = k - d - 1 from by omega], h2, h3⟩
    · have e := u32_xor_nat (r * 2 % 4294967296) 79764919 (by omega) (by omega)
      rw [if_pos (hstep.2 ht), if_neg ht]
      obtain ⟨r', h1, h2, h3⟩ := ih (j + 1) ((r * 2 % 4294967296) ^^^ 79764919) k (by omega) (xor_lt32 (by omega) (by omega)) (by omega)
      refine ⟨r', ?_, h2, h3⟩
      rw [← e] at h1
      rw [show k + 1 - (d + 1) - 1 = k - d - 1 from by omega]
      exact h1
theorem refCheck_l0 (s : ByteArray) (hs : s.size ≤ 140737488351232) (d : Nat) : ∀ (i r k : Nat), i + d = s.size → r < 4294967296 → 10 * d + 1 < k →
    pollardref02_Check.l0 k s (r : Int) (i : Int) = some ((4294967295 - (crcGo ((bs s).drop i) r : Int)) % 4294967296) := by
  induction d with
  | zero =>
    intro i r k hi hr hk
    obtain ⟨k, rfl⟩ : ∃ m, k = m + 1 := ⟨k - 1, by omega⟩
    simp only [pollardref02_Check.l0]
    have hnil : (bs s).drop i = [] := List.drop_eq_nil_of_le (by rw [bs_length]; omega)
    rw [if_neg (by omega), hnil]
    rfl
  | succ d ih =>
    intro i r k hi hr hk
    obtain ⟨k, rfl⟩ : ∃ m, k = m + 1 := ⟨k - 1, by omega⟩
    simp only [pollardref02_Check.l0]
    obtain ⟨c, hc, hd, hb⟩ := bt_bs s i (by omega)
    rw [if_pos (by omega)]
    obtain ⟨r', h1, h2, h3⟩ := refCheck_l1 s i c (by omega) hb hc 8 0 r k (by omega) hr (by omega)
    have h1' : pollardref02_Check.l1 k s (r : Int) (i : Int) 7 = _ := h1
    have e3 : wrap64 ((i : Int) + 1) = ((i + 1 : Nat) : Int) := by unfold wrap64; omega
    rw [h1', e3]
    clear e3
    rw [ih (i + 1) r' (k - 8 - 1) (by omega) h2 (by omega), hd, h3]
    have : c * 16777216 * 2 ^ 0 % 4294967296 = c * 16777216 := by simp only [Nat.reducePow]; omega
    rw [this]
    rfl
theorem not_xor (r : Nat) (hr : r < 4294967296) : 4294967295 - r = r ^^^ 4294967295 := by
  apply Nat.eq_of_testBit_eq
  intro i
  rw [Nat.testBit_xor]
  have h1 : (4294967295 - r) = 2 ^ 32 - (r + 1) := by omega
  rw [h1, Nat.testBit_two_pow_sub_succ (by omega), show (4294967295 : Nat) = 2 ^ 32 - 1 from rfl, Nat.testBit_two_pow_sub_one]
  by_cases hi : i < 32
  · simp [hi]
  · have : r.testBit i = false := Nat.testBit_lt_two_pow (Nat.lt_of_lt_of_le hr (by
      have : (2 : Nat) ^ 32 ≤ 2 ^ i := Nat.pow_le_pow_right (by omega) (by omega)
      simpa using this))
    simp [hi, this]
theorem refCheck (s : ByteArray) (hs : s.size ≤ 140737488351232) (k : Nat) (hk : 10 * s.size + 2 ≤ k) : pollardref02_Check.f k s = some ((crc (bs s) : Nat) : Int) := by
  have h := refCheck_l0 s hs s.size 0 4294967295 k (by omega) (by omega) (by omega)
  have hl := crcGo_lt (bs s) 4294967295 (by omega) (bs_lt s)
  unfold pollardref02_Check.f
  rw [crc, ← not_xor _ hl]
  have e : (4294967295 - ((crcGo ((bs s).drop 0) 4294967295 : Nat) : Int)) % 4294967296 = ((4294967295 - crcGo (bs s) 4294967295 : Nat) : Int) := by
    rw [List.drop_zero]; omega
  rw [← e]
  exact h
end Go.Proofs.Ytaifljcalfadcaa.Mine
