/- The check of chapter 2: the document's way, bit by bit, is the code's; one byte that is another one makes it another one. Plain lists and numbers. -/
import Derived.Test.YtaifljcalfadcaaBase
import Derived.Test.YtaifljcalfadcaaWMore
import Derived.Laws.BitsAllLaws
namespace Go.Proofs.Ytaifljcalfadcaa.Mine
open Go.RowKit Go.Proofs.YtaifljcalfadcaaW.PrintWords Go.Proofs.YtaifljcalfadcaaW.PrintMore

theorem xor_div31 (a b : Nat) : (a ^^^ b) / 2147483648 = (a / 2147483648) ^^^ (b / 2147483648) := by
  have := Nat.xor_div_two_pow (a := a) (b := b) (n := 31)
  simpa using this
theorem xor_dbl (a b : Nat) : (a ^^^ b) * 2 % 4294967296 = (a * 2 % 4294967296) ^^^ (b * 2 % 4294967296) := by
  have h1 : (a ^^^ b) * 2 = (a * 2) ^^^ (b * 2) := by
    have := Nat.shiftLeft_xor_distrib (a := a) (b := b) (i := 1)
    simpa [Nat.shiftLeft_eq] using this
  have h2 := Nat.xor_mod_two_pow (a := a * 2) (b := b * 2) (n := 32)
  rw [h1]
  simpa using h2
theorem bit_cases (x y : Nat) (hx : x < 2) (hy : y < 2) : (x ^^^ y = 0 ∧ x = y) ∨ (x ^^^ y = 1 ∧ x ≠ y) := by
  rcases (by omega : x = 0 ∨ x = 1) with rfl | rfl <;> rcases (by omega : y = 0 ∨ y = 1) with rfl | rfl <;> simp

/-- One bit: the text's byte c, of which what is left stands at the top of x, laid over the register. -/
theorem crcBit_over (r x : Nat) (hr : r < 4294967296) (hx : x < 4294967296) :
    crcBit (r ^^^ x) = (if r / 2147483648 = x / 2147483648 then r * 2 % 4294967296 else (r * 2 % 4294967296) ^^^ 79764919) ^^^ (x * 2 % 4294967296) := by
  unfold crcBit
  rw [xor_dbl, xor_div31]
  rcases bit_cases (r / 2147483648) (x / 2147483648) (by omega) (by omega) with ⟨h1, h2⟩ | ⟨h1, h2⟩
  · rw [h1, if_pos h2]; simp
  · rw [h1, if_neg h2, Nat.mul_one, Nat.xor_assoc, Nat.xor_assoc, Nat.xor_comm (x * 2 % 4294967296)]

theorem refStep (c r j : Nat) (hc : c < 256) (hr : r < 4294967296) (hj : j < 8) (x : Nat) (hx : x = c * 16777216 * 2 ^ j % 4294967296) :
    (Go.bits .xor .u32 (Go.bits .and .u32 (shr .u32 ((c : Int) % 4294967296) (IntKind.u64.wrap (7 - (j : Int)))) 1) ((r : Int) / 2147483648) = 1) ↔ ¬ r / 2147483648 = x / 2147483648 := by
  have hs : shr .u32 ((c : Int) % 4294967296) (IntKind.u64.wrap (7 - (j : Int))) = ((c / 2 ^ (7 - j) : Nat) : Int) := by
    have a1 : IntKind.u64.wrap (7 - (j : Int)) = ((7 - j : Nat) : Int) := by rw [IntKind.wrap_u64]; omega
    have a2 : (c : Int) % 4294967296 = (c : Int) := by omega
    rw [a1, a2]
    unfold shr
    rw [Int.toNat_natCast, Nat.min_eq_left (by show 7 - j ≤ 32; omega), Int.natCast_ediv, Int.natCast_pow]
    rfl
  have hd : c / 2 ^ (7 - j) < 256 := Nat.lt_of_le_of_lt (Nat.div_le_self _ _) hc
  have e1 : Go.bits .and .u32 ((c / 2 ^ (7 - j) : Nat) : Int) 1 = (((c / 2 ^ (7 - j)) % 2 : Nat) : Int) := by
    have := u32_and_nat (c / 2 ^ (7 - j)) 1 (by omega) (by omega)
    rw [show ((1 : Nat) : Int) = 1 from rfl] at this
    rw [this, Nat.and_one_is_mod]
  have e2 : (r : Int) / 2147483648 = ((r / 2147483648 : Nat) : Int) := by omega
  rw [hs, e1, e2, u32_xor_nat _ _ (by omega) (by omega)]
  have e3 : x / 2147483648 = c / 2 ^ (7 - j) % 2 := by
    rw [hx]
    rcases (by omega : j = 0 ∨ j = 1 ∨ j = 2 ∨ j = 3 ∨ j = 4 ∨ j = 5 ∨ j = 6 ∨ j = 7) with rfl | rfl | rfl | rfl | rfl | rfl | rfl | rfl <;> simp only [Nat.reducePow, Nat.reduceSub, Nat.mul_one] <;> omega
  rw [e3]
  rcases bit_cases (c / 2 ^ (7 - j) % 2) (r / 2147483648) (by omega) (by omega) with ⟨h1, h2⟩ | ⟨h1, h2⟩
  · rw [h1]
    constructor
    · intro h; cases h
    · intro h; exact absurd h2.symm h
  · rw [h1]
    exact ⟨fun _ e => h2 e.symm, fun _ => rfl⟩

/-! one byte that is another one -/
theorem poly_odd (r : Nat) : crcBit r % 2 = r / 2147483648 % 2 := by
  unfold crcBit
  have h := Nat.xor_mod_two_pow (a := r * 2 % 4294967296) (b := 79764919 * (r / 2147483648)) (n := 1)
  simp only [Nat.pow_one] at h
  rw [h]
  have a : r * 2 % 4294967296 % 2 = 0 := by omega
  have b : 79764919 * (r / 2147483648) % 2 = r / 2147483648 % 2 := by omega
  rw [a, b, Nat.zero_xor]
theorem crcBit_inj (a b : Nat) (ha : a < 4294967296) (hb : b < 4294967296) (h : crcBit a = crcBit b) : a = b := by
  have h1 : a / 2147483648 = b / 2147483648 := by
    have p := poly_odd a
    have q := poly_odd b
    rw [h] at p
    omega
  unfold crcBit at h
  rw [h1] at h
  have h2 := congrArg (fun z => z ^^^ (79764919 * (b / 2147483648))) h
  simp only [Nat.xor_assoc, Nat.xor_self, Nat.xor_zero] at h2
  omega
theorem crcBits_inj (k : Nat) : ∀ a b, a < 4294967296 → b < 4294967296 → crcBits k a = crcBits k b → a = b := by
  induction k with
  | zero => intro a b _ _ h; exact h
  | succ k ih =>
    intro a b ha hb h
    exact crcBit_inj a b ha hb (ih _ _ (crcBit_lt a ha) (crcBit_lt b hb) h)
theorem xor_inj_left {a b c : Nat} (h : a ^^^ b = a ^^^ c) : b = c := by
  have := congrArg (fun z => a ^^^ z) h
  simpa only [← Nat.xor_assoc, Nat.xor_self, Nat.zero_xor] using this
theorem xor_inj_right {a b c : Nat} (h : b ^^^ a = c ^^^ a) : b = c := by
  rw [Nat.xor_comm b, Nat.xor_comm c] at h
  exact xor_inj_left h
theorem crcByte_inj_reg (a b c : Nat) (ha : a < 4294967296) (hb : b < 4294967296) (hc : c < 256) (h : crcByte a c = crcByte b c) : a = b :=
  xor_inj_right (crcBits_inj 8 _ _ (xor_lt32 ha (by omega)) (xor_lt32 hb (by omega)) h)
theorem crcByte_inj_byte (r c d : Nat) (hr : r < 4294967296) (hc : c < 256) (hd : d < 256) (h : crcByte r c = crcByte r d) : c = d := by
  have := xor_inj_left (crcBits_inj 8 _ _ (xor_lt32 hr (by omega)) (xor_lt32 hr (by omega)) h)
  omega
theorem crcGo_inj : ∀ (l : List Nat) (a b : Nat), (∀ c ∈ l, c < 256) → a < 4294967296 → b < 4294967296 → crcGo l a = crcGo l b → a = b
  | [], _, _, _, _, _, h => h
  | c :: l, a, b, hl, ha, hb, h => by
    have hc : c < 256 := hl c (by simp)
    exact crcByte_inj_reg a b c ha hb hc (crcGo_inj l _ _ (fun x hx => hl x (by simp [hx])) (crcByte_lt a c ha hc) (crcByte_lt b c hb hc) h)
theorem crc_one (p q : List Nat) (c d : Nat) (hp : ∀ x ∈ p, x < 256) (hq : ∀ x ∈ q, x < 256) (hc : c < 256) (hd : d < 256) (hne : c ≠ d) :
    crc (p ++ c :: q) ≠ crc (p ++ d :: q) := by
  intro h
  have h1 := xor_inj_right h
  have hr := crcGo_lt p 4294967295 (by omega) hp
  simp only [crcGo, List.foldl_append, List.foldl_cons] at h1
  exact hne (crcByte_inj_byte _ c d hr hc hd (crcGo_inj q _ _ hq (crcByte_lt _ c hr hc) (crcByte_lt _ d hr hd) h1))
end Go.Proofs.Ytaifljcalfadcaa.Mine
