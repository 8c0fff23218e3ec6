import Derived.Test.YtcfdplmapdgfmaaYCNum
import Derived.Test.YtcfdplmapdgfmaaYPNx0
import Derived.Test.YtcfdplmapdgfmaaYPNx1
import Derived.Test.YtcfdplmapdgfmaaYPNx2
import Derived.Test.YtcfdplmapdgfmaaYPNx4
import Derived.Test.YtcfdplmapdgfmaaYBase
import Derived.Test.YtcfdplmapdgfmaaYWMore
import Derived.Laws.BitsAllLaws
set_option linter.unusedVariables false
set_option linter.unusedSimpArgs false
namespace Go.Proofs.Ytcfdplmapdgfmaa.Mine
open Go.RowKit Go.Proofs.Ytcfdplmapdgfmaa.PN Go.Proofs.YtcfdplmapdgfmaaW.PrintWords
theorem codeNum_l0 (j : Nat) : ∀ (x : Nat) (l : List Nat) (k : Nat), x < 128 ^ j → x < 18446744073709551616 → j < k → l.length + j ≤ 100 →
  z0k.l0 k (x : Int) (ints l) = some (sb (rest x ++ l)) := by
 induction j with
 | zero =>
  intro x l k hx _ hk hl
  have : x = 0 := by simpa using hx
  subst this
  obtain ⟨k, rfl⟩ : ∃ m, k = m + 1 := ⟨k - 1, by omega⟩
  simp only [z0k.l0]
  rw [if_neg (by omega), strOf_ints, rest_zero, List.nil_append]
 | succ j ih =>
  intro x l k hx hx2 hk hl
  obtain ⟨k, rfl⟩ : ∃ m, k = m + 1 := ⟨k - 1, by omega⟩
  simp only [z0k.l0]
  by_cases h0 : x = 0
  ·subst h0
   rw [if_neg (by omega), strOf_ints, rest_zero, List.nil_append]
  ·rw [if_pos (by omega)]
   simp only [Option.bind_some]
   have e1 : IntKind.u64.wrap ((x : Int) - 1) = ((x - 1 : Nat) : Int) := by rw [IntKind.wrap_u64]; omega
   have e2 : (Int.tmod ((x - 1 : Nat) : Int) 128 % 256 + 128) % 256 = (((x - 1) % 128 + 128 : Nat) : Int) := by
    rw [Int.tmod_eq_emod_of_nonneg (by omega)]; omega
   have e3 : IntKind.u64.wrap (Int.tdiv ((x - 1 : Nat) : Int) 128) = (((x - 1) / 128 : Nat) : Int) := by
    rw [Int.tdiv_eq_ediv_of_nonneg (by omega), IntKind.wrap_u64]; omega
   rw [e1, e2, e3]
   have e4 : [((((x - 1) % 128 + 128 : Nat)) : Int)] ++ ints l = ints (((x - 1) % 128 + 128) :: l) := by simp [ints]
   rw [if_pos (by simp [ints]; omega), e4, ih ((x - 1) / 128) _ k (by rw [Nat.pow_succ] at hx; omega) (by omega) (by omega) (by simp; omega), rest_pos x h0]
   simp
theorem codeNum (n : Nat) (hn : n < 18446744073709551616) (k : Nat) (hk : 10 ≤ k) : z0k.f k (n : Int) = some (sb (num n)) := by
 unfold z0k.f
 have e1 : IntKind.u64.wrap (Int.tdiv (n : Int) 128) = ((n / 128 : Nat) : Int) := by
  rw [Int.tdiv_eq_ediv_of_nonneg (by omega), IntKind.wrap_u64]; omega
 have e2 : Int.tmod (n : Int) 128 % 256 = ((n % 128 : Nat) : Int) := by rw [Int.tmod_eq_emod_of_nonneg (by omega)]; omega
 rw [e1, e2]
 clear e1 e2
 have e3 : [((n % 128 : Nat) : Int)] = ints [n % 128] := by simp [ints]
 rw [e3, codeNum_l0 9 (n / 128) [n % 128] k (by omega) (by omega) (by omega) (by simp)]
 rfl
theorem small_sum {a b n : Nat} (ha : a = 1) (hb : b = n) (hn : n ≤ 100) : a + b ≤ 9223372036854775807 := by omega
theorem refNum_l1 (c : Nat) : ∀ (x i many : Nat) (l : List Nat) (k : Nat), many = i + c → many ≤ 10 → x < 18446744073709551616 → c < k → l.length ≤ i →
  z0j.l1 k (x : Int) (many : Int) (sb l) (i : Int) = some (sb (dl x i c ++ l)) := by
 induction c with
 | zero =>
  intro x i many l k hm _ _ hk _
  obtain ⟨k, rfl⟩ : ∃ m, k = m + 1 := ⟨k - 1, by omega⟩
  simp only [z0j.l1]
  rw [if_neg (by omega), dl, List.nil_append]
 | succ c ih =>
  intro x i many l k hm hm2 hx hk hl
  obtain ⟨k, rfl⟩ : ∃ m, k = m + 1 := ⟨k - 1, by omega⟩
  simp only [z0j.l1]
  rw [if_pos (by omega)]
  have e1 : Int.tmod (x : Int) 128 % 256 = ((x % 128 : Nat) : Int) := by rw [Int.tmod_eq_emod_of_nonneg (by omega)]; omega
  have e2 : IntKind.u64.wrap (Int.tdiv (x : Int) 128) = ((x / 128 : Nat) : Int) := by
   rw [Int.tdiv_eq_ediv_of_nonneg (by omega), IntKind.wrap_u64]; omega
  have e3 : wrap64 ((i : Int) + 1) = ((i + 1 : Nat) : Int) := by unfold wrap64; omega
  rw [e1, e2, e3]
  clear e1 e2 e3
  have hs : ∀ y : Nat, strOfNums [(y : Int)] = sb [y] := fun y => by rw [← strOf_ints]; rfl
  have hz : ∀ y : Nat, (sb [y]).size + (sb l).size ≤ 9223372036854775807 := fun y => small_sum (z0y [y]) (z0y l) (by omega)
  by_cases hi : 0 < i
  ·rw [if_pos (by omega)]
   simp only [Option.bind_some]
   have e4 : (((x % 128 : Nat) : Int) + 128) % 256 = ((x % 128 + 128 : Nat) : Int) := by omega
   rw [e4, hs, if_pos (hz _), ← z2g, ih (x / 128) (i + 1) many _ k (by omega) hm2 (by omega) (by omega) (by simp only [List.length_append, List.length_cons, List.length_nil]; omega), dl, if_pos hi]
   simp
  ·rw [if_neg (by omega)]
   simp only [Option.bind_some]
   rw [hs, if_pos (hz _), ← z2g, ih (x / 128) (i + 1) many _ k (by omega) hm2 (by omega) (by omega) (by simp only [List.length_append, List.length_cons, List.length_nil]; omega), dl, if_neg hi]
   simp
theorem refNum_j1 (n c k : Nat) (hc : c ≤ 9) (hn : n < 18446744073709551616) (h1 : 128 * geo c ≤ n) (h2 : n < 128 * geo (c + 1)) (hk : 12 ≤ k) :
  z0j.j1 k (n : Int) ((c + 1 : Nat) : Int) ((128 * geo c : Nat) : Int) = some (sb (num n)) := by
 obtain ⟨k, rfl⟩ : ∃ m, k = m + 1 := ⟨k - 1, by omega⟩
 simp only [z0j.j1]
 have e1 : IntKind.u64.wrap ((n : Int) - ((128 * geo c : Nat) : Int)) = ((n - 128 * geo c : Nat) : Int) := by rw [IntKind.wrap_u64]; omega
 rw [e1, sb_nil]
 have := refNum_l1 (c + 1) (n - 128 * geo c) 0 (c + 1) [] k (by omega) (by omega) (by omega) (by omega) (by simp)
 rw [num_dl c n h1 h2]
 simpa using this
theorem big9 : 18446744073709551616 ≤ 128 * geo (9 + 1) := by
 have : geo (9 + 1) = 9295997013522923649 := by kernel_rfl
 rw [this]; omega
theorem refNum_l0 (d : Nat) : ∀ (c n k : Nat) (size : Int), c + d = 9 → n < 18446744073709551616 → 128 * geo c ≤ n → (c < 9 → size = ((128 ^ (c + 1) : Nat) : Int)) → d + 13 ≤ k →
  z0j.l0 k (n : Int) ((c + 1 : Nat) : Int) size ((128 * geo c : Nat) : Int) = some (sb (num n)) := by
 induction d with
 | zero =>
  intro c n k size hc hn h1 hs hk
  obtain rfl : c = 9 := by omega
  obtain ⟨k, rfl⟩ : ∃ m, k = m + 1 := ⟨k - 1, by omega⟩
  simp only [z0j.l0]
  rw [if_neg (by omega)]
  exact refNum_j1 n 9 k (by omega) hn h1 (Nat.lt_of_lt_of_le hn big9) (by omega)
 | succ d ih =>
  intro c n k size hc hn h1 hs hk
  obtain ⟨k, rfl⟩ : ∃ m, k = m + 1 := ⟨k - 1, by omega⟩
  simp only [z0j.l0]
  rw [if_pos (by omega), hs (by omega)]
  have hg := geo_pow c
  have hp : (128 : Nat) ^ (c + 1) = 128 * 128 ^ c := by rw [Nat.pow_succ, Nat.mul_comm]
  have e1 : IntKind.u64.wrap ((n : Int) - ((128 * geo c : Nat) : Int)) = ((n - 128 * geo c : Nat) : Int) := by rw [IntKind.wrap_u64]; omega
  rw [e1]
  clear e1
  by_cases hge : 128 ^ (c + 1) ≤ n - 128 * geo c
  ·rw [if_pos (by omega)]
   have e2 : wrap64 (((c + 1 : Nat) : Int) + 1) = ((c + 1 + 1 : Nat) : Int) := by unfold wrap64; omega
   rw [e2]
   clear e2
   have e3 : IntKind.u64.wrap (((128 * geo c : Nat) : Int) + ((128 ^ (c + 1) : Nat) : Int)) = ((128 * geo (c + 1) : Nat) : Int) := by
    rw [IntKind.wrap_u64, hg]; omega
   rw [e3]
   clear e3
   refine ih (c + 1) n k _ (by omega) hn (by rw [hg]; omega) (fun h9 => ?_) (by omega)
   have hle : (128 : Nat) ^ (c + 1) ≤ 128 ^ 8 := Nat.pow_le_pow_right (by omega) (by omega)
   have e4 : (128 : Nat) ^ (c + 1 + 1) = 128 ^ (c + 1) * 128 := Nat.pow_succ ..
   rw [IntKind.wrap_u64, e4]
   have e5 : (128 : Nat) ^ 8 = 72057594037927936 := by kernel_rfl
   omega
  ·rw [if_neg (by omega)]
   exact refNum_j1 n c k (by omega) hn h1 (by rw [hg]; omega) (by omega)
theorem refNum (n : Nat) (hn : n < 18446744073709551616) (k : Nat) (hk : 22 ≤ k) : z0j.f k (n : Int) = some (sb (num n)) :=
 refNum_l0 9 0 n k 128 rfl hn (by simp [geo]) (fun _ => rfl) (by omega)
theorem num_calls (n : Nat) (w : World) (hn : n < 18446744073709551616) :
  Calls Try.prog 40 #[.int .u64 (n : Int)] w fun e w' => e = .returned (.string (sb (num n))) ∧ Below w.heap.size w w' :=
 (z0k.calls 10 _ _ w (codeNum n hn 10 (Nat.le_refl _))).mono fun e w' h => ⟨h.1, h.2⟩
theorem refnum_calls (n : Nat) (w : World) (hn : n < 18446744073709551616) :
  Calls Try.prog 51 #[.int .u64 (n : Int)] w fun e w' => e = .returned (.string (sb (num n))) ∧ Below w.heap.size w w' :=
 (z0j.calls 22 _ _ w (refNum n hn 22 (Nat.le_refl _))).mono fun e w' h => ⟨h.1, h.2⟩
end Go.Proofs.Ytcfdplmapdgfmaa.Mine
namespace Go.Proofs.Ytcfdplmapdgfmaa.Mine
open Go.RowKit Go.Proofs.Ytcfdplmapdgfmaa.PN Go.Proofs.YtcfdplmapdgfmaaW.PrintWords
theorem bt_bs (s : ByteArray) (i : Nat) (h : i < s.size) : ∃ c, c < 256 ∧ (bs s).drop i = c :: (bs s).drop (i + 1) ∧ bt s (i : Int) = (c : Int) := by
 obtain ⟨c, hc, hd, hcs⟩ := bs_drop s i h
 refine ⟨c, hc, hd, ?_⟩
 have h2 : i < s.data.toList.length := by simpa using h
 unfold bt
 rw [dif_pos (by simpa using h)]
 simp [List.getD_eq_getElem?_getD, List.getElem?_eq_getElem h2] at hcs
 rw [← hcs]
 rfl
def tri (r : Nat × Nat × Nat) : Int × Int × Int := (r.1, r.2.1, r.2.2)
end Go.Proofs.Ytcfdplmapdgfmaa.Mine
namespace Go.Proofs.Ytcfdplmapdgfmaa.Mine
open Go.RowKit Go.Proofs.YtcfdplmapdgfmaaW.PrintWords Go.Proofs.YtcfdplmapdgfmaaW.PrintMore
theorem xor_div31 (a b : Nat) : (a ^^^ b) / 2147483648 = (a / 2147483648) ^^^ (b / 2147483648) := by
 have := Nat.xor_div_two_pow (a := a) (b := b) (n := 31)
 simpa using this
theorem xor_dbl (a b : Nat) : (a ^^^ b) * 2 % 4294967296 = (a * 2 % 4294967296) ^^^ (b * 2 % 4294967296) := by
 have h1 : (a ^^^ b) * 2 = (a * 2) ^^^ (b * 2) := by
  have := Nat.shiftLeft_xor_distrib (a := a) (b := b) (i := 1)
  simpa [Nat.shiftLeft_eq] using this
 have h2 := Nat.xor_mod_two_pow (a := a * 2) (b := b * 2) (n := 32)
 rw [h1]
 simpa using h2
theorem bit_cases (x y : Nat) (hx : x < 2) (hy : y < 2) : (x ^^^ y = 0 ∧ x = y) ∨ (x ^^^ y = 1 ∧ x ≠ y) := by
 rcases (by omega : x = 0 ∨ x = 1) with rfl | rfl <;> rcases (by omega : y = 0 ∨ y = 1) with rfl | rfl <;> simp
theorem crcBit_over (r x : Nat) (hr : r < 4294967296) (hx : x < 4294967296) :
  crcBit (r ^^^ x) = (if r / 2147483648 = x / 2147483648 then r * 2 % 4294967296 else (r * 2 % 4294967296) ^^^ 79764919) ^^^ (x * 2 % 4294967296) := by
 unfold crcBit
 rw [xor_dbl, xor_div31]
 rcases bit_cases (r / 2147483648) (x / 2147483648) (by omega) (by omega) with ⟨h1, h2⟩ | ⟨h1, h2⟩
 ·rw [h1, if_pos h2]; simp
 ·rw [h1, if_neg h2, Nat.mul_one, Nat.xor_assoc, Nat.xor_assoc, Nat.xor_comm (x * 2 % 4294967296)]
theorem refStep (c r j : Nat) (hc : c < 256) (hr : r < 4294967296) (hj : j < 8) (x : Nat) (hx : x = c * 16777216 * 2 ^ j % 4294967296) :
  (Go.bits .xor .u32 (Go.bits .and .u32 (shr .u32 ((c : Int) % 4294967296) (IntKind.u64.wrap (7 - (j : Int)))) 1) ((r : Int) / 2147483648) = 1) ↔ ¬ r / 2147483648 = x / 2147483648 := by
 have hs : shr .u32 ((c : Int) % 4294967296) (IntKind.u64.wrap (7 - (j : Int))) = ((c / 2 ^ (7 - j) : Nat) : Int) := by
  have a1 : IntKind.u64.wrap (7 - (j : Int)) = ((7 - j : Nat) : Int) := by rw [IntKind.wrap_u64]; omega
  have a2 : (c : Int) % 4294967296 = (c : Int) := by omega
  rw [a1, a2]
  unfold shr
  rw [Int.toNat_natCast, Nat.min_eq_left (by show 7 - j ≤ 32; omega), Int.natCast_ediv, Int.natCast_pow]
  rfl
 have hd : c / 2 ^ (7 - j) < 256 := Nat.lt_of_le_of_lt (Nat.div_le_self _ _) hc
 have e1 : Go.bits .and .u32 ((c / 2 ^ (7 - j) : Nat) : Int) 1 = (((c / 2 ^ (7 - j)) % 2 : Nat) : Int) := by
  have := u32_and_nat (c / 2 ^ (7 - j)) 1 (by omega) (by omega)
  rw [show ((1 : Nat) : Int) = 1 from rfl] at this
  rw [this, Nat.and_one_is_mod]
 have e2 : (r : Int) / 2147483648 = ((r / 2147483648 : Nat) : Int) := by omega
 rw [hs, e1, e2, u32_xor_nat _ _ (by omega) (by omega)]
 have e3 : x / 2147483648 = c / 2 ^ (7 - j) % 2 := by
  rw [hx]
  rcases (by omega : j = 0 ∨ j = 1 ∨ j = 2 ∨ j = 3 ∨ j = 4 ∨ j = 5 ∨ j = 6 ∨ j = 7) with rfl | rfl | rfl | rfl | rfl | rfl | rfl | rfl <;> simp only [Nat.reducePow, Nat.reduceSub, Nat.mul_one] <;> omega
 rw [e3]
 rcases bit_cases (c / 2 ^ (7 - j) % 2) (r / 2147483648) (by omega) (by omega) with ⟨h1, h2⟩ | ⟨h1, h2⟩
 ·rw [h1]
  constructor
  ·intro h; cases h
  ·intro h; exact absurd h2.symm h
 ·rw [h1]
  exact ⟨fun _ e => h2 e.symm, fun _ => rfl⟩
end Go.Proofs.Ytcfdplmapdgfmaa.Mine
namespace Go.Proofs.Ytcfdplmapdgfmaa.Mine
open Go.RowKit Go.Proofs.Ytcfdplmapdgfmaa.PN Go.Proofs.YtcfdplmapdgfmaaW.PrintWords Go.Proofs.YtcfdplmapdgfmaaW.PrintMore
theorem refCheck_l1 (s : ByteArray) (i c : Nat) (hi : i < s.size) (hb : bt s (i : Int) = (c : Int)) (hc : c < 256) (d : Nat) :
  ∀ (j r k : Nat), j + d = 8 → r < 4294967296 → d < k →
  ∃ r', z0x.l1 k s (r : Int) (i : Int) (7 - (j : Int)) = z0x.l0 (k - d - 1) s ((r' : Nat) : Int) (wrap64 ((i : Int) + 1)) ∧ r' < 4294967296 ∧
   r' = crcBits d (r ^^^ (c * 16777216 * 2 ^ j % 4294967296)) := by
 induction d with
 | zero =>
  intro j r k hj hr hk
  obtain ⟨k, rfl⟩ : ∃ m, k = m + 1 := ⟨k - 1, by omega⟩
  obtain rfl : j = 8 := by omega
  simp only [z0x.l1]
  rw [if_neg (by omega)]
  refine ⟨r, by simp, hr, ?_⟩
  have : c * 16777216 * 2 ^ 8 % 4294967296 = 0 := by simp only [Nat.reducePow]; omega
  rw [this, Nat.xor_zero]
  rfl
 | succ d ih =>
  intro j r k hj hr hk
  obtain ⟨k, rfl⟩ : ∃ m, k = m + 1 := ⟨k - 1, by omega⟩
  simp only [z0x.l1]
  have a1 : IntKind.u64.wrap (7 - (j : Int)) = 7 - (j : Int) := by rw [IntKind.wrap_u64]; omega
  rw [if_pos (by omega), if_pos (by omega), if_pos (by omega), if_pos (by rw [a1]; omega), hb]
  clear a1
  have a2 : wrap64 (7 - (j : Int) - 1) = 7 - ((j + 1 : Nat) : Int) := by unfold wrap64; omega
  rw [a2]
  clear a2
  have a3 : (r : Int) * 2 % 4294967296 = ((r * 2 % 4294967296 : Nat) : Int) := by omega
  rw [a3]
  obtain ⟨x, hx⟩ : ∃ x, x = c * 16777216 * 2 ^ j % 4294967296 := ⟨_, rfl⟩
  have hstep := refStep c r j hc hr (by omega) x hx
  have hover := crcBit_over r x hr (by omega)
  have hx2 : x * 2 % 4294967296 = c * 16777216 * 2 ^ (j + 1) % 4294967296 := by
   rw [hx, Nat.pow_succ, ← Nat.mul_assoc (c * 16777216)]
   omega
  rw [← hx]
  rw [crcBits, hover, hx2]
  by_cases ht : r / 2147483648 = x / 2147483648
  ·rw [if_neg (by rw [hstep]; exact fun h => h ht), if_pos ht]
   obtain ⟨r', h1, h2, h3⟩ := ih (j + 1) (r * 2 % 4294967296) k (by omega) (by omega) (by omega)
   exact ⟨r', by rw [h1, show k + 1 - (d + 1) - 1 = k - d - 1 from by omega], h2, h3⟩
  ·have e := u32_xor_nat (r * 2 % 4294967296) 79764919 (by omega) (by omega)
   rw [if_pos (hstep.2 ht), if_neg ht]
   obtain ⟨r', h1, h2, h3⟩ := ih (j + 1) ((r * 2 % 4294967296) ^^^ 79764919) k (by omega) (xor_lt32 (by omega) (by omega)) (by omega)
   refine ⟨r', ?_, h2, h3⟩
   rw [← e] at h1
   rw [show k + 1 - (d + 1) - 1 = k - d - 1 from by omega]
   exact h1
theorem refCheck_l0 (s : ByteArray) (hs : s.size ≤ 140737488351232) (d : Nat) : ∀ (i r k : Nat), i + d = s.size → r < 4294967296 → 10 * d + 1 < k →
  z0x.l0 k s (r : Int) (i : Int) = some ((4294967295 - (crcGo ((bs s).drop i) r : Int)) % 4294967296) := by
 induction d with
 | zero =>
  intro i r k hi hr hk
  obtain ⟨k, rfl⟩ : ∃ m, k = m + 1 := ⟨k - 1, by omega⟩
  simp only [z0x.l0]
  have hnil : (bs s).drop i = [] := List.drop_eq_nil_of_le (by rw [z17]; omega)
  rw [if_neg (by omega), hnil]
  rfl
 | succ d ih =>
  intro i r k hi hr hk
  obtain ⟨k, rfl⟩ : ∃ m, k = m + 1 := ⟨k - 1, by omega⟩
  simp only [z0x.l0]
  obtain ⟨c, hc, hd, hb⟩ := bt_bs s i (by omega)
  rw [if_pos (by omega)]
  obtain ⟨r', h1, h2, h3⟩ := refCheck_l1 s i c (by omega) hb hc 8 0 r k (by omega) hr (by omega)
  have h1' : z0x.l1 k s (r : Int) (i : Int) 7 = _ := h1
  have e3 : wrap64 ((i : Int) + 1) = ((i + 1 : Nat) : Int) := by unfold wrap64; omega
  rw [h1', e3]
  clear e3
  rw [ih (i + 1) r' (k - 8 - 1) (by omega) h2 (by omega), hd, h3]
  have : c * 16777216 * 2 ^ 0 % 4294967296 = c * 16777216 := by simp only [Nat.reducePow]; omega
  rw [this]
  rfl
theorem not_xor (r : Nat) (hr : r < 4294967296) : 4294967295 - r = r ^^^ 4294967295 := by
 apply Nat.eq_of_testBit_eq
 intro i
 rw [Nat.testBit_xor]
 have h1 : (4294967295 - r) = 2 ^ 32 - (r + 1) := by omega
 rw [h1, Nat.testBit_two_pow_sub_succ (by omega), show (4294967295 : Nat) = 2 ^ 32 - 1 from rfl, Nat.testBit_two_pow_sub_one]
 by_cases hi : i < 32
 ·simp [hi]
 ·have : r.testBit i = false := Nat.testBit_lt_two_pow (Nat.lt_of_lt_of_le hr (by
   have : (2 : Nat) ^ 32 ≤ 2 ^ i := Nat.pow_le_pow_right (by omega) (by omega)
   simpa using this))
  simp [hi, this]
theorem refCheck (s : ByteArray) (hs : s.size ≤ 140737488351232) (k : Nat) (hk : 10 * s.size + 2 ≤ k) : z0x.f k s = some ((crc (bs s) : Nat) : Int) := by
 have h := refCheck_l0 s hs s.size 0 4294967295 k (by omega) (by omega) (by omega)
 have hl := crcGo_lt (bs s) 4294967295 (by omega) (bs_lt s)
 unfold z0x.f
 rw [crc, ← not_xor _ hl]
 have e : (4294967295 - ((crcGo ((bs s).drop 0) 4294967295 : Nat) : Int)) % 4294967296 = ((4294967295 - crcGo (bs s) 4294967295 : Nat) : Int) := by
  rw [List.drop_zero]; omega
 rw [← e]
 exact h
end Go.Proofs.Ytcfdplmapdgfmaa.Mine
namespace Go.Proofs.Ytcfdplmapdgfmaa.Mine
open Go.RowKit Go.Proofs.Ytcfdplmapdgfmaa.PN Go.Proofs.YtcfdplmapdgfmaaW.PrintWords
def four (r : Nat) : List Nat := [r / 16777216 % 256, r / 65536 % 256, r / 256 % 256, r % 256]
theorem four_lt (r : Nat) : ∀ c ∈ four r, c < 256 := by
 intro c hc
 simp only [four, List.mem_cons, List.not_mem_nil, or_false] at hc
 omega
theorem four_length (r : Nat) : (four r).length = 4 := rfl
theorem codeFour (r : Nat) : z2b.f (r : Int) = some (sb (four r)) := by
 unfold z2b.f
 have : [((r : Int) / 16777216) % 256, ((r : Int) / 65536) % 256, ((r : Int) / 256) % 256, (r : Int) % 256] = ints (four r) := by simp [ints, four]
 rw [this, strOf_ints]
theorem refFour (r : Nat) (h : r < 4294967296) : z2m.f (r : Int) = some (sb (four r)) := by
 unfold z2m.f
 rw [Int.tdiv_eq_ediv_of_nonneg (by omega), Int.tdiv_eq_ediv_of_nonneg (by omega), Int.tdiv_eq_ediv_of_nonneg (by omega), Int.tmod_eq_emod_of_nonneg (by omega)]
 have : [((r : Int) / 16777216) % 4294967296 % 256, ((r : Int) / 65536) % 4294967296 % 256, ((r : Int) / 256) % 4294967296 % 256, (r : Int) % 256 % 256] = ints (four r) := by
  have a1 : ((r : Int) / 16777216) % 4294967296 % 256 = ((r / 16777216 % 256 : Nat) : Int) := by omega
  have a2 : ((r : Int) / 65536) % 4294967296 % 256 = ((r / 65536 % 256 : Nat) : Int) := by omega
  have a3 : ((r : Int) / 256) % 4294967296 % 256 = ((r / 256 % 256 : Nat) : Int) := by omega
  have a4 : (r : Int) % 256 % 256 = ((r % 256 : Nat) : Int) := by omega
  rw [a1, a2, a3, a4]
  rfl
 rw [this, strOf_ints]
theorem codeCheckF (s : ByteArray) (hs : s.size ≤ 140737488351232) : z2h.f s = some ((crc (bs s) : Nat) : Int) := by
 unfold z2h.f
 rw [if_pos hs]
def frame (l : List Nat) : List Nat := num l.length ++ l ++ four (crc (num l.length ++ l))
theorem frame_lt (l : List Nat) (h : ∀ c ∈ l, c < 256) : ∀ c ∈ frame l, c < 256 := by
 intro c hc
 simp only [frame, List.mem_append] at hc
 rcases hc with (hc | hc) | hc
 ·exact num_lt _ c hc
 ·exact h c hc
 ·exact four_lt _ c hc
theorem frame_length (l : List Nat) : (frame l).length = (num l.length).length + l.length + 4 := by simp [frame, four_length]; omega
theorem codeFrame (s : ByteArray) (hs : s.size ≤ 1000000000) (k : Nat) (hk : 10 ≤ k) : z1y.f k s = some (sb (frame (bs s))) := by
 have hnl := num_length s.size (by omega)
 have hl := z17 s
 unfold z1y.f
 have e1 : IntKind.u64.wrap ((s.size : Int)) = (s.size : Int) := by rw [IntKind.wrap_u64]; omega
 rw [e1, codeNum s.size (by omega) k hk]
 clear e1
 simp only [Option.bind_some]
 have z1 := z0y (num s.size)
 have z2 : (sb (num s.size) ++ s).size = (num s.size).length + s.size := by rw [ByteArray.size_append, z1]
 rw [if_pos (by omega), codeCheckF _ (by omega)]
 simp only [Option.bind_some]
 rw [codeFour]
 simp only [Option.bind_some]
 have z3 := z0y (four (crc (bs (sb (num s.size) ++ s))))
 rw [four_length] at z3
 rw [if_pos (by omega)]
 have hbs : bs (sb (num s.size) ++ s) = num (bs s).length ++ bs s := by rw [bs_append, bs_sb _ (num_lt _), hl]
 rw [hbs]
 unfold frame
 rw [z2g, z2g, sb_bs, hl]
theorem refFrame (s : ByteArray) (hs : s.size ≤ 1000000000) (k : Nat) (hk : 10 * s.size + 200 ≤ k) : z1z.f k s = some (sb (frame (bs s))) := by
 have hnl := num_length s.size (by omega)
 have hl := z17 s
 unfold z1z.f
 have e1 : IntKind.u64.wrap ((s.size : Int)) = (s.size : Int) := by rw [IntKind.wrap_u64]; omega
 rw [e1, refNum s.size (by omega) k (by omega)]
 clear e1
 simp only [Option.bind_some]
 have z1 := z0y (num s.size)
 have z2 : (sb (num s.size) ++ s).size = (num s.size).length + s.size := by rw [ByteArray.size_append, z1]
 rw [if_pos (by omega), refCheck _ (by omega) k (by omega)]
 simp only [Option.bind_some]
 rw [refFour _ (crc_lt _ (bs_lt _))]
 simp only [Option.bind_some]
 have z3 := z0y (four (crc (bs (sb (num s.size) ++ s))))
 rw [four_length] at z3
 rw [if_pos (by omega)]
 have hbs : bs (sb (num s.size) ++ s) = num (bs s).length ++ bs s := by rw [bs_append, bs_sb _ (num_lt _), hl]
 rw [hbs]
 unfold frame
 rw [z2g, z2g, sb_bs, hl]
def unframeOf (l : List Nat) (n at_ : Nat) : List Nat × Nat × Nat :=
 if 2097152 < n then ([], 0, 3) else
 if l.length < at_ + n + 4 then ([], 0, 4) else
 if four (crc (l.take (at_ + n))) = (l.drop (at_ + n)).take 4 then ((l.drop at_).take n, at_ + n + 4, 0) else ([], 0, 6)
def unframe (l : List Nat) : List Nat × Nat × Nat :=
 if (unnum l).2.2 = 0 then unframeOf l (unnum l).1 (unnum l).2.1 else ([], 0, (unnum l).2.2)
def tris (r : List Nat × Nat × Nat) : ByteArray × Int × Int := (sb r.1, (r.2.1 : Int), (r.2.2 : Int))
theorem toL_iff (l : List Nat) (h : ∀ c ∈ l, c < 256) (s : ByteArray) : ((sb l).toList = s.toList) ↔ l = bs s := by
 constructor
 ·intro e
  rw [toL, toL] at e
  have : sb l = s := ByteArray.ext (Array.toList_inj.1 e)
  rw [← this, bs_sb _ h]
 ·intro e
  rw [e, sb_bs]
theorem bs_part (s : ByteArray) (i j : Nat) : bs (s.extract i (i + j)) = ((bs s).drop i).take j := by rw [bs_extract, show i + j - i = j from by omega]
theorem codeUnframe (s : ByteArray) (hs : s.size ≤ 140737488351232) : z2c.f s = some (tris (unframe (bs s))) := by
 have hl := z17 s
 obtain ⟨hb1, hb2, hb3⟩ := unnum_bounds (bs s) (bs_lt s)
 have hun : z1i.f s = some (tri (unnum (bs s))) := by
  unfold z1i.f
  rw [if_pos hs]
  rfl
 unfold z2c.f
 rw [hun, unframe]
 rcases hu : unnum (bs s) with ⟨n, a, e⟩
 rw [hu] at hb1 hb2 hb3
 simp only at hb1 hb2 hb3
 have ht : some (tri (n, a, e)) = some ((n : Int), (a : Int), (e : Int)) := rfl
 rw [ht]
 simp only [Option.bind_some]
 by_cases he : e = 0
 ·rw [if_pos (by omega), if_pos he, unframeOf]
  by_cases h2 : 2097152 < n
  ·rw [if_pos (by omega), if_pos h2]; rfl
  ·rw [if_neg (by omega), if_neg h2]
   have e1 : wrap64 (n : Int) = (n : Int) := by unfold wrap64; omega
   rw [e1]
   clear e1
   have e2 : wrap64 ((a : Int) + (n : Int)) = ((a + n : Nat) : Int) := by unfold wrap64; omega
   rw [e2]
   clear e2
   have e3 : wrap64 (((a + n : Nat) : Int) + 4) = ((a + n + 4 : Nat) : Int) := by unfold wrap64; omega
   rw [e3]
   clear e3
   by_cases h3 : s.size < a + n + 4
   ·rw [if_pos (by omega), if_pos (by omega)]; rfl
   ·have h3' : ¬ (bs s).length < a + n + 4 := by omega
    rw [if_neg h3', if_neg (by omega), if_pos (by omega), if_pos (by omega)]
    rw [codeCheckF _ (by rw [ByteArray.size_extract]; omega)]
    simp only [Option.bind_some]
    rw [codeFour]
    simp only [Option.bind_some]
    rw [if_pos (by omega), if_pos (by omega)]
    simp only [Int.toNat_natCast]
    have h0 : bs (s.extract 0 (a + n)) = (bs s).take (a + n) := by have := bs_part s 0 (a + n); rwa [Nat.zero_add, List.drop_zero] at this
    have h4 : bs (s.extract (a + n) (a + n + 4)) = ((bs s).drop (a + n)).take 4 := bs_part s (a + n) 4
    have h5 : bs (s.extract a (a + n)) = ((bs s).drop a).take n := bs_part s a n
    rw [h0]
    by_cases h6 : four (crc ((bs s).take (a + n))) = ((bs s).drop (a + n)).take 4
    ·rw [if_pos ((toL_iff _ (four_lt _) _).2 (by rw [h4]; exact h6)), if_pos (by omega), if_pos (by omega), if_pos h6]
     have : s.extract a (a + n) = sb (((bs s).drop a).take n) := sb_eq _ _ h5
     rw [this]; rfl
    ·rw [if_neg (fun e => h6 (by rw [← h4]; exact (toL_iff _ (four_lt _) _).1 e)), if_neg h6]; rfl
 ·rw [if_neg (by omega), if_neg he]; rfl
theorem unframe_frame (l t : List Nat) (hl : l.length ≤ 2097152) : unframe (frame l ++ t) = (l, (frame l).length, 0) := by
 have hf : frame l ++ t = num l.length ++ (l ++ (four (crc (num l.length ++ l)) ++ t)) := by simp [frame]
 have hu := unnum_num l.length (by omega) (l ++ (four (crc (num l.length ++ l)) ++ t))
 have hfl := frame_length l
 rw [unframe, hf, hu]
 simp only [if_true]
 have h1 : ((num l.length ++ (l ++ (four (crc (num l.length ++ l)) ++ t)))).take ((num l.length).length + l.length) = num l.length ++ l := by
  rw [← List.append_assoc, List.take_left' (by simp)]
 have h2 : ((num l.length ++ (l ++ (four (crc (num l.length ++ l)) ++ t)))).drop ((num l.length).length + l.length) = four (crc (num l.length ++ l)) ++ t := by
  rw [← List.append_assoc, List.drop_left' (by simp)]
 have h3 : ((num l.length ++ (l ++ (four (crc (num l.length ++ l)) ++ t)))).drop (num l.length).length = l ++ (four (crc (num l.length ++ l)) ++ t) := List.drop_left' rfl
 rw [unframeOf, if_neg (by omega), if_neg (by simp [four_length]; omega), h1, h2, h3, List.take_left' (four_length _), if_pos rfl, List.take_left' rfl, hfl]
end Go.Proofs.Ytcfdplmapdgfmaa.Mine
