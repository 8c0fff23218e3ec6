import Derived.Test.YtcfdplmapdgfmaaUCNum
import Derived.Test.YtcfdplmapdgfmaaUPNx0
import Derived.Test.YtcfdplmapdgfmaaUPNx1
import Derived.Test.YtcfdplmapdgfmaaUPNx2
import Derived.Test.YtcfdplmapdgfmaaUBase
import Derived.Test.YtcfdplmapdgfmaaUWMore
import Derived.Laws.BitsAllLaws
set_option linter.unusedVariables false
set_option linter.unusedSimpArgs false
namespace Go.Proofs.Ytcfdplmapdgfmaa.Mine
open Go.RowKit Go.Proofs.Ytcfdplmapdgfmaa.PN Go.Proofs.YtcfdplmapdgfmaaW.PrintWords
theorem codeNum_l0 (j : Nat) : ∀ (x : Nat) (l : List Nat) (k : Nat), x < 128 ^ j → x < 18446744073709551616 → j < k → l.length + j ≤ 100 →
  z0h.l0 k (x : Int) (ints l) = some (sb (rest x ++ l)) := by
 induction j with
 | zero =>
  intro x l k hx _ hk hl
  have : x = 0 := by simpa using hx
  subst this
  obtain ⟨k, rfl⟩ : ∃ m, k = m + 1 := ⟨k - 1, by omega⟩
  simp only [z0h.l0]
  rw [if_neg (by omega), strOf_ints, rest_zero, List.nil_append]
 | succ j ih =>
  intro x l k hx hx2 hk hl
  obtain ⟨k, rfl⟩ : ∃ m, k = m + 1 := ⟨k - 1, by omega⟩
  simp only [z0h.l0]
  by_cases h0 : x = 0
  ·subst h0
   rw [if_neg (by omega), strOf_ints, rest_zero, List.nil_append]
  ·rw [if_pos (by omega)]
   simp only [Option.bind_some]
   have e1 : IntKind.u64.wrap ((x : Int) - 1) = ((x - 1 : Nat) : Int) := by rw [IntKind.wrap_u64]; omega
   have e2 : (Int.tmod ((x - 1 : Nat) : Int) 128 % 256 + 128) % 256 = (((x - 1) % 128 + 128 : Nat) : Int) := by
    rw [Int.tmod_eq_emod_of_nonneg (by omega)]; omega
   have e3 : IntKind.u64.wrap (Int.tdiv ((x - 1 : Nat) : Int) 128) = (((x - 1) / 128 : Nat) : Int) := by
    rw [Int.tdiv_eq_ediv_of_nonneg (by omega), IntKind.wrap_u64]; omega
   rw [e1, e2, e3]
   have e4 : [((((x - 1) % 128 + 128 : Nat)) : Int)] ++ ints l = ints (((x - 1) % 128 + 128) :: l) := by simp [ints]
   rw [if_pos (by simp [ints]; omega), e4, ih ((x - 1) / 128) _ k (by rw [Nat.pow_succ] at hx; omega) (by omega) (by omega) (by simp; omega), rest_pos x h0]
   simp
theorem codeNum (n : Nat) (hn : n < 18446744073709551616) (k : Nat) (hk : 10 ≤ k) : z0h.f k (n : Int) = some (sb (num n)) := by
 unfold z0h.f
 have e1 : IntKind.u64.wrap (Int.tdiv (n : Int) 128) = ((n / 128 : Nat) : Int) := by
  rw [Int.tdiv_eq_ediv_of_nonneg (by omega), IntKind.wrap_u64]; omega
 have e2 : Int.tmod (n : Int) 128 % 256 = ((n % 128 : Nat) : Int) := by rw [Int.tmod_eq_emod_of_nonneg (by omega)]; omega
 rw [e1, e2]
 clear e1 e2
 have e3 : [((n % 128 : Nat) : Int)] = ints [n % 128] := by simp [ints]
 rw [e3, codeNum_l0 9 (n / 128) [n % 128] k (by omega) (by omega) (by omega) (by simp)]
 rfl
theorem small_sum {a b n : Nat} (ha : a = 1) (hb : b = n) (hn : n ≤ 100) : a + b ≤ 9223372036854775807 := by omega
theorem refNum_l1 (c : Nat) : ∀ (x i many : Nat) (l : List Nat) (k : Nat), many = i + c → many ≤ 10 → x < 18446744073709551616 → c < k → l.length ≤ i →
  z02.l1 k (x : Int) (many : Int) (sb l) (i : Int) = some (sb (dl x i c ++ l)) := by
 induction c with
 | zero =>
  intro x i many l k hm _ _ hk _
  obtain ⟨k, rfl⟩ : ∃ m, k = m + 1 := ⟨k - 1, by omega⟩
  simp only [z02.l1]
  rw [if_neg (by omega), dl, List.nil_append]
 | succ c ih =>
  intro x i many l k hm hm2 hx hk hl
  obtain ⟨k, rfl⟩ : ∃ m, k = m + 1 := ⟨k - 1, by omega⟩
  simp only [z02.l1]
  rw [if_pos (by omega)]
  have e1 : Int.tmod (x : Int) 128 % 256 = ((x % 128 : Nat) : Int) := by rw [Int.tmod_eq_emod_of_nonneg (by omega)]; omega
  have e2 : IntKind.u64.wrap (Int.tdiv (x : Int) 128) = ((x / 128 : Nat) : Int) := by
   rw [Int.tdiv_eq_ediv_of_nonneg (by omega), IntKind.wrap_u64]; omega
  have e3 : wrap64 ((i : Int) + 1) = ((i + 1 : Nat) : Int) := by unfold wrap64; omega
  rw [e1, e2, e3]
  clear e1 e2 e3
  have hs : ∀ y : Nat, strOfNums [(y : Int)] = sb [y] := fun y => by rw [← strOf_ints]; rfl
  have hz : ∀ y : Nat, (sb [y]).size + (sb l).size ≤ 9223372036854775807 := fun y => small_sum (z04 [y]) (z04 l) (by omega)
  by_cases hi : 0 < i
  ·rw [if_pos (by omega)]
   simp only [Option.bind_some]
   have e4 : (((x % 128 : Nat) : Int) + 128) % 256 = ((x % 128 + 128 : Nat) : Int) := by omega
   rw [e4, hs, if_pos (hz _), ← z0m, ih (x / 128) (i + 1) many _ k (by omega) hm2 (by omega) (by omega) (by simp only [List.length_append, List.length_cons, List.length_nil]; omega), dl, if_pos hi]
   simp
  ·rw [if_neg (by omega)]
   simp only [Option.bind_some]
   rw [hs, if_pos (hz _), ← z0m, ih (x / 128) (i + 1) many _ k (by omega) hm2 (by omega) (by omega) (by simp only [List.length_append, List.length_cons, List.length_nil]; omega), dl, if_neg hi]
   simp
theorem refNum_j1 (n c k : Nat) (hc : c ≤ 9) (hn : n < 18446744073709551616) (h1 : 128 * geo c ≤ n) (h2 : n < 128 * geo (c + 1)) (hk : 12 ≤ k) :
  z02.j1 k (n : Int) ((c + 1 : Nat) : Int) ((128 * geo c : Nat) : Int) = some (sb (num n)) := by
 obtain ⟨k, rfl⟩ : ∃ m, k = m + 1 := ⟨k - 1, by omega⟩
 simp only [z02.j1]
 have e1 : IntKind.u64.wrap ((n : Int) - ((128 * geo c : Nat) : Int)) = ((n - 128 * geo c : Nat) : Int) := by rw [IntKind.wrap_u64]; omega
 rw [e1, sb_nil]
 have := refNum_l1 (c + 1) (n - 128 * geo c) 0 (c + 1) [] k (by omega) (by omega) (by omega) (by omega) (by simp)
 rw [num_dl c n h1 h2]
 simpa using this
theorem big9 : 18446744073709551616 ≤ 128 * geo (9 + 1) := by
 have : geo (9 + 1) = 9295997013522923649 := by kernel_rfl
 rw [this]; omega
theorem refNum_l0 (d : Nat) : ∀ (c n k : Nat) (size : Int), c + d = 9 → n < 18446744073709551616 → 128 * geo c ≤ n → (c < 9 → size = ((128 ^ (c + 1) : Nat) : Int)) → d + 13 ≤ k →
  z02.l0 k (n : Int) ((c + 1 : Nat) : Int) size ((128 * geo c : Nat) : Int) = some (sb (num n)) := by
 induction d with
 | zero =>
  intro c n k size hc hn h1 hs hk
  obtain rfl : c = 9 := by omega
  obtain ⟨k, rfl⟩ : ∃ m, k = m + 1 := ⟨k - 1, by omega⟩
  simp only [z02.l0]
  rw [if_neg (by omega)]
  exact refNum_j1 n 9 k (by omega) hn h1 (Nat.lt_of_lt_of_le hn big9) (by omega)
 | succ d ih =>
  intro c n k size hc hn h1 hs hk
  obtain ⟨k, rfl⟩ : ∃ m, k = m + 1 := ⟨k - 1, by omega⟩
  simp only [z02.l0]
  rw [if_pos (by omega), hs (by omega)]
  have hg := geo_pow c
  have hp : (128 : Nat) ^ (c + 1) = 128 * 128 ^ c := by rw [Nat.pow_succ, Nat.mul_comm]
  have e1 : IntKind.u64.wrap ((n : Int) - ((128 * geo c : Nat) : Int)) = ((n - 128 * geo c : Nat) : Int) := by rw [IntKind.wrap_u64]; omega
  rw [e1]
  clear e1
  by_cases hge : 128 ^ (c + 1) ≤ n - 128 * geo c
  ·rw [if_pos (by omega)]
   have e2 : wrap64 (((c + 1 : Nat) : Int) + 1) = ((c + 1 + 1 : Nat) : Int) := by unfold wrap64; omega
   rw [e2]
   clear e2
   have e3 : IntKind.u64.wrap (((128 * geo c : Nat) : Int) + ((128 ^ (c + 1) : Nat) : Int)) = ((128 * geo (c + 1) : Nat) : Int) := by
    rw [IntKind.wrap_u64, hg]; omega
   rw [e3]
   clear e3
   refine ih (c + 1) n k _ (by omega) hn (by rw [hg]; omega) (fun h9 => ?_) (by omega)
   have hle : (128 : Nat) ^ (c + 1) ≤ 128 ^ 8 := Nat.pow_le_pow_right (by omega) (by omega)
   have e4 : (128 : Nat) ^ (c + 1 + 1) = 128 ^ (c + 1) * 128 := Nat.pow_succ ..
   rw [IntKind.wrap_u64, e4]
   have e5 : (128 : Nat) ^ 8 = 72057594037927936 := by kernel_rfl
   omega
  ·rw [if_neg (by omega)]
   exact refNum_j1 n c k (by omega) hn h1 (by rw [hg]; omega) (by omega)
theorem refNum (n : Nat) (hn : n < 18446744073709551616) (k : Nat) (hk : 22 ≤ k) : z02.f k (n : Int) = some (sb (num n)) :=
 refNum_l0 9 0 n k 128 rfl hn (by simp [geo]) (fun _ => rfl) (by omega)
theorem num_calls (n : Nat) (w : World) (hn : n < 18446744073709551616) :
  Calls Try.prog 40 #[.int .u64 (n : Int)] w fun e w' => e = .returned (.string (sb (num n))) ∧ Below w.heap.size w w' :=
 (z0h.calls 10 _ _ w (codeNum n hn 10 (Nat.le_refl _))).mono fun e w' h => ⟨h.1, h.2⟩
theorem refnum_calls (n : Nat) (w : World) (hn : n < 18446744073709551616) :
  Calls Try.prog 51 #[.int .u64 (n : Int)] w fun e w' => e = .returned (.string (sb (num n))) ∧ Below w.heap.size w w' :=
 (z02.calls 22 _ _ w (refNum n hn 22 (Nat.le_refl _))).mono fun e w' h => ⟨h.1, h.2⟩
end Go.Proofs.Ytcfdplmapdgfmaa.Mine
namespace Go.Proofs.Ytcfdplmapdgfmaa.Mine
open Go.RowKit Go.Proofs.Ytcfdplmapdgfmaa.PN Go.Proofs.YtcfdplmapdgfmaaW.PrintWords
theorem bt_bs (s : ByteArray) (i : Nat) (h : i < s.size) : ∃ c, c < 256 ∧ (bs s).drop i = c :: (bs s).drop (i + 1) ∧ bt s (i : Int) = (c : Int) := by
 obtain ⟨c, hc, hd, hcs⟩ := bs_drop s i h
 refine ⟨c, hc, hd, ?_⟩
 have h2 : i < s.data.toList.length := by simpa using h
 unfold bt
 rw [dif_pos (by simpa using h)]
 simp [List.getD_eq_getElem?_getD, List.getElem?_eq_getElem h2] at hcs
 rw [← hcs]
 rfl
theorem refUnnum_9 (s : ByteArray) (a b c : Int) (k : Nat) (hk : 0 < k) : z0g.l0 k s a b c 9 = some (0, 0, 6) := by
 obtain ⟨k, rfl⟩ : ∃ m, k = m + 1 := ⟨k - 1, by omega⟩
 simp only [z0g.l0]
 rw [if_neg (by omega)]
def tri (r : Nat × Nat × Nat) : Int × Int × Int := (r.1, r.2.1, r.2.2)
theorem refUnnum_l0 (s : ByteArray) (d : Nat) : ∀ (i n k : Nat), i + d = 8 → i ≤ s.size → n < 128 ^ i → d + 3 ≤ k →
  z0g.l0 k s (n : Int) ((128 * geo i : Nat) : Int) ((128 ^ (i + 1) : Nat) : Int) (i : Int) = some (tri (unnumGo ((bs s).drop i) i (n + geo i))) := by
 induction d with
 | zero =>
  intro i n k hi hle hn hk
  have hi8 : i = 8 := by omega
  have hn' : n < 72057594037927936 := by rw [hi8] at hn; exact Nat.lt_of_lt_of_le hn (Nat.le_of_eq (by kernel_rfl))
  have hg : geo i = 567382630219905 := by rw [hi8]; kernel_rfl
  obtain ⟨k, rfl⟩ : ∃ m, k = m + 1 := ⟨k - 1, by omega⟩
  simp only [z0g.l0]
  rw [if_pos (by omega)]
  by_cases hlt : i < s.size
  ·obtain ⟨c, hc, hd, hb⟩ := bt_bs s i hlt
   rw [if_neg (by omega), if_pos (by omega), if_pos (by omega), hb, hd, unnumGo_cons _ _ _ _ (show i ≠ 9 by omega)]
   by_cases h1 : c < 128
   ·rw [if_pos (by omega), if_pos h1]
    have e1 : IntKind.u64.wrap (IntKind.u64.wrap ((n : Int) * 128) + Int.tmod (IntKind.u64.wrap (c : Int)) 128) = ((n * 128 + c : Nat) : Int) := by
     rw [wu64 (c : Int) (by omega) (by omega), Int.tmod_eq_emod_of_nonneg (by omega), wu64 ((n : Int) * 128) (by omega) (by omega), wu64 _ (by omega) (by omega)]; omega
    rw [e1]
    clear e1
    have e2 : wrap64 ((i : Int) + 1) = ((i + 1 : Nat) : Int) := by unfold wrap64; omega
    rw [e2]
    clear e2
    have e3 : ∀ a b : Int, a = b → some (a, ((i + 1 : Nat) : Int), (0 : Int)) = some (b, ((i + 1 : Nat) : Int), ((0 : Nat) : Int)) := fun a b h => by rw [h]; rfl
    refine e3 _ _ ?_
    rw [hg, wu64 _ (by omega) (by omega)]; omega
   ·rw [if_neg (by omega), if_neg h1]
    have e3 : wrap64 ((i : Int) + 1) = 9 := by unfold wrap64; omega
    rw [e3]
    clear e3
    rw [refUnnum_9 _ _ _ _ _ (by omega)]
    cases hq : (bs s).drop (i + 1) with
    | nil => rw [unnumGo, if_pos (by omega)]; rfl
    | cons x l => rw [unnumGo, if_pos (by omega)]; rfl
  ·rw [if_pos (by omega)]
   have hnil : (bs s).drop i = [] := List.drop_eq_nil_of_le (by rw [z01]; omega)
   rw [hnil, unnumGo, if_neg (by omega)]; rfl
 | succ d ih =>
  intro i n k hi hle hn hk
  obtain ⟨k, rfl⟩ : ∃ m, k = m + 1 := ⟨k - 1, by omega⟩
  simp only [z0g.l0]
  rw [if_pos (by omega)]
  by_cases hlt : i < s.size
  ·obtain ⟨c, hc, hd, hb⟩ := bt_bs s i hlt
   rw [if_neg (by omega), if_pos (by omega), if_pos (by omega), hb, hd, unnumGo_cons _ _ _ _ (show i ≠ 9 by omega)]
   have hp8 : (128 : Nat) ^ i ≤ 128 ^ 7 := Nat.pow_le_pow_right (by omega) (by omega)
   have hp7 : (128 : Nat) ^ 7 = 562949953421312 := by kernel_rfl
   have hgp := geo_pow i
   have hgl := geo_le i
   have e1 : IntKind.u64.wrap (IntKind.u64.wrap ((n : Int) * 128) + Int.tmod (IntKind.u64.wrap (c : Int)) 128) = ((n * 128 + c % 128 : Nat) : Int) := by
    rw [wu64 (c : Int) (by omega) (by omega), Int.tmod_eq_emod_of_nonneg (by omega), wu64 ((n : Int) * 128) (by omega) (by omega), wu64 _ (by omega) (by omega)]; omega
   rw [e1]
   clear e1
   have e3 : wrap64 ((i : Int) + 1) = ((i + 1 : Nat) : Int) := by unfold wrap64; omega
   rw [e3]
   clear e3
   by_cases h1 : c < 128
   ·rw [if_pos (by omega), if_pos h1]
    have e3 : ∀ a b : Int, a = b → some (a, ((i + 1 : Nat) : Int), (0 : Int)) = some (b, ((i + 1 : Nat) : Int), ((0 : Nat) : Int)) := fun a b h => by rw [h]; rfl
    refine e3 _ _ ?_
    rw [wu64 _ (by omega) (by omega)]; omega
   ·rw [if_neg (by omega), if_neg h1]
    have e4 : IntKind.u64.wrap (((128 * geo i : Nat) : Int) + ((128 ^ (i + 1) : Nat) : Int)) = ((128 * geo (i + 1) : Nat) : Int) := by
     rw [Nat.pow_succ, wu64 _ (by omega) (by omega)]; omega
    rw [e4]
    clear e4
    have e5 : IntKind.u64.wrap (((128 ^ (i + 1) : Nat) : Int) * 128) = ((128 ^ (i + 1 + 1) : Nat) : Int) := by
     have a1 : (128 : Nat) ^ (i + 1 + 1) = 128 ^ i * 128 * 128 := by rw [Nat.pow_succ, Nat.pow_succ]
     have a2 : (128 : Nat) ^ (i + 1) = 128 ^ i * 128 := Nat.pow_succ ..
     rw [a1, a2, wu64 _ (by omega) (by omega)]; omega
    rw [e5]
    clear e5
    rw [ih (i + 1) (n * 128 + c % 128) k (by omega) (by omega) (by rw [Nat.pow_succ]; omega) (by omega)]
    have e6 : n * 128 + c % 128 + geo (i + 1) = (n + geo i) * 128 + (c - 128) + 1 := by rw [show geo (i + 1) = 1 + 128 * geo i from rfl]; omega
    rw [e6]
  ·rw [if_pos (by omega)]
   have hnil : (bs s).drop i = [] := List.drop_eq_nil_of_le (by rw [z01]; omega)
   rw [hnil, unnumGo, if_neg (by omega)]; rfl
theorem refUnnum (s : ByteArray) (k : Nat) (hk : 11 ≤ k) : z0g.f k s = some (tri (unnum (bs s))) :=
 refUnnum_l0 s 8 0 0 k rfl (by omega) (by simp) (by omega)
end Go.Proofs.Ytcfdplmapdgfmaa.Mine
namespace Go.Proofs.Ytcfdplmapdgfmaa.Mine
open Go.RowKit Go.Proofs.YtcfdplmapdgfmaaW.PrintWords Go.Proofs.YtcfdplmapdgfmaaW.PrintMore
end Go.Proofs.Ytcfdplmapdgfmaa.Mine
namespace Go.Proofs.Ytcfdplmapdgfmaa.Mine
open Go.RowKit Go.Proofs.Ytcfdplmapdgfmaa.PN Go.Proofs.YtcfdplmapdgfmaaW.PrintWords Go.Proofs.YtcfdplmapdgfmaaW.PrintMore
end Go.Proofs.Ytcfdplmapdgfmaa.Mine
namespace Go.Proofs.Ytcfdplmapdgfmaa.Mine
open Go.RowKit Go.Proofs.Ytcfdplmapdgfmaa.PN Go.Proofs.YtcfdplmapdgfmaaW.PrintWords
def four (r : Nat) : List Nat := [r / 16777216 % 256, r / 65536 % 256, r / 256 % 256, r % 256]
def frame (l : List Nat) : List Nat := num l.length ++ l ++ four (crc (num l.length ++ l))
end Go.Proofs.Ytcfdplmapdgfmaa.Mine
