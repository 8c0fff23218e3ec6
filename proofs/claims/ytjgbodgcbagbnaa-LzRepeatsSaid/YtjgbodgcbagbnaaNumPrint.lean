/- Numbers of chapter 2: the code's and the document's tell the same bytes. Plain lists and numbers, over the printed functions. -/
import Derived.Test.YtjgbodgcbagbnaaNumPure
import Derived.Test.YtjgbodgcbagbnaaPNx
set_option linter.unusedVariables false
set_option linter.unusedSimpArgs false
namespace Go.Proofs.Ytjgbodgcbagbnaa.Mine
open Go.RowKit Go.Proofs.Ytjgbodgcbagbnaa.PN Go.Proofs.YtjgbodgcbagbnaaW.PrintWords

theorem codeNum_l0 (j : Nat) : ∀ (x : Nat) (l : List Nat) (k : Nat), x < 128 ^ j → x < 18446744073709551616 → j < k → l.length + j ≤ 100 →
    code_Num.l0 k (x : Int) (ints l) = some (sb (rest x ++ l)) := by
  induction j with
  | zero =>
    intro x l k hx _ hk hl
    have : x = 0 := by simpa using hx
    subst this
    obtain ⟨k, rfl⟩ : ∃ m, k = m + 1 := ⟨k - 1, by omega⟩
    simp only [code_Num.l0]
    rw [if_neg (by omega), strOf_ints, rest_zero, List.nil_append]
  | succ j ih =>
    intro x l k hx hx2 hk hl
    obtain ⟨k, rfl⟩ : ∃ m, k = m + 1 := ⟨k - 1, by omega⟩
    simp only [code_Num.l0]
    by_cases h0 : x = 0
    · subst h0
      rw [if_neg (by omega), strOf_ints, rest_zero, List.nil_append]
    · rw [if_pos (by omega)]
      simp only [Option.bind_some]
      have e1 : IntKind.u64.wrap ((x : Int) - 1) = ((x - 1 : Nat) : Int) := by rw [IntKind.wrap_u64]; omega
      have e2 : (Int.tmod ((x - 1 : Nat) : Int) 128 % 256 + 128) % 256 = (((x - 1) % 128 + 128 : Nat) : Int) := by
        rw [Int.tmod_eq_emod_of_nonneg (by omega)]; omega
      have e3 : IntKind.u64.wrap (Int.tdiv ((x - 1 : Nat) : Int) 128) = (((x - 1) / 128 : Nat) : Int) := by
        rw [Int.tdiv_eq_ediv_of_nonneg (by omega), IntKind.wrap_u64]; omega
      rw [e1, e2, e3]
      have e4 : [((((x - 1) % 128 + 128 : Nat)) : Int)] ++ ints l = ints (((x - 1) % 128 + 128) :: l) := by simp [ints]
      rw [if_pos (by simp [ints]; omega), e4, ih ((x - 1) / 128) _ k (by rw [Nat.pow_succ] at hx; omega) (by omega) (by omega) (by simp; omega), rest_pos x h0]
      simp

theorem codeNum (n : Nat) (hn : n < 18446744073709551616) (k : Nat) (hk : 10 ≤ k) : code_Num.f k (n : Int) = some (sb (num n)) := by
  unfold code_Num.f
  have e1 : IntKind.u64.wrap (Int.tdiv (n : Int) 128) = ((n / 128 : Nat) : Int) := by
    rw [Int.tdiv_eq_ediv_of_nonneg (by omega), IntKind.wrap_u64]; omega
  have e2 : Int.tmod (n : Int) 128 % 256 = ((n % 128 : Nat) : Int) := by rw [Int.tmod_eq_emod_of_nonneg (by omega)]; omega
  rw [e1, e2]
  clear e1 e2
  have e3 : [((n % 128 : Nat) : Int)] = ints [n % 128] := by simp [ints]
  rw [e3, codeNum_l0 9 (n / 128) [n % 128] k (by omega) (by omega) (by omega) (by simp)]
  rfl
theorem small_sum {a b n : Nat} (ha : a = 1) (hb : b = n) (hn : n ≤ 100) : a + b ≤ 9223372036854775807 := by omega
theorem refNum_l1 (c : Nat) : ∀ (x i many : Nat) (l : List Nat) (k : Nat), many = i + c → many ≤ 10 → x < 18446744073709551616 → c < k → l.length ≤ i →
    pollardref02_Num.l1 k (x : Int) (many : Int) (sb l) (i : Int) = some (sb (dl x i c ++ l)) := by
  induction c with
  | zero =>
    intro x i many l k hm _ _ hk _
    obtain ⟨k, rfl⟩ : ∃ m, k = m + 1 := ⟨k - 1, by omega⟩
    simp only [pollardref02_Num.l1]
    rw [if_neg (by omega), dl, List.nil_append]
  | succ c ih =>
    intro x i many l k hm hm2 hx hk hl
    obtain ⟨k, rfl⟩ : ∃ m, k = m + 1 := ⟨k - 1, by omega⟩
    simp only [pollardref02_Num.l1]
    rw [if_pos (by omega)]
    have e1 : Int.tmod (x : Int) 128 % 256 = ((x % 128 : Nat) : Int) := by rw [Int.tmod_eq_emod_of_nonneg (by omega)]; omega
    have e2 : IntKind.u64.wrap (Int.tdiv (x : Int) 128) = ((x / 128 : Nat) : Int) := by
      rw [Int.tdiv_eq_ediv_of_nonneg (by omega), IntKind.wrap_u64]; omega
    have e3 : wrap64 ((i : Int) + 1) = ((i + 1 : Nat) : Int) := by unfold wrap64; omega
    rw [e1, e2, e3]
    clear e1 e2 e3
    have hs : ∀ y : Nat, strOfNums [(y : Int)] = sb [y] := fun y => by rw [← strOf_ints]; rfl
    have hz : ∀ y : Nat, (sb [y]).size + (sb l).size ≤ 9223372036854775807 := fun y => small_sum (sb_size [y]) (sb_size l) (by omega)
    by_cases hi : 0 < i
    · rw [if_pos (by omega)]
      simp only [Option.bind_some]
      have e4 : (((x % 128 : Nat) : Int) + 128) % 256 = ((x % 128 + 128 : Nat) : Int) := by omega
      rw [e4, hs, if_pos (hz _), ← sb_append, ih (x / 128) (i + 1) many _ k (by omega) hm2 (by omega) (by omega) (by simp only [List.length_append, List.length_cons, List.length_nil]; omega), dl, if_pos hi]
      simp
    · rw [if_neg (by omega)]
      simp only [Option.bind_some]
      rw [hs, if_pos (hz _), ← sb_append, ih (x / 128) (i + 1) many _ k (by omega) hm2 (by omega) (by omega) (by simp only [List.length_append, List.length_cons, List.length_nil]; omega), dl, if_neg hi]
      simp

theorem refNum_j1 (n c k : Nat) (hc : c ≤ 9) (hn : n < 18446744073709551616) (h1 : 128 * geo c ≤ n) (h2 : n < 128 * geo (c + 1)) (hk : 12 ≤ k) :
    pollardref02_Num.j1 k (n : Int) ((c + 1 : Nat) : Int) ((128 * geo c : Nat) : Int) = some (sb (num n)) := by
  obtain ⟨k, rfl⟩ : ∃ m, k = m + 1 := ⟨k - 1, by omega⟩
  simp only [pollardref02_Num.j1]
  have e1 : IntKind.u64.wrap ((n : Int) - ((128 * geo c : Nat) : Int)) = ((n - 128 * geo c : Nat) : Int) := by rw [IntKind.wrap_u64]; omega
  rw [e1, sb_nil]
  have := refNum_l1 (c + 1) (n - 128 * geo c) 0 (c + 1) [] k (by omega) (by omega) (by omega) (by omega) (by simp)
  rw [num_dl c n h1 h2]
  simpa using this

theorem big9 : 18446744073709551616 ≤ 128 * geo (9 + 1) := by
  have : geo (9 + 1) = 9295997013522923649 := by kernel_rfl
  rw [this]; omega
theorem refNum_l0 (d : Nat) : ∀ (c n k : Nat) (size : Int), c + d = 9 → n < 18446744073709551616 → 128 * geo c ≤ n → (c < 9 → size = ((128 ^ (c + 1) : Nat) : Int)) → d + 13 ≤ k →
    pollardref02_Num.l0 k (n : Int) ((c + 1 : Nat) : Int) size ((128 * geo c : Nat) : Int) = some (sb (num n)) := by
  induction d with
  | zero =>
    intro c n k size hc hn h1 hs hk
    obtain rfl : c = 9 := by omega
    obtain ⟨k, rfl⟩ : ∃ m, k = m + 1 := ⟨k - 1, by omega⟩
    simp only [pollardref02_Num.l0]
    rw [if_neg (by omega)]
    exact refNum_j1 n 9 k (by omega) hn h1 (Nat.lt_of_lt_of_le hn big9) (by omega)
  | succ d ih =>
    intro c n k size hc hn h1 hs hk
    obtain ⟨k, rfl⟩ : ∃ m, k = m + 1 := ⟨k - 1, by omega⟩
    simp only [pollardref02_Num.l0]
    rw [if_pos (by omega), hs (by omega)]
    have hg := geo_pow c
    have hp : (128 : Nat) ^ (c + 1) = 128 * 128 ^ c := by rw [Nat.pow_succ, Nat.mul_comm]
    have e1 : IntKind.u64.wrap ((n : Int) - ((128 * geo c : Nat) : Int)) = ((n - 128 * geo c : Nat) : Int) := by rw [IntKind.wrap_u64]; omega
    rw [e1]
    clear e1
    by_cases hge : 128 ^ (c + 1) ≤ n - 128 * geo c
    · rw [if_pos (by omega)]
      have e2 : wrap64 (((c + 1 : Nat) : Int) + 1) = ((c + 1 + 1 : Nat) : Int) := by unfold wrap64; omega
      rw [e2]
      clear e2
      have e3 : IntKind.u64.wrap (((128 * geo c : Nat) : Int) + ((128 ^ (c + 1) : Nat) : Int)) = ((128 * geo (c + 1) : Nat) : Int) := by
        rw [IntKind.wrap_u64, hg]; omega
      rw [e3]
      clear e3
      refine ih (c + 1) n k _ (by omega) hn (by rw [hg]; omega) (fun h9 => ?_) (by omega)
      have hle : (128 : Nat) ^ (c + 1) ≤ 128 ^ 8 := Nat.pow_le_pow_right (by omega) (by omega)
      have e4 : (128 : Nat) ^ (c + 1 + 1) = 128 ^ (c + 1) * 128 := Nat.pow_succ ..
      rw [IntKind.wrap_u64, e4]
      have e5 : (128 : Nat) ^ 8 = 72057594037927936 := by kernel_rfl
      omega
    · rw [if_neg (by omega)]
      exact refNum_j1 n c k (by omega) hn h1 (by rw [hg]; omega) (by omega)

theorem refNum (n : Nat) (hn : n < 18446744073709551616) (k : Nat) (hk : 22 ≤ k) : pollardref02_Num.f k (n : Int) = some (sb (num n)) :=
  refNum_l0 9 0 n k 128 rfl hn (by simp [geo]) (fun _ => rfl) (by omega)
theorem num_calls (n : Nat) (w : World) (hn : n < 18446744073709551616) :
    Calls Try.prog 41 #[.int .u64 (n : Int)] w fun e w' => e = .returned (.string (sb (num n))) ∧ Below w.heap.size w w' :=
  (code_Num.calls 10 _ _ w (codeNum n hn 10 (Nat.le_refl _))).mono fun e w' h => ⟨h.1, h.2⟩
theorem refnum_calls (n : Nat) (w : World) (hn : n < 18446744073709551616) :
    Calls Try.prog 27 #[.int .u64 (n : Int)] w fun e w' => e = .returned (.string (sb (num n))) ∧ Below w.heap.size w w' :=
  (pollardref02_Num.calls 22 _ _ w (refNum n hn 22 (Nat.le_refl _))).mono fun e w' h => ⟨h.1, h.2⟩
end Go.Proofs.Ytjgbodgcbagbnaa.Mine
