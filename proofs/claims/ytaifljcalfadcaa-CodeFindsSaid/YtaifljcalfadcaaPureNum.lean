/- Numbers of chapter 2: the code's and the document's tell the same bytes, and read the same number. Plain lists and numbers. -/
import Derived.Test.YtaifljcalfadcaaBase
import Derived.Test.YtaifljcalfadcaaPAx
namespace Go.Proofs.Ytaifljcalfadcaa.Mine
open Go.RowKit Go.Proofs.Ytaifljcalfadcaa.PA Go.Proofs.YtaifljcalfadcaaW.PrintWords

theorem w64 (x : Int) (h0 : 0 ≤ x) (h1 : x ≤ 9223372036854775807) : wrap64 x = x := by unfold wrap64; omega
theorem wu64 (x : Int) (h0 : 0 ≤ x) (h1 : x ≤ 18446744073709551615) : IntKind.u64.wrap x = x := by rw [IntKind.wrap_u64]; omega

/-- The bytes ahead of the last one, of what is left of a number. -/
def rest (x : Nat) : List Nat := if _h : x = 0 then [] else rest ((x - 1) / 128) ++ [(x - 1) % 128 + 128]
termination_by x
decreasing_by omega
def num (n : Nat) : List Nat := rest (n / 128) ++ [n % 128]
theorem rest_zero : rest 0 = [] := by rw [rest]; simp
theorem rest_pos (x : Nat) (h : x ≠ 0) : rest x = rest ((x - 1) / 128) ++ [(x - 1) % 128 + 128] := by rw [rest, dif_neg h]
theorem rest_lt (x : Nat) : ∀ c ∈ rest x, c < 256 := by
  induction x using Nat.strongRecOn with
  | _ x ih =>
    by_cases h : x = 0
    · subst h; rw [rest_zero]; intro c hc; cases hc
    · rw [rest_pos x h]
      intro c hc
      rw [List.mem_append] at hc
      rcases hc with hc | hc
      · exact ih _ (by omega) c hc
      · simp at hc; omega
theorem num_lt (n : Nat) : ∀ c ∈ num n, c < 256 := by
  intro c hc
  rw [num, List.mem_append] at hc
  rcases hc with hc | hc
  · exact rest_lt _ c hc
  · simp at hc; omega
theorem rest_length (j : Nat) : ∀ x, x < 128 ^ j → (rest x).length ≤ j := by
  induction j with
  | zero => intro x h; have : x = 0 := by simpa using h
            subst this; rw [rest_zero]; simp
  | succ j ih =>
    intro x h
    by_cases h0 : x = 0
    · subst h0; rw [rest_zero]; simp
    · rw [rest_pos x h0]
      have := ih ((x - 1) / 128) (by rw [Nat.pow_succ] at h; omega)
      simp; omega
theorem num_length (n : Nat) (h : n < 18446744073709551616) : (num n).length ≤ 10 := by
  have := rest_length 9 (n / 128) (by omega)
  rw [num]; simp; omega
theorem num_pos (n : Nat) : 1 ≤ (num n).length := by rw [num]; simp

def ints (l : List Nat) : List Int := l.map fun (c : Nat) => (c : Int)
theorem strOf_ints (l : List Nat) : strOfNums (ints l) = sb l := by simp [ints, strOfNums, sb]

theorem codeNum_l0 (j : Nat) : ∀ (x : Nat) (l : List Nat) (k : Nat), x < 128 ^ j → x < 18446744073709551616 → j < k → l.length + j ≤ 100 →
    code_Num.l0 k (x : Int) (ints l) = some (sb (rest x ++ l)) := by
  induction j with
  | zero =>
    intro x l k hx _ hk hl
    have : x = 0 := by simpa using hx
    subst this
    obtain ⟨k, rfl⟩ : ∃ m, k = m + 1 := ⟨k - 1, by omega⟩
    simp only [code_Num.l0]
    rw [if_neg (by omega), strOf_ints, rest_zero, List.nil_append]
  | succ j ih =>
    intro x l k hx hx2 hk hl
    obtain ⟨k, rfl⟩ : ∃ m, k = m + 1 := ⟨k - 1, by omega⟩
    simp only [code_Num.l0]
    by_cases h0 : x = 0
    · subst h0
      rw [if_neg (by omega), strOf_ints, rest_zero, List.nil_append]
    · rw [if_pos (by omega)]
      simp only [Option.bind_some]
      have e1 : IntKind.u64.wrap ((x : Int) - 1) = ((x - 1 : Nat) : Int) := by rw [IntKind.wrap_u64]; omega
      have e2 : (Int.tmod ((x - 1 : Nat) : Int) 128 % 256 + 128) % 256 = (((x - 1) % 128 + 128 : Nat) : Int) := by
        rw [Int.tmod_eq_emod_of_nonneg (by omega)]; omega
      have e3 : IntKind.u64.wrap (Int.tdiv ((x - 1 : Nat) : Int) 128) = (((x - 1) / 128 : Nat) : Int) := by
        rw [Int.tdiv_eq_ediv_of_nonneg (by omega), IntKind.wrap_u64]; omega
      rw [e1, e2, e3]
      have e4 : [((((x - 1) % 128 + 128 : Nat)) : Int)] ++ ints l = ints (((x - 1) % 128 + 128) :: l) := by simp [ints]
      rw [if_pos (by simp [ints]; omega), e4, ih ((x - 1) / 128) _ k (by rw [Nat.pow_succ] at hx; omega) (by omega) (by omega) (by simp; omega), rest_pos x h0]
      simp

theorem codeNum (n : Nat) (hn : n < 18446744073709551616) (k : Nat) (hk : 10 ≤ k) : code_Num.f k (n : Int) = some (sb (num n)) := by
  unfold code_Num.f
  have e1 : IntKind.u64.wrap (Int.tdiv (n : Int) 128) = ((n / 128 : Nat) : Int) := by
    rw [Int.tdiv_eq_ediv_of_nonneg (by omega), IntKind.wrap_u64]; omega
  have e2 : Int.tmod (n : Int) 128 % 256 = ((n % 128 : Nat) : Int) := by rw [Int.tmod_eq_emod_of_nonneg (by omega)]; omega
  rw [e1, e2]
  clear e1 e2
  have e3 : [((n % 128 : Nat) : Int)] = ints [n % 128] := by simp [ints]
  rw [e3, codeNum_l0 9 (n / 128) [n % 128] k (by omega) (by omega) (by omega) (by simp)]
  rfl

/-! the document's way: how many bytes, then so many digits -/
def geo : Nat → Nat
  | 0 => 0
  | c + 1 => 1 + 128 * geo c
theorem geo_pow (c : Nat) : geo (c + 1) = geo c + 128 ^ c := by
  induction c with
  | zero => rfl
  | succ c ih => rw [show geo (c + 1 + 1) = 1 + 128 * geo (c + 1) from rfl, Nat.pow_succ]; rw [show geo (c + 1) = 1 + 128 * geo c from rfl] at ih ⊢; omega
theorem geo_le (c : Nat) : geo c < 128 ^ c := by
  induction c with
  | zero => simp [geo]
  | succ c ih =>
    have := Nat.pow_pos (n := c) (show 0 < 128 by omega)
    rw [show geo (c + 1) = 1 + 128 * geo c from rfl, Nat.pow_succ]
    omega
def dl : Nat → Nat → Nat → List Nat
  | _, _, 0 => []
  | x, i, c + 1 => dl (x / 128) (i + 1) c ++ [x % 128 + (if 0 < i then 128 else 0)]
theorem dl_same (c : Nat) : ∀ x i j, 0 < i → 0 < j → dl x i c = dl x j c := by
  induction c with
  | zero => intros; rfl
  | succ c ih => intro x i j hi hj; rw [dl, dl, ih _ (i + 1) (j + 1) (by omega) (by omega), if_pos hi, if_pos hj]
theorem rest_dl (c : Nat) : ∀ x, geo c ≤ x → x < geo (c + 1) → rest x = dl (x - geo c) 1 c := by
  induction c with
  | zero => intro x _ h; have : x = 0 := by simp [geo] at h; omega
            subst this; rw [rest_zero]; rfl
  | succ c ih =>
    intro x h1 h2
    rw [geo] at h1 h2
    rw [rest_pos x (by omega), ih ((x - 1) / 128) (by omega) (by omega), dl, if_pos (by omega), dl_same c _ 1 2 (by omega) (by omega)]
    rw [geo]
    congr 2
    · omega
    · congr 1; omega
theorem num_dl (c n : Nat) (h1 : 128 * geo c ≤ n) (h2 : n < 128 * geo (c + 1)) : num n = dl (n - 128 * geo c) 0 (c + 1) := by
  rw [num, rest_dl c (n / 128) (by omega) (by omega), dl, if_neg (Nat.lt_irrefl 0)]
  have e1 : n / 128 - geo c = (n - 128 * geo c) / 128 := by omega
  have e2 : n % 128 = (n - 128 * geo c) % 128 + 0 := by omega
  rw [e1, e2]

theorem small_sum {a b n : Nat} (ha : a = 1) (hb : b = n) (hn : n ≤ 100) : a + b ≤ 9223372036854775807 := by omega
theorem refNum_l1 (c : Nat) : ∀ (x i many : Nat) (l : List Nat) (k : Nat), many = i + c → many ≤ 10 → x < 18446744073709551616 → c < k → l.length ≤ i →
    pollardref02_Num.l1 k (x : Int) (many : Int) (sb l) (i : Int) = some (sb (dl x i c ++ l)) := by
  induction c with
  | zero =>
    intro x i many l k hm _ _ hk _
    obtain ⟨k, rfl⟩ : ∃ m, k = m + 1 := ⟨k - 1, by omega⟩
    simp only [pollardref02_Num.l1]
    rw [if_neg (by omega), dl, List.nil_append]
  | succ c ih =>
    intro x i many l k hm hm2 hx hk hl
    obtain ⟨k, rfl⟩ : ∃ m, k = m + 1 := ⟨k - 1, by omega⟩
    simp only [pollardref02_Num.l1]
    rw [if_pos (by omega)]
    have e1 : Int.tmod (x : Int) 128 % 256 = ((x % 128 : Nat) : Int) := by rw [Int.tmod_eq_emod_of_nonneg (by omega)]; omega
    have e2 : IntKind.u64.wrap (Int.tdiv (x : Int) 128) = ((x / 128 : Nat) : Int) := by
      rw [Int.tdiv_eq_ediv_of_nonneg (by omega), IntKind.wrap_u64]; omega
    have e3 : wrap64 ((i : Int) + 1) = ((i + 1 : Nat) : Int) := by unfold wrap64; omega
    rw [e1, e2, e3]
    clear e1 e2 e3
    have hs : ∀ y : Nat, strOfNums [(y : Int)] = sb [y] := fun y => by rw [← strOf_ints]; rfl
    have hz : ∀ y : Nat, (sb [y]).size + (sb l).size ≤ 9223372036854775807 := fun y => small_sum (sb_size [y]) (sb_size l) (by omega)
    by_cases hi : 0 < i
    · rw [if_pos (by omega)]
      simp only [Option.bind_some]
      have e4 : (((x % 128 : Nat) : Int) + 128) % 256 = ((x % 128 + 128 : Nat) : Int) := by omega
      rw [e4, hs, if_pos (hz _), ← sb_append, ih (x / 128) (i + 1) many _ k (by omega) hm2 (by omega) (by omega) (by simp only [List.length_append, List.length_cons, List.length_nil]; omega), dl, if_pos hi]
      simp
    · rw [if_neg (by omega)]
      simp only [Option.bind_some]
      rw [hs, if_pos (hz _), ← sb_append, ih (x / 128) (i + 1) many _ k (by omega) hm2 (by omega) (by omega) (by simp only [List.length_append, List.length_cons, List.length_nil]; omega), dl, if_neg hi]
      simp

theorem sb_nil : (⟨#[]⟩ : ByteArray) = sb [] := rfl

theorem refNum_j1 (n c k : Nat) (hc : c ≤ 9) (hn : n < 18446744073709551616) (h1 : 128 * geo c ≤ n) (h2 : n < 128 * geo (c + 1)) (hk : 12 ≤ k) :
    pollardref02_Num.j1 k (n : Int) ((c + 1 : Nat) : Int) ((128 * geo c : Nat) : Int) = some (sb (num n)) := by
  obtain ⟨k, rfl⟩ : ∃ m, k = m + 1 := ⟨k - 1, by omega⟩
  simp only [pollardref02_Num.j1]
  have e1 : IntKind.u64.wrap ((n : Int) - ((128 * geo c : Nat) : Int)) = ((n - 128 * geo c : Nat) : Int) := by rw [IntKind.wrap_u64]; omega
  rw [e1, sb_nil]
  have := refNum_l1 (c + 1) (n - 128 * geo c) 0 (c + 1) [] k (by omega) (by omega) (by omega) (by omega) (by simp)
  rw [num_dl c n h1 h2]
  simpa using this

theorem big9 : 18446744073709551616 ≤ 128 * geo (9 + 1) := by
  have : geo (9 + 1) = 9295997013522923649 := by kernel_rfl
  rw [this]; omega
theorem refNum_l0 (d : Nat) : ∀ (c n k : Nat) (size : Int), c + d = 9 → n < 18446744073709551616 → 128 * geo c ≤ n → (c < 9 → size = ((128 ^ (c + 1) : Nat) : Int)) → d + 13 ≤ k →
    pollardref02_Num.l0 k (n : Int) ((c + 1 : Nat) : Int) size ((128 * geo c : Nat) : Int) = some (sb (num n)) := by
  induction d with
  | zero =>
    intro c n k size hc hn h1 hs hk
    obtain rfl : c = 9 := by omega
    obtain ⟨k, rfl⟩ : ∃ m, k = m + 1 := ⟨k - 1, by omega⟩
    simp only [pollardref02_Num.l0]
    rw [if_neg (by omega)]
    exact refNum_j1 n 9 k (by omega) hn h1 (Nat.lt_of_lt_of_le hn big9) (by omega)
  | succ d ih =>
    intro c n k size hc hn h1 hs hk
    obtain ⟨k, rfl⟩ : ∃ m, k = m + 1 := ⟨k - 1, by omega⟩
    simp only [pollardref02_Num.l0]
    rw [if_pos (by omega), hs (by omega)]
    have hg := geo_pow c
    have hp : (128 : Nat) ^ (c + 1) = 128 * 128 ^ c := by rw [Nat.pow_succ, Nat.mul_comm]
    have e1 : IntKind.u64.wrap ((n : Int) - ((128 * geo c : Nat) : Int)) = ((n - 128 * geo c : Nat) : Int) := by rw [IntKind.wrap_u64]; omega
    rw [e1]
    clear e1
    by_cases hge : 128 ^ (c + 1) ≤ n - 128 * geo c
    · rw [if_pos (by omega)]
      have e2 : wrap64 (((c + 1 : Nat) : Int) + 1) = ((c + 1 + 1 : Nat) : Int) := by unfold wrap64; omega
      rw [e2]
      clear e2
      have e3 : IntKind.u64.wrap (((128 * geo c : Nat) : Int) + ((128 ^ (c + 1) : Nat) : Int)) = ((128 * geo (c + 1) : Nat) : Int) := by
        rw [IntKind.wrap_u64, hg]; omega
      rw [e3]
      clear e3
      refine ih (c + 1) n k _ (by omega) hn (by rw [hg]; omega) (fun h9 => ?_) (by omega)
      have hle : (128 : Nat) ^ (c + 1) ≤ 128 ^ 8 := Nat.pow_le_pow_right (by omega) (by omega)
      have e4 : (128 : Nat) ^ (c + 1 + 1) = 128 ^ (c + 1) * 128 := Nat.pow_succ ..
      rw [IntKind.wrap_u64, e4]
      have e5 : (128 : Nat) ^ 8 = 72057594037927936 := by kernel_rfl
      omega
    · rw [if_neg (by omega)]
      exact refNum_j1 n c k (by omega) hn h1 (by rw [hg]; omega) (by omega)

theorem refNum (n : Nat) (hn : n < 18446744073709551616) (k : Nat) (hk : 22 ≤ k) : pollardref02_Num.f k (n : Int) = some (sb (num n)) :=
  refNum_l0 9 0 n k 128 rfl hn (by simp [geo]) (fun _ => rfl) (by omega)

/-! read again -/
theorem unnumGo_rest (j : Nat) : ∀ (x : Nat) (i v : Nat) (t : List Nat), x < 128 ^ j → i + j ≤ 8 →
    unnumGo (rest x ++ t) i v = unnumGo t (i + (rest x).length) (v * 128 ^ (rest x).length + x) := by
  induction j with
  | zero =>
    intro x i v t hx _
    have : x = 0 := by simpa using hx
    subst this
    rw [rest_zero]; simp
  | succ j ih =>
    intro x i v t hx hi
    by_cases h0 : x = 0
    · subst h0; rw [rest_zero]; simp
    · have hl := rest_length j ((x - 1) / 128) (by rw [Nat.pow_succ] at hx; omega)
      rw [rest_pos x h0, List.append_assoc, ih ((x - 1) / 128) i v _ (by rw [Nat.pow_succ] at hx; omega) (by omega)]
      simp only [List.singleton_append, List.length_append, List.length_singleton]
      rw [unnumGo, if_neg (by omega), if_neg (by omega)]
      have e1 : i + (rest ((x - 1) / 128)).length + 1 = i + ((rest ((x - 1) / 128)).length + 1) := by omega
      have e2 : (v * 128 ^ (rest ((x - 1) / 128)).length + (x - 1) / 128) * 128 + ((x - 1) % 128 + 128 - 128) + 1 = v * 128 ^ ((rest ((x - 1) / 128)).length + 1) + x := by
        rw [Nat.pow_succ, ← Nat.mul_assoc]
        generalize v * 128 ^ (rest ((x - 1) / 128)).length = V
        omega
      rw [e1, e2]
theorem unnum_num (n : Nat) (hn : n < 9223372036854775808) (t : List Nat) : unnum (num n ++ t) = (n, (num n).length, 0) := by
  have hl := rest_length 8 (n / 128) (by omega)
  rw [unnum, num, List.append_assoc, unnumGo_rest 8 (n / 128) 0 0 _ (by omega) (by omega), List.singleton_append, unnumGo, if_neg (by omega), if_pos (by omega)]
  simp only [List.length_append, List.length_singleton, Prod.mk.injEq, Nat.zero_mul, Nat.zero_add, and_true]
  omega

/-! the document's reading -/
theorem bt_bs (s : ByteArray) (i : Nat) (h : i < s.size) : ∃ c, c < 256 ∧ (bs s).drop i = c :: (bs s).drop (i + 1) ∧ bt s (i : Int) = (c : Int) := by
  obtain ⟨c, hc, hd, hcs⟩ := bs_drop s i h
  refine ⟨c, hc, hd, ?_⟩
  have h2 : i < s.data.toList.length := by simpa using h
  unfold bt
  rw [dif_pos (by simpa using h)]
  simp [List.getD_eq_getElem?_getD, List.getElem?_eq_getElem h2] at hcs
  rw [← hcs]
  rfl
theorem unnumGo_cons (c : Nat) (l : List Nat) (i n : Nat) (h : i ≠ 9) : unnumGo (c :: l) i n = if c < 128 then (n * 128 + c, i + 1, 0) else unnumGo l (i + 1) (n * 128 + (c - 128) + 1) := by rw [unnumGo, if_neg h]
theorem refUnnum_9 (s : ByteArray) (a b c : Int) (k : Nat) (hk : 0 < k) : pollardref02_Unnum.l0 k s a b c 9 = some (0, 0, 6) := by
  obtain ⟨k, rfl⟩ : ∃ m, k = m + 1 := ⟨k - 1, by omega⟩
  simp only [pollardref02_Unnum.l0]
  rw [if_neg (by omega)]
def tri (r : Nat × Nat × Nat) : Int × Int × Int := (r.1, r.2.1, r.2.2)
theorem refUnnum_l0 (s : ByteArray) (d : Nat) : ∀ (i n k : Nat), i + d = 8 → i ≤ s.size → n < 128 ^ i → d + 3 ≤ k →
    pollardref02_Unnum.l0 k s (n : Int) ((128 * geo i : Nat) : Int) ((128 ^ (i + 1) : Nat) : Int) (i : Int) = some (tri (unnumGo ((bs s).drop i) i (n + geo i))) := by
  induction d with
  | zero =>
    intro i n k hi hle hn hk
    have hi8 : i = 8 := by omega
    have hn' : n < 72057594037927936 := by rw [hi8] at hn; exact Nat.lt_of_lt_of_le hn (Nat.le_of_eq (by kernel_rfl))
    have hg : geo i = 567382630219905 := by rw [hi8]; kernel_rfl
    obtain ⟨k, rfl⟩ : ∃ m, k = m + 1 := ⟨k - 1, by omega⟩
    simp only [pollardref02_Unnum.l0]
    rw [if_pos (by omega)]
    by_cases hlt : i < s.size
    · obtain ⟨c, hc, hd, hb⟩ := bt_bs s i hlt
      rw [if_neg (by omega), if_pos (by omega), if_pos (by omega), hb, hd, unnumGo_cons _ _ _ _ (show i ≠ 9 by omega)]
      by_cases h1 : c < 128
      · rw [if_pos (by omega), if_pos h1]
        have e1 : IntKind.u64.wrap (IntKind.u64.wrap ((n : Int) * 128) + Int.tmod (IntKind.u64.wrap (c : Int)) 128) = ((n * 128 + c : Nat) : Int) := by
          rw [wu64 (c : Int) (by omega) (by omega), Int.tmod_eq_emod_of_nonneg (by omega), wu64 ((n : Int) * 128) (by omega) (by omega), wu64 _ (by omega) (by omega)]; omega
        rw [e1]
        clear e1
        have e2 : wrap64 ((i : Int) + 1) = ((i + 1 : Nat) : Int) := by unfold wrap64; omega
        rw [e2]
        clear e2
        have e3 : ∀ a b : Int, a = b → some (a, ((i + 1 : Nat) : Int), (0 : Int)) = some (b, ((i + 1 : Nat) : Int), ((0 : Nat) : Int)) := fun a b h => by rw [h]; rfl
        refine e3 _ _ ?_
        rw [hg, wu64 _ (by omega) (by omega)]; omega
      · rw [if_neg (by omega), if_neg h1]
        have e3 : wrap64 ((i : Int) + 1) = 9 := by unfold wrap64; omega
        rw [e3]
        clear e3
        rw [refUnnum_9 _ _ _ _ _ (by omega)]
        cases hq : (bs s).drop (i + 1) with
        | nil => rw [unnumGo, if_pos (by omega)]; rfl
        | cons x l => rw [unnumGo, if_pos (by omega)]; rfl
    · rw [if_pos (by omega)]
      have hnil : (bs s).drop i = [] := List.drop_eq_nil_of_le (by rw [bs_length]; omega)
      rw [hnil, unnumGo, if_neg (by omega)]; rfl
  | succ d ih =>
    intro i n k hi hle hn hk
    obtain ⟨k, rfl⟩ : ∃ m, k = m + 1 := ⟨k - 1, by omega⟩
    simp only [pollardref02_Unnum.l0]
    rw [if_pos (by omega)]
    by_cases hlt : i < s.size
    · obtain ⟨c, hc, hd, hb⟩ := bt_bs s i hlt
      rw [if_neg (by omega), if_pos (by omega), if_pos (by omega), hb, hd, unnumGo_cons _ _ _ _ (show i ≠ 9 by omega)]
      have hp8 : (128 : Nat) ^ i ≤ 128 ^ 7 := Nat.pow_le_pow_right (by omega) (by omega)
      have hp7 : (128 : Nat) ^ 7 = 562949953421312 := by kernel_rfl
      have hgp := geo_pow i
      have hgl := geo_le i
      have e1 : IntKind.u64.wrap (IntKind.u64.wrap ((n : Int) * 128) + Int.tmod (IntKind.u64.wrap (c : Int)) 128) = ((n * 128 + c % 128 : Nat) : Int) := by
        rw [wu64 (c : Int) (by omega) (by omega), Int.tmod_eq_emod_of_nonneg (by omega), wu64 ((n : Int) * 128) (by omega) (by omega), wu64 _ (by omega) (by omega)]; omega
      rw [e1]
      clear e1
      have e3 : wrap64 ((i : Int) + 1) = ((i + 1 : Nat) : Int) := by unfold wrap64; omega
      rw [e3]
      clear e3
      by_cases h1 : c < 128
      · rw [if_pos (by omega), if_pos h1]
        have e3 : ∀ a b : Int, a = b → some (a, ((i + 1 : Nat) : Int), (0 : Int)) = some (b, ((i + 1 : Nat) : Int), ((0 : Nat) : Int)) := fun a b h => by rw [h]; rfl
        refine e3 _ _ ?_
        rw [wu64 _ (by omega) (by omega)]; omega
      · rw [if_neg (by omega), if_neg h1]
        have e4 : IntKind.u64.wrap (((128 * geo i : Nat) : Int) + ((128 ^ (i + 1) : Nat) : Int)) = ((128 * geo (i + 1) : Nat) : Int) := by
          rw [Nat.pow_succ, wu64 _ (by omega) (by omega)]; omega
        rw [e4]
        clear e4
        have e5 : IntKind.u64.wrap (((128 ^ (i + 1) : Nat) : Int) * 128) = ((128 ^ (i + 1 + 1) : Nat) : Int) := by
          have a1 : (128 : Nat) ^ (i + 1 + 1) = 128 ^ i * 128 * 128 := by rw [Nat.pow_succ, Nat.pow_succ]
          have a2 : (128 : Nat) ^ (i + 1) = 128 ^ i * 128 := Nat.pow_succ ..
          rw [a1, a2, wu64 _ (by omega) (by omega)]; omega
        rw [e5]
        clear e5
        rw [ih (i + 1) (n * 128 + c % 128) k (by omega) (by omega) (by rw [Nat.pow_succ]; omega) (by omega)]
        have e6 : n * 128 + c % 128 + geo (i + 1) = (n + geo i) * 128 + (c - 128) + 1 := by rw [show geo (i + 1) = 1 + 128 * geo i from rfl]; omega
        rw [e6]
    · rw [if_pos (by omega)]
      have hnil : (bs s).drop i = [] := List.drop_eq_nil_of_le (by rw [bs_length]; omega)
      rw [hnil, unnumGo, if_neg (by omega)]; rfl
theorem refUnnum (s : ByteArray) (k : Nat) (hk : 11 ≤ k) : pollardref02_Unnum.f k s = some (tri (unnum (bs s))) :=
  refUnnum_l0 s 8 0 0 k rfl (by omega) (by simp) (by omega)

/-! a number that was read has just these bytes -/
theorem unnumGo_ok : ∀ (l : List Nat) (i v : Nat) (n k : Nat), (∀ c ∈ l, c < 256) → unnumGo l i v = (n, k, 0) → i < k ∧ k ≤ i + l.length ∧ num n = rest v ++ l.take (k - i)
  | [], i, v, n, k, _, h => by
    rw [unnumGo] at h
    split at h <;> simp at h
  | c :: l, i, v, n, k, hl, h => by
    rw [unnumGo] at h
    split at h
    · simp at h
    · split at h
      · rename_i h9 hc
        simp only [Prod.mk.injEq] at h
        obtain ⟨rfl, rfl, _⟩ := h
        refine ⟨by omega, by simp, ?_⟩
        rw [num, show (v * 128 + c) / 128 = v from by omega, show (v * 128 + c) % 128 = c from by omega, show i + 1 - i = 1 from by omega]
        simp
      · rename_i h9 hc
        have hc2 : c < 256 := hl c (by simp)
        obtain ⟨h1, h2, h3⟩ := unnumGo_ok l (i + 1) _ n k (fun x hx => hl x (by simp [hx])) h
        refine ⟨by omega, by simp; omega, ?_⟩
        rw [h3, rest_pos _ (by omega), show (v * 128 + (c - 128) + 1 - 1) / 128 = v from by omega, show (v * 128 + (c - 128) + 1 - 1) % 128 + 128 = c from by omega]
        rw [show k - i = (k - (i + 1)) + 1 from by omega, List.take_succ_cons]
        simp
theorem unnum_ok (l : List Nat) (n k : Nat) (hl : ∀ c ∈ l, c < 256) (h : unnum l = (n, k, 0)) : 0 < k ∧ k ≤ l.length ∧ num n = l.take k := by
  obtain ⟨h1, h2, h3⟩ := unnumGo_ok l 0 0 n k hl h
  rw [rest_zero] at h3
  exact ⟨h1, by omega, by simpa using h3⟩
theorem unnumGo_bounds : ∀ (l : List Nat) (i v : Nat), (∀ c ∈ l, c < 256) → v + 2 ≤ 2 ^ (7 * i + 1) → i ≤ 9 → (unnumGo l i v).1 < 9223372036854775808 * 2 ∧ (unnumGo l i v).2.1 ≤ 9 ∧ (unnumGo l i v).2.2 ≤ 6
  | [], i, v, _, _, _ => by rw [unnumGo]; split <;> simp
  | c :: l, i, v, hl, hv, hi => by
    rw [unnumGo]
    have hc : c < 256 := hl c (by simp)
    split
    · simp
    · have hp : (2 : Nat) ^ (7 * i + 1) ≤ 2 ^ 57 := Nat.pow_le_pow_right (by omega) (by omega)
      have hp2 : (2 : Nat) ^ (7 * (i + 1) + 1) = 128 * 2 ^ (7 * i + 1) := by rw [show 7 * (i + 1) + 1 = 7 + (7 * i + 1) from by omega, Nat.pow_add]
      have hq : (2 : Nat) ^ 57 = 144115188075855872 := by kernel_rfl
      split
      · simp only; omega
      · exact unnumGo_bounds l (i + 1) _ (fun x hx => hl x (by simp [hx])) (by rw [hp2]; omega) (by omega)
theorem unnum_bounds (l : List Nat) (hl : ∀ c ∈ l, c < 256) : (unnum l).1 < 18446744073709551616 ∧ (unnum l).2.1 ≤ 9 ∧ (unnum l).2.2 ≤ 6 :=
  unnumGo_bounds l 0 0 hl (by decide) (by omega)
end Go.Proofs.Ytaifljcalfadcaa.Mine
