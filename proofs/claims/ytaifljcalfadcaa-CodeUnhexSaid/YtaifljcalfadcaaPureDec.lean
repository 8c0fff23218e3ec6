/- Decimal digits and digits of bytes: the code's and the document's. Plain lists and numbers. -/
import Derived.Test.YtaifljcalfadcaaPureAwake
namespace Go.Proofs.Ytaifljcalfadcaa.Mine
open Go.RowKit Go.Proofs.Ytaifljcalfadcaa.PA Go.Proofs.YtaifljcalfadcaaW.PrintWords

theorem strOf_one (y : Nat) : strOfNums [(y : Int)] = sb [y] := by rw [← strOf_ints]; rfl
theorem refDigit (d : Nat) (h : d < 16) : pollardref02_digit.f (d : Int) = some (sb [dig d]) := by
  unfold pollardref02_digit.f dig
  by_cases h10 : d < 10
  · have e : wrap64 (48 + (d : Int)) % 256 = ((48 + d : Nat) : Int) := by unfold wrap64; omega
    rw [if_pos (by omega), if_pos h10, e, strOf_one]
  · have e : wrap64 (87 + (d : Int)) % 256 = ((87 + d : Nat) : Int) := by unfold wrap64; omega
    rw [if_neg (by omega), if_neg h10, e, strOf_one]
theorem dig_ten (d : Nat) (h : d < 10) : dig d = 48 + d := by unfold dig; rw [if_pos h]

theorem refDec (j : Nat) : ∀ (n k : Nat), n < 10 ^ (j + 1) → j ≤ 30 → n < 18446744073709551616 → j < k → pollardref02_Dec.f k (n : Int) = some (sb (dec n)) := by
  induction j with
  | zero =>
    intro n k hn _ _ hk
    obtain ⟨k, rfl⟩ : ∃ m, k = m + 1 := ⟨k - 1, by omega⟩
    have h10 : n < 10 := by simpa using hn
    rw [pollardref02_Dec.f, if_pos (by omega)]
    have e : wrap64 (n : Int) = (n : Int) := by unfold wrap64; omega
    rw [e, refDigit n (by omega), dig_ten n h10, dec, if_pos h10]
    rfl
  | succ j ih =>
    intro n k hn hj hn2 hk
    obtain ⟨k, rfl⟩ : ∃ m, k = m + 1 := ⟨k - 1, by omega⟩
    rw [pollardref02_Dec.f]
    by_cases h10 : n < 10
    · rw [if_pos (by omega)]
      have e : wrap64 (n : Int) = (n : Int) := by unfold wrap64; omega
      rw [e, refDigit n (by omega), dig_ten n h10, dec, if_pos h10]
      rfl
    · rw [if_neg (by omega)]
      have e1 : IntKind.u64.wrap (Int.tdiv (n : Int) 10) = ((n / 10 : Nat) : Int) := by
        rw [Int.tdiv_eq_ediv_of_nonneg (by omega), IntKind.wrap_u64]; omega
      rw [e1]
      clear e1
      have e2 : wrap64 (Int.tmod (n : Int) 10) = ((n % 10 : Nat) : Int) := by
        rw [Int.tmod_eq_emod_of_nonneg (by omega)]; unfold wrap64; omega
      rw [e2]
      clear e2
      have hlen := dec_length j (n / 10) (by rw [Nat.pow_succ] at hn; omega)
      rw [ih (n / 10) k (by rw [Nat.pow_succ] at hn; omega) (by omega) (by omega) (by omega), refDigit (n % 10) (by omega), dig_ten _ (by omega)]
      simp only [Option.bind_some]
      have hsum : (sb (dec (n / 10))).size + (sb [48 + n % 10]).size ≤ 9223372036854775807 := by
        have a1 := sb_size (dec (n / 10))
        have a2 := sb_size [48 + n % 10]
        simp only [List.length_cons, List.length_nil] at a2
        omega
      rw [if_pos hsum, ← sb_append]
      conv => rhs; rw [dec, if_neg h10]

theorem undecGo_snoc (c : Nat) : ∀ (l : List Nat) (v : Nat), undecGo (l ++ [c]) v = (undecGo l v).bind fun m => if c < 48 ∨ 57 < c ∨ (18446744073709551615 - (c - 48)) / 10 < m then none else some (m * 10 + (c - 48))
  | [], v => by simp only [List.nil_append, undecGo, Option.bind_some]
  | x :: l, v => by
    rw [List.cons_append, undecGo, undecGo]
    split
    · rfl
    · exact undecGo_snoc c l _
theorem undecGo_dec (n : Nat) (hn : n < 18446744073709551616) : undecGo (dec n) 0 = some n := by
  induction n using Nat.strongRecOn with
  | _ n ih =>
    by_cases h10 : n < 10
    · rw [dec, if_pos h10, undecGo, if_neg (by omega), undecGo]
      congr 1; omega
    · rw [dec, if_neg h10, undecGo_snoc, ih (n / 10) (by omega) (by omega)]
      simp only [Option.bind_some]
      rw [if_neg (by omega)]
      congr 1; omega
theorem dec_ne (n : Nat) : dec n ≠ [] := by
  intro h
  have := dec_pos n
  rw [h] at this
  simp at this
theorem undec_dec (n : Nat) (hn : n < 18446744073709551616) : undec (dec n) = (n, 0) := by
  rw [undec, undecGo_dec n hn]
  simp only
  rw [if_neg (by simp [dec_ne])]

/-! the document's reading of decimal digits -/
theorem head_app (a b : List Nat) (h : a ≠ []) : (a ++ b).head? = a.head? := by
  cases a with
  | nil => exact absurd rfl h
  | cons x a => rfl
theorem dec_head (n : Nat) (h : 1 < (dec n).length) : (dec n).head? ≠ some 48 := by
  induction n using Nat.strongRecOn with
  | _ n ih =>
    by_cases h10 : n < 10
    · rw [dec, if_pos h10] at h; simp at h
    · rw [dec, if_neg h10]
      have hp := dec_pos (n / 10)
      rw [head_app _ _ (dec_ne _)]
      by_cases h1 : 1 < (dec (n / 10)).length
      · exact ih (n / 10) (by omega) h1
      · have : n / 10 < 10 := by
          rcases Nat.lt_or_ge (n / 10) 10 with h | h
          · exact h
          · rw [dec, if_neg (by omega)] at h1
            have := dec_pos (n / 10 / 10)
            rw [List.length_append, List.length_singleton] at h1
            omega
        rw [dec, if_pos this]
        simp; omega
theorem undecGo_form : ∀ (j : Nat) (l : List Nat) (m : Nat), l.length ≤ j → undecGo l 0 = some m → l ≠ [] → (1 < l.length → l.head? ≠ some 48) → l = dec m := by
  intro j
  induction j with
  | zero => intro l m h _ hn _; exact absurd (List.eq_nil_of_length_eq_zero (by omega)) hn
  | succ j ih =>
    intro l m hl hm hn hh
    obtain ⟨q, c, rfl⟩ : ∃ q c, l = q ++ [c] := ⟨l.dropLast, l.getLast hn, (List.dropLast_concat_getLast _).symm⟩
    rw [undecGo_snoc] at hm
    cases hq : undecGo q 0 with
    | none => rw [hq] at hm; cases hm
    | some v =>
      rw [hq] at hm
      simp only [Option.bind_some] at hm
      split at hm
      · cases hm
      · rename_i hc
        have hm' : v * 10 + (c - 48) = m := by simpa using hm
        subst hm'
        by_cases hq0 : q = []
        · subst hq0
          simp only [undecGo, Option.some.injEq] at hq
          subst hq
          rw [dec, if_pos (by omega)]
          simp; omega
        · have hql : 1 ≤ q.length := by
            cases q with
            | nil => exact absurd rfl hq0
            | cons _ _ => simp
          have hh1 : q.head? ≠ some 48 := by
            have := hh (by simp; omega)
            rwa [head_app _ _ hq0] at this
          have hqd := ih q v (by simp at hl; omega) hq hq0 (fun _ => hh1)
          have hv : v ≠ 0 := by
            intro h0
            subst h0
            rw [hqd, dec, if_pos (by omega)] at hh1
            simp at hh1
          conv => rhs; rw [dec, if_neg (by omega)]
          rw [show (v * 10 + (c - 48)) / 10 = v from by omega, show 48 + (v * 10 + (c - 48)) % 10 = c from by omega, ← hqd]

def readOf : Option Nat → Nat × Nat
  | none => (0, 6)
  | some n => (n, 0)
theorem undec_form (l : List Nat) : undec l = if l = [] ∨ 20 < l.length ∨ (1 < l.length ∧ l.head? = some 48) then (0, 6) else readOf (undecGo l 0) := by
  rw [undec]
  cases h : undecGo l 0 with
  | none => simp only [readOf]; split <;> rfl
  | some m =>
    simp only [readOf]
    have hm := undecGo_lt l 0 m (by omega) h
    by_cases h0 : l = []
    · rw [if_pos (.inl h0), if_pos (.inl h0)]
    · by_cases h20 : 20 < l.length
      · rw [if_pos (.inr fun e => by have := dec_le m hm; rw [← e] at this; omega), if_pos (.inr (.inl h20))]
      · by_cases hz : 1 < l.length ∧ l.head? = some 48
        · have hne : l ≠ dec m := fun e => dec_head m (by rw [← e]; exact hz.1) (by rw [← e]; exact hz.2)
          rw [if_pos (.inr hne), if_pos (.inr (.inr hz))]
        · have hd := undecGo_form l.length l m (Nat.le_refl _) h h0 (fun h1 h2 => hz ⟨h1, h2⟩)
          rw [if_neg (by rintro (e | e); exact h0 e; exact e hd), if_neg (by rintro (e | e | e); exact h0 e; exact h20 e; exact hz e)]
def two (r : Nat × Nat) : Int × Int := (r.1, r.2)
theorem refUndec_l0 (s : ByteArray) (hs : s.size ≤ 300) (d : Nat) : ∀ (i n k : Nat), i + d = s.size → n < 18446744073709551616 → 2 * d + 1 < k →
    pollardref02_Undec.l0 k s (n : Int) (i : Int) = some (two (readOf (undecGo ((bs s).drop i) n))) := by
  induction d with
  | zero =>
    intro i n k hi hn hk
    obtain ⟨k, rfl⟩ : ∃ m, k = m + 1 := ⟨k - 1, by omega⟩
    simp only [pollardref02_Undec.l0]
    have hnil : (bs s).drop i = [] := List.drop_eq_nil_of_le (by rw [bs_length]; omega)
    rw [if_neg (by omega), hnil]
    rfl
  | succ d ih =>
    intro i n k hi hn hk
    obtain ⟨k, rfl⟩ : ∃ m, k = m + 2 := ⟨k - 2, by omega⟩
    simp only [pollardref02_Undec.l0]
    obtain ⟨c, hc, hd, hb⟩ := bt_bs s i (by omega)
    rw [if_pos (by omega), if_pos (by omega), hb, hd, undecGo]
    by_cases h1 : c < 48
    · rw [if_pos (show (c : Int) < 48 by omega), if_pos (.inl h1)]
      simp only [pollardref02_Undec.j2, if_true]
      rfl
    · rw [if_neg (show ¬ (c : Int) < 48 by omega)]
      by_cases h2 : 57 < c
      · rw [if_pos (.inr (.inl h2)), decide_eq_true (by omega)]
        simp only [pollardref02_Undec.j2, if_true]
        rfl
      · rw [decide_eq_false (by omega)]
        simp only [pollardref02_Undec.j2]
        rw [if_neg (by simp), if_pos (by omega), if_pos (by omega), hb]
        have e1 : IntKind.u64.wrap (IntKind.u64.wrap (c : Int) - 48) = ((c - 48 : Nat) : Int) := by rw [IntKind.wrap_u64, IntKind.wrap_u64]; omega
        rw [e1]
        clear e1
        by_cases h3 : (18446744073709551615 - (c - 48)) / 10 < n
        · have hyes : c < 48 ∨ 57 < c ∨ (18446744073709551615 - (c - 48)) / 10 < n := .inr (.inr h3)
          rw [if_pos hyes]
          by_cases h4 : (n : Int) > 1844674407370955161
          · rw [if_pos h4]; rfl
          · rw [if_neg h4, if_pos (by omega), if_pos (by omega)]; rfl
        · have hno : ¬ (c < 48 ∨ 57 < c ∨ (18446744073709551615 - (c - 48)) / 10 < n) := by omega
          rw [if_neg hno, if_neg (show ¬ (n : Int) > 1844674407370955161 by omega)]
          have e2 : IntKind.u64.wrap (IntKind.u64.wrap ((n : Int) * 10) + ((c - 48 : Nat) : Int)) = ((n * 10 + (c - 48) : Nat) : Int) := by rw [IntKind.wrap_u64, IntKind.wrap_u64]; omega
          rw [e2]
          clear e2
          have e3 : wrap64 ((i : Int) + 1) = ((i + 1 : Nat) : Int) := by unfold wrap64; omega
          rw [e3]
          clear e3
          have hrec := ih (i + 1) (n * 10 + (c - 48)) k (by omega) (by omega) (by omega)
          by_cases h5 : (n : Int) = 1844674407370955161
          · rw [if_pos h5, if_neg (by omega)]; exact hrec
          · rw [if_neg h5]; exact hrec
theorem refUndec (s : ByteArray) (hs : s.size ≤ 300) (k : Nat) (hk : 700 ≤ k) : pollardref02_Undec.f k s = some (two (undec (bs s))) := by
  have hl := bs_length s
  obtain ⟨k, rfl⟩ : ∃ m, k = m + 1 := ⟨k - 1, by omega⟩
  have hj : pollardref02_Undec.j0 (k + 1) s true = some (two (0, 6)) := by simp only [pollardref02_Undec.j0, if_true]; rfl
  have hj2 : pollardref02_Undec.j0 (k + 1) s false = some (two (readOf (undecGo (bs s) 0))) := by
    simp only [pollardref02_Undec.j0]
    rw [if_neg (by simp)]
    exact refUndec_l0 s hs s.size 0 0 k (by omega) (by omega) (by omega)
  unfold pollardref02_Undec.f
  rw [undec_form]
  by_cases h0 : s.size = 0
  · rw [if_pos (str_empty h0), if_pos (.inl (List.eq_nil_of_length_eq_zero (by omega))), hj]
  · have hne : bs s ≠ [] := by intro e; rw [e] at hl; exact h0 hl.symm
    rw [if_neg (str_full h0)]
    by_cases h20 : 20 < s.size
    · rw [if_pos (by omega), if_pos (.inr (.inl (by omega))), hj]
    · rw [if_neg (by omega)]
      by_cases h1 : 1 < s.size
      · rw [if_pos (by omega), if_pos (by omega)]
        obtain ⟨c, hc, hd, hb⟩ := bt_bs s 0 (by omega)
        have hb' : bt s 0 = (c : Int) := hb
        rw [List.drop_zero] at hd
        by_cases hz : c = 48
        · rw [hb', show ((c : Int) == 48) = true from by rw [beq_iff_eq]; omega, hj, if_pos (.inr (.inr ⟨by omega, by rw [hd, hz]; rfl⟩))]
        · rw [hb', show ((c : Int) == 48) = false from by rw [beq_eq_false_iff_ne]; omega, hj2, if_neg]
          rintro (e | e | ⟨_, e⟩)
          · exact hne e
          · omega
          · rw [hd] at e; simp at e; exact hz e
      · rw [if_neg (by omega), hj2, if_neg]
        rintro (e | e | ⟨e, _⟩)
        · exact hne e
        · omega
        · omega
end Go.Proofs.Ytaifljcalfadcaa.Mine
