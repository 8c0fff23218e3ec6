/- What delta.Apply makes of the bytes of makeD: plain lists and numbers, over the printed functions of the reader. -/
import Derived.Test.YtjgbodgcbagbnaaApplyC
import Derived.Test.YtjgbodgcbagbnaaDeltaBase
set_option linter.unusedVariables false
set_option linter.unusedSimpArgs false
namespace Go.Proofs.Ytjgbodgcbagbnaa.Mine
open Go.RowKit Go.Proofs.YtjgbodgcbagbnaaW.PrintWords Go.Proofs.Ytjgbodgcbagbnaa.PR

theorem lt_append {a b : List Nat} (ha : ∀ c ∈ a, c < 256) (hb : ∀ c ∈ b, c < 256) : ∀ c ∈ a ++ b, c < 256 := fun c hc => (List.mem_append.1 hc).elim (ha c) (hb c)
theorem sb_rest (a b : List Nat) : (sb (a ++ b)).extract a.length (sb (a ++ b)).size = sb b := by
  rw [sb_append]
  have h : (sb a).size = a.length := sb_size a
  rw [← h, ByteArray.size_append]
  exact ByteArray.extract_append_eq_right rfl rfl
theorem sb_front (a b : List Nat) : (sb (a ++ b)).extract 0 a.length = sb a := by
  rw [sb_append]
  have h : (sb a).size = a.length := sb_size a
  rw [← h]
  exact ByteArray.extract_append_eq_left rfl
theorem u64w (n : Nat) (h : n < 18446744073709551616) : IntKind.u64.wrap (n : Int) = (n : Int) := by rw [IntKind.wrap_u64]; omega
theorem rd_num (n : Nat) (t : List Nat) (hn : n < 9223372036854775808) (ht : ∀ c ∈ t, c < 256) (hl : t.length ≤ 140737488351000) :
    delta_reader_num.f (sb (num n ++ t)) 0 = some ((n : Int), sb t, 0) := by
  have hb : bs (sb (num n ++ t)) = num n ++ t := bs_sb _ (lt_append (num_lt n) ht)
  have hnl := num_length n (by omega)
  have hu := unnum_num n hn t
  unfold delta_reader_num.f code_Unnum.f
  rw [if_pos rfl, if_pos (by rw [sb_size, List.length_append]; omega), hb, hu]
  simp only [Option.bind_some]
  rw [if_pos (show ((0 : Nat) : Int) = 0 from rfl), if_pos (by omega), if_pos (by rw [sb_size, List.length_append]; omega), Int.toNat_natCast, sb_rest]
theorem part_ins (lit t : List Nat) (base : ByteArray) (most : Nat) (h1 : lit ≠ []) (h2 : lit.length ≤ most) (h3 : most ≤ 1000000) (hb : ∀ c ∈ lit ++ t, c < 256) (hl : (lit ++ t).length ≤ 140737488350000) :
    delta_reader_part.f 5 (sb (insB lit ++ t)) 0 base (most : Int) = some (sb lit, sb t, 0) := by
  have hpos : 0 < lit.length := by cases lit with | nil => exact absurd rfl h1 | cons a l => simp
  rw [insB_pos lit h1, List.append_assoc]
  unfold delta_reader_part.f
  rw [rd_num _ _ (by omega) hb (by omega)]
  simp only [Option.bind_some, if_true]
  have e1 : Int.tdiv ((2 * (lit.length - 1) : Nat) : Int) 2 = ((lit.length - 1 : Nat) : Int) := by
    rw [Int.tdiv_eq_ediv_of_nonneg (by omega)]; omega
  have e2 : IntKind.u64.wrap ((lit.length - 1 : Nat) : Int) = ((lit.length - 1 : Nat) : Int) := u64w _ (by omega)
  have e3 : IntKind.u64.wrap (((lit.length - 1 : Nat) : Int) + 1) = ((lit.length : Nat) : Int) := by
    rw [show (((lit.length - 1 : Nat) : Int) + 1) = ((lit.length : Nat) : Int) from by omega]; exact u64w _ (by omega)
  have e4 : IntKind.u64.wrap (most : Int) = (most : Int) := u64w _ (by omega)
  have e5 : IntKind.u64.wrap (((sb (lit ++ t)).size : Nat) : Int) = (((lit ++ t).length : Nat) : Int) := by rw [sb_size]; exact u64w _ (by omega)
  have e6 : Int.tmod ((2 * (lit.length - 1) : Nat) : Int) 2 = 0 := by
    rw [Int.tmod_eq_emod_of_nonneg (by omega)]; omega
  rw [e1, e2, e3, e4, show decide ((lit.length : Int) > (most : Int)) = false from by simp; omega]
  simp only [delta_reader_part.j0, delta_reader_part.j1, if_true, if_false, Bool.false_eq_true]
  rw [if_pos e6, e5, if_neg (by rw [List.length_append]; omega), if_pos (by omega), if_pos (by rw [sb_size, List.length_append]; omega), Int.toNat_natCast, sb_rest, sb_front]
theorem part_rep (n k : Nat) (t : List Nat) (base : ByteArray) (most : Nat) (h1 : 0 < n) (h2 : n ≤ most) (h3 : most ≤ 1000000) (h4 : k + n ≤ base.size) (h5 : base.size ≤ 1000000) (hb : ∀ c ∈ t, c < 256) (hl : t.length ≤ 140737488350000) :
    delta_reader_part.f 5 (sb (repB n k ++ t)) 0 base (most : Int) = some (base.extract k (k + n), sb t, 0) := by
  unfold repB
  rw [List.append_assoc]
  have hnl := num_length k (by omega)
  unfold delta_reader_part.f
  rw [rd_num _ _ (by omega) (lt_append (num_lt k) hb) (by rw [List.length_append]; omega)]
  simp only [Option.bind_some, if_true]
  have e1 : Int.tdiv ((2 * (n - 1) + 1 : Nat) : Int) 2 = ((n - 1 : Nat) : Int) := by
    rw [Int.tdiv_eq_ediv_of_nonneg (by omega)]; omega
  have e2 : IntKind.u64.wrap ((n - 1 : Nat) : Int) = ((n - 1 : Nat) : Int) := u64w _ (by omega)
  have e3 : IntKind.u64.wrap (((n - 1 : Nat) : Int) + 1) = ((n : Nat) : Int) := by
    rw [show (((n - 1 : Nat) : Int) + 1) = ((n : Nat) : Int) from by omega]; exact u64w _ (by omega)
  have e4 : IntKind.u64.wrap (most : Int) = (most : Int) := u64w _ (by omega)
  have e5 : IntKind.u64.wrap ((base.size : Nat) : Int) = ((base.size : Nat) : Int) := u64w _ (by omega)
  have e6 : Int.tmod ((2 * (n - 1) + 1 : Nat) : Int) 2 ≠ 0 := by
    rw [Int.tmod_eq_emod_of_nonneg (by omega)]; omega
  have e7 : IntKind.u64.wrap (((base.size : Nat) : Int) - (k : Int)) = ((base.size - k : Nat) : Int) := by
    rw [show (((base.size : Nat) : Int) - (k : Int)) = ((base.size - k : Nat) : Int) from by omega]; exact u64w _ (by omega)
  have e8 : IntKind.u64.wrap ((k : Int) + (n : Int)) = ((k + n : Nat) : Int) := by
    rw [show ((k : Int) + (n : Int)) = ((k + n : Nat) : Int) from by omega]; exact u64w _ (by omega)
  rw [e1, e2, e3, e4, show decide ((n : Int) > (most : Int)) = false from by simp; omega]
  simp only [delta_reader_part.j0, delta_reader_part.j1, if_true, if_false, Bool.false_eq_true]
  rw [if_neg e6, rd_num _ _ (by omega) hb (by omega)]
  simp only [Option.bind_some, if_true]
  rw [e5, if_neg (by omega), e7, show decide ((n : Int) > ((base.size - k : Nat) : Int)) = false from by simp; omega]
  simp only [delta_reader_part.j2, if_true, if_false, Bool.false_eq_true]
  rw [if_pos (by omega), e8, if_pos (by omega), if_pos (by omega), Int.toNat_natCast, Int.toNat_natCast]
/-- From place p on the steps r make the rest of s. -/
inductive Steps (base s : List Nat) : Nat → List Nat → Prop
  | done : Steps base s s.length []
  | ins (p q : Nat) (r : List Nat) : p < q → q ≤ s.length → Steps base s q r → Steps base s p (insB ((s.drop p).take (q - p)) ++ r)
  | rep (p n k : Nat) (r : List Nat) : 0 < n → p + n ≤ s.length → k + n ≤ base.length → (base.drop k).take n = (s.drop p).take n → Steps base s (p + n) r → Steps base s p (repB n k ++ r)
theorem Steps.ins' {base s : List Nat} {p q : Nat} {r : List Nat} (h0 : p ≤ q) (h1 : q ≤ s.length) (h : Steps base s q r) : Steps base s p (insB ((s.drop p).take (q - p)) ++ r) := by
  by_cases e : p = q
  · subst e; simpa [insB] using h
  · exact .ins p q r (by omega) h1 h
theorem mkD_steps (f : List Nat → Option Nat) (base s : List Nat) (hf : ∀ b k, f b = some k → k + 16 ≤ base.length ∧ (base.drop k).take 16 = b) :
    ∀ (d at_ fr : Nat), s.length - at_ ≤ d → fr ≤ at_ → at_ ≤ s.length → Steps base s fr (mkD f base s at_ fr) := by
  intro d
  induction d using Nat.strongRecOn with
  | _ d ih =>
    intro at_ fr hd h1 h2
    by_cases h16 : at_ + 16 ≤ s.length
    · cases hb : f ((s.drop at_).take 16) with
      | none =>
        rw [mkD_none f base s at_ fr h16 hb]
        exact ih (d - 1) (by omega) (at_ + 1) fr (by omega) (by omega) (by omega)
      | some k =>
        obtain ⟨hk, he⟩ := hf _ k hb
        obtain ⟨n, hn⟩ : ∃ n, n = 16 + lcp (s.drop (at_ + 16)) (base.drop (k + 16)) := ⟨_, rfl⟩
        have hle := lcp_le (s.drop (at_ + 16)) (base.drop (k + 16))
        rw [List.length_drop, List.length_drop] at hle
        rw [mkD_some f base s at_ fr k n h16 hb hn, List.append_assoc]
        refine .ins' h1 h2 (.rep at_ n k _ (by omega) (by omega) (by omega) ?_ (ih (d - n) (by omega) (at_ + n) (at_ + n) (by omega) (Nat.le_refl _) (by omega)))
        have hl := lcp_add 16 (s.drop at_) (base.drop k) (by rw [List.length_drop]; omega) (by rw [List.length_drop]; omega) he.symm
        rw [List.drop_drop, List.drop_drop] at hl
        have hs := lcp_same (s.drop at_) (base.drop k)
        rw [hl, ← hn] at hs
        exact hs.symm
    · rw [mkD_end f base s at_ fr (by omega)]
      have := Steps.ins' (base := base) (s := s) (p := fr) (q := s.length) (r := []) (by omega) (Nat.le_refl _) .done
      rwa [List.append_nil, List.take_of_length_le (by rw [List.length_drop]; exact Nat.le_refl _)] at this
theorem blkF_ok (base : List Nat) (b : List Nat) (k : Nat) (h : blkF base (base.length / 16) b = some k) : k + 16 ≤ base.length ∧ (base.drop k).take 16 = b := by
  obtain ⟨i, h1, rfl, h3⟩ := blkF_at base _ b k h
  exact ⟨by omega, h3⟩
theorem repB_length (n k : Nat) (hn : n ≤ 1000000000) (hk : k ≤ 1000000000) : (repB n k).length ≤ 20 := by
  unfold repB
  rw [List.length_append]
  have := num_length (2 * (n - 1) + 1) (by omega)
  have := num_length k (by omega)
  omega
theorem repB_lt (n k : Nat) : ∀ c ∈ repB n k, c < 256 := lt_append (num_lt _) (num_lt _)
theorem Steps.fits {base s : List Nat} (hb : base.length ≤ 1000000) (hs : s.length ≤ 1000000) (hl : ∀ c ∈ s, c < 256) : ∀ {p : Nat} {r : List Nat}, Steps base s p r → p ≤ s.length ∧ r.length ≤ 40 * (s.length - p) ∧ ∀ c ∈ r, c < 256 := by
  intro p r h
  induction h with
  | done => exact ⟨Nat.le_refl _, by simp, by simp⟩
  | ins p q r h1 h2 _ ih =>
    have h3 := insB_length ((s.drop p).take (q - p)) (by rw [List.length_take]; omega)
    rw [List.length_take, List.length_drop] at h3
    refine ⟨by omega, by rw [List.length_append]; omega, lt_append (insB_lt _ fun c hc => hl c (List.mem_of_mem_drop (List.mem_of_mem_take hc))) ih.2.2⟩
  | rep p n k r h1 h2 h3 _ _ ih =>
    have h4 := repB_length n k (by omega) (by omega)
    exact ⟨by omega, by rw [List.length_append]; omega, lt_append (repB_lt n k) ih.2.2⟩
theorem take_piece (s : List Nat) (p q : Nat) (h : p ≤ q) : s.take p ++ (s.drop p).take (q - p) = s.take q := by
  have := List.take_append_drop p (s.take q)
  rw [List.take_take, Nat.min_eq_left h, List.drop_take] at this
  exact this
theorem applyL_steps {base s : List Nat} (B : ByteArray) (hB : bs B = base) (hb : base.length ≤ 1000000) (hs : s.length ≤ 1000000) (hl : ∀ c ∈ s, c < 256) : ∀ {p : Nat} {r : List Nat}, Steps base s p r →
    ∀ k, s.length - p < k → applyL k B (s.length : Int) (sb (s.take p)) (sb r) 0 = some (sb s, sb [], 0) := by
  intro p r h
  have hBs : B.size = base.length := by rw [← hB, bs_length]
  induction h with
  | done =>
    intro k hk
    obtain ⟨k, rfl⟩ : ∃ m, k = m + 1 := ⟨k - 1, by omega⟩
    rw [applyL, if_neg (by rw [sb_size, List.length_take]; omega), List.take_of_length_le (Nat.le_refl _)]
  | ins p q r h1 h2 hr ih =>
    intro k hk
    obtain ⟨k, rfl⟩ : ∃ m, k = m + 1 := ⟨k - 1, by omega⟩
    obtain ⟨f1, f2, f3⟩ := hr.fits hb hs hl
    have hll : ((s.drop p).take (q - p)).length = q - p := by rw [List.length_take, List.length_drop]; omega
    have hne : (s.drop p).take (q - p) ≠ [] := by intro e; rw [e] at hll; simp at hll; omega
    have hts : (sb (s.take p)).size = p := by rw [sb_size, List.length_take]; omega
    have hp := part_ins ((s.drop p).take (q - p)) r B (s.length - p) hne (by omega) (by omega) (lt_append (fun c hc => hl c (List.mem_of_mem_drop (List.mem_of_mem_take hc))) f3) (by rw [List.length_append, hll]; omega)
    rw [applyL, if_pos ⟨by rw [hts]; omega, rfl⟩, hts, show ((s.length : Int) - (p : Int)) = ((s.length - p : Nat) : Int) from by omega, hp]
    simp only [Option.bind_some]
    rw [if_pos (by rw [sb_size, hll]; omega), ← sb_append, take_piece _ _ _ (by omega)]
    exact ih k (by omega)
  | rep p n j r h1 h2 h3 h4 hr ih =>
    intro k hk
    obtain ⟨k, rfl⟩ : ∃ m, k = m + 1 := ⟨k - 1, by omega⟩
    obtain ⟨f1, f2, f3⟩ := hr.fits hb hs hl
    have hts : (sb (s.take p)).size = p := by rw [sb_size, List.length_take]; omega
    have hp := part_rep n j r B (s.length - p) h1 (by omega) (by omega) (by omega) (by omega) f3 (by omega)
    have he : B.extract j (j + n) = sb ((s.drop p).take n) := by
      apply sb_eq
      rw [bs_extract, hB, show j + n - j = n from by omega, h4]
    rw [applyL, if_pos ⟨by rw [hts]; omega, rfl⟩, hts, show ((s.length : Int) - (p : Int)) = ((s.length - p : Nat) : Int) from by omega, hp]
    simp only [Option.bind_some]
    have ht := take_piece s p (p + n) (by omega)
    rw [show p + n - p = n from by omega] at ht
    rw [if_pos (by rw [ByteArray.size_extract]; omega), he, ← sb_append, ht]
    exact ih k (by omega)
theorem sb_nil0 : sb [] = ByteArray.empty := rfl
theorem applyF_make (k : Nat) (B S : ByteArray) (C : ByteArray) (most : Nat) (hB : B.size ≤ 2000) (hS : S.size ≤ 2000) (hC : C.size ≤ 2000) (hm : most ≤ 1000000) :
    applyF k C (sb (makeD (bs B) (bs S))) (most : Int) = if C.size = B.size then (if most < S.size then some (ByteArray.empty, 3) else
      (applyL k C (S.size : Int) ByteArray.empty (sb (mkD (blkF (bs B) (B.size / 16)) (bs B) (bs S) 0 0)) 0).bind fun z => if z.2.2 = 0 then (if z.2.1.size = 0 then some (z.1, 0) else some (ByteArray.empty, 5)) else some (ByteArray.empty, z.2.2))
      else some (ByteArray.empty, 6) := by
  have st := mkD_steps (blkF (bs B) ((bs B).length / 16)) (bs B) (bs S) (blkF_ok (bs B)) (bs S).length 0 0 (by omega) (Nat.le_refl _) (Nat.zero_le _)
  obtain ⟨f1, f2, f3⟩ := st.fits (by rw [bs_length]; omega) (by rw [bs_length]; omega) (bs_lt S)
  rw [bs_length] at f2 f3
  have l1 := num_length B.size (by omega)
  have l2 := num_length S.size (by omega)
  rw [bs_length] at f2
  have hmk : makeD (bs B) (bs S) = num B.size ++ (num S.size ++ mkD (blkF (bs B) (B.size / 16)) (bs B) (bs S) 0 0) := by
    rw [makeD, List.append_assoc, bs_length, bs_length]
  obtain ⟨M, hM⟩ : ∃ M, M = mkD (blkF (bs B) (B.size / 16)) (bs B) (bs S) 0 0 := ⟨_, rfl⟩
  rw [bs_length] at st
  rw [← hM] at f2 f3 hmk ⊢
  have g2 : M.length ≤ 100000 := by omega
  have e1 := rd_num B.size (num S.size ++ M) (by omega) (lt_append (num_lt _) f3) (by rw [List.length_append]; omega)
  have e2 := rd_num S.size M (by omega) f3 (by omega)
  have c1 : 0 ≤ (B.size : Int) ∧ 0 ≤ (S.size : Int) := by omega
  clear st f2 f3 hM
  unfold applyF
  rw [if_pos ⟨by omega, by omega, by omega⟩, hmk, e1]
  simp only [Option.bind_some]
  rw [e2]
  simp only [Option.bind_some]
  rw [if_pos c1]
  simp only [if_true]
  by_cases h1 : C.size = B.size
  · rw [if_pos h1, if_pos (by rw [h1])]
    by_cases h2 : most < S.size
    · rw [if_pos h2, if_pos (by omega)]
    · rw [if_neg h2, if_neg (by omega)]
  · rw [if_neg h1, if_neg (by omega)]
theorem apply_ok (k : Nat) (hk : 2000 < k) (B S : ByteArray) (most : Nat) (hB : B.size ≤ 2000) (hS : S.size ≤ 2000) (hm : most ≤ 1000000) (h : S.size ≤ most) : applyF k B (sb (makeD (bs B) (bs S))) (most : Int) = some (S, 0) := by
  rw [applyF_make k B S B most hB hS hB hm, if_pos rfl, if_neg (by omega)]
  have st := mkD_steps (blkF (bs B) ((bs B).length / 16)) (bs B) (bs S) (blkF_ok (bs B)) (bs S).length 0 0 (by omega) (Nat.le_refl _) (Nat.zero_le _)
  have := applyL_steps B rfl (by rw [bs_length]; omega) (by rw [bs_length]; omega) (bs_lt S) st k (by rw [bs_length]; omega)
  rw [List.take_zero, bs_length, bs_length, sb_nil0] at this
  rw [this]
  simp [sb_bs, sb_nil0]
theorem apply_much (k : Nat) (B S : ByteArray) (most : Nat) (hB : B.size ≤ 2000) (hS : S.size ≤ 2000) (hm : most ≤ 1000000) (h : most < S.size) : applyF k B (sb (makeD (bs B) (bs S))) (most : Int) = some (ByteArray.empty, 3) := by
  rw [applyF_make k B S B most hB hS hB hm, if_pos rfl, if_pos h]
theorem apply_bad (k : Nat) (B S C : ByteArray) (most : Nat) (hB : B.size ≤ 2000) (hS : S.size ≤ 2000) (hC : C.size ≤ 2000) (hm : most ≤ 1000000) (h : C.size ≠ B.size) : applyF k C (sb (makeD (bs B) (bs S))) (most : Int) = some (ByteArray.empty, 6) := by
  rw [applyF_make k B S C most hB hS hC hm, if_neg h]
end Go.Proofs.Ytjgbodgcbagbnaa.Mine
