/- The document's way of making a text of another one tells the same bytes: plain lists and numbers, over the printed functions. -/
import Derived.Test.YtjgbodgcbagbnaaPDx
import Derived.Test.YtjgbodgcbagbnaaPureApply
import Derived.Lib.Hide
set_option linter.unusedVariables false
set_option linter.unusedSimpArgs false
namespace Go.Proofs.Ytjgbodgcbagbnaa.Mine
open Go.RowKit Go.Proofs.YtjgbodgcbagbnaaW.PrintWords Go.Proofs.Ytjgbodgcbagbnaa.PD

theorem toList_iff (a b : ByteArray) : a.toList = b.toList ↔ bs a = bs b := by
  constructor
  · intro h
    rw [toL, toL] at h
    simp [bs, h]
  · intro h; rw [bs_inj h]
theorem bt_get (s : ByteArray) (i : Nat) (h : i < s.size) : bt s (i : Int) = (((bs s).getD i 0 : Nat) : Int) := by
  obtain ⟨c, hc, hd, hcs⟩ := bs_drop s i h
  have h2 : i < s.data.toList.length := by simpa using h
  unfold bt
  rw [dif_pos (by simpa using h), List.getD_eq_getElem?_getD, List.getElem?_eq_getElem (by rw [bs_length]; exact h)]
  simp [bs]
  rfl
theorem bs_ext (s : ByteArray) (a b : Nat) : bs (s.extract a b) = ((bs s).drop a).take (b - a) := bs_extract s a b
theorem w_add (a b : Nat) (h : a + b ≤ 1000000000) : wrap64 ((a : Int) + (b : Int)) = ((a + b : Nat) : Int) := by unfold wrap64; omega
theorem w_16 (a : Nat) (h : a ≤ 1000000000) : wrap64 ((a : Int) + 16) = ((a + 16 : Nat) : Int) := by unfold wrap64; omega
theorem w_1 (a : Nat) (h : a ≤ 1000000000) : wrap64 ((a : Int) + 1) = ((a + 1 : Nat) : Int) := by unfold wrap64; omega
theorem w_2n (n : Nat) (h : n ≤ 1000000000) : wrap64 (2 * (n : Int)) = ((2 * n : Nat) : Int) := by unfold wrap64; omega
theorem w_2n1 (n : Nat) (h0 : 0 < n) (h : n ≤ 1000000000) : IntKind.u64.wrap (wrap64 ((wrap64 (2 * (n : Int))) - 1)) = ((2 * (n - 1) + 1 : Nat) : Int) := by
  rw [w_2n n h, show wrap64 (((2 * n : Nat) : Int) - 1) = ((2 * (n - 1) + 1 : Nat) : Int) from by unfold wrap64; omega]
  exact u64w _ (by omega)
theorem w_2n2 (n : Nat) (h0 : 0 < n) (h : n ≤ 1000000000) : IntKind.u64.wrap (wrap64 ((wrap64 (2 * (n : Int))) - 2)) = ((2 * (n - 1) : Nat) : Int) := by
  rw [w_2n n h, show wrap64 (((2 * n : Nat) : Int) - 2) = ((2 * (n - 1) : Nat) : Int) from by unfold wrap64; omega]
  exact u64w _ (by omega)
/-- The first of the blocks from i on that is b. -/
def findB (l b : List Nat) : Nat → Nat → Option Nat
  | 0, _ => none
  | d + 1, i => if blkB l i = b then some (16 * i) else findB l b d (i + 1)
theorem findB_snoc (l b : List Nat) : ∀ (d i : Nat), findB l b (d + 1) i = match findB l b d i with | some k => some k | none => if blkB l (i + d) = b then some (16 * (i + d)) else none
  | 0, i => by simp [findB]
  | d + 1, i => by
    rw [findB]
    have ih := findB_snoc l b d (i + 1)
    by_cases h : blkB l i = b
    · rw [if_pos h, findB, if_pos h]
    · rw [if_neg h, ih, findB, if_neg h, show i + 1 + d = i + (d + 1) from by omega]
theorem blkF_find (l b : List Nat) : ∀ j, blkF l j b = findB l b j 0
  | 0 => rfl
  | j + 1 => by
    rw [findB_snoc, ← blkF_find l b j, blkF, Nat.zero_add]
    by_cases hb : blkB l j = b
    · subst hb
      cases h : blkF l j (blkB l j) with
      | some k => simp [h]
      | none => simp [updF]
    · have hb' : ¬ b = blkB l j := fun e => hb e.symm
      split
      · cases blkF l j b <;> simp [hb]
      · rw [updF, if_neg hb']
        cases blkF l j b <;> simp [hb]
def found (o : Option Nat) : Int := match o with | some k => (k : Int) | none => -1
theorem block_l0 (B key : ByteArray) (hB : B.size ≤ 2000) : ∀ (d i k : Nat), i + d = B.size / 16 → d < k → pollardref09_block.l0 k B key ((16 * i : Nat) : Int) = some (found (findB (bs B) (bs key) d i))
  | 0, i, k, h, hk => by
    obtain ⟨k, rfl⟩ : ∃ m, k = m + 1 := ⟨k - 1, by omega⟩
    simp only [pollardref09_block.l0]
    rw [w_16 _ (by omega), if_neg (by omega)]; rfl
  | d + 1, i, k, h, hk => by
    obtain ⟨k, rfl⟩ : ∃ m, k = m + 1 := ⟨k - 1, by omega⟩
    have he : bs (B.extract (16 * i) (16 * (i + 1))) = blkB (bs B) i := by
      rw [bs_ext, blkB, show 16 * (i + 1) - 16 * i = 16 from by omega]
    simp only [pollardref09_block.l0]
    rw [w_16 _ (by omega), show 16 * i + 16 = 16 * (i + 1) from by omega, if_pos (by omega), if_pos (by omega), if_pos (by omega), Int.toNat_natCast, Int.toNat_natCast]
    by_cases hb : blkB (bs B) i = bs key
    · rw [if_pos ((toList_iff _ _).2 (by rw [he, hb])), findB, if_pos hb]; rfl
    · rw [if_neg (fun e => hb (by rw [← he]; exact (toList_iff _ _).1 e)), findB, if_neg hb]
      exact block_l0 B key hB d (i + 1) k (by omega) (by omega)
theorem block_is (B key : ByteArray) (hB : B.size ≤ 2000) (k : Nat) (hk : 200 ≤ k) : pollardref09_block.f k B key = some (found (blkF (bs B) (B.size / 16) (bs key))) := by
  rw [blkF_find]
  exact block_l0 B key hB (B.size / 16) 0 k (by omega) (by omega)
theorem num_f (n : Nat) (x : Int) (hx : x = (n : Int)) (hn : n < 18446744073709551616) : pollardref02_Num.f x = some (sb (num n)) := by
  subst hx
  unfold pollardref02_Num.f
  rw [if_pos ⟨by omega, by omega⟩, Int.toNat_natCast]
theorem put_is (t : ByteArray) (ht : t.size ≤ 100000) : pollardref09_put.f t = some (sb (insB (bs t))) := by
  unfold pollardref09_put.f
  by_cases h0 : t.size = 0
  · have hb : bs t = [] := List.eq_nil_of_length_eq_zero (by rw [bs_length]; exact h0)
    rw [if_pos (str_empty h0), hb]; rfl
  · have hne : bs t ≠ [] := fun e => h0 (by rw [← bs_length, e]; rfl)
    have hl := num_length (2 * (t.size - 1)) (by omega)
    rw [if_neg (str_full h0), num_f (2 * (t.size - 1)) _ (w_2n2 t.size (by omega) (by omega)) (by omega)]
    simp only [Option.bind_some]
    rw [if_pos (by rw [sb_size]; omega), insB_pos _ hne, sb_append, sb_bs, bs_length]
/-- What a repetition adds. -/
theorem rep_out (out lone : ByteArray) (n k : Nat) : out ++ ((sb (insB (bs lone)) ++ sb (num (2 * (n - 1) + 1))) ++ sb (num k)) = out ++ sb (insB (bs lone) ++ repB n k) := by
  rw [← sb_append, ← sb_append, List.append_assoc]; rfl
theorem fin_is {α : Type} (P A C out : ByteArray) (p q r : Option ByteArray) (f : ByteArray → Option α) (hp : p = some P) (hq : q = some A) (hr : r = some C)
    (s1 : P.size ≤ 2010) (s2 : A.size ≤ 10) (s3 : C.size ≤ 10) (ho : out.size ≤ 1000000) :
    (p.bind fun t125 => q.bind fun t126 => (if t125.size + t126.size ≤ 9223372036854775807 then (r.bind fun t127 => (if (t125 ++ t126).size + t127.size ≤ 9223372036854775807 then (if out.size + ((t125 ++ t126) ++ t127).size ≤ 9223372036854775807 then f (out ++ ((t125 ++ t126) ++ t127)) else none) else none)) else none)) = f (out ++ ((P ++ A) ++ C)) := by
  subst hp hq hr
  simp only [Option.bind_some, ByteArray.size_append]
  rw [if_pos (by omega), if_pos (by omega), if_pos (by omega)]
theorem sz_ins (lone : ByteArray) (h : lone.size ≤ 2000) : (sb (insB (bs lone))).size ≤ 2010 := by
  have hil := insB_length (bs lone) (by rw [bs_length]; omega)
  rw [bs_length] at hil
  rw [sb_size]; omega
theorem sz_num (n : Nat) (h : n < 18446744073709551616) : (sb (num n)).size ≤ 10 := by
  rw [sb_size]; exact num_length n h
theorem fin_l1 (B S out lone : ByteArray) (N kk k : Nat) (X : Int) (ho : out.size ≤ 1000000) (hlo : lone.size ≤ 2000) (h0 : 0 < N) (h1 : N ≤ 2000) (h2 : kk ≤ 2000) :
    ((pollardref09_put.f lone).bind fun t125 => ((pollardref02_Num.f (IntKind.u64.wrap (wrap64 ((wrap64 (2 * (N : Int))) - 1)))).bind fun t126 => (if t125.size + t126.size ≤ 9223372036854775807 then ((pollardref02_Num.f (IntKind.u64.wrap ((kk : Int)))).bind fun t127 => (if (t125 ++ t126).size + t127.size ≤ 9223372036854775807 then (if out.size + ((t125 ++ t126) ++ t127).size ≤ 9223372036854775807 then (pollardref09_Make.l0 k B S (out ++ ((t125 ++ t126) ++ t127)) (⟨#[]⟩ : ByteArray) X) else (none)) else (none))) else (none)))) = pollardref09_Make.l0 k B S (out ++ sb (insB (bs lone) ++ repB N kk)) ⟨#[]⟩ X := by
  have := fin_is (sb (insB (bs lone))) (sb (num (2 * (N - 1) + 1))) (sb (num kk)) out _ _ _ (fun o => pollardref09_Make.l0 k B S o (⟨#[]⟩ : ByteArray) X)
    (put_is lone (by omega)) (num_f (2 * (N - 1) + 1) (IntKind.u64.wrap (wrap64 ((wrap64 (2 * (N : Int))) - 1))) (w_2n1 N h0 (by omega)) (by omega)) (num_f kk (IntKind.u64.wrap (kk : Int)) (u64w _ (by omega)) (by omega))
    (sz_ins lone hlo) (sz_num _ (by omega)) (sz_num _ (by omega)) ho
  rw [rep_out] at this
  exact this
theorem make_l1 (B S out lone : ByteArray) (at_ kk : Nat) (hB : B.size ≤ 2000) (hS : S.size ≤ 2000) (ho : out.size ≤ 1000000) (hlo : lone.size ≤ 2000) :
    ∀ (d n k N : Nat), 0 < n → at_ + n ≤ S.size → kk + n ≤ B.size → d = N - n → N = n + lcp ((bs S).drop (at_ + n)) ((bs B).drop (kk + n)) → d < k →
      pollardref09_Make.l1 k B S out lone (at_ : Int) (kk : Int) (n : Int) = pollardref09_Make.l0 (k - d - 1) B S (out ++ sb (insB (bs lone) ++ repB N kk)) ⟨#[]⟩ ((at_ + N : Nat) : Int) := by
  intro d
  induction d with
  | zero =>
    intro n k N h0 h1 h2 hd hN hk
    obtain ⟨k, rfl⟩ : ∃ m, k = m + 1 := ⟨k - 1, by omega⟩
    have hz : lcp ((bs S).drop (at_ + n)) ((bs B).drop (kk + n)) = 0 := by omega
    obtain rfl : N = n := by omega
    have fin := fin_l1 B S out lone N kk k ((at_ + N : Nat) : Int) ho hlo h0 (by omega) (by omega)
    rw [show k + 1 - 0 - 1 = k from by omega]
    simp only [pollardref09_Make.l1]
    rw [w_add at_ N (by omega), w_add kk N (by omega)]
    by_cases g1 : at_ + N < S.size
    · rw [if_pos (by omega)]
      by_cases g2 : kk + N < B.size
      · rw [if_pos (by omega), if_pos (by omega), if_pos (by omega), bt_get S _ g1, bt_get B _ g2]
        have hl := lcp_at (bs S) (bs B) (at_ + N) (kk + N) (by rw [bs_length]; exact g1) (by rw [bs_length]; exact g2)
        rw [hz] at hl
        have hne : (bs S).getD (at_ + N) 0 ≠ (bs B).getD (kk + N) 0 := by intro e; rw [if_pos e] at hl; omega
        rw [if_neg (fun e => hne (by exact_mod_cast e))]
        exact fin
      · rw [if_neg (by omega)]; exact fin
    · rw [if_neg (by omega)]; exact fin
  | succ d ih =>
    intro n k N h0 h1 h2 hd hN hk
    obtain ⟨k, rfl⟩ : ∃ m, k = m + 1 := ⟨k - 1, by omega⟩
    have hz : 0 < lcp ((bs S).drop (at_ + n)) ((bs B).drop (kk + n)) := by omega
    have hle := lcp_le ((bs S).drop (at_ + n)) ((bs B).drop (kk + n))
    simp only [List.length_drop, bs_length] at hle
    have g1 : at_ + n < S.size := by omega
    have g2 : kk + n < B.size := by omega
    have hl := lcp_at (bs S) (bs B) (at_ + n) (kk + n) (by rw [bs_length]; exact g1) (by rw [bs_length]; exact g2)
    have he : (bs S).getD (at_ + n) 0 = (bs B).getD (kk + n) 0 := by
      by_cases e : (bs S).getD (at_ + n) 0 = (bs B).getD (kk + n) 0
      · exact e
      · rw [if_neg e] at hl; omega
    rw [if_pos he] at hl
    simp only [pollardref09_Make.l1]
    rw [w_add at_ n (by omega), w_add kk n (by omega), if_pos (by omega), if_pos (by omega), if_pos (by omega), if_pos (by omega), bt_get S _ g1, bt_get B _ g2, if_pos (by rw [he]), w_1 n (by omega)]
    have := ih (n + 1) k N (by omega) (by omega) (by omega) (by omega) (by rw [hN, hl, Nat.add_assoc at_ n 1, Nat.add_assoc kk n 1]; omega) (by omega)
    rw [this]
    congr 1
    omega
theorem piece_snoc (S : ByteArray) (fr at_ : Nat) (h1 : fr ≤ at_) (h2 : at_ < S.size) : sb (((bs S).drop fr).take (at_ - fr)) ++ S.extract at_ (at_ + 1) = sb (((bs S).drop fr).take (at_ + 1 - fr)) := by
  have e : S.extract at_ (at_ + 1) = sb (((bs S).drop at_).take 1) := sb_eq _ _ (by rw [bs_ext]; congr 1; omega)
  rw [e, ← sb_append]
  congr 1
  have := take_piece ((bs S).drop fr) (at_ - fr) (at_ + 1 - fr) (by omega)
  rw [List.drop_drop, show fr + (at_ - fr) = at_ from by omega, show at_ + 1 - fr - (at_ - fr) = 1 from by omega] at this
  exact this
theorem make_l0 (B S : ByteArray) (hB : B.size ≤ 2000) (hS : S.size ≤ 2000) : ∀ (d at_ fr k : Nat) (out : ByteArray), d = S.size - at_ → fr ≤ at_ → at_ ≤ S.size → out.size + (at_ - fr) ≤ 100 + 40 * at_ → 4 * d + 300 ≤ k →
    pollardref09_Make.l0 k B S out (sb (((bs S).drop fr).take (at_ - fr))) (at_ : Int) = some (out ++ sb (mkD (blkF (bs B) (B.size / 16)) (bs B) (bs S) at_ fr)) := by
  intro d
  induction d using Nat.strongRecOn with
  | _ d ih =>
    intro at_ fr k out hd h1 h2 ho hk
    obtain ⟨k, rfl⟩ : ∃ m, k = m + 1 := ⟨k - 1, by omega⟩
    obtain ⟨F, hF⟩ : ∃ F, F = blkF (bs B) (B.size / 16) := ⟨_, rfl⟩
    have hln : (((bs S).drop fr).take (at_ - fr)).length = at_ - fr := by rw [List.length_take, List.length_drop, bs_length]; omega
    have hls : (sb (((bs S).drop fr).take (at_ - fr))).size = at_ - fr := by rw [sb_size, hln]
    have hlb : bs (sb (((bs S).drop fr).take (at_ - fr))) = ((bs S).drop fr).take (at_ - fr) := bs_sb _ fun c hc => bs_lt S c (List.mem_of_mem_drop (List.mem_of_mem_take hc))
    rw [← hF] at ih ⊢
    simp only [pollardref09_Make.l0]
    by_cases hlt : at_ < S.size
    · rw [if_pos (by omega)]
      have step : mkD F (bs B) (bs S) at_ fr = mkD F (bs B) (bs S) (at_ + 1) fr → pollardref09_Make.j1 k B S out (sb (((bs S).drop fr).take (at_ - fr))) (at_ : Int) (-1) = some (out ++ sb (mkD F (bs B) (bs S) at_ fr)) := by
        intro he
        obtain ⟨k, rfl⟩ : ∃ m, k = m + 1 := ⟨k - 1, by omega⟩
        simp only [pollardref09_Make.j1]
        rw [if_pos (by omega), w_1 at_ (by omega), if_pos (by omega), if_pos (by omega), if_pos (by omega), Int.toNat_natCast, Int.toNat_natCast, if_pos (by rw [hls, ByteArray.size_extract]; omega), piece_snoc S fr at_ h1 hlt, he]
        exact ih (d - 1) (by omega) (at_ + 1) fr k out (by omega) (by omega) (by omega) (by omega) (by omega)
      rw [w_16 at_ (by omega)]
      by_cases h16 : at_ + 16 ≤ S.size
      · have hkb : bs (S.extract at_ (at_ + 16)) = ((bs S).drop at_).take 16 := by rw [bs_ext]; congr 1; omega
        rw [if_pos (by omega), if_pos (by omega), if_pos (by omega), Int.toNat_natCast, Int.toNat_natCast, block_is B _ hB k (by omega), hkb, ← hF]
        simp only [Option.bind_some]
        cases hf : F (((bs S).drop at_).take 16) with
        | none => exact step (mkD_none F _ _ at_ fr (by rw [bs_length]; exact h16) hf)
        | some kk =>
          have hf2 := hf
          rw [hF, ← bs_length B] at hf2
          have hk16 := (blkF_ok (bs B) _ kk hf2)
          rw [bs_length] at hk16
          obtain ⟨k, rfl⟩ : ∃ m, k = m + 1 := ⟨k - 1, by omega⟩
          obtain ⟨N, hN⟩ : ∃ N, N = 16 + lcp ((bs S).drop (at_ + 16)) ((bs B).drop (kk + 16)) := ⟨_, rfl⟩
          have hle := lcp_le ((bs S).drop (at_ + 16)) ((bs B).drop (kk + 16))
          simp only [List.length_drop, bs_length] at hle
          have hm := make_l1 B S out (sb (((bs S).drop fr).take (at_ - fr))) at_ kk hB hS (by omega) (by rw [hls]; omega) (N - 16) 16 k N (by omega) h16 hk16.1 rfl hN (by omega)
          rw [hlb] at hm
          have hneg : ¬ ((kk : Int) < 0) := by omega
          have hj : pollardref09_Make.j1 (k + 1) B S out (sb (((bs S).drop fr).take (at_ - fr))) (at_ : Int) (kk : Int) = pollardref09_Make.l1 k B S out (sb (((bs S).drop fr).take (at_ - fr))) (at_ : Int) (kk : Int) 16 := by
            simp only [pollardref09_Make.j1]
            rw [if_neg hneg]
          rw [show found (some kk) = (kk : Int) from rfl, hj]
          rw [show (16 : Int) = ((16 : Nat) : Int) from rfl, hm, mkD_some F _ _ at_ fr kk N (by rw [bs_length]; exact h16) hf hN]
          have hil := insB_length (((bs S).drop fr).take (at_ - fr)) (by rw [hln]; omega)
          have hrl := repB_length N kk (by omega) (by omega)
          have := ih (d - N) (by omega) (at_ + N) (at_ + N) (k - (N - 16) - 1) (out ++ sb (insB (((bs S).drop fr).take (at_ - fr)) ++ repB N kk)) (by omega) (Nat.le_refl _) (by omega)
            (by rw [ByteArray.size_append, sb_size, List.length_append]; omega) (by omega)
          rw [Nat.sub_self, List.take_zero] at this
          rw [show (⟨#[]⟩ : ByteArray) = sb [] from rfl, this, ByteArray.append_assoc, ← sb_append]
      · rw [if_neg (by omega)]
        exact step (by rw [mkD_end F _ _ at_ fr (by rw [bs_length]; omega), mkD_end F _ _ (at_ + 1) fr (by rw [bs_length]; omega)])
    · have hat : at_ = S.size := by omega
      have hp := put_is (sb (((bs S).drop fr).take (at_ - fr))) (by rw [hls]; omega)
      rw [hlb] at hp
      have hil := insB_length (((bs S).drop fr).take (at_ - fr)) (by rw [hln]; omega)
      rw [if_neg (by omega), hp]
      simp only [Option.bind_some]
      rw [if_pos (by rw [sb_size]; omega), mkD_end F _ _ at_ fr (by rw [bs_length]; omega), List.take_of_length_le (by rw [List.length_drop, bs_length]; omega)]
theorem start_is {α : Type} (P A : ByteArray) (p q : Option ByteArray) (f : ByteArray → Option α) (hp : p = some P) (hq : q = some A) (s1 : P.size ≤ 10) (s2 : A.size ≤ 10) :
    (p.bind fun t112 => q.bind fun t113 => (if t112.size + t113.size ≤ 9223372036854775807 then f (t112 ++ t113) else none)) = f (P ++ A) := by
  subst hp hq
  simp only [Option.bind_some]
  rw [if_pos (by omega)]
theorem start0 (B S : ByteArray) (hB : B.size ≤ 2000) (hS : S.size ≤ 2000) (k : Nat) (hk : 4 * S.size + 300 ≤ k) :
    pollardref09_Make.l0 k B S (sb (num B.size) ++ sb (num S.size)) (⟨#[]⟩ : ByteArray) 0 = some (sb (makeD (bs B) (bs S))) := by
  have l1 := num_length B.size (by omega)
  have l2 := num_length S.size (by omega)
  have hz : (sb (num B.size ++ num S.size)).size + (0 - 0) ≤ 100 + 40 * 0 := by rw [sb_size, List.length_append]; omega
  have := make_l0 B S hB hS S.size 0 0 k (sb (num B.size ++ num S.size)) rfl (Nat.le_refl _) (Nat.zero_le _) hz hk
  rw [← sb_append, List.drop_zero, Nat.sub_self, List.take_zero] at this
  rw [← sb_append, makeD, bs_length, bs_length]
  exact this
theorem refMake_is (B S : ByteArray) (hB : B.size ≤ 2000) (hS : S.size ≤ 2000) (k : Nat) (hk : 4 * S.size + 300 ≤ k) : pollardref09_Make.f k B S = some (sb (makeD (bs B) (bs S))) := by
  have := start_is (sb (num B.size)) (sb (num S.size)) _ _ (fun o => pollardref09_Make.l0 k B S o (⟨#[]⟩ : ByteArray) 0) (num_f B.size (IntKind.u64.wrap (B.size : Int)) (u64w _ (by omega)) (by omega)) (num_f S.size (IntKind.u64.wrap (S.size : Int)) (u64w _ (by omega)) (by omega))
    (sz_num _ (by omega)) (sz_num _ (by omega))
  rw [start0 B S hB hS k hk] at this
  exact this
theorem few_some (s : ByteArray) : ∃ t : ByteArray, pollardlaw09_few.f s = some t ∧ t.size ≤ 400 := by
  unfold pollardlaw09_few.f
  by_cases h : (s.size : Int) > 400
  · rw [if_pos h, if_pos (by omega), if_pos (by omega)]
    exact ⟨_, rfl, by rw [ByteArray.size_extract]; omega⟩
  · rw [if_neg h]
    exact ⟨_, rfl, by omega⟩
theorem makeF (B S : ByteArray) (hB : B.size ≤ 2000) (hS : S.size ≤ 2000) : delta_Make.f B S = some (sb (makeD (bs B) (bs S))) := by unfold delta_Make.f; rw [if_pos ⟨by omega, by omega⟩]
theorem applyD (B S : ByteArray) (hB : B.size ≤ 2000) (hS : S.size ≤ 2000) : delta_Apply.f B (sb (makeD (bs B) (bs S))) (S.size : Int) = some (S, 0) := by
  unfold delta_Apply.f
  generalize hk : 3000 = k
  exact apply_ok k (by omega) B S S.size hB hS (by omega) (Nat.le_refl _)
theorem awakeD : pollardlaw09_awake.f = some true := rfl
end Go.Proofs.Ytjgbodgcbagbnaa.Mine
