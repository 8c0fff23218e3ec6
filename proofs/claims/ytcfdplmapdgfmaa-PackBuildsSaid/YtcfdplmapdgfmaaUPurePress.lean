import Derived.Test.YtcfdplmapdgfmaaUPUx0
import Derived.Test.YtcfdplmapdgfmaaUPUx1
import Derived.Test.YtcfdplmapdgfmaaULzA
import Derived.Lib.Hide
set_option linter.unusedVariables false
set_option linter.unusedSimpArgs false
namespace Go.Proofs.Ytcfdplmapdgfmaa.Mine
open Go.RowKit Go.Proofs.YtcfdplmapdgfmaaW.PrintWords Go.Proofs.Ytcfdplmapdgfmaa.PU
theorem p_toList (a b : ByteArray) : a.toList = b.toList ↔ bs a = bs b := by
 constructor
 ·intro h
  rw [toL, toL] at h
  simp [bs, h]
 ·intro h; rw [bs_inj h]
theorem p_bt (s : ByteArray) (i : Nat) (h : i < s.size) : bt s (i : Int) = (((bs s).getD i 0 : Nat) : Int) := by
 unfold bt
 rw [dif_pos (by simpa using h), List.getD_eq_getElem?_getD, List.getElem?_eq_getElem (by rw [z01]; exact h)]
 simp [bs]
 rfl
theorem p_add (a b : Nat) (h : a + b ≤ 1000000000) : wrap64 ((a : Int) + (b : Int)) = ((a + b : Nat) : Int) := by unfold wrap64; omega
theorem p_sub (a b : Nat) (h : b ≤ a) (h2 : a ≤ 1000000000) : wrap64 ((a : Int) - (b : Int)) = ((a - b : Nat) : Int) := by unfold wrap64; omega
theorem p_4 (a : Nat) (h : a ≤ 1000000000) : wrap64 ((a : Int) + 4) = ((a + 4 : Nat) : Int) := by unfold wrap64; omega
theorem p_1 (a : Nat) (h : a ≤ 1000000000) : wrap64 ((a : Int) + 1) = ((a + 1 : Nat) : Int) := by unfold wrap64; omega
theorem p_m1 (a : Nat) (h : a ≤ 1000000000) : wrap64 ((a : Int) - 1) = (a : Int) - 1 := by unfold wrap64; omega
theorem p_m4 (a : Nat) (h : 4 ≤ a) (h2 : a ≤ 1000000000) : IntKind.u64.wrap (wrap64 ((a : Int) - 4)) = ((a - 4 : Nat) : Int) := by
 rw [show wrap64 ((a : Int) - 4) = ((a - 4 : Nat) : Int) from by unfold wrap64; omega, IntKind.wrap_u64]; omega
theorem p_u (n : Nat) (h : n < 18446744073709551616) : IntKind.u64.wrap (n : Int) = (n : Int) := by rw [IntKind.wrap_u64]; omega
theorem p_num (n : Nat) (x : Int) (hx : x = (n : Int)) (hn : n < 18446744073709551616) : z02.f x = some (sb (num n)) := by
 subst hx
 unfold z02.f
 rw [if_pos ⟨by omega, by omega⟩, Int.toNat_natCast]
theorem p_sz (n : Nat) (h : n < 18446744073709551616) : (sb (num n)).size ≤ 10 := by
 rw [z04]; exact z0f n h
theorem w4_ext (s : ByteArray) (j : Nat) : bs (s.extract j (j + 4)) = w4 (bs s) j := by
 rw [bs_extract, w4]; congr 1; omega
def foundL (o : Option Nat) (at_ : Nat) : Int := match o with | some k => ((at_ - k : Nat) : Int) | none => 0
theorem back_l0 (S : ByteArray) (at_ : Nat) (hS : S.size ≤ 2000) (h4 : at_ + 4 ≤ S.size) : ∀ (j k : Nat), j ≤ at_ → 2 * j + 2 ≤ k → z09.l0 k S (at_ : Int) ((j : Int) - 1) = some (foundL (lastF (bs S) j (w4 (bs S) at_)) at_)
 | 0, k, _, hk => by
  obtain ⟨k, rfl⟩ : ∃ m, k = m + 1 + 1 := ⟨k - 2, by omega⟩
  simp only [z09.l0]
  rw [if_neg (by omega)]
  simp only [z09.j1]
  rw [if_neg (by simp)]
  rfl
 | j + 1, k, hj, hk => by
  obtain ⟨k, rfl⟩ : ∃ m, k = m + 1 + 1 := ⟨k - 2, by omega⟩
  have e0 : (((j + 1 : Nat) : Int) - 1) = (j : Int) := by omega
  rw [e0]
  simp only [z09.l0]
  rw [if_pos (by omega), p_sub at_ j (by omega) (by omega), show decide (((at_ - j : Nat) : Int) ≤ 32768) = true from by simp; omega]
  simp only [z09.j1]
  rw [if_pos True.intro, p_4 j (by omega), p_4 at_ (by omega), if_pos (by omega), if_pos (by omega), if_pos (by omega), if_pos (by omega), if_pos (by omega), if_pos (by omega), Int.toNat_natCast, Int.toNat_natCast, Int.toNat_natCast, Int.toNat_natCast, lastF_step _ _ (by rw [z01]; omega)]
  by_cases he : w4 (bs S) at_ = w4 (bs S) j
  ·rw [if_pos ((p_toList _ _).2 (by rw [w4_ext, w4_ext, he])), updF, if_pos he, p_sub at_ j (by omega) (by omega)]
   rfl
  ·rw [if_neg (fun e => he (by have := (p_toList _ _).1 e; rw [w4_ext, w4_ext] at this; exact this.symm)), updF, if_neg he, p_m1 j (by omega)]
   exact back_l0 S at_ hS h4 j k (by omega) (by omega)
theorem back_is (S : ByteArray) (at_ : Nat) (hS : S.size ≤ 2000) (hat : at_ < S.size) (k : Nat) (hk : 2 * at_ + 2 ≤ k) : z09.f k S (at_ : Int) = some ((backP (bs S) at_ : Nat) : Int) := by
 unfold z09.f
 rw [p_4 at_ (by omega), backP, z01]
 by_cases h4 : at_ + 4 ≤ S.size
 ·rw [if_neg (by omega), if_pos h4, p_m1 at_ (by omega), back_l0 S at_ hS h4 at_ k (Nat.le_refl _) hk]
  cases hf : lastF (bs S) at_ (w4 (bs S) at_) with
  | none => rfl
  | some q =>
   have := (lastF_at _ _ _ _ hf).1
   simp only [foundL]
   rw [if_neg (by omega)]
 ·rw [if_pos (by omega), if_neg h4]; rfl
theorem fin_p {α : Type} (P A C L out : ByteArray) (p q r : Option ByteArray) (f : ByteArray → Option α) (hp : p = some P) (hq : q = some A) (hr : r = some C)
  (s1 : P.size ≤ 10) (s2 : A.size ≤ 10) (s3 : C.size ≤ 10) (s4 : L.size ≤ 2000) (ho : out.size ≤ 1000000) :
  (p.bind fun t104 => (if t104.size + L.size ≤ 9223372036854775807 then (q.bind fun t105 => (if (t104 ++ L).size + t105.size ≤ 9223372036854775807 then (r.bind fun t106 => (if ((t104 ++ L) ++ t105).size + t106.size ≤ 9223372036854775807 then (if out.size + (((t104 ++ L) ++ t105) ++ t106).size ≤ 9223372036854775807 then f (out ++ (((t104 ++ L) ++ t105) ++ t106)) else none) else none)) else none)) else none)) = f (out ++ (((P ++ L) ++ A) ++ C)) := by
 subst hp hq hr
 simp only [Option.bind_some, ByteArray.size_append]
 rw [if_pos (by omega), if_pos (by omega), if_pos (by omega), if_pos (by omega)]
theorem press_l1 (S out lone : ByteArray) (at_ b : Nat) (hS : S.size ≤ 2000) (ho : out.size ≤ 1000000) (hlo : lone.size ≤ 2000) (hb1 : 1 ≤ b) (hb2 : b ≤ at_) :
  ∀ (d n k N : Nat), 4 ≤ n → at_ + n ≤ S.size → d = N - n → N = n + lcp ((bs S).drop (at_ + n)) ((bs S).drop (at_ - b + n)) → d < k →
   z08.l1 k S out lone (at_ : Int) (b : Int) (n : Int) = z08.l0 (k - d - 1) S (out ++ (((sb (num lone.size) ++ lone) ++ sb (num b)) ++ sb (num (N - 4)))) ⟨#[]⟩ ((at_ + N : Nat) : Int) := by
 intro d
 induction d with
 | zero =>
  intro n k N h0 h1 hd hN hk
  obtain ⟨k, rfl⟩ : ∃ m, k = m + 1 := ⟨k - 1, by omega⟩
  have hz : lcp ((bs S).drop (at_ + n)) ((bs S).drop (at_ - b + n)) = 0 := by omega
  obtain rfl : N = n := by omega
  have fin := fin_p (sb (num lone.size)) (sb (num b)) (sb (num (N - 4))) lone out _ _ _ (fun o => z08.l0 k S o (⟨#[]⟩ : ByteArray) ((at_ + N : Nat) : Int))
   (p_num lone.size _ (p_u lone.size (by omega)) (by omega)) (p_num b _ (p_u b (by omega)) (by omega)) (p_num (N - 4) _ (p_m4 N h0 (by omega)) (by omega)) (p_sz _ (by omega)) (p_sz _ (by omega)) (p_sz _ (by omega)) hlo ho
  rw [show k + 1 - 0 - 1 = k from by omega]
  simp only [z08.l1]
  rw [p_add at_ N (by omega), p_sub (at_ + N) b (by omega) (by omega)]
  by_cases g1 : at_ + N < S.size
  ·have ge : at_ + N - b = at_ - b + N := by omega
   rw [if_pos (by omega), if_pos (by omega), if_pos (by omega), if_pos (by omega), p_bt S _ g1, p_bt S _ (by omega), ge]
   have hl := lcp_at (bs S) (bs S) (at_ + N) (at_ - b + N) (by rw [z01]; exact g1) (by rw [z01]; omega)
   rw [hz] at hl
   have hne : (bs S).getD (at_ + N) 0 ≠ (bs S).getD (at_ - b + N) 0 := by intro e; rw [if_pos e] at hl; omega
   rw [if_neg (fun e => hne (by exact_mod_cast e))]
   exact fin
  ·rw [if_neg (by omega)]; exact fin
 | succ d ih =>
  intro n k N h0 h1 hd hN hk
  obtain ⟨k, rfl⟩ : ∃ m, k = m + 1 := ⟨k - 1, by omega⟩
  have hz : 0 < lcp ((bs S).drop (at_ + n)) ((bs S).drop (at_ - b + n)) := by omega
  have hle := lcp_le ((bs S).drop (at_ + n)) ((bs S).drop (at_ - b + n))
  simp only [List.length_drop, z01] at hle
  have g1 : at_ + n < S.size := by omega
  have hl := lcp_at (bs S) (bs S) (at_ + n) (at_ - b + n) (by rw [z01]; exact g1) (by rw [z01]; omega)
  have he : (bs S).getD (at_ + n) 0 = (bs S).getD (at_ - b + n) 0 := by
   by_cases e : (bs S).getD (at_ + n) 0 = (bs S).getD (at_ - b + n) 0
   ·exact e
   ·rw [if_neg e] at hl; omega
  rw [if_pos he] at hl
  have ge : at_ + n - b = at_ - b + n := by omega
  simp only [z08.l1]
  rw [p_add at_ n (by omega), p_sub (at_ + n) b (by omega) (by omega), if_pos (by omega), if_pos (by omega), if_pos (by omega), if_pos (by omega), p_bt S _ g1, p_bt S _ (by omega), ge, if_pos (by rw [he]), p_1 n (by omega)]
  have := ih (n + 1) k N (by omega) (by omega) (by omega) (by rw [hN, hl, Nat.add_assoc at_ n 1, Nat.add_assoc (at_ - b) n 1]; omega) (by omega)
  rw [this]
  congr 1
  omega
theorem p_piece (S : ByteArray) (fr at_ : Nat) (h1 : fr ≤ at_) (h2 : at_ < S.size) : sb (((bs S).drop fr).take (at_ - fr)) ++ S.extract at_ (at_ + 1) = sb (((bs S).drop fr).take (at_ + 1 - fr)) := by
 have e : S.extract at_ (at_ + 1) = sb (((bs S).drop at_).take 1) := bs_inj (by rw [bs_extract, bs_sb _ (fun c hc => bs_lt S c (List.mem_of_mem_drop (List.mem_of_mem_take hc)))]; congr 1; omega)
 rw [e, ← z0m]
 congr 1
 have := List.take_append_drop (at_ - fr) (((bs S).drop fr).take (at_ + 1 - fr))
 rw [List.take_take, Nat.min_eq_left (by omega), List.drop_take, List.drop_drop, show fr + (at_ - fr) = at_ from by omega, show at_ + 1 - fr - (at_ - fr) = 1 from by omega] at this
 exact this
theorem p_cat (out a c d e : ByteArray) (l1 l2 l3 l4 l5 : List Nat) (ha : a = sb l1) (hc : c = sb l2) (hd : d = sb l3) (he : e = sb l4) : (out ++ (((a ++ c) ++ d) ++ e)) ++ sb l5 = out ++ sb (l1 ++ l2 ++ l3 ++ l4 ++ l5) := by
 subst ha hc hd he
 rw [ByteArray.append_assoc, z0m, z0m, z0m, z0m]
theorem press_l0 (S : ByteArray) (hS : S.size ≤ 2000) : ∀ (d at_ fr k : Nat) (out : ByteArray), d = S.size - at_ → fr ≤ at_ → at_ ≤ S.size → out.size + (at_ - fr) ≤ 100 + 40 * at_ → 4 * d + 2 * S.size + 300 ≤ k →
  z08.l0 k S out (sb (((bs S).drop fr).take (at_ - fr))) (at_ : Int) = some (out ++ sb (mkP (bs S) at_ fr)) := by
 intro d
 induction d using Nat.strongRecOn with
 | _ d ih =>
  intro at_ fr k out hd h1 h2 ho hk
  obtain ⟨k, rfl⟩ : ∃ m, k = m + 1 := ⟨k - 1, by omega⟩
  have hln : (((bs S).drop fr).take (at_ - fr)).length = at_ - fr := by rw [List.length_take, List.length_drop, z01]; omega
  have hls : (sb (((bs S).drop fr).take (at_ - fr))).size = at_ - fr := by rw [z04, hln]
  simp only [z08.l0]
  by_cases hlt : at_ < S.size
  ·rw [if_pos (by omega), back_is S at_ hS hlt k (by omega)]
   simp only [Option.bind_some]
   obtain ⟨b, hb⟩ : ∃ b, b = backP (bs S) at_ := ⟨_, rfl⟩
   rw [← hb]
   by_cases h0 : b = 0
   ·rw [if_pos (by omega), if_pos (by omega), p_1 at_ (by omega), if_pos (by omega), if_pos (by omega), Int.toNat_natCast, Int.toNat_natCast, if_pos (by rw [hls, ByteArray.size_extract]; omega), p_piece S fr at_ h1 hlt, mkP_none _ _ _ (by rw [z01]; exact hlt) (by rw [← hb]; exact h0)]
    exact ih (d - 1) (by omega) (at_ + 1) fr k out (by omega) (by omega) (by omega) (by omega) (by omega)
   ·have hok := backP_ok (bs S) at_ (by rw [← hb]; exact h0)
    rw [← hb, z01] at hok
    obtain ⟨o1, o2, o3, o4, _⟩ := hok
    obtain ⟨N, hN⟩ : ∃ N, N = lcp ((bs S).drop at_) ((bs S).drop (at_ - b)) := ⟨_, rfl⟩
    obtain ⟨m1, m2, m3⟩ := mkP_some (bs S) at_ fr b N (by rw [z01]; exact hlt) hb.symm h0 hN
    rw [z01] at m2
    have hs4 := same4 (bs S) (at_ - b) at_ (by rw [z01]; omega) (by rw [z01]; omega) o4
    rw [← hN] at hs4
    have hm := press_l1 S out (sb (((bs S).drop fr).take (at_ - fr))) at_ b hS (by omega) (by rw [hls]; omega) (by omega) o2 (N - 4) 4 k N (by omega) (by omega) rfl hs4 (by omega)
    rw [if_neg (by omega), show (4 : Int) = ((4 : Nat) : Int) from rfl, hm, m3, hls]
    have z1 := p_sz (at_ - fr) (by omega)
    have z2 := p_sz b (by omega)
    have z3 := p_sz (N - 4) (by omega)
    have := ih (d - N) (by omega) (at_ + N) (at_ + N) (k - (N - 4) - 1) (out ++ (((sb (num (at_ - fr)) ++ sb (((bs S).drop fr).take (at_ - fr))) ++ sb (num b)) ++ sb (num (N - 4)))) (by omega) (Nat.le_refl _) (by omega)
     (by simp only [ByteArray.size_append]; omega) (by omega)
    rw [Nat.sub_self, List.take_zero] at this
    rw [show (⟨#[]⟩ : ByteArray) = sb [] from rfl, this, p_cat _ _ _ _ _ _ _ _ _ _ rfl rfl rfl rfl]
  ·have hat : at_ = S.size := by omega
   subst hat
   rw [if_neg (by omega), mkP_end _ _ _ (by rw [z01]; exact Nat.le_refl _)]
   have ht : ((bs S).drop fr).take (S.size - fr) = (bs S).drop fr := List.take_of_length_le (by rw [List.length_drop, z01]; exact Nat.le_refl _)
   rw [ht] at hls ⊢
   by_cases he : (bs S).drop fr = []
   ·rw [he, if_pos (str_empty rfl), lonesB, if_pos rfl]
    congr 1
    exact ByteArray.append_empty.symm
   ·have hz : (sb ((bs S).drop fr)).size ≠ 0 := by rw [z04]; exact fun e => he (List.eq_nil_of_length_eq_zero e)
    have z1 := p_sz (S.size - fr) (by omega)
    rw [if_neg (str_full hz), hls, p_num (S.size - fr) _ (p_u _ (by omega)) (by omega)]
    simp only [Option.bind_some]
    rw [if_pos (by omega), if_pos (by rw [ByteArray.size_append]; omega), lonesB, if_neg he, List.length_drop, z01, z0m]
theorem refPress_is (S : ByteArray) (hS : S.size ≤ 2000) (k : Nat) (hk : 6 * S.size + 300 ≤ k) : z08.f k S = some (sb (pressP (bs S))) := by
 unfold z08.f
 have z1 := p_sz S.size (by omega)
 rw [p_num S.size _ (p_u _ (by omega)) (by omega)]
 simp only [Option.bind_some]
 have := press_l0 S hS S.size 0 0 k (sb (num S.size)) rfl (Nat.le_refl _) (Nat.zero_le _) (by omega) (by omega)
 rw [List.drop_zero, Nat.sub_self, List.take_zero] at this
 rw [pressP, z0m, z01]
 exact this
end Go.Proofs.Ytcfdplmapdgfmaa.Mine
