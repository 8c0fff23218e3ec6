import Derived.Test.YtcfdplmapdgfmaaULzA
import Derived.Test.YtcfdplmapdgfmaaUPTx0
import Derived.Test.YtcfdplmapdgfmaaUPTx1
set_option linter.unusedVariables false
set_option linter.unusedSimpArgs false
namespace Go.Proofs.Ytcfdplmapdgfmaa.Mine
open Go.RowKit Go.Proofs.YtcfdplmapdgfmaaW.PrintWords Go.Proofs.Ytcfdplmapdgfmaa.PT
theorem z0c {a b : List Nat} (ha : ∀ c ∈ a, c < 256) (hb : ∀ c ∈ b, c < 256) : ∀ c ∈ a ++ b, c < 256 := fun c hc => (List.mem_append.1 hc).elim (ha c) (hb c)
theorem z0l (a b : List Nat) : (sb (a ++ b)).extract a.length (sb (a ++ b)).size = sb b := by
 rw [z0m]
 have h : (sb a).size = a.length := z04 a
 rw [← h, ByteArray.size_append]
 exact ByteArray.extract_append_eq_right rfl rfl
theorem z11 (a b : List Nat) : (sb (a ++ b)).extract 0 a.length = sb a := by
 rw [z0m]
 have h : (sb a).size = a.length := z04 a
 rw [← h]
 exact ByteArray.extract_append_eq_left rfl
theorem u64x (n : Nat) (h : n < 18446744073709551616) : IntKind.u64.wrap (n : Int) = (n : Int) := by rw [IntKind.wrap_u64]; omega
theorem unn_num (n : Nat) (t : List Nat) (hn : n < 9223372036854775808) (ht : ∀ c ∈ t, c < 256) (hl : t.length ≤ 140737488351000) : z1g.f (sb (num n ++ t)) = some ((n : Int), ((num n).length : Int), 0) := by
 have hb : bs (sb (num n ++ t)) = num n ++ t := bs_sb _ (z0c (z0i n) ht)
 have hnl := z0f n (by omega)
 have hu := unnum_num n hn t
 unfold z1g.f
 rw [if_pos (by rw [z04, List.length_append]; omega), hb, hu]
 rfl
theorem tk_fin (n most : Nat) (t : List Nat) (k : Nat) (hn : n ≤ 1073741824) (hm : most ≤ 1073741824) :
  z0e.j0 (k + 1) (most : Int) (n : Int) ((num n).length : Int) (sb (num n ++ t)) 0 = some (if most < n then (0, sb t, 6) else ((n : Int), sb t, 0)) := by
 have e1 : IntKind.u64.wrap (most : Int) = (most : Int) := u64x _ (by omega)
 have e2 : wrap64 (n : Int) = (n : Int) := by unfold wrap64; omega
 simp only [z0e.j0]
 rw [if_pos True.intro, if_pos (by omega), if_pos (by rw [z04, List.length_append]; omega), Int.toNat_natCast, z0l, e1, e2]
 by_cases h : most < n
 ·rw [if_pos h, if_pos (by omega)]
 ·rw [if_neg h, if_neg (by omega)]
theorem tk_num (n most : Nat) (t : List Nat) (hn : n ≤ 1073741824) (hm : most ≤ 1073741824) (ht : ∀ c ∈ t, c < 256) (hl : t.length ≤ 140737488351000) :
  z0e.f 1 (sb (num n ++ t)) 0 (most : Int) = some (if most < n then (0, sb t, 6) else ((n : Int), sb t, 0)) := by
 unfold z0e.f
 rw [unn_num n t (by omega) ht hl]
 simp only [Option.bind_some, if_true]
 exact tk_fin n most t 0 hn hm
theorem tk_bytes (l t : List Nat) : z0k.f 1 (sb (l ++ t)) 0 (l.length : Int) = some (sb l, sb t, 0) := by
 unfold z0k.f
 rw [if_pos rfl, show decide ((l.length : Int) > ((sb (l ++ t)).size : Int)) = false from by rw [z04, List.length_append]; simp; omega]
 simp only [z0k.j0, if_true, if_false, Bool.false_eq_true]
 rw [if_pos (by omega), if_pos (by rw [z04, List.length_append]; omega), Int.toNat_natCast, z0l, z11]
inductive LSteps (s : List Nat) : Nat → List Nat → Prop
 | done : LSteps s s.length []
 | tail (p : Nat) : p < s.length → LSteps s p (num (s.length - p) ++ s.drop p)
 | step (p q b n : Nat) (r : List Nat) : p ≤ q → 1 ≤ b → b ≤ q → b ≤ 32768 → 4 ≤ n → q + n ≤ s.length → repL (s.take q) b n = s.take (q + n) → LSteps s (q + n) r →
   LSteps s p (num (q - p) ++ ((s.drop p).take (q - p) ++ (num b ++ (num (n - 4) ++ r))))
theorem take_more (s : List Nat) (p q : Nat) (h : p ≤ q) : s.take p ++ (s.drop p).take (q - p) = s.take q := by
 have := List.take_append_drop p (s.take q)
 rw [List.take_take, Nat.min_eq_left h, List.drop_take] at this
 exact this
theorem LSteps.first {s : List Nat} {n : Nat} {r : List Nat} (h : LSteps s n r) (hn : n < s.length) : ∃ q l t, r = num l.length ++ (l ++ t) ∧ n ≤ q ∧ q ≤ s.length ∧ l.length = q - n ∧ s.take n ++ l = s.take q ∧
  ((q = s.length ∧ t = []) ∨ (q < s.length ∧ ∃ b m r', 1 ≤ b ∧ b ≤ q ∧ b ≤ 32768 ∧ 4 ≤ m ∧ q + m ≤ s.length ∧ repL (s.take q) b m = s.take (q + m) ∧ LSteps s (q + m) r' ∧ t = num b ++ (num (m - 4) ++ r'))) := by
 cases h with
 | done => omega
 | tail p hp =>
  refine ⟨s.length, s.drop n, [], by rw [List.append_nil, List.length_drop], by omega, Nat.le_refl _, List.length_drop, ?_, .inl ⟨rfl, rfl⟩⟩
  rw [List.take_append_drop, List.take_of_length_le (Nat.le_refl _)]
 | step p q b m r h1 h2 h3 h4 h5 h6 h7 hr =>
  have hl : ((s.drop n).take (q - n)).length = q - n := by rw [List.length_take, List.length_drop]; omega
  exact ⟨q, (s.drop n).take (q - n), _, by rw [hl], h1, by omega, hl, take_more s n q h1, .inr ⟨by omega, b, m, r, h2, h3, h4, h5, h6, h7, hr, rfl⟩⟩
theorem repL_lcp (s : List Nat) (q b : Nat) (hb : 1 ≤ b) (hbq : b ≤ q) : ∀ j, j ≤ lcp (s.drop q) (s.drop (q - b)) → repL (s.take q) b j = s.take (q + j)
 | 0, _ => rfl
 | j + 1, h => by
  have hle := (lcp_le (s.drop q) (s.drop (q - b))).1
  rw [List.length_drop] at hle
  have hql : q ≤ s.length := by omega
  have hs := congrArg (fun x => x.getD j 0) (lcp_same (s.drop q) (s.drop (q - b)))
  simp only [List.getD_eq_getElem?_getD, List.getElem?_take, List.getElem?_drop] at hs
  rw [if_pos (by omega), if_pos (by omega)] at hs
  rw [repL, repL_lcp s q b hb hbq j (by omega), List.length_take, Nat.min_eq_left (by omega), ← Nat.add_assoc, List.take_succ_eq_append_getElem (by omega)]
  congr 2
  rw [List.getD_eq_getElem?_getD, List.getElem?_take, if_pos (by omega), show q + j - b = q - b + j from by omega, ← hs, List.getElem?_eq_getElem (by omega)]
  rfl
theorem mkP_steps (s : List Nat) : ∀ (d at_ fr : Nat), d = s.length - at_ → fr ≤ at_ → at_ ≤ s.length → LSteps s fr (mkP s at_ fr) := by
 intro d
 induction d using Nat.strongRecOn with
 | _ d ih =>
  intro at_ fr hd h1 h2
  by_cases hlt : at_ < s.length
  ·by_cases hb : backP s at_ = 0
   ·rw [mkP_none _ _ _ hlt hb]
    exact ih (d - 1) (by omega) (at_ + 1) fr (by omega) (by omega) (by omega)
   ·obtain ⟨n, hn⟩ : ∃ n, n = lcp (s.drop at_) (s.drop (at_ - backP s at_)) := ⟨_, rfl⟩
    obtain ⟨b1, b2, b3, _, _⟩ := backP_ok s at_ hb
    obtain ⟨m1, m2, m3⟩ := mkP_some s at_ fr (backP s at_) n hlt rfl hb hn
    rw [m3, List.append_assoc, List.append_assoc, List.append_assoc]
    exact LSteps.step fr at_ (backP s at_) n _ h1 (by omega) b2 b3 m1 m2 (repL_lcp s at_ _ (by omega) b2 n (by omega)) (ih (s.length - (at_ + n)) (by omega) (at_ + n) (at_ + n) rfl (Nat.le_refl _) m2)
  ·rw [mkP_end _ _ _ (by omega), lonesB]
   by_cases hf : fr < s.length
   ·rw [if_neg (fun e => by have := congrArg List.length e; rw [List.length_drop] at this; simp at this; omega), List.length_drop]
    exact LSteps.tail fr hf
   ·obtain rfl : fr = s.length := by omega
    rw [if_pos (List.drop_eq_nil_of_le (Nat.le_refl _))]
    exact LSteps.done
theorem LSteps.fits {s : List Nat} (hs : s.length ≤ 1048576) (hl : ∀ c ∈ s, c < 256) {p : Nat} {r : List Nat} (h : LSteps s p r) : p ≤ s.length ∧ (∀ c ∈ r, c < 256) ∧ r.length ≤ 40 * (s.length - p) + 40 := by
 induction h with
 | done => exact ⟨Nat.le_refl _, (fun c hc => by cases hc), by simp⟩
 | tail p hp =>
  refine ⟨by omega, z0c (z0i _) fun c hc => hl c (List.mem_of_mem_drop hc), ?_⟩
  have := z0f (s.length - p) (by omega)
  rw [List.length_append, List.length_drop]; omega
 | step p q b n r h1 h2 h3 h4 h5 h6 h7 hr ih =>
  obtain ⟨i1, i2, i3⟩ := ih
  refine ⟨by omega, z0c (z0i _) (z0c (fun c hc => hl c (List.mem_of_mem_drop (List.mem_of_mem_take hc))) (z0c (z0i _) (z0c (z0i _) i2))), ?_⟩
  have l1 := z0f (q - p) (by omega)
  have l2 := z0f b (by omega)
  have l3 := z0f (n - 4) (by omega)
  rw [List.length_append, List.length_append, List.length_append, List.length_append, List.length_take, List.length_drop]
  omega
end Go.Proofs.Ytcfdplmapdgfmaa.Mine
set_option linter.unusedVariables false
set_option linter.unusedSimpArgs false
namespace Go.Proofs.Ytcfdplmapdgfmaa.Mine
open Go.RowKit Go.Proofs.YtcfdplmapdgfmaaW.PrintWords Go.Proofs.Ytcfdplmapdgfmaa.PT
theorem repeat_lit (B : Nat) (l : List Nat) (b n : Nat) (z : Int) (v : Value) (w : World) (hz : z = (n : Int)) (hb : BBuf B l v w) (h1 : 1 ≤ b) (h2 : b ≤ l.length) (h3 : b ≤ 32768) (hn : n ≤ 2000000) (hl : l.length ≤ 2000000) :
  Calls Try.prog 106 #[v, .int .i64 b, .int .i64 z] w fun e w' => ∃ v', e = .returned (.tuple #[v', .bool true]) ∧ BBuf B (repL l b n) v' w' ∧ Below B w w' := by
 subst hz; exact repeat_calls B l b n v w hb h1 h2 h3 hn hl
set_option maxRecDepth 100000 in
set_option maxHeartbeats 2000000 in
theorem spread_ok (s : ByteArray) (P : ByteArray) (r0 : List Nat) (most : Nat) (w : World) (hs : s.size ≤ 1048576) (hm : s.size ≤ most) (hmb : most ≤ 1000000000) (hP : P = sb (num s.size ++ r0)) (st : LSteps (bs s) 0 r0) :
  Calls Try.prog 92 #[.string P, .int .i64 most] w fun e w' => e = .returned (.tuple #[.string s, .int .i64 0]) ∧ Below w.heap.size w w' := by
 obtain ⟨f1, f2, f3⟩ := st.fits (by rw [z01]; exact hs) (bs_lt s)
 rw [z01] at f1 f3
 have hx := tk_num s.size 1048576 r0 (by omega) (by omega) f2 (by omega)
 rw [if_neg (by omega), ← hP] at hx
 have HX := Lib.hid hx
 have HST := Lib.hid st
 clear hx st hP f1 f2 f3
 have hmm : decide ((s.size : Int) > (most : Int)) = false := by simp; omega
 have hmm' : decide (most < s.size) = false := by simp; omega
 have hI0 := IsS174.new w w P 0 (Below.refl _ _)
 have hB0 := (Below.refl w.heap.size w).alloc (Nat.le_refl _) (.cells #[.string P, .int .i64 0] 174)
 have HI0 := Lib.hid (And.intro hI0 hB0)
 clear hI0 hB0
 go_enter Try.func92, Try.ntmps92
 go_wp2_with fail
 refine (z0e.calls 1 w.heap.size P 0 ((1048576 : Nat) : Int) (s.size : Int) (sb r0) 0 w _ HI0.out.1 HI0.out.2 HX.out).mono ?_
 rintro e w1 ⟨rfl, hI1, hB1, hK1⟩
 have c1 := z0z hI1.1
 have c0 := z10 hI1.1
 obtain ⟨B, hB⟩ : ∃ B, B = w1.heap.size := ⟨_, rfl⟩
 have hgB : w.heap.size < B := by rw [hB]; exact hI1.lt
 have hb0 : BBuf B [] (.slice none 0 0) w1 := by rw [hB]; exact BBuf.nil w1
 have HB0 := Lib.hid (And.intro hb0 (And.intro hI1 hB1))
 clear hI1 hB1 hK1 hB hb0
 go_wp2_with fail
 clear c1 c0
 go_loopg [8] s.size (fun gg s8 wr => ∃ (q n c : Nat) (p : Option Addr) (r : List Nat), gg = s.size - q ∧ s8 = .slice p n c ∧ Hid (n = q ∧ q ≤ s.size) ∧ Hid (BBuf B ((bs s).take q) (.slice p n c) wr) ∧
   Hid (IsS174 w wr w.heap.size (sb r) 0) ∧ Hid (Below w.heap.size w wr) ∧ Hid (LSteps (bs s) q r))
 case atStart =>
  exact ⟨0, 0, 0, none, r0, rfl, rfl, ⟨rfl, Nat.zero_le _⟩, HB0.out.1, HB0.out.2.1, HB0.out.2.2, HST.out⟩
 case round =>
  obtain ⟨q, n, c, p, r, hg, rfl, HN, HBB, HIr, HBr, HL⟩ := hrel
  have HG := Lib.hid hg
  clear hg
  have c1 := z0z HIr.out.1
  have c0 := z10 HIr.out.1
  obtain ⟨fp, fr, fl⟩ := HL.out.fits (by rw [z01]; exact hs) (bs_lt s)
  rw [z01] at fp fl
  have hnq : n = q := HN.out.1
  subst hnq
  have hst := HL.out
  have hfin : LSteps (bs s) n r → n = s.size → r = [] := by
   intro h e
   cases h with
   | done => rfl
   | tail p hp => rw [z01] at hp; omega
   | step p q b n r h1 h2 h3 h4 h5 h6 => rw [z01] at h6; omega
  by_cases hlt : n < s.size
  ·have hltb : decide ((n : Int) < (s.size : Int)) = true := by simp; omega
   have hltb' : decide (n < s.size) = true := by simp; omega
   obtain ⟨q, l, t, hr, h1, h2, h3, h4, h5⟩ := hst.first (by rw [z01]; exact hlt)
   subst hr
   rw [z01] at h2
   have hlt2 : ∀ c ∈ l ++ t, c < 256 := fun c hc => fr c (List.mem_append_right _ hc)
   have hll : (l ++ t).length ≤ 140737488351000 := by rw [List.length_append] at fl; omega
   have ed : (s.size : Int) - (n : Int) = ((s.size - n : Nat) : Int) := by omega
   have hx1 : z0e.f 1 (sb (num l.length ++ (l ++ t))) 0 ((s.size : Int) - (n : Int)) = some ((l.length : Int), sb (l ++ t), 0) := by
    have := tk_num l.length (s.size - n) (l ++ t) (by omega) (by omega) hlt2 hll
    rw [ed, this, if_neg (by omega)]
   have hx2 := tk_bytes l t
   have hlb : bs (sb l) = l := bs_sb _ fun c hc => hlt2 c (List.mem_append_left _ hc)
   have hlz : (sb l).size ≤ 1048576 := by rw [z04]; omega
   have HX1 := Lib.hid (And.intro hx1 hx2)
   have HQ := Lib.hid (And.intro h2 (And.intro h3 (And.intro h4 (And.intro h5 hlb))))
   have HT := Lib.hid (fun c (hc : c ∈ t) => hlt2 c (List.mem_append_right _ hc))
   have HTL := Lib.hid hll
   clear hx1 hx2 h3 h4 h5 hlb hlt2 hll fr fl ed hfin hst
   go_wp2_with fail
   refine (z0e.calls 1 w.heap.size _ 0 ((s.size : Int) - (n : Int)) _ _ 0 w _ HIr.out HBr.out HX1.out.1).mono ?_
   rintro e w3 ⟨rfl, hI3, hB3, hK3⟩
   have hbb3 := HBB.out.kept hK3.1 fun k h1 h2 => hK3.2 k h2 (by omega) (by simp)
   have HB3 := Lib.hid (And.intro hbb3 (And.intro hI3 hB3))
   clear hbb3 hI3 hB3 hK3 c0 c1
   go_wp2_with fail
   refine (z0k.calls 1 w.heap.size _ 0 _ _ _ 0 w _ HB3.out.2.1 HB3.out.2.2 HX1.out.2).mono ?_
   rintro e w4 ⟨rfl, hI4, hB4, hK4⟩
   have hbb4 := HB3.out.1.kept hK4.1 fun k h1 h2 => hK4.2 k h2 (by omega) (by simp)
   have HB4 := Lib.hid (And.intro hbb4 (And.intro hI4 hB4))
   clear hbb4 hI4 hB4 hK4 HB3
   have hnl : ((bs s).take n).length = n := by rw [List.length_take, z01]; omega
   have HNL := Lib.hid hnl
   clear hnl
   go_upto_region 10 with (at_builtin; refine wpList_append_str rfl _ _ rfl B ((bs s).take n) (.slice p n c) rfl HB4.out.1 (sb l) rfl ?_ ?_; (rw [HNL.out]; omega); intro v5 w5 hb5 hg5; have HB5 := Lib.hid (And.intro hb5 hg5); clear hb5 hg5; obtain ⟨p5, c5, hv5, _⟩ := HB5.out.1.form; rw [HQ.out.2.2.2.2, HQ.out.2.2.1, List.length_take, z01, Nat.min_eq_left HQ.out.1] at hv5; have HV5 := Lib.hid hv5; clear hv5; rw [HV5.out]; have hI5 := HB4.out.2.1.grown HB5.out.2 (fun e => by have := (HB4.out.1.lt _ e.symm).1; omega); have d1 := z0z hI5.1; have d0 := z10 hI5.1; have HI5 := Lib.hid hI5; clear hI5)
   have hq := HQ.out.1
   have hbo := HB5.out.1
   rw [HQ.out.2.2.2.2, HQ.out.2.2.1, HV5.out] at hbo
   have hbe := HB4.out.2.2.grown HB5.out.2 HB4.out.2.2.size fun k e => by have := (HB4.out.1.lt _ e).1; omega
   have HO := Lib.hid (And.intro hbo hbe)
   clear hbo hbe HB4
   rcases HQ.out.2.2.2.1 with ⟨hqe, rfl⟩ | ⟨hqn, b, m, r', i1, i2, i3, i4, i5, i6, i7, i8⟩
   ·rw [z01] at hqe
    subst hqe
    have he1 := str_empty' (s := sb []) rfl
    have he2 := str_empty (s := sb []) rfl
    have hcv := HO.out.1.string
    rw [List.take_of_length_le (by rw [z01]; exact Nat.le_refl _), sb_bs] at hcv
    go_wp2_with fail
    go_ret2
    exact ⟨rfl, HO.out.2⟩
   ·rw [z01] at hqn i5
    subst i8
    obtain ⟨m4, rfl⟩ : ∃ m4, m = m4 + 4 := ⟨m - 4, by omega⟩
    rw [Nat.add_sub_cancel] at *
    have hqb : ((q : Int) == (s.size : Int)) = false := by simp; omega
    obtain ⟨_, g2, g3⟩ := i7.fits (by rw [z01]; exact hs) (bs_lt s)
    rw [z01] at g3
    have l2 := z0f b (by omega)
    have l3 := z0f m4 (by omega)
    have hx3 : z0e.f 1 (sb (num b ++ (num m4 ++ r'))) 0 ((32768 : Nat) : Int) = some ((b : Int), sb (num m4 ++ r'), 0) := by
     have := tk_num b 32768 (num m4 ++ r') (by omega) (by omega) (z0c (z0i _) g2) (by rw [List.length_append]; omega)
     rw [this, if_neg (by omega)]
    have hx4 : z0e.f 1 (sb (num m4 ++ r')) 0 ((s.size : Int) - (q : Int)) = some ((m4 : Int), sb r', 0) := by
     have := tk_num m4 (s.size - q) r' (by omega) (by omega) g2 (by omega)
     rw [show (s.size : Int) - (q : Int) = ((s.size - q : Nat) : Int) from by omega, this, if_neg (by omega)]
    have HX3 := Lib.hid (And.intro hx3 hx4)
    have HI7 := Lib.hid (And.intro i6 i7)
    clear hx3 hx4 l2 l3 g2 g3 i6 i7 HX1 HT HTL
    go_wp2_with fail
    refine (z0e.calls 1 w.heap.size _ 0 ((32768 : Nat) : Int) _ _ 0 w _ HI5.out HO.out.2 HX3.out.1).mono ?_
    rintro e w6 ⟨rfl, hI6, hB6, hK6⟩
    have hbb6 := HO.out.1.kept hK6.1 fun k h1 h2 => hK6.2 k h2 (by omega) (by simp)
    have HB6 := Lib.hid (And.intro hbb6 (And.intro hI6 hB6))
    clear hbb6 hI6 hB6 hK6 d0 d1 HI5
    go_wp2_with fail
    refine (z0e.calls 1 w.heap.size _ 0 ((s.size : Int) - (q : Int)) _ _ 0 w _ HB6.out.2.1 HB6.out.2.2 HX3.out.2).mono ?_
    rintro e w7 ⟨rfl, hI7, hB7, hK7⟩
    have hbb7 := HB6.out.1.kept hK7.1 fun k h1 h2 => hK7.2 k h2 (by omega) (by simp)
    have e1 := z0z hI7.1
    have HB7 := Lib.hid (And.intro hbb7 (And.intro hI7 hB7))
    clear hbb7 hI7 hB7 hK7 HB6
    have hmb : decide ((m4 : Int) + 4 ≤ (s.size : Int) - (q : Int)) = true := by simp; omega
    go_wp2_with fail
    refine (repeat_lit B ((bs s).take q) b (m4 + 4) _ _ _ (by omega) HB7.out.1 i1 (by rw [List.length_take, z01]; omega) i3 (by omega) (by rw [List.length_take, z01]; omega)).mono ?_
    rintro e w8 ⟨v8, rfl, hb8, hbe8⟩
    rw [HI7.out.1] at hb8
    obtain ⟨p8, c8, hv8, _⟩ := hb8.form
    rw [List.length_take, z01, Nat.min_eq_left i5] at hv8
    subst hv8
    have hk8 : w8.heap[w.heap.size]? = w7.heap[w.heap.size]? := hbe8.block _ hgB
    have hI8 : IsS174 w w8 w.heap.size (sb r') 0 := ⟨hk8.trans HB7.out.2.1.1, HB7.out.2.1.2⟩
    have hB8 := HB7.out.2.2.trans (hbe8.mono (Nat.le_of_lt hgB))
    have HB8 := Lib.hid (And.intro hb8 (And.intro hI8 hB8))
    clear hb8 hbe8 hk8 hI8 hB8 HB7 e1
    go_wp2_with fail
    go_roundg (s.size - (q + (m4 + 4)))
    case measure => have := HG.out; omega
    case rel =>
     exact ⟨q + (m4 + 4), q + (m4 + 4), c8, p8, r', rfl, rfl, ⟨rfl, i5⟩, HB8.out.1, HB8.out.2.1, HB8.out.2.2, HI7.out.2⟩
  ·obtain rfl : n = s.size := by omega
   have hr := hfin hst rfl
   subst hr
   have he1 := str_empty' (s := sb []) rfl
   have he2 := str_empty (s := sb []) rfl
   have hcv := HBB.out.string
   rw [List.take_of_length_le (by rw [z01]; exact Nat.le_refl _), sb_bs] at hcv
   go_wp2_with fail
   go_ret2
   exact ⟨rfl, HBr.out⟩
end Go.Proofs.Ytcfdplmapdgfmaa.Mine
set_option linter.unusedVariables false
set_option linter.unusedSimpArgs false
namespace Go.Proofs.Ytcfdplmapdgfmaa.Mine
open Go.RowKit Go.Proofs.YtcfdplmapdgfmaaW.PrintWords
theorem press_spread (s : ByteArray) (most : Nat) (w : World) (hs : s.size ≤ 1048576) (hm : s.size ≤ most) (hmb : most ≤ 1000000000) :
  Calls Try.prog 92 #[.string (sb (pressP (bs s))), .int .i64 most] w fun e w' => e = .returned (.tuple #[.string s, .int .i64 0]) ∧ Below w.heap.size w w' :=
 spread_ok s _ (mkP (bs s) 0 0) most w hs hm hmb (by rw [pressP, z01]) (mkP_steps (bs s) _ 0 0 rfl (Nat.le_refl _) (Nat.zero_le _))
theorem num_low (n : Nat) (h : n < 128) : num n = [n] := by
 rw [num, Nat.div_eq_of_lt h, rest_zero, Nat.mod_eq_of_lt h]; rfl
end Go.Proofs.Ytcfdplmapdgfmaa.Mine
