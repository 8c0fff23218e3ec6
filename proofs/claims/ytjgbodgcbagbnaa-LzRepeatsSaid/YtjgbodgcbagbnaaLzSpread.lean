/- The contract of lz.Spread, at the bytes of a pressed text. -/
import Derived.Test.YtjgbodgcbagbnaaLzSteps
set_option linter.unusedVariables false
set_option linter.unusedSimpArgs false
namespace Go.Proofs.Ytjgbodgcbagbnaa.Mine
open Go.RowKit Go.Proofs.YtjgbodgcbagbnaaW.PrintWords Go.Proofs.Ytjgbodgcbagbnaa.PT

theorem repeat_lit (B : Nat) (l : List Nat) (b n : Nat) (z : Int) (v : Value) (w : World) (hz : z = (n : Int)) (hb : BBuf B l v w) (h1 : 1 ≤ b) (h2 : b ≤ l.length) (h3 : b ≤ 32768) (hn : n ≤ 2000000) (hl : l.length ≤ 2000000) :
    Calls Try.prog 51 #[v, .int .i64 b, .int .i64 z] w fun e w' => ∃ v', e = .returned (.tuple #[v', .bool true]) ∧ BBuf B (repL l b n) v' w' ∧ Below B w w' := by
  subst hz; exact repeat_calls B l b n v w hb h1 h2 h3 hn hl
set_option maxRecDepth 100000 in
set_option maxHeartbeats 2000000 in
theorem spread_ok (s : ByteArray) (P : ByteArray) (r0 : List Nat) (most : Nat) (w : World) (hs : s.size ≤ 1048576) (hm : s.size ≤ most) (hmb : most ≤ 1000000000) (hP : P = sb (num s.size ++ r0)) (st : LSteps (bs s) 0 r0) :
    Calls Try.prog 30 #[.string P, .int .i64 most] w fun e w' => e = .returned (.tuple #[.string s, .int .i64 0]) ∧ Below w.heap.size w w' := by
  obtain ⟨f1, f2, f3⟩ := st.fits (by rw [bs_length]; exact hs) (bs_lt s)
  rw [bs_length] at f1 f3
  have hx := tk_num s.size 1048576 r0 (by omega) (by omega) f2 (by omega)
  rw [if_neg (by omega), ← hP] at hx
  have HX := Lib.hid hx
  have HST := Lib.hid st
  clear hx st hP f1 f2 f3
  have hmm : decide ((s.size : Int) > (most : Int)) = false := by simp; omega
  have hmm' : decide (most < s.size) = false := by simp; omega
  have hI0 := IsS74.new w w P 0 (Below.refl _ _)
  have hB0 := (Below.refl w.heap.size w).alloc (Nat.le_refl _) (.cells #[.string P, .int .i64 0] 74)
  have HI0 := Lib.hid (And.intro hI0 hB0)
  clear hI0 hB0
  go_enter Try.func30, Try.ntmps30
  go_wp2_with fail
  refine (lz_taker_num.calls 1 w.heap.size P 0 ((1048576 : Nat) : Int) (s.size : Int) (sb r0) 0 w _ HI0.out.1 HI0.out.2 HX.out).mono ?_
  rintro e w1 ⟨rfl, hI1, hB1, hK1⟩
  have c1 := cellS74_1 hI1.1
  have c0 := cellS74_0 hI1.1
  obtain ⟨B, hB⟩ : ∃ B, B = w1.heap.size := ⟨_, rfl⟩
  have hgB : w.heap.size < B := by rw [hB]; exact hI1.lt
  have hb0 : BBuf B [] (.slice none 0 0) w1 := by rw [hB]; exact BBuf.nil w1
  have HB0 := Lib.hid (And.intro hb0 (And.intro hI1 hB1))
  clear hI1 hB1 hK1 hB hb0
  go_wp2_with fail
  clear c1 c0
  go_loopg [8] s.size (fun gg s8 wr => ∃ (q n c : Nat) (p : Option Addr) (r : List Nat), gg = s.size - q ∧ s8 = .slice p n c ∧ Hid (n = q ∧ q ≤ s.size) ∧ Hid (BBuf B ((bs s).take q) (.slice p n c) wr) ∧
      Hid (IsS74 w wr w.heap.size (sb r) 0) ∧ Hid (Below w.heap.size w wr) ∧ Hid (LSteps (bs s) q r))
  case atStart =>
    exact ⟨0, 0, 0, none, r0, rfl, rfl, ⟨rfl, Nat.zero_le _⟩, HB0.out.1, HB0.out.2.1, HB0.out.2.2, HST.out⟩
  case round =>
    obtain ⟨q, n, c, p, r, hg, rfl, HN, HBB, HIr, HBr, HL⟩ := hrel
    have HG := Lib.hid hg
    clear hg
    have c1 := cellS74_1 HIr.out.1
    have c0 := cellS74_0 HIr.out.1
    obtain ⟨fp, fr, fl⟩ := HL.out.fits (by rw [bs_length]; exact hs) (bs_lt s)
    rw [bs_length] at fp fl
    have hnq : n = q := HN.out.1
    subst hnq
    have hst := HL.out
    have hfin : LSteps (bs s) n r → n = s.size → r = [] := by
      intro h e
      cases h with
      | done => rfl
      | tail p hp => rw [bs_length] at hp; omega
      | step p q b n r h1 h2 h3 h4 h5 h6 => rw [bs_length] at h6; omega
    by_cases hlt : n < s.size
    · have hltb : decide ((n : Int) < (s.size : Int)) = true := by simp; omega
      have hltb' : decide (n < s.size) = true := by simp; omega
      obtain ⟨q, l, t, hr, h1, h2, h3, h4, h5⟩ := hst.first (by rw [bs_length]; exact hlt)
      subst hr
      rw [bs_length] at h2
      have hlt2 : ∀ c ∈ l ++ t, c < 256 := fun c hc => fr c (List.mem_append_right _ hc)
      have hll : (l ++ t).length ≤ 140737488351000 := by rw [List.length_append] at fl; omega
      have ed : (s.size : Int) - (n : Int) = ((s.size - n : Nat) : Int) := by omega
      have hx1 : lz_taker_num.f 1 (sb (num l.length ++ (l ++ t))) 0 ((s.size : Int) - (n : Int)) = some ((l.length : Int), sb (l ++ t), 0) := by
        have := tk_num l.length (s.size - n) (l ++ t) (by omega) (by omega) hlt2 hll
        rw [ed, this, if_neg (by omega)]
      have hx2 := tk_bytes l t
      have hlb : bs (sb l) = l := bs_sb _ fun c hc => hlt2 c (List.mem_append_left _ hc)
      have hlz : (sb l).size ≤ 1048576 := by rw [sb_size]; omega
      have HX1 := Lib.hid (And.intro hx1 hx2)
      have HQ := Lib.hid (And.intro h2 (And.intro h3 (And.intro h4 (And.intro h5 hlb))))
      have HT := Lib.hid (fun c (hc : c ∈ t) => hlt2 c (List.mem_append_right _ hc))
      have HTL := Lib.hid hll
      clear hx1 hx2 h3 h4 h5 hlb hlt2 hll fr fl ed hfin hst
      go_wp2_with fail
      refine (lz_taker_num.calls 1 w.heap.size _ 0 ((s.size : Int) - (n : Int)) _ _ 0 w _ HIr.out HBr.out HX1.out.1).mono ?_
      rintro e w3 ⟨rfl, hI3, hB3, hK3⟩
      have hbb3 := HBB.out.kept hK3.1 fun k h1 h2 => hK3.2 k h2 (by omega) (by simp)
      have HB3 := Lib.hid (And.intro hbb3 (And.intro hI3 hB3))
      clear hbb3 hI3 hB3 hK3 c0 c1
      go_wp2_with fail
      refine (lz_taker_bytes.calls 1 w.heap.size _ 0 _ _ _ 0 w _ HB3.out.2.1 HB3.out.2.2 HX1.out.2).mono ?_
      rintro e w4 ⟨rfl, hI4, hB4, hK4⟩
      have hbb4 := HB3.out.1.kept hK4.1 fun k h1 h2 => hK4.2 k h2 (by omega) (by simp)
      have HB4 := Lib.hid (And.intro hbb4 (And.intro hI4 hB4))
      clear hbb4 hI4 hB4 hK4 HB3
      have hnl : ((bs s).take n).length = n := by rw [List.length_take, bs_length]; omega
      have HNL := Lib.hid hnl
      clear hnl
      go_upto_region 10 with (at_builtin; refine wpList_append_str rfl _ _ rfl B ((bs s).take n) (.slice p n c) rfl HB4.out.1 (sb l) rfl ?_ ?_; (rw [HNL.out]; omega); intro v5 w5 hb5 hg5; have HB5 := Lib.hid (And.intro hb5 hg5); clear hb5 hg5; obtain ⟨p5, c5, hv5, _⟩ := HB5.out.1.form; rw [HQ.out.2.2.2.2, HQ.out.2.2.1, List.length_take, bs_length, Nat.min_eq_left HQ.out.1] at hv5; have HV5 := Lib.hid hv5; clear hv5; rw [HV5.out]; have hI5 := HB4.out.2.1.grown HB5.out.2 (fun e => by have := (HB4.out.1.lt _ e.symm).1; omega); have d1 := cellS74_1 hI5.1; have d0 := cellS74_0 hI5.1; have HI5 := Lib.hid hI5; clear hI5)
      have hq := HQ.out.1
      have hbo := HB5.out.1
      rw [HQ.out.2.2.2.2, HQ.out.2.2.1, HV5.out] at hbo
      have hbe := HB4.out.2.2.grown HB5.out.2 HB4.out.2.2.size fun k e => by have := (HB4.out.1.lt _ e).1; omega
      have HO := Lib.hid (And.intro hbo hbe)
      clear hbo hbe HB4
      rcases HQ.out.2.2.2.1 with ⟨hqe, rfl⟩ | ⟨hqn, b, m, r', i1, i2, i3, i4, i5, i6, i7, i8⟩
      · rw [bs_length] at hqe
        subst hqe
        have he1 := str_empty' (s := sb []) rfl
        have he2 := str_empty (s := sb []) rfl
        have hcv := HO.out.1.string
        rw [List.take_of_length_le (by rw [bs_length]; exact Nat.le_refl _), sb_bs] at hcv
        go_wp2_with fail
        go_ret2
        exact ⟨rfl, HO.out.2⟩
      · rw [bs_length] at hqn i5
        subst i8
        obtain ⟨m4, rfl⟩ : ∃ m4, m = m4 + 4 := ⟨m - 4, by omega⟩
        rw [Nat.add_sub_cancel] at *
        have hqb : ((q : Int) == (s.size : Int)) = false := by simp; omega
        obtain ⟨_, g2, g3⟩ := i7.fits (by rw [bs_length]; exact hs) (bs_lt s)
        rw [bs_length] at g3
        have l2 := num_length b (by omega)
        have l3 := num_length m4 (by omega)
        have hx3 : lz_taker_num.f 1 (sb (num b ++ (num m4 ++ r'))) 0 ((32768 : Nat) : Int) = some ((b : Int), sb (num m4 ++ r'), 0) := by
          have := tk_num b 32768 (num m4 ++ r') (by omega) (by omega) (lt_app (num_lt _) g2) (by rw [List.length_append]; omega)
          rw [this, if_neg (by omega)]
        have hx4 : lz_taker_num.f 1 (sb (num m4 ++ r')) 0 ((s.size : Int) - (q : Int)) = some ((m4 : Int), sb r', 0) := by
          have := tk_num m4 (s.size - q) r' (by omega) (by omega) g2 (by omega)
          rw [show (s.size : Int) - (q : Int) = ((s.size - q : Nat) : Int) from by omega, this, if_neg (by omega)]
        have HX3 := Lib.hid (And.intro hx3 hx4)
        have HI7 := Lib.hid (And.intro i6 i7)
        clear hx3 hx4 l2 l3 g2 g3 i6 i7 HX1 HT HTL
        go_wp2_with fail
        refine (lz_taker_num.calls 1 w.heap.size _ 0 ((32768 : Nat) : Int) _ _ 0 w _ HI5.out HO.out.2 HX3.out.1).mono ?_
        rintro e w6 ⟨rfl, hI6, hB6, hK6⟩
        have hbb6 := HO.out.1.kept hK6.1 fun k h1 h2 => hK6.2 k h2 (by omega) (by simp)
        have HB6 := Lib.hid (And.intro hbb6 (And.intro hI6 hB6))
        clear hbb6 hI6 hB6 hK6 d0 d1 HI5
        go_wp2_with fail
        refine (lz_taker_num.calls 1 w.heap.size _ 0 ((s.size : Int) - (q : Int)) _ _ 0 w _ HB6.out.2.1 HB6.out.2.2 HX3.out.2).mono ?_
        rintro e w7 ⟨rfl, hI7, hB7, hK7⟩
        have hbb7 := HB6.out.1.kept hK7.1 fun k h1 h2 => hK7.2 k h2 (by omega) (by simp)
        have e1 := cellS74_1 hI7.1
        have HB7 := Lib.hid (And.intro hbb7 (And.intro hI7 hB7))
        clear hbb7 hI7 hB7 hK7 HB6
        have hmb : decide ((m4 : Int) + 4 ≤ (s.size : Int) - (q : Int)) = true := by simp; omega
        go_wp2_with fail
        refine (repeat_lit B ((bs s).take q) b (m4 + 4) _ _ _ (by omega) HB7.out.1 i1 (by rw [List.length_take, bs_length]; omega) i3 (by omega) (by rw [List.length_take, bs_length]; omega)).mono ?_
        rintro e w8 ⟨v8, rfl, hb8, hbe8⟩
        rw [HI7.out.1] at hb8
        obtain ⟨p8, c8, hv8, _⟩ := hb8.form
        rw [List.length_take, bs_length, Nat.min_eq_left i5] at hv8
        subst hv8
        have hk8 : w8.heap[w.heap.size]? = w7.heap[w.heap.size]? := hbe8.block _ hgB
        have hI8 : IsS74 w w8 w.heap.size (sb r') 0 := ⟨hk8.trans HB7.out.2.1.1, HB7.out.2.1.2⟩
        have hB8 := HB7.out.2.2.trans (hbe8.mono (Nat.le_of_lt hgB))
        have HB8 := Lib.hid (And.intro hb8 (And.intro hI8 hB8))
        clear hb8 hbe8 hk8 hI8 hB8 HB7 e1
        go_wp2_with fail
        go_roundg (s.size - (q + (m4 + 4)))
        case measure => have := HG.out; omega
        case rel =>
          exact ⟨q + (m4 + 4), q + (m4 + 4), c8, p8, r', rfl, rfl, ⟨rfl, i5⟩, HB8.out.1, HB8.out.2.1, HB8.out.2.2, HI7.out.2⟩
    · obtain rfl : n = s.size := by omega
      have hr := hfin hst rfl
      subst hr
      have he1 := str_empty' (s := sb []) rfl
      have he2 := str_empty (s := sb []) rfl
      have hcv := HBB.out.string
      rw [List.take_of_length_le (by rw [bs_length]; exact Nat.le_refl _), sb_bs] at hcv
      go_wp2_with fail
      go_ret2
      exact ⟨rfl, HBr.out⟩
set_option maxRecDepth 100000 in
set_option maxHeartbeats 2000000 in
theorem spread_much (P : ByteArray) (N : Nat) (r0 : List Nat) (most : Nat) (w : World) (hs : N ≤ 1048576) (hm : most < N) (hP : P = sb (num N ++ r0)) (hr : ∀ c ∈ r0, c < 256) (hrl : r0.length ≤ 100000000) :
    Calls Try.prog 30 #[.string P, .int .i64 most] w fun e w' => e = .returned (.tuple #[.string ⟨#[]⟩, .int .i64 3]) ∧ Below w.heap.size w w' := by
  have hx := tk_num N 1048576 r0 (by omega) (by omega) hr (by omega)
  rw [if_neg (by omega), ← hP] at hx
  have HX := Lib.hid hx
  clear hx hP hr
  have hmm : decide ((N : Int) > (most : Int)) = true := by simp; omega
  have hmm' : decide (most < N) = true := by simp; omega
  have hI0 := IsS74.new w w P 0 (Below.refl _ _)
  have hB0 := (Below.refl w.heap.size w).alloc (Nat.le_refl _) (.cells #[.string P, .int .i64 0] 74)
  have HI0 := Lib.hid (And.intro hI0 hB0)
  clear hI0 hB0
  go_enter Try.func30, Try.ntmps30
  go_wp2_with fail
  refine (lz_taker_num.calls 1 w.heap.size P 0 ((1048576 : Nat) : Int) (N : Int) (sb r0) 0 w _ HI0.out.1 HI0.out.2 HX.out).mono ?_
  rintro e w1 ⟨rfl, hI1, hB1, hK1⟩
  have c1 := cellS74_1 hI1.1
  have c0 := cellS74_0 hI1.1
  have HB0 := Lib.hid hB1
  clear hI1 hB1 hK1
  go_wp2_with fail
  go_ret2
  exact ⟨rfl, HB0.out⟩
set_option maxRecDepth 100000 in
set_option maxHeartbeats 2000000 in
theorem spread_bad (P : ByteArray) (N : Nat) (most : Nat) (w : World) (hs : 1048576 < N) (hN : N ≤ 10000000) (hP : P = sb (num N)) :
    Calls Try.prog 30 #[.string P, .int .i64 most] w fun e w' => e = .returned (.tuple #[.string ⟨#[]⟩, .int .i64 6]) ∧ Below w.heap.size w w' := by
  have hx := tk_num N 1048576 [] (by omega) (by omega) (fun c hc => by cases hc) (by simp)
  rw [if_pos (by omega), List.append_nil, ← hP] at hx
  have HX := Lib.hid hx
  clear hx hP
  have hI0 := IsS74.new w w P 0 (Below.refl _ _)
  have hB0 := (Below.refl w.heap.size w).alloc (Nat.le_refl _) (.cells #[.string P, .int .i64 0] 74)
  have HI0 := Lib.hid (And.intro hI0 hB0)
  clear hI0 hB0
  go_enter Try.func30, Try.ntmps30
  go_wp2_with fail
  refine (lz_taker_num.calls 1 w.heap.size P 0 ((1048576 : Nat) : Int) 0 (sb []) 6 w _ HI0.out.1 HI0.out.2 HX.out).mono ?_
  rintro e w1 ⟨rfl, hI1, hB1, hK1⟩
  have c1 := cellS74_1 hI1.1
  have c0 := cellS74_0 hI1.1
  have HB0 := Lib.hid hB1
  clear hI1 hB1 hK1
  go_wp2_with fail
  go_quiet (fail)
  go_wp2_with fail
  go_ret2
  exact ⟨rfl, ⟨HB0.out.os, HB0.out.tape, HB0.out.output, HB0.out.size, HB0.out.block⟩⟩
end Go.Proofs.Ytjgbodgcbagbnaa.Mine
