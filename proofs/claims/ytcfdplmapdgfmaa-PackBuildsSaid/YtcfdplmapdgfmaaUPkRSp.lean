import Derived.Test.YtcfdplmapdgfmaaUPkItem
import Derived.Test.YtcfdplmapdgfmaaUCPure
import Derived.Test.YtcfdplmapdgfmaaULzA
set_option linter.unusedVariables false
set_option linter.unusedSimpArgs false
namespace Go.Proofs.Ytcfdplmapdgfmaa.Mine
open List renaming setIfInBounds_toArray → q1, set_cons_zero → q2, set_cons_succ → q3
open Go.RowKit Go.Proofs.YtcfdplmapdgfmaaW.PrintWords
theorem rnum_calls (n most : Nat) (t : List Nat) (z : Int) (w : World) (hz : z = (most : Int)) (hn : n ≤ most) (hm : most ≤ 1073741824) (ht : ∀ c ∈ t, c < 256) (hl : t.length ≤ 100000000) :
  Calls Try.prog 107 #[.string (sb (num n ++ t)), .int .i64 z] w fun e w' => e = .returned (.tuple #[.int .i64 n, .string (sb t), .int .i64 0]) ∧ Below w.heap.size w w' := by
 subst hz
 obtain ⟨S, hS⟩ : ∃ S, S = sb (num n ++ t) := ⟨_, rfl⟩
 obtain ⟨T, hT⟩ : ∃ S, S = sb t := ⟨_, rfl⟩
 have hu := fun w => (PN.z0g.calls 11 S _ _ _ w (refUnnum S 11 (Nat.le_refl _))).mono fun e w' (h : _ ∧ _) => And.intro h.1 h.2.below
 rw [hS, bs_sb _ (z0c (z0i _) ht), unnum_num _ (by omega), ← hS] at hu
 have hnl := z0f n (by omega)
 have h1 := z0x S (num n).length ((num n).length : Int) .i64 rfl (by rw [hS, z04, List.length_append]; omega)
 have e1 : S.extract (num n).length S.size = T := by rw [hS, hT]; exact z0l _ _
 rw [e1] at h1
 obtain ⟨K, hK⟩ : ∃ K, K = (num n).length := ⟨_, rfl⟩
 rw [← hK] at hu h1
 have hw1 : IntKind.u64.wrap (most : Int) = (most : Int) := u64x _ (by omega)
 have hgt : ¬ (most < n) := by omega
 have hw2 : IntKind.i64.wrap (n : Int) = (n : Int) := by rw [IntKind.wrap_i64]; omega
 rw [← hS, ← hT]
 clear hS hT hK hnl e1
 go_enter Try.func107, Try.ntmps107
 go_wp2_with fail
 refine (hu _).mono ?_
 rintro e w1 ⟨rfl, hb1⟩
 have HB := Lib.hid hb1
 clear hb1
 go_wp2_with fail
 go_quiet (fail)
 go_wp2_with fail
 go_ret3
 exact ⟨rfl, z05 HB.out _⟩
theorem MBuf.empty (w : World) : MBuf w.heap.size [] (.slice (some ⟨w.heap.size, 0, none⟩) 0 0) (w.alloc (.cells #[] 5)) :=
 ⟨.inr ⟨w.heap.size, 0, #[], (0, 0), rfl, Nat.le_refl _, heap_alloc_new w _, fun j hj => absurd hj (Nat.not_lt_zero _), Nat.le_refl _, by unfold maxLen; omega, rfl, rfl⟩, by simp⟩
theorem MBuf.filled {B : Nat} {l : List Nat} {v : Value} {w : World} (h : MBuf B l v w) (hl : l ≠ []) : ∃ g c, v = .slice (some ⟨g, 0, none⟩) l.length c ∧ ∀ j, j < l.length → w.cell? ⟨g, j, none⟩ = some (.int .u8 ((l.getD j 0 : Nat) : Int)) := by
 rcases h.own with ⟨_, h0⟩ | ⟨g, cap, cur, fz, hv, hb, hg, _⟩
 ·exact absurd h0 hl
 ·refine ⟨g, cap, hv, fun j hj => ?_⟩
  have := h.cells (g := g) (by rw [hv]; rfl) j (.int .u8 ((l.getD j 0 : Nat) : Int)) (by simp [u8s, List.getElem?_eq_getElem hj, List.getD_eq_getElem?_getD])
  have ha : (⟨g, 0, none⟩ : Addr).add j = ⟨g, j, none⟩ := by unfold Addr.add; split <;> simp_all
  rwa [ha] at this
set_option maxRecDepth 100000 in
set_option maxHeartbeats 1000000 in
theorem rspread_ok (s : ByteArray) (P : ByteArray) (r0 : List Nat) (w : World) (hs : s.size ≤ 1048576) (hP : P = sb (num s.size ++ r0)) (st : LSteps (bs s) 0 r0) :
  Calls Try.prog 93 #[.string P, .int .i64 1048576] w fun e w' => e = .returned (.tuple #[.string s, .int .i64 0]) ∧ Below w.heap.size w w' := by
 obtain ⟨f1, f2, f3⟩ := st.fits (by rw [z01]; exact hs) (bs_lt s)
 rw [z01] at f1 f3
 have hx := fun w => rnum_calls s.size 1048576 r0 1048576 w rfl (by omega) (by omega) f2 (by omega)
 rw [← hP] at hx
 have HX := Lib.hid hx
 have HST := Lib.hid st
 clear hx st hP f1 f2 f3
 have hmm : ¬ (1048576 < s.size) := by omega
 go_enter Try.func93, Try.ntmps93
 go_wp2_with fail
 refine (HX.out _).mono ?_
 rintro e w1 ⟨rfl, hb1⟩
 have HB1 := Lib.hid (And.intro hb1 (MBuf.empty w1))
 clear hb1
 go_wp2_with fail
 go_loopg [7, 9] s.size (fun gg s7 s9 wr => ∃ (q : Nat) (r : List Nat), gg = s.size - q ∧ s7 = .string (sb r) ∧ Hid (q ≤ s.size) ∧ Hid (MBuf w1.heap.size ((bs s).take q) s9 wr) ∧
   Hid (Below w.heap.size w wr) ∧ Hid (LSteps (bs s) q r))
 case atStart =>
  exact ⟨0, r0, rfl, rfl, Nat.zero_le _, by rw [List.take_zero]; exact HB1.out.2, z03 HB1.out.1 _, HST.out⟩
 case round =>
  obtain ⟨q, r, hg, rfl, HQ, HBB, HBr, HL⟩ := hrel
  have HG := Lib.hid hg
  clear hg
  obtain ⟨fp, fr, fl⟩ := HL.out.fits (by rw [z01]; exact hs) (bs_lt s)
  rw [z01] at fp fl
  have hst := HL.out
  have hqs := HQ.out
  obtain ⟨A9, c9, hv9⟩ := HBB.out.shape
  rw [List.length_take, z01, Nat.min_eq_left hqs] at hv9
  subst hv9
  have hfin : LSteps (bs s) q r → q = s.size → r = [] := by
   intro h e
   cases h with
   | done => rfl
   | tail p hp => rw [z01] at hp; omega
   | step p q b n r h1 h2 h3 h4 h5 h6 => rw [z01] at h6; omega
  by_cases hlt : q < s.size
  ·have hltb : decide ((q : Int) < (s.size : Int)) = true := by simp; omega
   obtain ⟨q2, l, t, hr, h1, h2, h3, h4, h5⟩ := hst.first (by rw [z01]; exact hlt)
   subst hr
   rw [z01] at h2
   have hlt2 : ∀ c ∈ l ++ t, c < 256 := fun c hc => fr c (List.mem_append_right _ hc)
   have hll : (l ++ t).length ≤ 100000000 := by rw [List.length_append] at fl; omega
   have ed : IntKind.i64.wrap ((s.size : Int) - (q : Int)) = (s.size : Int) - (q : Int) := by rw [IntKind.wrap_i64]; omega
   have hx1 := fun w => rnum_calls l.length (s.size - q) (l ++ t) ((s.size : Int) - (q : Int)) w (by omega) (by omega) (by omega) hlt2 hll
   obtain ⟨R1, hR1⟩ : ∃ R, R = sb (l ++ t) := ⟨_, rfl⟩
   obtain ⟨L1, hL1⟩ : ∃ R, R = sb l := ⟨_, rfl⟩
   obtain ⟨T1, hT1⟩ : ∃ R, R = sb t := ⟨_, rfl⟩
   have hR1s : R1.size = l.length + t.length := by rw [hR1, z04, List.length_append]
   have hgt : ¬ ((R1.size : Int) < (l.length : Int)) := by omega
   have hgt2 : ¬ (R1.size < l.length) := by omega
   have y1 := z0y R1 l.length (l.length : Int) .i64 rfl (by omega)
   have e1 : R1.extract 0 l.length = L1 := by rw [hR1, hL1]; exact z11 _ _
   rw [e1] at y1
   have y2 := z0x R1 l.length (l.length : Int) .i64 rfl (by omega)
   have e2 : R1.extract l.length R1.size = T1 := by rw [hR1, hT1]; exact z0l _ _
   rw [e2] at y2
   rw [← hR1] at hx1
   obtain ⟨R0, hR0⟩ : ∃ R, R = sb (num l.length ++ (l ++ t)) := ⟨_, rfl⟩
   rw [← hR0] at hx1 ⊢
   clear hR0
   have hlb : bs L1 = l := by rw [hL1]; exact bs_sb _ fun c hc => hlt2 c (List.mem_append_left _ hc)
   have hL1s : L1.size = l.length := by rw [hL1, z04]
   obtain ⟨n1, hn1⟩ : ∃ n, n = l.length := ⟨_, rfl⟩
   rw [← hn1] at hx1 hgt hgt2 y1 y2
   have HX1 := Lib.hid hx1
   have HQ2 := Lib.hid (And.intro h2 (And.intro h3 (And.intro h4 (And.intro h5 hlb))))
   have HT := Lib.hid (And.intro hT1 (fun c (hc : c ∈ t) => hlt2 c (List.mem_append_right _ hc)))
   have HLL := Lib.hid (And.intro hll hL1s)
   have HN1 := Lib.hid hn1
   clear hx1 hR1 hL1 hT1 hR1s e1 e2 hlb hL1s hn1 h3 h4 h5 hlt2 hll fr fl hfin hst hqs
   go_wp2_with fail
   refine (HX1.out _).mono ?_
   rintro e w3 ⟨rfl, hb3⟩
   have HM3 := Lib.hid (HBB.out.below hb3)
   have HB3 := Lib.hid (HBr.out.trans (hb3.mono HBr.out.size))
   clear hb3 HBB HBr
   go_wp2_with fail
   go_region_held3 (fun _ => True) (trivial) (first
    | (have hh := HM3.out.below (z0v (Below.refl _ _)); refine step_append_strM (by rfl) _ _ (by rfl) w1.heap.size ((bs s).take q) (.slice A9 q c9) (by rfl) hh L1 (by rfl) (by rw [HLL.out.2, List.length_take]; have := HLL.out.1; rw [List.length_append] at this; omega) ?_; intro v5 w5 hb5 hg5 hk5; have HB5 := Lib.hid (And.intro hb5 hg5); clear hb5 hg5 hk5 hh))
   have hm5 := HB5.out.1
   rw [HQ2.out.2.2.2.2, HQ2.out.2.2.1] at hm5
   have hbe5 : Below w.heap.size w w5 := (z0v HB3.out).grown HB5.out.2 (z0v HB3.out).size fun k e => Nat.le_trans HB1.out.1.size (HM3.out.lt k e).1
   obtain ⟨A5, c5, hv5⟩ := hm5.shape
   rw [List.length_take, z01, Nat.min_eq_left HQ2.out.1] at hv5
   subst hv5
   have HM5 := Lib.hid (And.intro hm5 hbe5)
   clear hm5 hbe5
   rcases HQ2.out.2.2.2.1 with ⟨hqe, ht⟩ | ⟨hqn, b, m, r', i1, i2, i3, i4, i5, i6, i7, i8⟩
   ·rw [z01] at hqe
    subst hqe
    have hT1 : T1 = ⟨#[]⟩ := by rw [HT.out.1, ht]; rfl
    subst hT1
    have hqb : ((s.size : Int) == (s.size : Int)) = true := by simp
    have hcv := HM5.out.1.string
    rw [List.take_of_length_le (by rw [z01]; exact Nat.le_refl _), sb_bs] at hcv
    clear hgt hgt2 y1 y2 ed
    go_wp2_with fail
    go_ret2
    exact ⟨rfl, HM5.out.2⟩
   ·rw [z01] at hqn i5
    obtain ⟨m4, rfl⟩ : ∃ m4, m = m4 + 4 := ⟨m - 4, by omega⟩
    rw [Nat.add_sub_cancel] at i8
    have hqb : ((q2 : Int) == (s.size : Int)) = false := by simp; omega
    obtain ⟨_, g2, g3⟩ := i7.fits (by rw [z01]; exact hs) (bs_lt s)
    rw [z01] at g3
    have l2 := z0f b (by omega)
    have l3 := z0f m4 (by omega)
    have hx3 := fun w => rnum_calls b 32768 (num m4 ++ r') 32768 w rfl (by omega) (by omega) (z0c (z0i _) g2) (by rw [List.length_append]; omega)
    have hx4 := fun w => rnum_calls m4 (s.size - q2) r' ((s.size : Int) - (q2 : Int)) w (by omega) (by omega) (by omega) g2 (by omega)
    rw [← i8, ← HT.out.1] at hx3
    obtain ⟨T2, hT2⟩ : ∃ T, T = sb (num m4 ++ r') := ⟨_, rfl⟩
    rw [← hT2] at hx3 hx4
    have HX3 := Lib.hid (And.intro hx3 hx4)
    have HI7 := Lib.hid (And.intro i6 i7)
    have ed2 : IntKind.i64.wrap ((s.size : Int) - (q2 : Int)) = (s.size : Int) - (q2 : Int) := by rw [IntKind.wrap_i64]; omega
    have w4 : IntKind.i64.wrap ((m4 : Int) + 4) = (m4 : Int) + 4 := by rw [IntKind.wrap_i64]; omega
    have n1 : ¬ ((s.size : Int) - (q2 : Int) < (m4 : Int) + 4) := by omega
    have n2 : ¬ ((b : Int) < 1) := by omega
    have n3 : ¬ (q2 < b) := by omega
    have n4 : ¬ (b < 1) := by omega
    clear hx3 hx4 l2 l3 g2 g3 i6 i7 i8 hT2 HX1 hgt hgt2 y1 y2 ed
    go_wp2_with fail
    refine (HX3.out.1 _).mono ?_
    rintro e w6 ⟨rfl, hb6⟩
    have HM6 := Lib.hid (And.intro (HM5.out.1.below hb6) (HM5.out.2.trans (hb6.mono HM5.out.2.size)))
    clear hb6
    go_wp2_with fail
    refine (HX3.out.2 _).mono ?_
    rintro e w7 ⟨rfl, hb7⟩
    have HM7 := Lib.hid (And.intro (HM6.out.1.below hb7) (HM6.out.2.trans (hb7.mono HM6.out.2.size)))
    clear hb7 HM6
    have hl2 : ((bs s).take q2).length = q2 := by rw [List.length_take, z01]; omega
    have HL2 := Lib.hid hl2
    clear hl2
    go_wp2_with fail
    go_loopg [9, 15] (m4 + 4) (fun gg s9 s15 wq => ∃ (j m c : Nat) (p : Option Addr), j ≤ m4 + 4 ∧ gg = m4 + 4 - j ∧ s15 = .int .i64 j ∧ s9 = .slice p m c ∧ Hid (m = q2 + j) ∧ Hid (MBuf w1.heap.size (repL ((bs s).take q2) b j) (.slice p m c) wq) ∧ Hid (Below w.heap.size w wq))
    case atStart =>
     exact ⟨0, q2, c5, A5, Nat.zero_le _, rfl, rfl, rfl, rfl, HM7.out.1, HM7.out.2⟩
    case round =>
     obtain ⟨j, m, c, p, hj, hg, rfl, rfl, HMM, HBB, HBE⟩ := hrel
     have HGG := Lib.hid hg
     clear hg
     by_cases hjl : j < m4 + 4
     ·have hltb2 : ((j : Int) < (m4 : Int) + 4) = True := by simp; omega
      have hne : repL ((bs s).take q2) b j ≠ [] := fun e => by have := repL_length ((bs s).take q2) b j; rw [e, HL2.out] at this; simp at this; omega
      have hrl := repL_length ((bs s).take q2) b j
      rw [HL2.out] at hrl
      obtain ⟨g, c', hv, hcell⟩ := HBB.out.filled hne
      obtain rfl : p = some ⟨g, 0, none⟩ := by injection hv
      have hmm : m ≤ 4000000 ∧ b ≤ m := by have := HMM.out; omega
      have hc := hcell (m - b) (by rw [hrl, ← HMM.out]; omega)
      obtain ⟨x, hx⟩ : ∃ x, x = (repL ((bs s).take q2) b j).getD (m - b) 0 := ⟨_, rfl⟩
      rw [← hx] at hc
      have HX := Lib.hid (And.intro hx hrl)
      have HNE := Lib.hid hne
      have hmb1 := hmm.1
      have hmb2 := hmm.2
      clear hcell hne hx hrl hmm hv
      have z1 : IntKind.i64.wrap ((m : Int) - (b : Int)) = (m : Int) - (b : Int) := wrap_at _ (by omega) (by omega)
      have z2 : (0 : Int) ≤ (m : Int) - (b : Int) := by omega
      have z3 : (m : Int) - (b : Int) < (m : Int) := by omega
      have z4 : ((m : Int) - (b : Int)).toNat = m - b := by omega
      go_wp2_with (at_builtin; (refine wpList_append_oneM rfl _ _ rfl w1.heap.size (repL ((bs s).take q2) b j) (.slice (some ⟨g, 0, none⟩) m c) rfl wr _ x rfl HBB.out HNE.out rfl (by rw [HX.out.2]; omega) ?_); intro v' w' hb' hg'; have HN := Lib.hid (And.intro hb' hg'); clear hb' hg'; obtain ⟨p4, c4, hv4⟩ := HN.out.1.shape; rw [List.length_append, HX.out.2] at hv4; have HV4 := Lib.hid hv4; clear hv4; rw [HV4.out])
      go_roundg (m4 + 4 - (j + 1))
      case measure => have := HGG.out; omega
      case rel =>
       refine ⟨j + 1, q2 + j + 1, c4, p4, by omega, rfl, by go_num, rfl, by unfold Hid; omega, ?_, ?_⟩
       ·have := HN.out.1
        rw [HV4.out] at this
        unfold Hid
        rw [repL, HX.out.2, ← HMM.out, ← HX.out.1]
        rw [HMM.out]
        exact this
       ·exact below_grow (HBE.out.alloc HBE.out.size _) HN.out.2 (by have := HBE.out.size; simp; omega) fun k e => Nat.le_trans HB1.out.1.size (HBB.out.lt k e).1
     ·have hltb2 : ((j : Int) < (m4 : Int) + 4) = False := by simp; omega
      obtain rfl : j = m4 + 4 := by omega
      go_wp2_with fail
      go_roundg (s.size - (q2 + (m4 + 4)))
      case measure => have := HG.out; omega
      case rel =>
       refine ⟨q2 + (m4 + 4), r', rfl, rfl, i5, ?_, HBE.out, HI7.out.2⟩
       rw [← HI7.out.1]
       exact HBB.out
  ·obtain rfl : q = s.size := by omega
   have hr := hfin hst rfl
   subst hr
   have hcv := HBB.out.string
   rw [List.take_of_length_le (by rw [z01]; exact Nat.le_refl _), sb_bs] at hcv
   have he : sb [] = ⟨#[]⟩ := rfl
   rw [he]
   clear he hst hfin fr fl fp hlt
   go_wp2_with fail
   go_ret2
   exact ⟨rfl, HBr.out⟩
end Go.Proofs.Ytcfdplmapdgfmaa.Mine
