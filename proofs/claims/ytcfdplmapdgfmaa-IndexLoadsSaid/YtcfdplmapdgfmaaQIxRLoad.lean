import Derived.Test.YtcfdplmapdgfmaaQIxLoad
set_option linter.unusedVariables false
set_option linter.unusedSimpArgs false
namespace Go.Proofs.Ytcfdplmapdgfmaa.Mine
open Go.RowKit Go.Proofs.YtcfdplmapdgfmaaW.PrintWords
def valK (s : ByteArray) (q : Nat) : Nat → Nat
 | 0 => 0
 | i + 1 => valK s q i * 256 + (bs s).getD (q + i) 0
theorem valK_four (s : ByteArray) (q : Nat) : valK s q 4 = valB s q := by simp [valK, valB, valN]
theorem valK_lt (s : ByteArray) (q : Nat) : ∀ i, valK s q i < 256 ^ i
 | 0 => Nat.zero_lt_one
 | i + 1 => by
  have h1 := valK_lt s q i
  have h2 := bsD_lt s (q + i)
  rw [valK, Nat.pow_succ]; omega
theorem valK_le (s : ByteArray) (q i : Nat) (hi : i ≤ 4) : valK s q i ≤ 4294967296 := by
 have h1 := valK_lt s q i
 have h2 : 256 ^ i ≤ 256 ^ 4 := Nat.pow_le_pow_right (by decide) hi
 omega
def RLoadOut (s : ByteArray) (w : World) (e : Ending) (w' : World) : Prop := Below w.heap.size w w' ∧
 ((∃ k, e = .returned (.tuple #[.string ⟨#[]⟩, .slice none 0 0, .int .i64 k]) ∧ LoadBad s k) ∨
  ∃ A c S, e = .returned (.tuple #[.string (s.extract 14 46), .slice A S.length c, .int .i64 0]) ∧ GoodL s S)
set_option maxRecDepth 100000 in
set_option maxHeartbeats 1000000 in
theorem z0i (s : ByteArray) (w : World) (hz : s.size ≤ 5000) :
  Calls Try.prog 39 #[.string s] w fun e w' => RLoadOut s w e w' := by
 by_cases h0 : s.size < 1102
 ·have hd : decide ((s.size : Int) < 1102) = true := by simp; omega
  clear hz
  go_enter Try.func39, Try.ntmps39
  go_wp2_with fail
  go_ret3
  exact ⟨Below.refl _ _, .inl ⟨4, rfl, .inl ⟨h0, rfl⟩⟩⟩
 have hd : decide ((s.size : Int) < 1102) = false := by simp; omega
 obtain ⟨T, hT⟩ : ∃ T, T = s.extract 0 (s.size - 32) := ⟨_, rfl⟩
 obtain ⟨V, hV⟩ : ∃ T, T = s.extract (s.size - 32) s.size := ⟨_, rfl⟩
 obtain ⟨U, hU⟩ : ∃ U, U = sb (refSum (bs T)) := ⟨_, rfl⟩
 have hok : SumOk s ↔ U = V := by unfold SumOk; rw [hU, hT, hV, sha_ref]
 have hw1 : IntKind.i64.wrap ((s.size : Int) - 32) = (s.size : Int) - 32 := by rw [IntKind.wrap_i64]; omega
 have x1 := slice_to s (s.size - 32) ((s.size : Int) - 32) .i64 (by omega) (by omega)
 have x2 := slice_fromz s (s.size - 32) ((s.size : Int) - 32) .i64 (by omega) (by omega)
 rw [← hT] at x1
 rw [← hV] at x2
 have hof := fun w => refsum_calls T w (by rw [hT, ByteArray.size_extract]; omega)
 rw [← hU] at hof
 have x3 := slice_to s 14 14 .i64 rfl (by omega)
 obtain ⟨I, hI⟩ : ∃ T, T = s.extract 0 14 := ⟨_, rfl⟩
 rw [← hI] at x3
 have HOK := Lib.hid (And.intro hok hI)
 have HZ := Lib.hid (And.intro hz h0)
 clear hT hV hU hI hok h0 hz
 go_enter Try.func39, Try.ntmps39
 go_wp2_with fail
 go_region_held3 (fun _ => True) (trivial) (first
  | (go_at_call 37; refine (hof _).mono ?_; rintro e w5 ⟨rfl, hb5⟩; have HP8 := Lib.hid (show Below w.heap.size w w5 from ⟨hb5.os, hb5.tape, hb5.output, hb5.size, hb5.block⟩); clear hb5))
 by_cases hsum : U = V
 ·subst hsum
  have heq : (U.toList == U.toList) = true := beq_self_eq_true _
  simp only [heq, Bool.not_true]
  clear heq
  have HS := Lib.hid (HOK.out.1.2 rfl)
  have HI := Lib.hid HOK.out.2
  have hw2 : IntKind.i64.wrap ((s.size : Int) - 32 - 1070) = (s.size : Int) - 32 - 1070 := by have := HZ.out.1; rw [IntKind.wrap_i64]; omega
  by_cases ht : I = titleI
  ·have HT := Lib.hid (HI.out.symm.trans ht)
   rw [show titleI = ⟨#[112, 111, 108, 108, 97, 114, 100, 32, 105, 110, 100, 101, 120, 10]⟩ from rfl] at ht
   subst ht
   have hsn : (s.size : Int) - 32 - 1070 = ((s.size - 1102 : Nat) : Int) := by have h := HZ.out.2; omega
   have htm : ((s.size : Int) - 32 - 1070).tmod 36 = (((s.size - 1102) % 36 : Nat) : Int) := by
    rw [hsn, Int.tmod_eq_emod_of_nonneg (by omega)]; omega
   have htd : ((s.size : Int) - 32 - 1070).tdiv 36 = (((s.size - 1102) / 36 : Nat) : Int) := by
    rw [hsn, Int.tdiv_eq_ediv_of_nonneg (by omega)]; omega
   by_cases hm : (s.size - 1102) % 36 = 0
   ·have hmb : (((s.size : Int) - 32 - 1070).tmod 36 != 0) = false := by rw [htm, hm]; rfl
    obtain ⟨n, hn⟩ : ∃ n, n = (s.size - 1102) / 36 := ⟨_, rfl⟩
    have hsz : s.size = 1102 + 36 * n := by have := HZ.out.2; omega
    have hwd : IntKind.i64.wrap (((s.size : Int) - 32 - 1070).tdiv 36) = (n : Int) := by rw [htd, ← hn, IntKind.wrap_i64]; have := HZ.out.1; omega
    have hdb : decide ((n : Int) > 2048) = false := by simp; have := HZ.out.1; omega
    have hdb1 : ¬ (2048 < n) := by have := HZ.out.1; omega
    have HN := Lib.hid (And.intro hsz (And.intro hm hn))
    clear htm htd hm hn hsz hsn
    go_wp2_with fail
    clear hmb hwd hdb hdb1 hw2 x1 x2 x3 hof
    go_loopg [6, 7] n (fun gg s6 s7 wr => ∃ j : Nat, j ≤ n ∧ gg = n - j ∧ s7 = .int .i64 (1070 + 36 * j : Nat) ∧ Hid (SrtS w wr s6 (rowsOf s j)))
    case atStart =>
     exact ⟨0, Nat.zero_le _, by omega, by go_num, Kd.R_empty spotK _ w5 _ HP8.out.size, z01 HP8.out _⟩
    case round =>
     obtain ⟨j, hj, hgk, rfl, H⟩ := hrel
     have HG := Lib.hid hgk
     have hz5 := HZ.out.1
     have hsz := HN.out.1
     obtain ⟨p, hp⟩ : ∃ p, p = 1070 + 36 * j := ⟨_, rfl⟩
     rw [← hp]
     clear hgk
     have hrl : (rowsOf s j).length = j := z0h s j
     obtain ⟨A6, c6, e6, _, hC⟩ := Kd.R_reads H.out.r
     rw [hrl] at e6 hC
     have HR := Lib.hid H.out.r
     have HB := Lib.hid H.out.bel
     rw [e6] at HR ⊢
     clear e6
     by_cases hlt : j < n
     ·have hltb : decide ((p : Int) < (s.size : Int) - 32) = true := by simp; omega
      have hwp : IntKind.i64.wrap ((p : Int) + 32) = (p : Int) + 32 := by rw [IntKind.wrap_i64]; omega
      have hwq : IntKind.i64.wrap ((p : Int) + 36) = (p : Int) + 36 := by rw [IntKind.wrap_i64]; omega
      have y1 := slice_run s p (p + 32) (p : Int) ((p : Int) + 32) rfl (by omega) (by omega) (by omega)
      obtain ⟨y, hy⟩ : ∃ y, y = rowAt s p := ⟨_, rfl⟩
      have hyi : s.extract p (p + 32) = y.id := by rw [hy]; rfl
      have hyp : ((valB s (p + 32) : Nat) : Int) = y.pos := by rw [hy]; rfl
      rw [hyi] at y1
      have HL := Lib.hid (show j ≤ 5000 ∧ p + 36 ≤ s.size ∧ s.size ≤ 5000 by omega)
      have HY := Lib.hid (And.intro hy (And.intro hp (And.intro hlt (And.intro hyp hrl))))
      clear hy hp hyi hyp hz5 hsz hlt hj hC hrl
      go_wp2_with fail
      obtain ⟨W0, rfl⟩ : ∃ W, W = wr := ⟨_, rfl⟩
      go_loopg [8, 9] 4 (fun gg s8 s9 wq => ∃ i : Nat, i ≤ 4 ∧ gg = 4 - i ∧ s9 = .int .i64 (32 + i : Nat) ∧ s8 = .int .i64 (valK s (p + 32) i : Nat) ∧ Hid (W0 = wq))
      case atStart =>
       exact ⟨0, by omega, rfl, by go_num, rfl, rfl⟩
      case round =>
       obtain ⟨i, hi, hgi, rfl, rfl, HW⟩ := hrel
       have HGI := Lib.hid hgi
       have hW := HW.out
       subst hW
       clear hgi
       obtain ⟨q, hq⟩ : ∃ q, q = 32 + i := ⟨_, rfl⟩
       rw [← hq]
       by_cases hil : i < 4
       ·have hilb : decide ((q : Int) < 36) = true := by simp; omega
        have hl := HL.out
        have hk := valK_le s (p + 32) i hi
        have hd2 := bsD_lt s (p + 32 + i)
        have hst : valK s (p + 32) (i + 1) = valK s (p + 32) i * 256 + (bs s).getD (p + 32 + i) 0 := rfl
        obtain ⟨m, hm⟩ : ∃ m, m = valK s (p + 32) i := ⟨_, rfl⟩
        obtain ⟨d, hd⟩ : ∃ d, d = (bs s).getD (p + 32 + i) 0 := ⟨_, rfl⟩
        rw [← hm] at hk hst ⊢
        rw [← hd] at hd2 hst
        have w0 : IntKind.i64.wrap (d : Int) = (d : Int) := by rw [IntKind.wrap_i64]; omega
        have w1 : IntKind.i64.wrap ((m : Int) * 256) = (m : Int) * 256 := by rw [IntKind.wrap_i64]; omega
        have w2 : IntKind.i64.wrap ((p : Int) + (q : Int)) = (p : Int) + (q : Int) := by rw [IntKind.wrap_i64]; omega
        have w3 : IntKind.i64.wrap ((m : Int) * 256 + (d : Int)) = (m : Int) * 256 + (d : Int) := by rw [IntKind.wrap_i64]; omega
        have w4 : IntKind.i64.wrap ((q : Int) + 1) = (q : Int) + 1 := by rw [IntKind.wrap_i64]; omega
        have hix := z0e s (p + q) (d : Int) ((p : Int) + (q : Int)) (by omega) (by omega) (by rw [hd, hq, Nat.add_assoc])
        have HST := Lib.hid (And.intro hst (And.intro hq hil))
        clear hl hk hd2 hst hm hd hq hil hi
        go_wp2_with fail
        go_roundg (4 - (i + 1))
        case measure => have := HGI.out; have := HST.out.2.2; omega
        case rel =>
         exact ⟨i + 1, by have := HST.out.2.2; omega, rfl, by rw [HST.out.2.1]; refine int_eq ?_; omega, by rw [HST.out.1]; refine int_eq ?_; omega, rfl⟩
       ·obtain rfl : i = 4 := by omega
        have hilb : decide ((q : Int) < 36) = false := by simp; omega
        rw [valK_four, HY.out.2.2.2.1]
        have hR4 := HR.out
        have hB4 := HB.out
        obtain ⟨X, hX⟩ : ∃ X, X = rowsOf s j := ⟨_, rfl⟩
        have hv : Value.slice A6 j c6 = Value.slice A6 X.length c6 := by rw [hX, z0h]
        rw [← hX, hv] at hR4
        rw [hv]
        clear hv
        have HR4 := Lib.hid hR4
        have HB4 := Lib.hid hB4
        have HLE := Lib.hid (show (X.length + 1) * 24 ≤ 140737488355328 by rw [hX, z0h]; have := HL.out.1; omega)
        have HX := Lib.hid hX
        clear hR4 hB4 hX hq hi hil
        go_wp2_with (at_builtin; refine Kd.R_append spotK (w0 := w) (W := W0) w.heap.size (by rfl) (.tmp 58) (.tmp 66) 65 77 (.agg #[.string ⟨#[]⟩, .int .i64 0]) 24 rfl Try.underlying65 info_rspot rfl (by decide) (by omega) (.slice A6 X.length c6) X y [.string y.id, .int .i64 y.pos] (fun _ => True) (fun _ => False) rfl (by simp [Act.eval]) (spot_M _ _ _ _) (fun _ hk => hk.elim) (fun _ _ => trivial) HR4.out HB4.out HB4.out.size HLE.out ?_; intro v5 w5 hr5 hb5 hg5 hat5; have H5 := Lib.hid (And.intro hr5 hb5); clear hr5 hb5 hg5 hat5)
        go_roundg (n - (j + 1))
        case measure => have := HG.out; have := HY.out.2.2.1; omega
        case rel =>
         refine ⟨j + 1, by have := HY.out.2.2.1; omega, rfl, by rw [HY.out.2.1]; refine int_eq ?_; omega, ?_⟩
         unfold Hid
         rw [rowsOf_step, ← HY.out.2.1, ← HY.out.1, ← HX.out]
         exact ⟨H5.out.1, H5.out.2⟩
     ·obtain rfl : j = n := by omega
      have hltb : decide ((p : Int) < (s.size : Int) - 32) = false := by simp; omega
      have z1 := slice_run s 14 46 14 46 rfl rfl (by omega) (by omega)
      have hpk : (s.extract 14 46).size = 32 := by rw [ByteArray.size_extract]; omega
      have hrw : rowsL s = rowsOf s j := by unfold rowsL; rw [← HN.out.2.2]
      have hnw := fun w (h : Kd.C spotK w A6 j (rowsOf s j)) => rsort_calls (s.extract 14 46) (rowsOf s j) A6 c6 w (by rw [hrl]; exact h) (by omega) hpk
      rw [hrl] at hnw
      obtain ⟨P, hP⟩ : ∃ P, P = s.extract 14 46 := ⟨_, rfl⟩
      rw [← hP] at z1 hpk hnw
      have HP := Lib.hid (And.intro hP (And.intro hpk (And.intro hrw (And.intro hC HB.out))))
      have HJ := Lib.hid (show j ≤ 2048 by omega)
      clear hP hpk hrw hC hrl hp hz5 hsz hlt hj
      go_wp2_with fail
      refine (hnw _ HP.out.2.2.2.1).mono ?_
      rintro e w2 ⟨hb2, hor⟩
      have H2 := Lib.hid (HP.out.2.2.2.2.trans (hb2.mono HP.out.2.2.2.2.size))
      clear hb2 hnw
      rcases hor with ⟨rfl, hno⟩ | ⟨A3, c3, S, rfl, hpm, hst, hgd, hc3⟩
      ·have HNO := Lib.hid hno
       clear hno
       go_wp2_with fail
       go_ret3
       refine ⟨H2.out, .inl ⟨6, rfl, .inr (.inr ⟨by have := HZ.out.2; omega, HS.out, fun S g => HNO.out ?_, rfl⟩)⟩⟩
       rw [← HP.out.2.2.1]
       exact okP_of g.perm g.strict g.good
      ·have hSl : S.length = j := by rw [hpm.length_eq, z0h]
       have hSg : ∀ x ∈ S, goodS x := fun x hx => hgd x (hpm.mem_iff.1 hx)
       have hen := fun w (h : Kd.C spotK w A3 S.length S) => rencode_calls P S A3 c3 w h (by rw [hSl]; exact HJ.out) HP.out.2.1 hSg
       obtain ⟨R, hR⟩ : ∃ R, R = sb (encI P S ++ sha (encI P S)) := ⟨_, rfl⟩
       rw [← hR] at hen
       have HX := Lib.hid hc3
       have HG2 := Lib.hid (And.intro hpm (And.intro hst (And.intro hgd hR)))
       clear hSl hSg hR hc3 hpm hst hgd
       go_wp2_with fail
       refine (hen _ HX.out).mono ?_
       rintro e w3 ⟨rfl, hb3⟩
       have H3 := Lib.hid (H2.out.trans (hb3.mono H2.out.size))
       clear hb3 hen
       by_cases hRs : R = s
       ·have HRS := Lib.hid hRs
        have heq : (R.toList == s.toList) = true := by rw [hRs]; exact beq_self_eq_true _
        have heq1 : R.toList = s.toList := by rw [hRs]
        clear hRs
        go_wp2_with fail
        go_ret3
        refine ⟨H3.out, .inr ⟨A3, c3, S, by rw [← HP.out.1]; rfl, ⟨by have := HZ.out.2; omega, HS.out, HT.out, HN.out.2.1, by rw [HP.out.2.2.1]; exact HG2.out.1, HG2.out.2.1, by rw [HP.out.2.2.1]; exact HG2.out.2.2.1, by rw [← HP.out.1, ← HG2.out.2.2.2]; exact HRS.out⟩⟩⟩
       ·have HRS := Lib.hid hRs
        have heq : (R.toList == s.toList) = false := neq_toL hRs
        have heq1 : ¬ (R.toList = s.toList) := fun e => hRs (by rw [toL, toL] at e; exact ByteArray.ext (Array.ext' e))
        clear hRs
        go_wp2_with fail
        go_ret3
        refine ⟨H3.out, .inl ⟨6, rfl, .inr (.inr ⟨by have := HZ.out.2; omega, HS.out, fun S2 g2 => HRS.out ?_, rfl⟩)⟩⟩
        have e : S2 = S := by
         have hp2 := g2.perm
         rw [HP.out.2.2.1] at hp2
         exact strict_unique (hp2.trans HG2.out.1.symm) g2.strict HG2.out.2.1
        have h2 := g2.enc
        rw [e, ← HP.out.1, ← HG2.out.2.2.2] at h2
        exact h2
   ·have hmb : (((s.size : Int) - 32 - 1070).tmod 36 != 0) = true := by rw [htm]; simp; omega
    have HM := Lib.hid hm
    clear htm htd hm hsn
    go_wp2_with fail
    go_ret3
    exact ⟨HP8.out, .inl ⟨6, rfl, .inr (.inr ⟨by have := HZ.out.2; omega, HS.out, fun S g => HM.out g.mul, rfl⟩)⟩⟩
  ·have hne : (I.toList == (ByteArray.mk #[112, 111, 108, 108, 97, 114, 100, 32, 105, 110, 100, 101, 120, 10]).toList) = false := neq_toL ht
   have hne1 : ¬ (I.toList = [112, 111, 108, 108, 97, 114, 100, 32, 105, 110, 100, 101, 120, 10]) := fun e => ht (by rw [toL] at e; exact ByteArray.ext (Array.ext' e))
   have HT := Lib.hid ht
   clear ht
   go_wp2_with fail
   go_ret3
   exact ⟨HP8.out, .inl ⟨6, rfl, .inr (.inr ⟨by have := HZ.out.2; omega, HS.out, fun S g => HT.out (HI.out.trans g.tit), rfl⟩)⟩⟩
 ·have hne := neq_toL hsum
  have HN := Lib.hid hsum
  simp only [hne, Bool.not_false]
  clear hsum hne
  go_wp2_with fail
  go_ret3
  exact ⟨HP8.out, .inl ⟨80, rfl, .inr (.inl ⟨by have := HZ.out.2; omega, fun h => HN.out (HOK.out.1.1 h), rfl⟩)⟩⟩
end Go.Proofs.Ytcfdplmapdgfmaa.Mine
