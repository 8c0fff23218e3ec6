import Derived.Test.YtcfdplmapdgfmaaQIxLoadP
import Derived.Test.YtcfdplmapdgfmaaQIxEnc
set_option linter.unusedVariables false
set_option linter.unusedSimpArgs false
namespace Go.Proofs.Ytcfdplmapdgfmaa.Mine
open Go.RowKit Go.Proofs.YtcfdplmapdgfmaaW.PrintWords
structure LdS (w W : World) (v : Value) (X : List SpotP) : Prop where
 r : Kd.R spotK 78 W w.heap.size (fun _ => True) v X
 bel : Below w.heap.size w W
section
variable {w W : World} {v : Value} {X : List SpotP}
theorem LdS.alloc (h : LdS w W v X) (o : Obj) : LdS w (W.alloc o) v X := ⟨Kd.R_alloc h.r o, z01 h.bel o⟩
theorem LdS.next {W' : World} (h : LdS w W v X) (hb : Below W.heap.size W W') : LdS w W' v X := ⟨Kd.R_below h.r hb, h.bel.trans (hb.mono h.bel.size)⟩
variable {ops : Array Oper} {o : Oper} {a : Act} {Q : Exit → Act → World → Prop} {Kc : Act → World → Prop}
theorem ld_step (hS : LdS w W v X) (hw : Region.wanted o (yielded ops a.tmps) = true) (s x : Operand) (ho : o.op = .call { callee := .builtin .append, args := #[s, x], argTypes := #[64, 64] })
  (g c : Nat) (y : SpotP) (hs : a.eval s = v) (hx : a.eval x = .slice (some ⟨g, 0, none⟩) 1 c) (hg : W.heap[g]? = some (.cells #[.string y.id, .int .i64 y.pos] 78 (0, 0))) (hl : X.length ≤ 5000)
  (h : ∀ v1 w1, LdS w w1 v1 (X ++ [y]) → Kc (a.put o.dst v1) w1) :
  if Region.wanted o (yielded ops a.tmps) = true then Oper.wp Try.prog o a W Kc Q else Kc (a.put o.dst undef) W := by
 refine Kd.R_append_rows_step spotK (Rr := spotRow) (w0 := w) w.heap.size hw s x 64 78 (.agg #[.string ⟨#[]⟩, .int .i64 0]) 24 ho Try.underlying64 info_spot rfl (by decide) (by omega) v X [y] (some ⟨g, 0, none⟩) 1 c (fun _ => True) (fun _ => False) hs hx hS.r (spot_row hg) (fun x cs hr => by subst hr; exact spot_M _ _ _ _) (fun _ hk => hk.elim) (fun _ _ => trivial) hS.bel hS.bel.size (by omega) ?_
 intro v1 w1 hr hb hgr hat
 exact h v1 w1 ⟨hr, hb⟩
end
def LoadOut (s : ByteArray) (w : World) (e : Ending) (w' : World) : Prop := Below w.heap.size w w' ∧
 ((∃ k, e = .returned (.tuple #[.pointer none, .int .i64 k]) ∧ LoadBad s k) ∨
  ∃ g S, e = .returned (.tuple #[.pointer (some ⟨g, 0, none⟩), .int .i64 0]) ∧ GoodL s S ∧ IxV w' g (s.extract 14 46) S)
theorem neq_toL {a b : ByteArray} (h : a ≠ b) : (a.toList == b.toList) = false := by
 rw [beq_eq_false_iff_ne]
 intro e
 rw [toL, toL] at e
 exact h (ByteArray.ext (Array.ext' e))
set_option maxRecDepth 100000 in
set_option maxHeartbeats 1000000 in
theorem load_calls (s : ByteArray) (w : World) (hz : s.size ≤ 5000) :
  Calls Try.prog 38 #[.string s] w fun e w' => LoadOut s w e w' := by
 by_cases h0 : s.size < 1102
 ·have hd : decide ((s.size : Int) < 1102) = true := by simp; omega
  clear hz
  go_enter Try.func38, Try.ntmps38
  go_wp2_with fail
  go_ret2
  exact ⟨Below.refl _ _, .inl ⟨4, rfl, .inl ⟨h0, rfl⟩⟩⟩
 have hd : decide ((s.size : Int) < 1102) = false := by simp; omega
 obtain ⟨T, hT⟩ : ∃ T, T = s.extract 0 (s.size - 32) := ⟨_, rfl⟩
 obtain ⟨V, hV⟩ : ∃ T, T = s.extract (s.size - 32) s.size := ⟨_, rfl⟩
 obtain ⟨U, hU⟩ : ∃ U, U = sb (sha (bs T)) := ⟨_, rfl⟩
 have hok : SumOk s ↔ U = V := by unfold SumOk; rw [hU, hT, hV]
 have hw1 : IntKind.i64.wrap ((s.size : Int) - 32) = (s.size : Int) - 32 := by rw [IntKind.wrap_i64]; omega
 have x1 := slice_to s (s.size - 32) ((s.size : Int) - 32) .i64 (by omega) (by omega)
 have x2 := slice_fromz s (s.size - 32) ((s.size : Int) - 32) .i64 (by omega) (by omega)
 rw [← hT] at x1
 rw [← hV] at x2
 have hof := fun w => of_calls T w (by rw [hT, ByteArray.size_extract]; omega)
 rw [← hU] at hof
 have x3 := slice_to s 14 14 .i64 rfl (by omega)
 obtain ⟨I, hI⟩ : ∃ T, T = s.extract 0 14 := ⟨_, rfl⟩
 rw [← hI] at x3
 have HOK := Lib.hid (And.intro hok hI)
 have HZ := Lib.hid (And.intro hz h0)
 clear hT hV hU hI hok h0 hz
 go_enter Try.func38, Try.ntmps38
 go_wp2_with fail
 go_region_held3 (fun _ => True) (trivial) (first
  | (go_at_call 62; refine (hof _).mono ?_; rintro e w5 ⟨rfl, hb5⟩; have HP8 := Lib.hid (show Below w.heap.size w w5 from ⟨hb5.os, hb5.tape, hb5.output, hb5.size, hb5.block⟩); clear hb5))
 by_cases hsum : U = V
 ·subst hsum
  have heq : (U.toList == U.toList) = true := beq_self_eq_true _
  simp only [heq, Bool.not_true]
  clear heq
  have HS := Lib.hid (HOK.out.1.2 rfl)
  have HI := Lib.hid HOK.out.2
  have hw2 : IntKind.i64.wrap ((s.size : Int) - 1070) = (s.size : Int) - 1070 := by have := HZ.out.1; rw [IntKind.wrap_i64]; omega
  have hw3 : IntKind.i64.wrap ((s.size : Int) - 1070 - 32) = (s.size : Int) - 1070 - 32 := by have := HZ.out.1; rw [IntKind.wrap_i64]; omega
  by_cases ht : I = titleI
  ·have HT := Lib.hid (HI.out.symm.trans ht)
   rw [show titleI = ⟨#[112, 111, 108, 108, 97, 114, 100, 32, 105, 110, 100, 101, 120, 10]⟩ from rfl] at ht
   subst ht
   have htm : ((s.size : Int) - 1070 - 32).tmod 36 = (((s.size - 1102) % 36 : Nat) : Int) := by
    have h := HZ.out.2
    rw [show (s.size : Int) - 1070 - 32 = ((s.size - 1102 : Nat) : Int) from by omega, Int.tmod_eq_emod_of_nonneg (by omega)]; omega
   by_cases hm : (s.size - 1102) % 36 = 0
   ·have hmb : (((s.size : Int) - 1070 - 32).tmod 36 != 0) = false := by rw [htm, hm]; rfl
    obtain ⟨n, hn⟩ : ∃ n, n = (s.size - 1102) / 36 := ⟨_, rfl⟩
    have hsz : s.size = 1102 + 36 * n := by have := HZ.out.2; omega
    have HN := Lib.hid (And.intro hsz (And.intro hm hn))
    clear htm hm hn hsz
    go_wp2_with fail
    clear hmb hw2 hw3 x1 x2 x3 hof
    go_loopg [4, 5] n (fun gg s4 s5 wr => ∃ j : Nat, j ≤ n ∧ gg = n - j ∧ s5 = .int .i64 (1070 + 36 * j : Nat) ∧ Hid (LdS w wr s4 (rowsOf s j)))
    case atStart =>
     exact ⟨0, Nat.zero_le _, by omega, by go_num, Kd.R_nil _ _ _ _ _, HP8.out⟩
    case round =>
     obtain ⟨j, hj, hgk, rfl, H⟩ := hrel
     have HG := Lib.hid hgk
     have hz5 := HZ.out.1
     have hsz := HN.out.1
     obtain ⟨p, hp⟩ : ∃ p, p = 1070 + 36 * j := ⟨_, rfl⟩
     rw [← hp]
     clear hgk
     by_cases hlt : j < n
     ·have hltb : decide ((p : Int) < (s.size : Int) - 32) = true := by simp; omega
      have hwp : IntKind.i64.wrap ((p : Int) + 32) = (p : Int) + 32 := by rw [IntKind.wrap_i64]; omega
      have hwq : IntKind.i64.wrap ((p : Int) + 36) = (p : Int) + 36 := by rw [IntKind.wrap_i64]; omega
      have y1 := slice_run s p (p + 32) (p : Int) ((p : Int) + 32) rfl (by omega) (by omega) (by omega)
      have y2 := slice_fromz s (p + 32) ((p : Int) + 32) .i64 (by omega) (by omega)
      obtain ⟨y, hy⟩ : ∃ y, y = rowAt s p := ⟨_, rfl⟩
      have hyi : s.extract p (p + 32) = y.id := by rw [hy]; rfl
      have hyp : ((valB s (p + 32) : Nat) : Int) = y.pos := by rw [hy]; rfl
      have hvc := fun w => value_calls (s.extract (p + 32) s.size) w (by rw [ByteArray.size_extract]; omega)
      rw [valB_tail s (p + 32) (by omega), hyp] at hvc
      rw [hyi] at y1
      obtain ⟨X, hX⟩ : ∃ X, X = s.extract (p + 32) s.size := ⟨_, rfl⟩
      rw [← hX] at hvc y2
      have HY := Lib.hid (And.intro hy (And.intro hp (And.intro hlt hj)))
      clear hX hy hp hyi hyp hz5 hsz hlt hj
      go_upto_region 11 with fail
      have HL := Lib.hid (show j ≤ 5000 by have := HN.out.1; have := HZ.out.1; have := HY.out.2.2.1; omega)
      have HTOK := Lib.hid True.intro
      go_region_held3 (fun _ => True) (trivial) (first
       | (have hh := HTOK.out; clear hh HTOK; go_at_call 81; refine (hvc _).mono ?_; rintro e w6 ⟨rfl, hb6⟩; have HQ8 := Lib.hid (show Below wr.heap.size wr w6 from ⟨hb6.os, hb6.tape, hb6.output, hb6.size, hb6.block⟩); clear hb6)
       | (refine ld_step ((H.out.next HQ8.out).alloc _) (by rfl) (.tmp 44) (.tmp 56) rfl _ _ y rfl rfl (blk_new _ _) (by rw [z0h]; exact HL.out) ?_; intro v4 w4 hs4; have HP9 := Lib.hid hs4; clear hs4))
      all_goals go_wp2_with fail
      all_goals (
       go_roundg (n - (j + 1))
       case measure => have := HG.out; have := HY.out.2.2.1; omega
       case rel =>
        refine ⟨j + 1, by have := HY.out.2.2.1; omega, rfl, by rw [HY.out.2.1]; refine int_eq ?_; omega, ?_⟩
        unfold Hid
        rw [rowsOf_step, ← HY.out.2.1, ← HY.out.1]
        exact HP9.out)
     ·obtain rfl : j = n := by omega
      have hltb : decide ((p : Int) < (s.size : Int) - 32) = false := by simp; omega
      have hrl : (rowsOf s j).length = j := z0h s j
      obtain ⟨A4, c4, e4, _, hC⟩ := Kd.R_reads H.out.r
      rw [hrl] at e4 hC
      rw [e4]
      have z1 := slice_run s 14 46 14 46 rfl rfl (by omega) (by omega)
      have hpk : (s.extract 14 46).size = 32 := by rw [ByteArray.size_extract]; omega
      have hrw : rowsL s = rowsOf s j := by unfold rowsL; rw [← HN.out.2.2]
      have hnw := fun w (h : Kd.C spotK w A4 j (rowsOf s j)) => ixNew_calls (s.extract 14 46) (rowsOf s j) A4 c4 w (by rw [hrl]; exact h) (by omega) hpk
      rw [hrl] at hnw
      obtain ⟨P, hP⟩ : ∃ P, P = s.extract 14 46 := ⟨_, rfl⟩
      rw [← hP] at z1 hpk hnw
      have HP := Lib.hid (And.intro hP (And.intro hpk (And.intro hrw (And.intro hC H.out.bel))))
      have HJ := Lib.hid (show j ≤ 2048 by omega)
      clear hP hpk hrw hC e4 hrl hp hz5 hsz hlt hj
      go_wp2_with fail
      refine (hnw _ HP.out.2.2.2.1).mono ?_
      rintro e w2 ⟨hb2, hor⟩
      have H2 := Lib.hid (HP.out.2.2.2.2.trans (hb2.mono HP.out.2.2.2.2.size))
      clear hb2 hnw
      rcases hor with ⟨rfl, hno⟩ | ⟨g, S, rfl, hpm, hst, hgd, hix⟩
      ·have HNO := Lib.hid hno
       clear hno
       go_wp2_with fail
       go_ret2
       refine ⟨H2.out, .inl ⟨6, rfl, .inr (.inr ⟨by have := HZ.out.2; omega, HS.out, fun S g => HNO.out ?_, rfl⟩)⟩⟩
       rw [← HP.out.2.2.1]
       exact okP_of g.perm g.strict g.good
      ·have hSl : S.length = j := by rw [hpm.length_eq, z0h]
       have hSg : ∀ x ∈ S, goodS x := fun x hx => hgd x (hpm.mem_iff.1 hx)
       have hen := fun w (h : IxV w g P S) => enc_calls P S g w h (by rw [hSl]; exact HJ.out) HP.out.2.1 hSg
       obtain ⟨R, hR⟩ : ∃ R, R = sb (encI P S ++ sha (encI P S)) := ⟨_, rfl⟩
       rw [← hR] at hen
       have HX := Lib.hid hix
       have HG2 := Lib.hid (And.intro hpm (And.intro hst (And.intro hgd hR)))
       clear hSl hSg hR hix hpm hst hgd
       go_wp2_with fail
       refine (hen _ HX.out).mono ?_
       rintro e w3 ⟨rfl, hb3⟩
       have H3 := Lib.hid (And.intro (H2.out.trans (hb3.mono H2.out.size)) (HX.out.below hb3))
       clear hb3 hen
       by_cases hRs : R = s
       ·have HRS := Lib.hid hRs
        have heq : (R.toList == s.toList) = true := by rw [hRs]; exact beq_self_eq_true _
        have heq1 : R.toList = s.toList := by rw [hRs]
        clear hRs
        go_wp2_with fail
        go_ret2
        refine ⟨H3.out.1, .inr ⟨g, S, rfl, ⟨by have := HZ.out.2; omega, HS.out, HT.out, HN.out.2.1, by rw [HP.out.2.2.1]; exact HG2.out.1, HG2.out.2.1, by rw [HP.out.2.2.1]; exact HG2.out.2.2.1, by rw [← HP.out.1, ← HG2.out.2.2.2]; exact HRS.out⟩, by rw [← HP.out.1]; exact H3.out.2⟩⟩
       ·have HRS := Lib.hid hRs
        have heq : (R.toList == s.toList) = false := neq_toL hRs
        have heq1 : ¬ (R.toList = s.toList) := fun e => hRs (by rw [toL, toL] at e; exact ByteArray.ext (Array.ext' e))
        clear hRs
        go_wp2_with fail
        go_ret2
        refine ⟨H3.out.1, .inl ⟨6, rfl, .inr (.inr ⟨by have := HZ.out.2; omega, HS.out, fun S2 g2 => HRS.out ?_, rfl⟩)⟩⟩
        have e : S2 = S := by
         have hp2 := g2.perm
         rw [HP.out.2.2.1] at hp2
         exact strict_unique (hp2.trans HG2.out.1.symm) g2.strict HG2.out.2.1
        have h2 := g2.enc
        rw [e, ← HP.out.1, ← HG2.out.2.2.2] at h2
        exact h2
   ·have hmb : (((s.size : Int) - 1070 - 32).tmod 36 != 0) = true := by rw [htm]; simp; omega
    have HM := Lib.hid hm
    clear htm hm
    go_wp2_with fail
    go_ret2
    exact ⟨HP8.out, .inl ⟨6, rfl, .inr (.inr ⟨by have := HZ.out.2; omega, HS.out, fun S g => HM.out g.mul, rfl⟩)⟩⟩
  ·have hne : (I.toList == (ByteArray.mk #[112, 111, 108, 108, 97, 114, 100, 32, 105, 110, 100, 101, 120, 10]).toList) = false := neq_toL ht
   have hne1 : ¬ (I.toList = [112, 111, 108, 108, 97, 114, 100, 32, 105, 110, 100, 101, 120, 10]) := fun e => ht (by rw [toL] at e; exact ByteArray.ext (Array.ext' e))
   have HT := Lib.hid ht
   clear ht
   go_wp2_with fail
   go_ret2
   exact ⟨HP8.out, .inl ⟨6, rfl, .inr (.inr ⟨by have := HZ.out.2; omega, HS.out, fun S g => HT.out (HI.out.trans g.tit), rfl⟩)⟩⟩
 ·have hne := neq_toL hsum
  have HN := Lib.hid hsum
  simp only [hne, Bool.not_false]
  clear hsum hne
  go_wp2_with fail
  go_ret2
  exact ⟨HP8.out, .inl ⟨80, rfl, .inr (.inl ⟨by have := HZ.out.2; omega, fun h => HN.out (HOK.out.1.1 h), rfl⟩)⟩⟩
end Go.Proofs.Ytcfdplmapdgfmaa.Mine
