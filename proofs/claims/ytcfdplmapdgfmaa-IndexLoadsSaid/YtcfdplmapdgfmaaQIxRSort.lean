import Derived.Test.YtcfdplmapdgfmaaQIxFind2
import Derived.Test.YtcfdplmapdgfmaaQIxCut
set_option linter.unusedVariables false
set_option linter.unusedSimpArgs false
namespace Go.Proofs.Ytcfdplmapdgfmaa.Mine
open List renaming setIfInBounds_toArray → q1, set_cons_zero → q2, set_cons_succ → q3
open Go.RowKit Go.Proofs.YtcfdplmapdgfmaaW.PrintWords
theorem less_cmp : ∀ a b : List UInt8, Op.bytesLess a b = decide (Lib.compareBytes a b < 0)
 | [], [] => rfl
 | _ :: _, [] => rfl
 | [], _ :: _ => rfl
 | a :: la, b :: lb => by
  rw [Op.bytesLess, Lib.compareBytes]
  by_cases h1 : a < b
  ·rw [if_pos h1]; simp [h1]
  ·rw [if_neg h1]
   by_cases h2 : b < a
   ·rw [if_pos h2]
    have : a ≠ b := fun e => by subst e; exact UInt8.lt_irrefl _ h2
    simp [h1, this]
   ·rw [if_neg h2]
    have : a = b := UInt8.le_antisymm (UInt8.not_lt.1 h2) (UInt8.not_lt.1 h1)
    subst this
    rw [less_cmp la lb]; simp
theorem less_id (a b : ByteArray) : Op.bytesLess a.toList b.toList = decide (cmpI a b < 0) := by rw [less_cmp, toL, toL]; rfl
@[local go_sem] theorem geq_strings (t : TypeId) (a b : ByteArray) : binOp .geq t (.string a) (.string b) = pure (.bool !(Op.bytesLess a.toList b.toList)) := by simp [binOp, Op.stringOp]
theorem C_takeO {w : World} {A : Option Addr} {S : List SpotP} (h : Kd.C spotK w A S.length S) (a : Nat) (ha : a ≤ S.length) : Kd.C spotK w A a (S.take a) := by
 refine ⟨by rw [List.length_take]; omega, by have := h.2.1; omega, fun h0 => ?_⟩
 obtain ⟨ad, hA, hc⟩ := h.2.2 (by omega)
 refine ⟨ad, hA, fun j p hj => hc j p ?_⟩
 rw [List.getElem?_take] at hj
 split at hj
 ·exact hj
 ·cases hj
theorem R_empty2 (w : World) (o : Obj) (e : Nat) (base : Nat) (hb : base ≤ w.heap.size) : Kd.R spotK e ((w.alloc o).alloc (.cells #[] e)) base (fun _ => True) (.slice (some ⟨w.heap.size + 1, 0, none⟩) 0 0) [] := by
 have h := Kd.R_empty spotK e (w.alloc o) base (by simp; omega)
 rwa [show (w.alloc o).heap.size = w.heap.size + 1 from by simp] at h
structure SrtS (w W : World) (v : Value) (X : List SpotP) : Prop where
 r : Kd.R spotK 77 W w.heap.size (fun _ => True) v X
 bel : Below w.heap.size w W
section
variable {w W : World} {v : Value} {X : List SpotP}
theorem SrtS.alloc (h : SrtS w W v X) (o : Obj) : SrtS w (W.alloc o) v X := ⟨Kd.R_alloc h.r o, z01 h.bel o⟩
variable {ops : Array Oper} {o : Oper} {a : Act} {Q : Exit → Act → World → Prop} {Kc : Act → World → Prop}
theorem srt_step (hS : SrtS w W v X) (hw : Region.wanted o (yielded ops a.tmps) = true) (s x : Operand) (ho : o.op = .call { callee := .builtin .append, args := #[s, x], argTypes := #[65, 65] })
  (A : Option Addr) (m c : Nat) (Y : List SpotP) (hs : a.eval s = v) (hx : a.eval x = .slice A m c) (hC : Kd.C spotK W A m Y) (hl : X.length + m ≤ 100000)
  (h : ∀ v1 w1, SrtS w w1 v1 (X ++ Y) → (∀ g2 o2, some g2 ≠ v.ownBlock → W.heap[g2]? = some o2 → w1.heap[g2]? = some o2) → Kc (a.put o.dst v1) w1) :
  if Region.wanted o (yielded ops a.tmps) = true then Oper.wp Try.prog o a W Kc Q else Kc (a.put o.dst undef) W := by
 refine Kd.R_append_rows_step spotK (Rr := spotK.K W) (w0 := w) w.heap.size hw s x 65 77 (.agg #[.string ⟨#[]⟩, .int .i64 0]) 24 ho Try.underlying65 info_rspot rfl (by decide) (by omega) v X Y A m c (fun _ => True) (fun _ => False) hs hx hS.r hC (fun x cs hr => by rw [spot_inv hr]; exact spot_M _ _ _ _) (fun _ hk => hk.elim) (fun _ _ => trivial) hS.bel hS.bel.size (by omega) ?_
 intro v1 w1 hr hb hgr hat
 exact h v1 w1 ⟨hr, hb⟩ fun g2 o2 h2 h3 => blk_grown h3 hgr h2
end
theorem C_one {W : World} {g : Nat} {t : TypeId} {x : SpotP} (h : W.heap[g]? = some (.cells #[.string x.id, .int .i64 x.pos] t (0, 0))) : Kd.C spotK W (some ⟨g, 0, none⟩) 1 [x] := by
 obtain ⟨h1, h2, h3⟩ := spot_row h
 refine ⟨h1, h2, fun h0 => ?_⟩
 obtain ⟨ad, hA, hc⟩ := h3 h0
 refine ⟨ad, hA, fun j p hj => ?_⟩
 obtain ⟨cs, e1, e2, e3⟩ := hc j p hj
 exact ⟨cs, e1, by rw [e2]; exact spotK.K_of_M (spot_M W 0 (fun _ => True) p), e3⟩
def RSortOut (l : List SpotP) (w : World) (e : Ending) (w' : World) : Prop := Below w.heap.size w w' ∧
 ((e = .returned (.tuple #[.slice none 0 0, .int .i64 1]) ∧ ¬ OkP l) ∨
  ∃ A c S, e = .returned (.tuple #[.slice A S.length c, .int .i64 0]) ∧ S.Perm l ∧ Strict S ∧ (∀ x ∈ l, goodS x) ∧ Kd.C spotK w' A S.length S)
theorem strict_put {O : List SpotP} {y : SpotP} {p : Nat} (hp : p ≤ O.length) (hs : Strict O) (hlo : ∀ j (h : j < O.length), j < p → cmpI O[j].id y.id < 0) (hhi : ∀ j (h : j < O.length), p ≤ j → cmpI y.id O[j].id < 0) : Strict (O.take p ++ [y] ++ O.drop p) := by
 rw [Strict, List.append_assoc, List.pairwise_append, List.singleton_append, List.pairwise_cons]
 have hd : ∀ b ∈ O.drop p, cmpI y.id b.id < 0 := fun b hb => by
  obtain ⟨j, hj, rfl⟩ := List.getElem_of_mem hb
  rw [List.getElem_drop]
  exact hhi (p + j) (by rw [List.length_drop] at hj; omega) (by omega)
 have ht : ∀ b ∈ O.take p, cmpI b.id y.id < 0 := fun b hb => by
  obtain ⟨j, hj, rfl⟩ := List.getElem_of_mem hb
  rw [List.length_take] at hj
  rw [List.getElem_take]
  exact hlo j (by omega) (by omega)
 refine ⟨hs.take, ⟨hd, hs.drop⟩, fun a ha b hb => ?_⟩
 rcases List.mem_cons.1 hb with rfl | hb
 ·exact ht a ha
 ·exact z0f _ _ _ (ht a ha) (hd b hb)
theorem perm_put {O l : List SpotP} {y : SpotP} (p : Nat) (h : O.Perm l) : (O.take p ++ [y] ++ O.drop p).Perm (l ++ [y]) := by
 have h1 : (O.take p ++ [y] ++ O.drop p).Perm (y :: (O.take p ++ O.drop p)) := by
  rw [List.append_assoc]
  exact List.perm_middle
 rw [List.take_append_drop] at h1
 exact h1.trans ((h.cons y).trans (List.perm_append_singleton y l).symm)
set_option maxRecDepth 100000 in
set_option maxHeartbeats 1000000 in
theorem rsort_calls (pack : ByteArray) (l : List SpotP) (A : Option Addr) (c : Nat) (w : World) (hC : Kd.C spotK w A l.length l) (hl : l.length ≤ 2048) (hp : pack.size = 32) :
  Calls Try.prog 30 #[.string pack, .slice A l.length c] w fun e w' => RSortOut l w e w' := by
 have hp1 : ((pack.size : Int) != 32) = false := by rw [hp]; rfl
 have hl1 : decide ((l.length : Int) > 2048) = false := by simp; omega
 have HC := Lib.hid hC
 clear hC hp
 go_enter Try.func30, Try.ntmps30
 go_wp2_with fail
 go_loopg [6, 7] l.length (fun gg s6 s7 wr => ∃ (i : Nat) (O : List SpotP), i ≤ l.length ∧ gg = l.length - i ∧ s7 = .int .i64 i ∧ Hid (Kd.R spotK 77 wr w.heap.size (fun _ => True) s6 O) ∧ Hid (Below w.heap.size w wr) ∧ Hid (O.Perm (l.take i)) ∧ Hid (Strict O) ∧ Hid (∀ x ∈ l.take i, goodS x))
 case atStart =>
  exact ⟨0, [], Nat.zero_le _, by omega, by go_num, Kd.R_empty _ _ _ _ (Nat.le_refl _), z01 (Below.refl _ _) _, by unfold Hid; rw [List.take_zero], List.Pairwise.nil, by unfold Hid; rw [List.take_zero]; intro x hx; simp at hx⟩
 case round =>
  obtain ⟨i, O, hi, hgk, rfl, HR, HB, HP, HST, HGD⟩ := hrel
  have HG := Lib.hid hgk
  clear hgk
  have hOl : O.length = i := by rw [HP.out.length_eq, List.length_take]; omega
  obtain ⟨A6, c6, e6, hc6, hC6⟩ := Kd.R_reads HR.out
  rw [hOl] at e6 hc6
  by_cases hlt : i < l.length
  ·have hltb : decide ((i : Int) < (l.length : Int)) = true := by simp; omega
   obtain ⟨x, rfl, k0, k1⟩ := spotC_at (Kd.z07 HC.out HB.out) i hlt
   obtain ⟨y, hy⟩ : ∃ y, y = l[i] := ⟨_, rfl⟩
   rw [← hy] at k0 k1
   have HY := Lib.hid hy
   have hyl : y ∈ l := by rw [hy]; exact List.getElem_mem hlt
   have q1 : (i : Int) < (l.length : Int) := by omega
   have HC6 := Lib.hid (And.intro hC6 hOl)
   rw [e6] at HR ⊢
   clear hy e6 hC6 hOl
   by_cases hz : y.id.size = 32
   ·have z1 : ((y.id.size : Int) != 32) = false := by rw [hz]; rfl
    by_cases hn : y.pos < 0
    ·have z2 : decide (y.pos < 0) = true := decide_eq_true hn
     go_wp2_with fail
     go_ret2
     exact ⟨HB.out, .inl ⟨rfl, fun h => by have := h.1 y hyl; exact absurd this.2.1 (by omega)⟩⟩
    ·have z2 : decide (y.pos < 0) = false := decide_eq_false hn
     by_cases hm : y.pos > 4194304
     ·have z3 : decide (y.pos > 4194304) = true := decide_eq_true hm
      go_wp2_with fail
      go_ret2
      exact ⟨HB.out, .inl ⟨rfl, fun h => by have := h.1 y hyl; exact absurd this.2.2 (by omega)⟩⟩
     ·have z3 : decide (y.pos > 4194304) = false := decide_eq_false hm
      have HGY := Lib.hid (show goodS y from ⟨hz, by omega, by omega⟩)
      clear hn hm hz
      go_wp2_with fail
      clear z1 z2 z3
      obtain ⟨W0, rfl⟩ : ∃ W, W = wr := ⟨_, rfl⟩
      go_loopg [8] i (fun gg s8 wq => ∃ (p : Nat), p ≤ i ∧ gg = p ∧ s8 = .int .i64 p ∧ Hid (∀ j (h : j < O.length), p ≤ j → cmpI y.id O[j].id < 0) ∧ Hid (Below W0.heap.size W0 wq))
      case atStart =>
       exact ⟨i, Nat.le_refl _, rfl, rfl, fun j h h1 => by have := HC6.out.2; omega, Below.refl _ _⟩
      case round =>
       obtain ⟨p, hpi, hgp, rfl, HHi, HBQ⟩ := hrel
       have HGP := Lib.hid hgp
       clear hgp
       rcases Nat.eq_zero_or_pos p with h0 | h0
       ·have p0 : decide ((p : Int) > 0) = false := by simp; omega
        have p00 : ¬ (0 < p) := by omega
        have HLO := Lib.hid (show ∀ j (h : j < O.length), j < p → cmpI O[j].id y.id < 0 from fun j h h1 => by omega)
        clear h0
        go_wp2_with fail
        go_quiet (fail)
        go_upto_region 16 with fail
        clear p0
        obtain ⟨V2, hV2⟩ : ∃ W, W = wr.drewN nq := ⟨_, rfl⟩
        have hB2 : Below W0.heap.size W0 V2 := by rw [hV2]; exact z0a HBQ.out _
        rw [← hV2]
        have HB2 := Lib.hid hB2
        have g0 := z00 hB2 k0
        have g1 := z00 hB2 k1
        have hC2 := Kd.z07 HC6.out.1 hB2
        have hCt := C_takeO hC2 p (by rw [HC6.out.2]; exact hpi)
        have hCd : ∀ A', A' = (if c6 - p = 0 then A6 else A6.map fun x => x.add (p * 2)) → Kd.C spotK V2 A' (i - p) (O.drop p) := fun A' e => by
         have hd : (O.drop p).length = i - p := by rw [List.length_drop, HC6.out.2]
         by_cases h0 : c6 - p = 0
         ·exact ⟨hd, by omega, fun h => by omega⟩
         ·rw [if_neg h0] at e
          have h := C_subO hC2 p i hpi (by rw [HC6.out.2]; exact Nat.le_refl _)
          rw [List.take_of_length_le (by omega)] at h
          rw [e]; exact h
        have SA := Lib.hid (show SrtS V2 (V2.drew.alloc (.cells #[] 77)) (.slice (some ⟨V2.heap.size, 0, none⟩) 0 0) [] from ⟨Kd.R_empty spotK 77 V2.drew V2.heap.size (Nat.le_refl _), z01 (z03 (Below.refl _ _)) _⟩)
        have SB := Lib.hid (show SrtS V2 ((V2.drew.alloc (.cells #[.string y.id, .int .i64 y.pos] 77)).alloc (.cells #[] 77)) (.slice (some ⟨V2.heap.size + 1, 0, none⟩) 0 0) [] from ⟨R_empty2 V2.drew _ 77 V2.heap.size (Nat.le_refl _), z01 (z01 (z03 (Below.refl _ _)) _) _⟩)
        have HGC := Lib.hid (And.intro g0 g1)
        have HCT := Lib.hid (And.intro hCt hCd)
        have hpc : p ≤ c6 := by omega
        have q2 : (p : Int) ≤ (i : Int) := by omega
        have q3 : (p : Int) ≤ (c6 : Int) := by omega
        have HOL := Lib.hid (show (O.take p).length ≤ 5000 ∧ O.length ≤ 5000 from ⟨by rw [List.length_take, HC6.out.2]; omega, by rw [HC6.out.2]; omega⟩)
        clear hV2 hB2 hC2 hCt hCd
        have HCD := Lib.hid (HCT.out.2 (if c6 = p then A6 else A6.map fun x => x.add (p * 2)) (by by_cases h : c6 = p <;> simp [h] <;> omega))
        go_region_held3 (fun w' => w'.cell? (x.add (i * 2)) = some (.string y.id) ∧ w'.cell? ⟨(x.add (i * 2)).block, (x.add (i * 2)).off + 1, none⟩ = some (.int .i64 y.pos))
         (first | exact ⟨z00 HS3.out.bel HGC.out.1, z00 HS3.out.bel HGC.out.2⟩ | exact ⟨z00 HS2.out.bel HGC.out.1, z00 HS2.out.bel HGC.out.2⟩ | exact ⟨z00 HS1.out.bel HGC.out.1, z00 HS1.out.bel HGC.out.2⟩ | exact ⟨z00 (HS1.out.alloc _).bel HGC.out.1, z00 (HS1.out.alloc _).bel HGC.out.2⟩ | exact ⟨z00 (z03 (Below.refl _ _)) HGC.out.1, z00 (z03 (Below.refl _ _)) HGC.out.2⟩ | exact ⟨z00 (z01 (z03 (Below.refl _ _)) _) HGC.out.1, z00 (z01 (z03 (Below.refl _ _)) _) HGC.out.2⟩ | exact ⟨z00 (z01 (z01 (z03 (Below.refl _ _)) _) _) HGC.out.1, z00 (z01 (z01 (z03 (Below.refl _ _)) _) _) HGC.out.2⟩)
         (first
          | (have hh := HS2.out; refine srt_step HS2.out (by rfl) (.tmp 87) (.tmp 90) rfl _ _ _ (O.drop p) rfl rfl (Kd.z07 HCD.out HS2.out.bel) (by simp only [List.length_append, List.length_singleton, List.nil_append]; have := HOL.out.1; omega) ?_; intro v3 w3 hs3 hk3; have HS3 := Lib.hid hs3; clear hs3 hk3 hh)
          | (have hh := HS1.out; refine srt_step (by first | exact HS1.out | exact HS1.out.alloc _) (by rfl) (.tmp 81) (.tmp 86) rfl _ 1 _ [y] rfl rfl (C_one (by first | exact blk_new _ _ | exact HK1.out _ _ (fun e => absurd (Option.some.inj e) (Nat.succ_ne_self _)) (blk_new2 V2.drew _ _) | exact HK1.out _ _ (fun e => absurd (Option.some.inj e) (Nat.ne_of_lt (Nat.lt_succ_self _))) (blk_alloc (blk_new _ _) _))) (by simp only [List.nil_append]; have := HOL.out.1; omega) ?_; intro v2 w2 hs2 hk2; have HS2 := Lib.hid hs2; clear hs2 hk2 hh)
          | (refine srt_step (w := V2) (by first | exact SA.out | exact SA.out.alloc _ | exact SB.out) (by rfl) (.tmp 77) (.tmp 80) rfl A6 p c6 (O.take p) rfl rfl (by first | exact Kd.z07 HCT.out.1 SA.out.bel | exact Kd.z07 HCT.out.1 (SA.out.alloc _).bel | exact Kd.z07 HCT.out.1 SB.out.bel) (by simp; omega) ?_; intro v1 w1 hs1 hk1; have HS1 := Lib.hid hs1; have HK1 := Lib.hid hk1; clear hs1 hk1))
        all_goals go_wp2_with fail
        all_goals (
         go_roundg (l.length - (i + 1))
         case measure => have := HG.out; omega
         case rel =>
          have hO : [] ++ O.take p ++ [y] ++ O.drop p = O.take p ++ [y] ++ O.drop p := by rw [List.nil_append]
          have hli : l.take (i + 1) = l.take i ++ [y] := by rw [List.take_succ_eq_append_getElem hlt, HY.out]
          have hr3 := HS3.out.r
          rw [hO] at hr3
          have hB3 := HB.out.trans ((HB2.out.trans (HS3.out.bel.mono HB2.out.size)).mono HB.out.size)
          refine ⟨i + 1, O.take p ++ [y] ++ O.drop p, by omega, rfl, by go_num, Kd.R_lower hr3 (HB.out.trans (HB2.out.mono HB.out.size)).size, hB3, ?_, strict_put (by rw [HC6.out.2]; exact hpi) HST.out HLO.out HHi.out, ?_⟩
          ·unfold Hid; rw [hli]; exact perm_put p HP.out
          ·unfold Hid; rw [hli]; intro z hz
           rcases List.mem_append.1 hz with h | h
           ·exact HGD.out z h
           ·rw [List.mem_singleton] at h; rw [h]; exact HGY.out)
       ·have p0 : decide ((p : Int) > 0) = true := by simp; omega
        have hp1 : p - 1 < O.length := by rw [HC6.out.2]; omega
        obtain ⟨x6, rfl, m0, m1⟩ := spotC_at (Kd.z07 HC6.out.1 HBQ.out) (p - 1) hp1
        have n0 := z00 HBQ.out k0
        have n1 := z00 HBQ.out k1
        have z1 : IntKind.i64.wrap ((p : Int) - 1) = (p : Int) - 1 := wrap_at _ (by omega) (by omega)
        have z2 : (0 : Int) ≤ (p : Int) - 1 := by omega
        have z3 : (p : Int) - 1 < (i : Int) := by omega
        have z4 : ((p : Int) - 1).toNat = p - 1 := by omega
        obtain ⟨P, hP⟩ : ∃ P, P = O[p - 1].id := ⟨_, rfl⟩
        rw [← hP] at m0
        clear m1
        by_cases hc : cmpI P y.id < 0
        ·have hbl : Op.bytesLess P.toList y.id.toList = true := by rw [less_id]; exact decide_eq_true hc
         have HLO := Lib.hid (show ∀ j (h : j < O.length), j < p → cmpI O[j].id y.id < 0 from fun j h h1 => by
          rcases Nat.lt_or_ge j (p - 1) with h2 | h2
          ·exact z0f _ _ _ (List.pairwise_iff_getElem.1 HST.out j (p - 1) h hp1 h2) (by rw [← hP]; exact hc)
          ·have : j = p - 1 := by omega
           subst this
           rw [← hP]; exact hc)
         clear hP hc
         go_wp2_with fail
         go_quiet (fail)
         go_upto_region 16 with fail
         clear p0 z1 z2 z3 z4 hbl m0 n0 n1
         obtain ⟨V2, hV2⟩ : ∃ W, W = wr.drewN nq := ⟨_, rfl⟩
         have hB2 : Below W0.heap.size W0 V2 := by rw [hV2]; exact z0a HBQ.out _
         rw [← hV2]
         have HB2 := Lib.hid hB2
         have g0 := z00 hB2 k0
         have g1 := z00 hB2 k1
         have hC2 := Kd.z07 HC6.out.1 hB2
         have hCt := C_takeO hC2 p (by rw [HC6.out.2]; exact hpi)
         have hCd : ∀ A', A' = (if c6 - p = 0 then (some x6) else (some x6).map fun x => x.add (p * 2)) → Kd.C spotK V2 A' (i - p) (O.drop p) := fun A' e => by
          have hd : (O.drop p).length = i - p := by rw [List.length_drop, HC6.out.2]
          by_cases h0 : c6 - p = 0
          ·exact ⟨hd, by omega, fun h => by omega⟩
          ·rw [if_neg h0] at e
           have h := C_subO hC2 p i hpi (by rw [HC6.out.2]; exact Nat.le_refl _)
           rw [List.take_of_length_le (by omega)] at h
           rw [e]; exact h
         have SA := Lib.hid (show SrtS V2 (V2.drew.alloc (.cells #[] 77)) (.slice (some ⟨V2.heap.size, 0, none⟩) 0 0) [] from ⟨Kd.R_empty spotK 77 V2.drew V2.heap.size (Nat.le_refl _), z01 (z03 (Below.refl _ _)) _⟩)
         have SB := Lib.hid (show SrtS V2 ((V2.drew.alloc (.cells #[.string y.id, .int .i64 y.pos] 77)).alloc (.cells #[] 77)) (.slice (some ⟨V2.heap.size + 1, 0, none⟩) 0 0) [] from ⟨R_empty2 V2.drew _ 77 V2.heap.size (Nat.le_refl _), z01 (z01 (z03 (Below.refl _ _)) _) _⟩)
         have HGC := Lib.hid (And.intro g0 g1)
         have HCT := Lib.hid (And.intro hCt hCd)
         have hpc : p ≤ c6 := by omega
         have q2 : (p : Int) ≤ (i : Int) := by omega
         have q3 : (p : Int) ≤ (c6 : Int) := by omega
         have HOL := Lib.hid (show (O.take p).length ≤ 5000 ∧ O.length ≤ 5000 from ⟨by rw [List.length_take, HC6.out.2]; omega, by rw [HC6.out.2]; omega⟩)
         clear hV2 hB2 hC2 hCt hCd
         have HCD := Lib.hid (HCT.out.2 (if c6 = p then (some x6) else (some x6).map fun x => x.add (p * 2)) (by by_cases h : c6 = p <;> simp [h] <;> omega))
         go_region_held3 (fun w' => w'.cell? (x.add (i * 2)) = some (.string y.id) ∧ w'.cell? ⟨(x.add (i * 2)).block, (x.add (i * 2)).off + 1, none⟩ = some (.int .i64 y.pos))
          (first | exact ⟨z00 HS3.out.bel HGC.out.1, z00 HS3.out.bel HGC.out.2⟩ | exact ⟨z00 HS2.out.bel HGC.out.1, z00 HS2.out.bel HGC.out.2⟩ | exact ⟨z00 HS1.out.bel HGC.out.1, z00 HS1.out.bel HGC.out.2⟩ | exact ⟨z00 (HS1.out.alloc _).bel HGC.out.1, z00 (HS1.out.alloc _).bel HGC.out.2⟩ | exact ⟨z00 (z03 (Below.refl _ _)) HGC.out.1, z00 (z03 (Below.refl _ _)) HGC.out.2⟩ | exact ⟨z00 (z01 (z03 (Below.refl _ _)) _) HGC.out.1, z00 (z01 (z03 (Below.refl _ _)) _) HGC.out.2⟩ | exact ⟨z00 (z01 (z01 (z03 (Below.refl _ _)) _) _) HGC.out.1, z00 (z01 (z01 (z03 (Below.refl _ _)) _) _) HGC.out.2⟩)
          (first
           | (have hh := HS2.out; refine srt_step HS2.out (by rfl) (.tmp 87) (.tmp 90) rfl _ _ _ (O.drop p) rfl rfl (Kd.z07 HCD.out HS2.out.bel) (by simp only [List.length_append, List.length_singleton, List.nil_append]; have := HOL.out.1; omega) ?_; intro v3 w3 hs3 hk3; have HS3 := Lib.hid hs3; clear hs3 hk3 hh)
           | (have hh := HS1.out; refine srt_step (by first | exact HS1.out | exact HS1.out.alloc _) (by rfl) (.tmp 81) (.tmp 86) rfl _ 1 _ [y] rfl rfl (C_one (by first | exact blk_new _ _ | exact HK1.out _ _ (fun e => absurd (Option.some.inj e) (Nat.succ_ne_self _)) (blk_new2 V2.drew _ _) | exact HK1.out _ _ (fun e => absurd (Option.some.inj e) (Nat.ne_of_lt (Nat.lt_succ_self _))) (blk_alloc (blk_new _ _) _))) (by simp only [List.nil_append]; have := HOL.out.1; omega) ?_; intro v2 w2 hs2 hk2; have HS2 := Lib.hid hs2; clear hs2 hk2 hh)
           | (refine srt_step (w := V2) (by first | exact SA.out | exact SA.out.alloc _ | exact SB.out) (by rfl) (.tmp 77) (.tmp 80) rfl (some x6) p c6 (O.take p) rfl rfl (by first | exact Kd.z07 HCT.out.1 SA.out.bel | exact Kd.z07 HCT.out.1 (SA.out.alloc _).bel | exact Kd.z07 HCT.out.1 SB.out.bel) (by simp; omega) ?_; intro v1 w1 hs1 hk1; have HS1 := Lib.hid hs1; have HK1 := Lib.hid hk1; clear hs1 hk1))
         all_goals go_wp2_with fail
         all_goals (
          go_roundg (l.length - (i + 1))
          case measure => have := HG.out; omega
          case rel =>
           have hO : [] ++ O.take p ++ [y] ++ O.drop p = O.take p ++ [y] ++ O.drop p := by rw [List.nil_append]
           have hli : l.take (i + 1) = l.take i ++ [y] := by rw [List.take_succ_eq_append_getElem hlt, HY.out]
           have hr3 := HS3.out.r
           rw [hO] at hr3
           have hB3 := HB.out.trans ((HB2.out.trans (HS3.out.bel.mono HB2.out.size)).mono HB.out.size)
           refine ⟨i + 1, O.take p ++ [y] ++ O.drop p, by omega, rfl, by go_num, Kd.R_lower hr3 (HB.out.trans (HB2.out.mono HB.out.size)).size, hB3, ?_, strict_put (by rw [HC6.out.2]; exact hpi) HST.out HLO.out HHi.out, ?_⟩
           ·unfold Hid; rw [hli]; exact perm_put p HP.out
           ·unfold Hid; rw [hli]; intro z hz
            rcases List.mem_append.1 hz with h | h
            ·exact HGD.out z h
            ·rw [List.mem_singleton] at h; rw [h]; exact HGY.out)
        ·have hbl : Op.bytesLess P.toList y.id.toList = false := by rw [less_id]; exact decide_eq_false hc
         by_cases heq : P = y.id
         ·have HPe := Lib.hid (hP.symm.trans heq)
          rw [heq] at m0 hbl
          clear heq hP hc
          go_wp2_with fail
          go_quiet (fail)
          go_wp2_with fail
          go_quiet (fail)
          go_wp2_with fail
          go_ret2
          refine ⟨z0a (z0a (HB.out.trans (HBQ.out.mono HB.out.size)) _) _, .inl ⟨rfl, fun h => ?_⟩⟩
          have hnd := h.2
          have hsub : (l.take (i + 1)).map SpotP.id = (l.map SpotP.id).take (i + 1) := List.map_take
          have hnd2 : ((l.take (i + 1)).map SpotP.id).Nodup := by rw [hsub]; exact List.Nodup.sublist (List.take_sublist _ _) hnd
          rw [List.take_succ_eq_append_getElem hlt, List.map_append, List.nodup_append] at hnd2
          have hm1 : O[p - 1].id ∈ (l.take i).map SpotP.id := List.mem_map.2 ⟨O[p - 1], HP.out.mem_iff.1 (List.getElem_mem hp1), rfl⟩
          exact hnd2.2.2 _ hm1 _ (by rw [← HY.out]; simp) HPe.out
         ·have hneq : (P.toList == y.id.toList) = false := by
           rw [beq_eq_false_iff_ne]
           intro e
           rw [toL, toL] at e
           exact heq (ByteArray.ext (Array.ext' e))
          have HLT := Lib.hid (show cmpI y.id O[p - 1].id < 0 by
           rw [← hP, cmpI_anti]
           have h1 : cmpI P y.id ≠ 0 := fun e => heq ((z0c _ _).1 e)
           omega)
          clear heq hP hc
          go_wp2_with fail
          go_quiet (fail)
          go_wp2_with fail
          go_quiet (fail)
          go_wp2_with fail
          go_roundg (p - 1)
          case measure => have := HGP.out; omega
          case rel =>
           refine ⟨p - 1, by omega, rfl, by go_num, ?_, z0a HBQ.out _⟩
           unfold Hid
           intro j h h1
           rcases Nat.lt_or_ge j p with h2 | h2
           ·have : j = p - 1 := by omega
            subst this
            exact HLT.out
           ·exact HHi.out j h h2
   ·have z1 : ((y.id.size : Int) != 32) = true := by simp; omega
    go_wp2_with fail
    go_ret2
    exact ⟨HB.out, .inl ⟨rfl, fun h => hz (h.1 y hyl).1⟩⟩
  ·obtain rfl : i = l.length := by omega
   have hltb : decide ((l.length : Int) < (l.length : Int)) = false := by simp
   rw [e6]
   have hpp := HP.out
   have hgg := HGD.out
   rw [List.take_length] at hpp hgg
   have HF := Lib.hid (And.intro hpp (And.intro hgg (And.intro hC6 hOl)))
   clear hpp hgg hC6 hOl e6
   go_wp2_with fail
   go_ret2
   exact ⟨HB.out, .inr ⟨A6, c6, O, by rw [HF.out.2.2.2]; rfl, HF.out.1, HST.out, HF.out.2.1, HF.out.2.2.1⟩⟩
end Go.Proofs.Ytcfdplmapdgfmaa.Mine
