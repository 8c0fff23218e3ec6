import Derived.Test.YtcfdplmapdgfmaaQSmA
import Derived.Maps.RangeWalk
set_option linter.unusedVariables false
set_option linter.unusedSimpArgs false
namespace Go.Proofs.Ytcfdplmapdgfmaa.Mine
open List renaming setIfInBounds_toArray → q1, set_cons_zero → q2, set_cons_succ → q3
open Go.RowKit Go.Proofs.YtcfdplmapdgfmaaW.PrintWords
set_option maxRecDepth 100000 in
set_option maxHeartbeats 1000000 in
theorem write_calls (base b : Nat) (v held : List Nat) (many : Nat) (hv : Value) (t : ByteArray) (w : World) (hst : St w base b v held many hv) (hm : many + t.size ≤ 70368744177664) (hh : held.length ≤ many) :
  Calls Try.prog 89 #[.pointer (some ⟨b, 0, none⟩), .string t] w fun e w' => e = .returned (.tuple #[]) ∧ ∃ hv', St w' base b (eat v (held ++ bs t)).1 (eat v (held ++ bs t)).2 (many + t.size) hv' ∧ Below base w w' := by
 obtain ⟨pt, cp, rfl⟩ := hst.form
 have HST := Lib.hid hst
 have hs9 : St (w.setCell ⟨b, 9, none⟩ (.int .u64 ((many : Int) + (t.size : Int)))) base b v held (many + t.size) (.slice pt held.length cp) := by
  have := hst.set9 (many + t.size)
  rwa [Int.natCast_add] at this
 have HS9 := Lib.hid hs9
 clear hs9
 have HH := Lib.hid hh
 have c9 := hst.c9
 have f9 := hst.fr 9
 have f8 := hst.fr 8
 have c8 := hst.c8
 clear hst hh
 obtain ⟨i0, hi0, hz0, hz1, hz2⟩ : ∃ i, Try.prog.info? 5 = some i ∧ i.zero = some (.int .u8 0) ∧ i.size = 1 ∧ i.bytes = 1 := ⟨_, rfl, rfl, rfl, rfl⟩
 have hxs : (u8s held).length + t.size ≤ 140737488355328 := by rw [z0d]; have := HH.out; omega
 have hxm : (u8s held).length + t.size ≤ maxLen := by simp only [maxLen]; omega
 have hbase : Hid (base ≤ (w.setCell ⟨b, 9, none⟩ (.int .u64 ((many : Int) + (t.size : Int)))).heap.size) := by
  have h1 := HST.out.lt
  have h2 := HST.out.low
  unfold Hid
  simp [World.setCell]
  omega
 go_enter Try.func89, Try.ntmps89
 have HI := Lib.hid (And.intro hi0 (And.intro hz0 (And.intro hz1 hz2)))
 clear hi0 hz0 hz1 hz2
 have hcap : base ≤ w.heap.size := by have h1 := HST.out.lt; have h2 := HST.out.low; omega
 have HCAP := Lib.hid hcap
 clear hcap
 go_wp2_with (at_builtin; refine wpList_append_row _ rfl _ _ _ _ rfl base 5 i0 Try.underlying46 Try.underlying9 HI.out.1 HI.out.2.1 HI.out.2.2.1 HI.out.2.2.2 (.slice pt held.length cp) (u8s held) rfl HS9.out.held t rfl hxm hxs hbase.out ?_; intro hv1 w1 hrow1 hgr1 hown1; rw [strCells_u8s, ← u8s_append] at hrow1; have hfm := hrow1.form; rw [z0d] at hfm; obtain ⟨p1, cp1, rfl⟩ := hfm; have c81 : w1.cell? ⟨b, 8, none⟩ = some (.slice pt held.length cp) := (World.cell?_of_block (w := _) (hgr1.block b HS9.out.lt (fun e => HS9.out.apart b e.symm rfl))).trans HS9.out.c8; have f81 : w1.frozen? ⟨b, 8, none⟩ = false := (World.frozen?_of_block (w := _) (hgr1.block b HS9.out.lt (fun e => HS9.out.apart b e.symm rfl))).trans (HS9.out.fr 8); have HROW := Lib.hid hrow1; have HGR := Lib.hid hgr1; have HOWN := Lib.hid hown1; clear hrow1 hgr1 hown1)
 have hs2 : St (w1.setCell ⟨b, 8, none⟩ (.slice p1 (held ++ bs t).length cp1)) base b v (held ++ bs t) (many + t.size) (.slice p1 (held ++ bs t).length cp1) :=
  HS9.out.grow HGR.out HROW.out (by intro x hx; rcases List.mem_append.1 hx with h1 | h1; exact HST.out.bytes x h1; exact bs_lt t x h1) HOWN.out
 have hb2 : Below base w (w1.setCell ⟨b, 8, none⟩ (.slice p1 (held ++ bs t).length cp1)) := by
  refine Below.setCell (p := ⟨b, 8, none⟩) ?_ HST.out.low _
  refine Below.trans (b := w.setCell ⟨b, 9, none⟩ (.int .u64 ((many : Int) + (t.size : Int)))) ((Below.refl _ w).setCell (p := ⟨b, 9, none⟩) HST.out.low _) ?_
  refine (Below.refl base _).grown HGR.out hbase.out fun k hk => (HST.out.held.lt k hk).1
 rw [List.length_append] at hs2 hb2
 have HS2 := Lib.hid hs2
 have HB2 := Lib.hid hb2
 clear hs2 hb2
 obtain ⟨E0, hE0⟩ : ∃ x, x = eat v (held ++ bs t) := ⟨_, rfl⟩
 have HE0 := Lib.hid hE0
 clear hE0
 go_loopg [] (held.length + (bs t).length) (fun k wr => ∃ (v1 p1 : List Nat) (p : Option Addr) (c n : Nat), k = n ∧ Hid (n = p1.length) ∧ Hid (St wr base b v1 p1 (many + t.size) (.slice p n c)) ∧ Hid (eat v1 p1 = E0) ∧ Hid (Below base w wr))
 case atStart =>
  exact ⟨v, held ++ bs t, p1, cp1, _, rfl, by unfold Hid; simp, HS2.out, HE0.out.symm, HB2.out⟩
 case round =>
  clear c8 c9 f8 f9 c81 f81
  obtain ⟨v1, q1, p, c, n, hk, HN, HS, HE, HB⟩ := hrel
  replace hk := hk.symm; subst hk
  have hc8 := HS.out.c8
  by_cases h64 : 64 ≤ n
  ·have hb1 : decide (64 ≤ (n : Int)) = true := by simp; omega
   obtain ⟨g, off, c', he, hnc, hcm, hgb, hbg, hg, hcl⟩ := HS.out.filled (by rw [← HN.out]; omega)
   rw [← HN.out] at he hnc
   cases he
   have HCL := Lib.hid hcl
   clear hcl
   obtain ⟨a0, a1, a2, a3, a4, a5, a6, a7, rfl⟩ := list8 v1 HS.out.len
   have x0 := HS.out.cellv 0 (by omega)
   have x1 := HS.out.cellv 1 (by omega)
   have x2 := HS.out.cellv 2 (by omega)
   have x3 := HS.out.cellv 3 (by omega)
   have x4 := HS.out.cellv 4 (by omega)
   have x5 := HS.out.cellv 5 (by omega)
   have x6 := HS.out.cellv 6 (by omega)
   have x7 := HS.out.cellv 7 (by omega)
   simp only [List.getD_cons_zero, List.getD_cons_succ] at x0 x1 x2 x3 x4 x5 x6 x7
   have P3 : Hid ((q1.take 64).length = 64) := by unfold Hid; rw [List.length_take, ← HN.out]; omega
   have P4 : Hid (∀ x ∈ q1.take 64, x < 256) := fun x hx => HS.out.bytes x (List.mem_of_mem_take hx)
   have P8 : Hid (∀ j, j < 64 → wr.cell? ((⟨g, off, none⟩ : Addr).add j) = some (.int .u8 (((q1.take 64).getD j 0 : Nat) : Int))) := by
    intro j hj
    have e1 : (q1.take 64).getD j 0 = q1.getD j 0 := by simp [List.getD_eq_getElem?_getD, List.getElem?_take, hj]
    rw [e1]
    exact HCL.out j (by rw [← HN.out]; omega)
   simp only [maxLen] at hcm
   have HW := Lib.hid (And.intro HS.out.len HS.out.words)
   obtain ⟨s0, s1, s2, s3, s4, s5, s6, s7, hs⟩ := list8 (stir [a0, a1, a2, a3, a4, a5, a6, a7] (q1.take 64)) (stir_length _ _)
   have hw8 := stir_words [a0, a1, a2, a3, a4, a5, a6, a7] (q1.take 64)
   rw [hs] at hw8
   have HS8 := Lib.hid hs
   have HW8 := Lib.hid hw8
   clear hs hw8
   have hcall := stir_calls [a0, a1, a2, a3, a4, a5, a6, a7] (q1.take 64) ⟨g, off, none⟩ n c wr.drew HW.out.1 HW.out.2 P3.out P4.out h64 hnc hcm P8.out hg
   rw [u32a_lit] at hcall
   go_upto_region 4 with (fail)
   go_region_with (go_at_call 102; refine hcall.mono ?_; rintro e w2 ⟨rfl, hb2⟩; rw [HS8.out, u32a_lit]; have hs2 := HS.out.below (below_of_drew hb2) (Nat.le_refl _); have y0 := hs2.cellv 0 (by omega); have y1 := hs2.cellv 1 (by omega); have y2 := hs2.cellv 2 (by omega); have y3 := hs2.cellv 3 (by omega); have y4 := hs2.cellv 4 (by omega); have y5 := hs2.cellv 5 (by omega); have y6 := hs2.cellv 6 (by omega); have y7 := hs2.cellv 7 (by omega); have z0 := hs2.fr 0; have z1 := hs2.fr 1; have z2 := hs2.fr 2; have z3 := hs2.fr 3; have z4 := hs2.fr 4; have z5 := hs2.fr 5; have z6 := hs2.fr 6; have z7 := hs2.fr 7; have HS2 := Lib.hid hs2; have HB2 := Lib.hid (below_of_drew hb2); clear hb2 hs2)
   all_goals
    clear x0 x1 x2 x3 x4 x5 x6 x7 y0 y1 y2 y3 y4 y5 y6 y7 z0 z1 z2 z3 z4 z5 z6 z7 hcall
    rename_i w2 _ _
    have hs3 := HS2.out.set8 HW8.out
    have hc83 := hs3.c8
    have hf83 := hs3.fr 8
    have HS3 := Lib.hid hs3
    clear hs3
    have hb4 : Below base wr ((((((((w2.setCell ⟨b, 0, none⟩ (.int .u32 (s0 : Int))).setCell ⟨b, 1, none⟩ (.int .u32 (s1 : Int))).setCell ⟨b, 2, none⟩ (.int .u32 (s2 : Int))).setCell ⟨b, 3, none⟩ (.int .u32 (s3 : Int))).setCell ⟨b, 4, none⟩ (.int .u32 (s4 : Int))).setCell ⟨b, 5, none⟩ (.int .u32 (s5 : Int))).setCell ⟨b, 6, none⟩ (.int .u32 (s6 : Int))).setCell ⟨b, 7, none⟩ (.int .u32 (s7 : Int))) := by
     have hl := HS.out.low
     have hlt := HS.out.lt
     have hdr : wr.drew.heap.size = wr.heap.size := rfl
     exact (((((((((HB2.out.mono (B' := base) (by omega)).setCell (p := ⟨b, 0, none⟩) hl _).setCell (p := ⟨b, 1, none⟩) hl _).setCell (p := ⟨b, 2, none⟩) hl _).setCell (p := ⟨b, 3, none⟩) hl _).setCell (p := ⟨b, 4, none⟩) hl _).setCell (p := ⟨b, 5, none⟩) hl _).setCell (p := ⟨b, 6, none⟩) hl _).setCell (p := ⟨b, 7, none⟩) hl _)
    generalize hw4 : ((((((((w2.setCell ⟨b, 0, none⟩ (.int .u32 (s0 : Int))).setCell ⟨b, 1, none⟩ (.int .u32 (s1 : Int))).setCell ⟨b, 2, none⟩ (.int .u32 (s2 : Int))).setCell ⟨b, 3, none⟩ (.int .u32 (s3 : Int))).setCell ⟨b, 4, none⟩ (.int .u32 (s4 : Int))).setCell ⟨b, 5, none⟩ (.int .u32 (s5 : Int))).setCell ⟨b, 6, none⟩ (.int .u32 (s6 : Int))).setCell ⟨b, 7, none⟩ (.int .u32 (s7 : Int))) = w4 at *
    clear hw4
    have HB4 := Lib.hid hb4
    clear hb4
    by_cases hc64 : c = 64
    ·subst hc64
     obtain rfl : n = 64 := by omega
     go_wp2_with (fail)
     go_roundg 0
     case measure => omega
     case rel =>
      refine ⟨[s0, s1, s2, s3, s4, s5, s6, s7], q1.drop 64, _, _, 0, rfl, ?_, HS3.out.cut0 HN.out, ?_, (HB.out.trans HB4.out).setCell (p := ⟨b, 8, none⟩) HS.out.low _⟩
      ·unfold Hid; rw [List.length_drop, ← HN.out]
      ·rw [← HS8.out]; unfold Hid; rw [← eat_step _ _ (by have := HN.out; omega)]; exact HE.out
    ·have hcb : (c == 64) = false := by simpa using hc64
     have hcb2 : (c = 64) = False := by simpa using hc64
     go_wp2_with (fail)
     go_roundg (n - 64)
     case measure => omega
     case rel =>
      refine ⟨[s0, s1, s2, s3, s4, s5, s6, s7], q1.drop 64, _, _, n - 64, rfl, ?_, HS3.out.cut HN.out h64 hc64, ?_, (HB.out.trans HB4.out).setCell (p := ⟨b, 8, none⟩) HS.out.low _⟩
      ·unfold Hid; rw [List.length_drop, ← HN.out]
      ·rw [← HS8.out]; unfold Hid; rw [← eat_step _ _ (by have := HN.out; omega)]; exact HE.out
  ·have hb1 : decide (64 ≤ (n : Int)) = false := by simp; omega
   go_wp2_with (fail)

   (try simp only [Exit.inBlock, Exit.then]); refine bodyPost_end (results_none rfl _ _ _) rfl ?_
   have he := HE.out
   rw [eat_end _ _ (by rw [← HN.out]; omega)] at he
   rw [← HE0.out, ← he]
   exact ⟨rfl, _, HS.out, HB.out⟩
end Go.Proofs.Ytcfdplmapdgfmaa.Mine
set_option linter.unusedVariables false
set_option linter.unusedSimpArgs false
namespace Go.Proofs.Ytcfdplmapdgfmaa.Mine
open Go.RowKit Go.Proofs.YtcfdplmapdgfmaaW.PrintWords
structure Buf (B : Nat) (l : List Nat) (v : Value) (W0 w : World) : Prop where
 own : w.ownsRow B 5 1 v l.length (u8s l)
 below : Below B W0 w
 size : B ≤ w.heap.size
section
variable {B : Nat} {l : List Nat} {v : Value} {W0 w w' : World}
theorem Buf.nil (w : World) : Buf w.heap.size [] (.slice none 0 0) w w := ⟨World.ownsRow_nil w _ _ 1, Below.refl _ w, Nat.le_refl _⟩
theorem Buf.form (h : Buf B l v W0 w) : ∃ p c, v = .slice p l.length c ∧ l.length ≤ c ∧ c ≤ maxLen ∧ (l ≠ [] → ∃ g, p = some ⟨g, 0, none⟩ ∧ B ≤ g ∧ g < w.heap.size ∧ ∀ j, j < l.length → w.cell? ((⟨g, 0, none⟩ : Addr).add j) = some (.int .u8 ((l.getD j 0 : Nat) : Int))) := by
 rcases h.own.2 with ⟨h1, h2⟩ | ⟨g, cap, cur, hv, hb, hg, hc, hm, hs, ht⟩
 ·have : l = [] := List.eq_nil_of_length_eq_zero h2
  subst this
  exact ⟨none, 0, h1, Nat.le_refl _, Nat.zero_le _, fun e => absurd rfl e⟩
 ·refine ⟨some ⟨g, 0, none⟩, cap, hv, hc, hm, fun _ => ⟨g, rfl, hb, (Array.getElem?_eq_some_iff.1 hg).1, fun j hj => ?_⟩⟩
  refine h.own.cells (g := g) (by rw [hv]; rfl) j _ ?_
  simp [u8s, List.getElem?_eq_getElem hj, List.getD_eq_getElem?_getD]
theorem Buf.alloc (h : Buf B l v W0 w) (o : Obj) : Buf B l v W0 (w.alloc o) := ⟨h.own.alloc o, h.below.alloc h.size o, by have := h.size; simp; omega⟩
theorem Buf.grown {l' : List Nat} {v' : Value} (h : Buf B l v W0 w) (ho : w'.ownsRow B 5 1 v' l'.length (u8s l')) (hg : w.grownBy w' v.ownBlock) : Buf B l' v' W0 w' :=
 ⟨ho, h.below.grown hg h.size (fun k hk => (h.own.lt k hk).1), Nat.le_trans h.size hg.size⟩
end
section
variable {P : Program}
theorem wpList_append_c {ops : Array Oper} {rest : List Oper} {o : Oper} {a : Act} {Q : Exit → Act → World → Prop} (hgd : o.guard = none) (s x : Operand) (t : TypeId)
  (ho : o.op = .call { callee := .builtin .append, args := #[s, x], argTypes := #[t, t] })
  (i : TypeInfo) (ht : P.underlying t = some (.slice 5)) (hi : P.info? 5 = some i) (hz : i.zero = some (.int .u8 0)) (hsize : i.size = 1) (hby : i.bytes = 1)
  (B : Nat) (l : List Nat) (v : Value) (hs : a.eval s = v) (W0 w0 : World) (z : Int) (c : Nat) (hzc : z = (c : Int)) (hb : Buf B l v W0 w0)
  (hx : a.eval x = .slice (some ⟨w0.heap.size, 0, none⟩) 1 1) (hlen : l.length + 1 ≤ 140737488355328)
  (h : ∀ v' w', Buf B (l ++ [c]) v' W0 w' → wpList P ops Q rest (a.put o.dst v') w') : wpList P ops Q (o :: rest) a (w0.alloc (.cells #[.int .u8 z] 5)) := by
 subst hzc
 have hb' := hb.alloc (.cells #[.int .u8 (c : Int)] 5)
 refine wpList_append_own _ hgd s x t ho B 5 i (.int .u8 0) 1 1 ht hi hz hsize hby rfl (by decide) v l.length (u8s l) hs hb'.own ⟨w0.heap.size, 0, none⟩ 1 1 [.int .u8 (c : Int)] hx rfl ?_ ?_ (by unfold maxLen; omega) (by omega) hb'.size ?_
 ·intro j u hj
  match j, hj with
  | 0, hj => simp at hj; subst hj; simp [Addr.add]
  | (j + 1), hj => simp at hj
 ·intro u hu; simp at hu; subst hu; rfl
 ·intro v' w' ho' hg _
  refine h v' w' (hb'.grown ?_ hg)
  rw [u8s_append, List.length_append]
  exact ho'
theorem wpList_append_q {ops : Array Oper} {rest : List Oper} {o : Oper} {a : Act} {Q : Exit → Act → World → Prop} (hgd : o.guard = none) (s x : Operand) (t : TypeId)
  (ho : o.op = .call { callee := .builtin .append, args := #[s, x], argTypes := #[t, t] })
  (i : TypeInfo) (ht : P.underlying t = some (.slice 5)) (hi : P.info? 5 = some i) (hz : i.zero = some (.int .u8 0)) (hsize : i.size = 1) (hby : i.bytes = 1)
  (B : Nat) (l : List Nat) (v : Value) (hs : a.eval s = v) (W0 w : World) (hb : Buf B l v W0 w)
  (ad : Addr) (m c : Nat) (q : List Nat) (hx : a.eval x = .slice (some ad) m c) (hm : q.length = m) (hq : ∀ j, j < q.length → w.cell? (ad.add j) = some (.int .u8 ((q.getD j 0 : Nat) : Int))) (hlen : l.length + m ≤ 140737488355328)
  (h : ∀ v' w', Buf B (l ++ q) v' W0 w' → wpList P ops Q rest (a.put o.dst v') w') : wpList P ops Q (o :: rest) a w := by
 subst hm
 refine wpList_append_own _ hgd s x t ho B 5 i (.int .u8 0) 1 1 ht hi hz hsize hby rfl (by decide) v l.length (u8s l) hs hb.own ad q.length c (u8s q) hx (by rw [z0d]; omega) ?_ ?_ (by unfold maxLen; omega) (by omega) hb.size ?_
 ·intro j u hj
  have hl : j < q.length := by have := (List.getElem?_eq_some_iff.1 hj).1; rwa [z0d] at this
  rw [hq j hl, ← hj]
  simp [u8s, List.getElem?_eq_getElem hl, List.getD_eq_getElem?_getD]
 ·intro u hu
  simp only [u8s, List.mem_map] at hu
  obtain ⟨c, _, rfl⟩ := hu; rfl
 ·intro v' w' ho' hg _
  refine h v' w' (hb.grown ?_ hg)
  rw [u8s_append, List.length_append]
  exact ho'
theorem run_append_none (w : World) (t ty e : TypeId) (i : TypeInfo) (ht : P.underlying t = some (.slice e)) (hi : P.info? e = some i) (base : Option Addr) (sLen sCap : Nat) (hle : sLen ≤ sCap) (c : Nat) :
  (Builtin.append_ #[t, t] ty #[.slice base sLen sCap, .slice none 0 c]).run P w = .ok (.slice base sLen sCap) w := by
 cases base <;> simp [Builtin.append_, run_underlying ht, sizeOf, typeInfo, hi, Builtin.lenOf, hle, Builtin.firstCells, storeCells]
theorem wpList_append_none {ops : Array Oper} {rest : List Oper} {o : Oper} {a : Act} {Q : Exit → Act → World → Prop} (w : World) (hgd : o.guard = none) (s x : Operand) (t e : TypeId)
  (ho : o.op = .call { callee := .builtin .append, args := #[s, x], argTypes := #[t, t] })
  (i : TypeInfo) (ht : P.underlying t = some (.slice e)) (hi : P.info? e = some i) (base : Option Addr) (sLen sCap c : Nat) (hle : sLen ≤ sCap) (hs : a.eval s = .slice base sLen sCap) (hx : a.eval x = .slice none 0 c)
  (h : wpList P ops Q rest (a.put o.dst (.slice base sLen sCap)) w) : wpList P ops Q (o :: rest) a w := by
 refine wpList_plain hgd fun K hK => ?_
 have hr := run_append_none (P := P) w t o.type e i ht hi base sLen sCap hle c
 unfold Oper.wp execOp
 simp only [ho, resolve, invoke, builtin, Sem.run_bind, Sem.run_pure, Result.andThen_ok, List.map_toArray, List.map_cons, List.map_nil, hs, hx, hr]
 exact hK _ _ h
end
end Go.Proofs.Ytcfdplmapdgfmaa.Mine
set_option linter.unusedVariables false
set_option linter.unusedSimpArgs false
namespace Go.Proofs.Ytcfdplmapdgfmaa.Mine
open Go.RowKit Go.Proofs.YtcfdplmapdgfmaaW.PrintWords
def gap (m : Nat) : Nat := (119 - m % 64) % 64
def lenB (m : Nat) : List Nat := (List.range 8).map fun i => m * 8 / 2 ^ (8 * (7 - i)) % 256
def pad (held : List Nat) (many : Nat) : List Nat := held ++ [128] ++ List.replicate (gap held.length) 0 ++ lenB many
def wordB (n : Nat) : List Nat := (List.range 4).map fun j => n / 2 ^ (24 - 8 * j) % 256
def outB (v : List Nat) : List Nat := v.flatMap wordB
theorem pad_bytes (held : List Nat) (many : Nat) (h : ∀ x ∈ held, x < 256) : ∀ x ∈ pad held many, x < 256 := by
 intro x hx
 simp only [pad, List.mem_append, List.mem_singleton, List.mem_replicate, lenB, List.mem_map] at hx
 rcases hx with ((h1 | rfl) | ⟨_, rfl⟩) | ⟨i, _, rfl⟩
 ·exact h x h1
 ·omega
 ·omega
 ·omega
theorem take_len4 (m i : Nat) (h : i ≤ 4) : ((wordB m).take i).length = i := by simp [wordB]; omega
theorem take_succ4 (m i : Nat) (h : i < 4) : (wordB m).take (i + 1) = (wordB m).take i ++ [m / 2 ^ (24 - 8 * i) % 256] := by
 rw [List.take_succ_eq_append_getElem (by simp [wordB]; exact h)]
 simp [wordB]
theorem z0j (v : List Nat) : (outB v).length = 4 * v.length := by
 induction v with
 | nil => rfl
 | cons a v ih => rw [outB, List.flatMap_cons, List.length_append, List.length_cons]; unfold outB at ih; rw [ih]; simp [wordB]; omega
theorem outB_take_succ (v : List Nat) (i : Nat) (h : i < v.length) : outB (v.take (i + 1)) = outB (v.take i) ++ wordB (v.getD i 0) := by
 rw [List.take_succ_eq_append_getElem h, outB, List.flatMap_append]
 simp [outB, List.getD_eq_getElem?_getD, List.getElem?_eq_getElem h]
theorem take_len8 (m i : Nat) (h : i ≤ 8) : ((lenB m).take i).length = i := by simp [lenB]; omega
theorem take_succ8 (m i : Nat) (h : i < 8) : (lenB m).take (i + 1) = (lenB m).take i ++ [m * 8 / 2 ^ (8 * (7 - i)) % 256] := by
 rw [List.take_succ_eq_append_getElem (by simp [lenB]; exact h)]
 simp [lenB]
set_option maxRecDepth 100000 in
set_option maxHeartbeats 1000000 in
theorem sum_calls (base b : Nat) (v held : List Nat) (many : Nat) (hv : Value) (w : World) (hst : St w base b v held many hv) (hm : many ≤ 70368744177664) (hh : held.length ≤ many) :
  Calls Try.prog 90 #[.pointer (some ⟨b, 0, none⟩)] w fun e w' => e = .returned (.string (sb (outB (eat v (pad held many)).1))) ∧ Below w.heap.size w w' := by
 obtain ⟨pt, cp, rfl⟩ := hst.form
 have HST := Lib.hid hst
 have HH := Lib.hid hh
 have c8 := hst.c8
 clear hst hh
 obtain ⟨i0, hi0, hz0, hz1, hz2⟩ : ∃ i, Try.prog.info? 5 = some i ∧ i.zero = some (.int .u8 0) ∧ i.size = 1 ∧ i.bytes = 1 := ⟨_, rfl, rfl, rfl, rfl⟩
 have HI := Lib.hid (And.intro hi0 (And.intro hz0 (And.intro hz1 hz2)))
 clear hi0 hz0 hz1 hz2
 have hb0 : Buf w.heap.size [] (.slice (some ⟨w.heap.size, 0, none⟩) 0 0) w (w.alloc (.cells #[] 5)) :=
  ⟨⟨rfl, .inr ⟨w.heap.size, 0, #[], rfl, Nat.le_refl _, heap_alloc_new w _, Nat.le_refl _, Nat.zero_le _, rfl, rfl⟩⟩, (Below.refl _ w).alloc (Nat.le_refl _) _, by simp⟩
 have HB0 := Lib.hid hb0
 clear hb0
 go_enter Try.func90, Try.ntmps90
 go_upto_region 3 with (fail)
 go_cut [3] (fun s3 wx => ∃ p c n, s3 = .slice p n c ∧ Hid (n = held.length) ∧ Hid (Buf w.heap.size held (.slice p n c) w wx))
 case first =>
  have c8a : (w.alloc (.cells #[] 5)).cell? ⟨b, 8, none⟩ = some (.slice pt held.length cp) := (HST.out.below ((Below.refl w.heap.size w).alloc (Nat.le_refl _) _) (Nat.le_refl _)).c8
  have HF := Lib.hid (And.intro HST.out.held HST.out.bytes)
  by_cases h0 : 0 < held.length
  ·obtain ⟨g, off, c', he, hnc, hcm, hgb, hbg, hg, hcl⟩ := HST.out.filled h0
   cases he
   have hcl2 : ∀ j, j < held.length → (w.alloc (.cells #[] 5)).cell? ((⟨g, off, none⟩ : Addr).add j) = some (.int .u8 ((held.getD j 0 : Nat) : Int)) := fun j hj => by
    rw [← hcl j hj]
    exact ((Below.refl w.heap.size w).alloc (Nat.le_refl _) _).cell (by rw [Addr.add_lit]; exact hg)
   have HCL := Lib.hid hcl2
   clear hcl hcl2
   go_wp2_with (at_builtin; go_loud (refine wpList_append_q rfl _ _ _ rfl i0 Try.underlying46 HI.out.1 HI.out.2.1 HI.out.2.2.1 HI.out.2.2.2 w.heap.size [] (.slice (some ⟨w.heap.size, 0, none⟩) 0 0) rfl w _ HB0.out ⟨g, off, none⟩ held.length cp held rfl rfl HCL.out (by simp; have := HH.out; omega) ?_; intro v1 w1 hb1; obtain ⟨p1, c1, rfl, _⟩ := hb1.form))
   go_meet
   exact ⟨p1, c1, _, rfl, rfl, hb1⟩
  ·have hheld : held = [] := List.eq_nil_of_length_eq_zero (by omega)
   subst hheld
   have hq : ∃ a, Value.slice pt 0 cp = .slice a 0 cp ∧ (a = none ∨ ∃ g off, a = some ⟨g, off, none⟩) := by
    rcases HF.out.1 with ⟨h1, _⟩ | ⟨g, off, c', cur, h1, _⟩
    ·simp only [List.length_nil, Value.slice.injEq] at h1
     exact ⟨none, by rw [h1.1], .inl rfl⟩
    ·simp only [Value.slice.injEq] at h1
     exact ⟨_, rfl, .inr ⟨g, off, h1.1⟩⟩
   obtain ⟨a, h1, h2⟩ := hq
   simp only [Value.slice.injEq, and_true] at h1
   subst h1
   rcases h2 with rfl | ⟨g, off, rfl⟩
   ·go_wp2_with (at_builtin; refine wpList_append_none _ rfl _ _ _ 5 rfl i0 Try.underlying46 HI.out.1 (some ⟨w.heap.size, 0, none⟩) 0 0 cp (Nat.le_refl _) rfl rfl ?_)
    go_meet
    exact ⟨_, _, _, rfl, rfl, HB0.out⟩
   ·go_wp2_with (at_builtin; refine wpList_append_q rfl _ _ _ rfl i0 Try.underlying46 HI.out.1 HI.out.2.1 HI.out.2.2.1 HI.out.2.2.2 w.heap.size [] (.slice (some ⟨w.heap.size, 0, none⟩) 0 0) rfl w _ HB0.out ⟨g, off, none⟩ 0 cp [] rfl rfl (fun j hj => absurd hj (by simp)) (by simp) ?_; intro v1 w1 hb1; obtain ⟨p1, c1, rfl, _⟩ := hb1.form)
    go_meet
    exact ⟨p1, c1, _, rfl, rfl, hb1⟩
 case rest =>
  obtain ⟨p, c, n, rfl, HN, HB⟩ := hcut
  have hnb : n ≤ 70368744177664 := by have := HN.out; have := HH.out; omega
  go_wp2_with (at_builtin; refine wpList_append_c rfl _ _ _ rfl i0 Try.underlying46 HI.out.1 HI.out.2.1 HI.out.2.2.1 HI.out.2.2.2 w.heap.size held (.slice p n c) rfl w wc _ 128 rfl HB.out rfl (by have := HN.out; omega) ?_; intro v1 w1 hb1; have hfm := hb1.form; rw [List.length_append, List.length_singleton, ← HN.out] at hfm; obtain ⟨p1, c1, rfl, _⟩ := hfm; have HB1 := Lib.hid hb1; clear hb1)
  go_loopg [3] (gap n) (fun k s3 wr => ∃ (j m : Nat) (p : Option Addr) (c : Nat), j ≤ gap n ∧ k = gap n - j ∧ s3 = .slice p m c ∧ m = n + 1 + j ∧ Hid (Buf w.heap.size (held ++ [128] ++ List.replicate j 0) (.slice p m c) w wr))
  case atStart =>
   exact ⟨0, n + 1, p1, c1, Nat.zero_le _, rfl, rfl, rfl, by unfold Hid; simpa using HB1.out⟩
  case round =>
   obtain ⟨j, m, p, c, hj, hk, rfl, hmn, HBj⟩ := hrel
   have hgap : gap n < 64 := by unfold gap; omega
   have hgn : (n + 1 + gap n) % 64 = 56 := by unfold gap; omega
   have hgn2 : ∀ i, i < gap n → (n + 1 + i) % 64 ≠ 56 := by unfold gap; intro i hi; omega
   obtain ⟨G, hG⟩ : ∃ x, x = gap n := ⟨_, rfl⟩
   rw [← hG] at hj hk hgap hgn hgn2
   by_cases hjl : j < G
   ·have hmb : m ≤ 70368744177800 := by omega
    have ht : (m : Int) % 64 ≠ 56 := by have := hgn2 j hjl; omega
    have ht1 : ((m : Int) % 64 != 56) = true := by simpa using ht
    have ht2 : ((m : Int) % 64 == 56) = false := by simpa using ht
    have HM := Lib.hid hmn
    have HK := Lib.hid hk
    clear hmn hk hgn hgn2 ht
    go_wp2_with (at_builtin; refine wpList_append_c rfl _ _ _ rfl i0 Try.underlying46 HI.out.1 HI.out.2.1 HI.out.2.2.1 HI.out.2.2.2 w.heap.size (held ++ [128] ++ List.replicate j 0) (.slice p m c) rfl w wr _ 0 rfl HBj.out rfl (by have := HN.out; have := HM.out; simp; omega) ?_; intro v1 w1 hb1; have hfm := hb1.form; rw [List.length_append, List.length_append, List.length_append, List.length_singleton, List.length_replicate, ← HN.out, ← HM.out] at hfm; obtain ⟨p1, c1, rfl, _⟩ := hfm; have HB1 := Lib.hid hb1; clear hb1)
    go_roundg (G - (j + 1))
    case measure => have := HK.out; omega
    case rel =>
     refine ⟨j + 1, m + 1, p1, c1, by omega, by omega, rfl, by have := HM.out; omega, ?_⟩
     have := HB1.out
     unfold Hid
     rwa [List.append_assoc, ← List.replicate_succ'] at this
   ·obtain rfl : j = G := by omega
    have ht : (m : Int) % 64 = 56 := by omega
    have ht1 : ((m : Int) % 64 != 56) = false := by simpa using ht
    have ht2 : ((m : Int) % 64 == 56) = true := by simpa using ht
    have HM := Lib.hid hmn
    have HK := Lib.hid hk
    have HT := Lib.hid ht
    have HG := Lib.hid hG
    clear hmn hk hgn hgn2 ht hG
    go_wp2_with (fail)
    obtain ⟨P1, hP1⟩ : ∃ x, x = held ++ [128] ++ List.replicate j 0 := ⟨_, rfl⟩
    have hp1l : Hid (m = P1.length) := by unfold Hid; rw [hP1]; have := HN.out; have := HM.out; simp; omega
    rw [← hP1] at HBj
    have HP1 := Lib.hid hP1
    have hmb : m ≤ 70368744177800 := by have := HM.out; omega
    have hgj : Hid (j < 64) := hgap
    clear hP1 ht1 ht2
    go_loopg [3, 4, 28] 8 (fun k s3 _ s28 wr => ∃ (i m2 : Nat) (p : Option Addr) (c : Nat), i ≤ 8 ∧ k = 8 - i ∧ s28 = .int .i64 i ∧ s3 = .slice p m2 c ∧ m2 = m + i ∧ Hid (Buf w.heap.size (P1 ++ (lenB many).take i) (.slice p m2 c) w wr))
    case atStart =>
     exact ⟨0, m, p, c, by omega, rfl, rfl, rfl, rfl, by simpa using HBj⟩
    case round =>
     obtain ⟨i, m2, p, c, hi, hk, rfl, rfl, hm2, HBi⟩ := hrel
     have c9 := (HST.out.below HBi.out.below (Nat.le_refl _)).c9
     have HM2 := Lib.hid hm2
     have HK := Lib.hid hk
     clear hm2 hk
     by_cases hlt : i < 8
     ·have hltb : decide (i < 8) = true := by simpa using hlt
      go_wp2_with (at_builtin; refine wpList_append_c rfl _ _ _ rfl i0 Try.underlying46 HI.out.1 HI.out.2.1 HI.out.2.2.1 HI.out.2.2.2 w.heap.size (P1 ++ (lenB many).take i) (.slice p m2 c) rfl w wr _ (many * 8 / 2 ^ (8 * (7 - i)) % 256) (by simp) HBi.out rfl (by have := hp1l.out; simp; omega) ?_; intro v1 w1 hb1; have hfm := hb1.form; rw [List.length_append, List.length_append, List.length_singleton, take_len8 many i (by omega), ← hp1l.out, ← HM2.out] at hfm; obtain ⟨p1, c1, rfl, _⟩ := hfm; have HB1 := Lib.hid hb1; clear hb1)
      go_roundg (8 - (i + 1))
      case measure => have := HK.out; omega
      case rel =>
       refine ⟨i + 1, m2 + 1, p1, c1, by omega, rfl, by go_num, rfl, by have := HM2.out; omega, ?_⟩
       have := HB1.out
       unfold Hid
       rwa [List.append_assoc, ← take_succ8 many i hlt] at this
     ·have hltb : decide (i < 8) = false := by simpa using hlt
      obtain rfl : i = 8 := by omega
      rw [List.take_of_length_le (by simp [lenB]), HP1.out] at HBi
      have hq : held ++ [128] ++ List.replicate j 0 ++ lenB many = pad held many := by rw [pad, ← HN.out, ← HG.out]
      rw [hq] at HBi
      have hm3 : m2 = (pad held many).length := by have := HM2.out; have := HM.out; have := HN.out; rw [← hq]; simp [lenB]; omega
      obtain ⟨E0, hE0⟩ : ∃ x, x = eat v (pad held many) := ⟨_, rfl⟩
      have hrg := (HST.out.below HBi.out.below (Nat.le_refl _)).range
      have HRG := Lib.hid hrg
      have hsz : (Try.prog.info? 145).map (·.size) = some (cells v).length := by rw [show (cells v).length = 8 from by simp [cells]; exact HST.out.len]; exact size8
      have HSZ := Lib.hid hsz
      have hi8 : (Try.prog.info? 145).map (·.size) = some (u32a v).size := by rw [z04, HST.out.len]; exact size8
      have hone8 : (u32a v).all (·.oneCell') = true := by simp [u32a]; intro x _; rfl
      have hz8 : (#[Value.int .u32 0, .int .u32 0, .int .u32 0, .int .u32 0, .int .u32 0, .int .u32 0, .int .u32 0, .int .u32 0] : Array Value).size = (u32a v).size := by rw [z04, HST.out.len]; rfl
      have HI8 := Lib.hid hi8
      have HONE8 := Lib.hid hone8
      have HZ8 := Lib.hid hz8
      have HM3 := Lib.hid hm3
      have HE0 := Lib.hid hE0
      clear hrg hsz hi8 hone8 hz8 hq hm3 hE0 hltb c9
      obtain ⟨pp, cc, hform, hmc, hcm, hfill⟩ := HBi.out.form
      simp only [Value.slice.injEq] at hform
      obtain ⟨rfl, _, rfl⟩ := hform
      obtain ⟨g, rfl, hBg, hg, hcl⟩ := hfill (by intro e; have h1 := HM3.out; rw [e] at h1; have := HM2.out; simp at h1; omega)
      have HCL := Lib.hid hcl
      clear hcl hfill
      go_wp2_with (first
       | (refine wpList_load_mid rfl 145 _ rfl b 0 rfl (cells v) _ HRG.out Try.underlying145 rfl HSZ.out ?_)
       | (refine wpList_store_row rfl 145 _ _ rfl wr.heap.size (u32a v) rfl rfl 145 _ (heap_alloc_last wr _) HI8.out HZ8.out HONE8.out ?_; rw [World.setRow_alloc_new]))
      obtain ⟨B5, hB5⟩ : ∃ x, x = wr.heap.size := ⟨_, rfl⟩
      have hA5 : Arr (wr.alloc (.cells (u32a v) 145)) B5 145 v := by rw [hB5]; exact Arr.new wr _ v
      have hbel5 : Below w.heap.size w (wr.alloc (.cells (u32a v) 145)) := HBi.out.below.alloc HBi.out.size _
      have hcl5 : ∀ j, j < (pad held many).length → (wr.alloc (.cells (u32a v) 145)).cell? ((⟨g, 0, none⟩ : Addr).add j) = some (.int .u8 (((pad held many).getD j 0 : Nat) : Int)) := fun j hj => by
       rw [← HCL.out j hj]
       exact ((Below.refl wr.heap.size wr).alloc (Nat.le_refl _) _).cell (by rw [Addr.add_lit]; exact hg)
      have hbase5 : w.heap.size ≤ B5 := by rw [hB5]; exact HBi.out.size
      have hpb : ∀ x ∈ pad held many, x < 256 := pad_bytes held many HST.out.bytes
      have HBASE5 := Lib.hid hbase5
      have HCL5 := Lib.hid hcl5
      have HA5 := Lib.hid hA5
      have HBEL5 := Lib.hid hbel5
      have HPB := Lib.hid hpb
      have hm64 : m2 % 64 = 0 := by have := HT.out; have := HM2.out; omega
      have hcm' : c ≤ 9223372036854775807 := by simp only [maxLen] at hcm; omega
      have hmc' : m2 ≤ c := by rw [HM3.out]; exact hmc
      have hgb : g ≠ B5 := by omega
      have hgl : g < (wr.alloc (.cells (u32a v) 145)).heap.size := by simp; omega
      have HGL := Lib.hid hgl
      have HGB := Lib.hid hgb
      rw [← hB5]
      clear hA5 hbel5 hcl5 hbase5 hpb hB5 hgl hgb
      go_frame
      go_loopg [3] m2 (fun k s3 wr => ∃ (q v1 : List Nat) (g off n c : Nat), k = n ∧ s3 = .slice (some ⟨g, off, none⟩) n c ∧ n ≤ c ∧ c ≤ 9223372036854775807 ∧ n % 64 = 0 ∧ Hid (n = q.length ∧ (∀ x ∈ q, x < 256) ∧ v1.length = 8 ∧ Words v1) ∧
       Hid (g < wr.heap.size ∧ g ≠ B5 ∧ ∀ j, j < q.length → wr.cell? ((⟨g, off, none⟩ : Addr).add j) = some (.int .u8 ((q.getD j 0 : Nat) : Int))) ∧ Hid (Arr wr B5 145 v1) ∧ Hid (eat v1 q = E0) ∧ Hid (Below w.heap.size w wr))
      case atStart =>
       exact ⟨pad held many, v, g, 0, m2, c, rfl, by rw [HM3.out], hmc', hcm', hm64, ⟨HM3.out, HPB.out, HST.out.len, HST.out.words⟩, ⟨HGL.out, HGB.out, HCL5.out⟩, HA5.out, HE0.out.symm, HBEL5.out⟩
      case round =>
       clear hmc' hcm' hm64 hmc hcm hmb
       obtain ⟨q, v1, g, off, n, c, hk, rfl, hnc, hcm, hn64, HQ, HG, HA, HE, HBL⟩ := hrel
       replace hk := hk.symm
       subst hk
       by_cases hpos : 0 < n
       ·have hposb : decide (0 < n) = true := by simpa using hpos
        have h64 : 64 ≤ n := by omega
        obtain ⟨hnq, hqb, hvl, hvw⟩ := HQ
        obtain ⟨hgl, hgb, hcl⟩ := HG
        have P3 : Hid ((q.take 64).length = 64) := by unfold Hid; rw [List.length_take, ← hnq]; omega
        have P4 : Hid (∀ x ∈ q.take 64, x < 256) := fun x hx => hqb x (List.mem_of_mem_take hx)
        have P8 : Hid (∀ j, j < 64 → wr.cell? ((⟨g, off, none⟩ : Addr).add j) = some (.int .u8 (((q.take 64).getD j 0 : Nat) : Int))) := by
         intro j hj
         have e1 : (q.take 64).getD j 0 = q.getD j 0 := by simp [List.getD_eq_getElem?_getD, List.getElem?_take, hj]
         rw [e1]
         exact hcl j (by rw [← hnq]; omega)
        have I8 : Hid ((Try.prog.info? 145).map (·.size) = some (u32a v1).size) := by unfold Hid; rw [z04, hvl]; exact size8
        have J8 : Hid ((Try.prog.info? 145).map (·.size) = some (u32a (stir v1 (q.take 64))).size) := by unfold Hid; rw [z04, stir_length]; exact size8
        have O8 : Hid ((u32a (stir v1 (q.take 64))).all (·.oneCell') = true) := by unfold Hid; simp [u32a]; intro x _; rfl
        have Z8 : Hid ((u32a v1).size = (u32a (stir v1 (q.take 64))).size) := by unfold Hid; rw [z04, z04, stir_length, hvl]
        have HNQ := Lib.hid (And.intro hnq (And.intro hqb (And.intro hvl hvw)))
        have HGG := Lib.hid (And.intro hgl (And.intro hgb hcl))
        clear hnq hqb hvl hvw hgl hgb hcl
        have h64b : decide (64 ≤ (n : Int)) = true := by simp; omega
        by_cases hc64 : c = 64
        ·subst hc64
         obtain rfl : n = 64 := by omega
         go_wp2_with (first
          | (refine wpList_load_row rfl 145 _ rfl B5 rfl 145 (u32a v1) (0, 0) _ HA.out Try.underlying145 rfl I8.out ?_)
          | (go_at_call 102; refine (stir_calls v1 (q.take 64) ⟨g, off, none⟩ 64 64 _ HNQ.out.2.2.1 HNQ.out.2.2.2 P3.out P4.out h64 hnc hcm P8.out HGG.out.1).mono ?_; rintro e w2 ⟨rfl, hb2⟩; have HB2 := Lib.hid hb2; clear hb2)
          | (refine wpList_store_row rfl 145 _ _ rfl B5 (u32a (stir v1 (q.take 64))) rfl rfl 145 _ (HA.out.below HB2.out HA.out.lt) J8.out Z8.out O8.out ?_))
         go_roundg 0
         case measure => omega
         case rel =>
          have hs := HB2.out.size
          refine ⟨q.drop 64, stir v1 (q.take 64), g, off, 0, 0, rfl, rfl, Nat.le_refl _, by omega, rfl, ⟨by rw [List.length_drop, ← HNQ.out.1], fun x hx => HNQ.out.2.1 x (List.mem_of_mem_drop hx), stir_length _ _, stir_words _ _⟩, ⟨by simp; have := HGG.out.1; omega, HGG.out.2.1, fun j hj => absurd hj (by rw [List.length_drop, ← HNQ.out.1]; omega)⟩,
           setRow_heap _ _ _ _ _ _ (HA.out.below HB2.out HA.out.lt), ?_, below_setRow (HBL.out.trans (HB2.out.mono HBL.out.size)) HBASE5.out _⟩
          unfold Hid
          rw [← eat_step _ _ (by have := HNQ.out.1; omega)]; exact HE.out
        ·have hcb : (c == 64) = false := by simpa using hc64
         have hcb2 : (c = 64) = False := by simpa using hc64
         go_wp2_with (first
          | (refine wpList_load_row rfl 145 _ rfl B5 rfl 145 (u32a v1) (0, 0) _ HA.out Try.underlying145 rfl I8.out ?_)
          | (go_at_call 102; refine (stir_calls v1 (q.take 64) ⟨g, off, none⟩ n c _ HNQ.out.2.2.1 HNQ.out.2.2.2 P3.out P4.out h64 hnc hcm P8.out HGG.out.1).mono ?_; rintro e w2 ⟨rfl, hb2⟩; have HB2 := Lib.hid hb2; clear hb2)
          | (refine wpList_store_row rfl 145 _ _ rfl B5 (u32a (stir v1 (q.take 64))) rfl rfl 145 _ (HA.out.below HB2.out HA.out.lt) J8.out Z8.out O8.out ?_))
         go_roundg (n - 64)
         case measure => omega
         case rel =>
          have hs := HB2.out.size
          refine ⟨q.drop 64, stir v1 (q.take 64), g, off + 64, n - 64, c - 64, rfl, rfl, by omega, by omega, by omega, ⟨by rw [List.length_drop, ← HNQ.out.1], fun x hx => HNQ.out.2.1 x (List.mem_of_mem_drop hx), stir_length _ _, stir_words _ _⟩, ⟨by simp; have := HGG.out.1; omega, HGG.out.2.1, fun j hj => ?_⟩,
           setRow_heap _ _ _ _ _ _ (HA.out.below HB2.out HA.out.lt), ?_, below_setRow (HBL.out.trans (HB2.out.mono HBL.out.size)) HBASE5.out _⟩
          ·rw [List.length_drop] at hj
           have h1 := HGG.out.2.2 (64 + j) (by omega)
           rw [cell_setRow_other _ _ _ _ (by rw [Addr.add_lit]; exact HGG.out.2.1), HB2.out.cell (by rw [Addr.add_lit]; exact HGG.out.1), Addr.add_lit]
           rw [Addr.add_lit] at h1
           rw [show off + 64 + j = off + (64 + j) from by omega, h1]
           simp [List.getD_eq_getElem?_getD, List.getElem?_drop]
          ·unfold Hid
           rw [← eat_step _ _ (by have := HNQ.out.1; omega)]; exact HE.out
       ·have hposb : decide (0 < n) = false := by simpa using hpos
        obtain rfl : n = 0 := by omega
        have hq0 : q = [] := List.eq_nil_of_length_eq_zero HQ.out.1.symm
        subst hq0
        rw [eat_end _ _ (by simp)] at HE
        have I8 : Hid ((Try.prog.info? 145).map (·.size) = some (u32a v1).size) := by unfold Hid; rw [z04, HQ.out.2.2.1]; exact size8
        go_wp2_with (first
          | (refine wpList_load_row rfl 145 _ rfl B5 rfl 145 (u32a v1) (0, 0) _ HA.out Try.underlying145 rfl I8.out ?_))
        obtain ⟨W6, hW6⟩ : ∃ W, W = wr := ⟨_, rfl⟩
        subst hW6
        have hbn := Buf.nil W6
        obtain ⟨B6, hB6⟩ : ∃ x, x = W6.heap.size := ⟨_, rfl⟩
        rw [← hB6] at hbn
        have HBN := Lib.hid hbn
        have HB6 := Lib.hid hB6
        clear hbn hB6 hposb
        go_loopg [6, 8, 9, 58] 8 (fun k s6 _ _ s58 wz => ∃ (i n : Nat) (p : Option Addr) (c : Nat), i ≤ 8 ∧ k = 8 - i ∧ s58 = .int .i64 i ∧ s6 = .slice p n c ∧ n = 4 * i ∧ Hid (Buf B6 (outB (v1.take i)) (.slice p n c) W6 wz))
        case atStart =>
         exact ⟨0, 0, none, 0, by omega, rfl, rfl, rfl, rfl, HBN.out⟩
        case round =>
         obtain ⟨i, n0, p, c, hi, hk, rfl, rfl, hn0, HBf⟩ := hrel
         have HK := Lib.hid hk
         clear hk
         by_cases hlt : i < 8
         ·have hltb : decide (i < 8) = true := by simpa using hlt
          have hidx := fun w => run_index_arr 145 8 v1 i .i64 w rfl HQ.out.2.2.1 hlt
          have hx := HQ.out.2.2.2.at_ i
          obtain ⟨x, hxx⟩ : ∃ y, y = v1.getD i 0 := ⟨_, rfl⟩
          rw [← hxx] at hidx hx
          have HXX := Lib.hid hxx
          have HN0 := Lib.hid hn0
          clear hxx hn0
          go_wp2_with (fail)
          have HLT := Lib.hid hlt
          have hlb : decide ((i : Int) < 8) = true := decide_eq_true (by omega)
          rw [hlb]
          clear hlt hltb hlb
          go_loopg [6, 9] 4 (fun k s6 s9 wz => ∃ (j n2 : Nat) (p : Option Addr) (c : Nat), j ≤ 4 ∧ k = 4 - j ∧ s9 = .int .i64 (24 - 8 * (j : Int)) ∧ s6 = .slice p n2 c ∧ n2 = n0 + j ∧ Hid (Buf B6 (outB (v1.take i) ++ (wordB x).take j) (.slice p n2 c) W6 wz))
          case atStart =>
           exact ⟨0, n0, p, c, by omega, rfl, rfl, rfl, rfl, by simpa using HBf⟩
          case round =>
           obtain ⟨j, n2, p, c, hj, hk, rfl, rfl, hn2, HBj⟩ := hrel
           have HK2 := Lib.hid hk
           have HN2 := Lib.hid hn2
           clear hk hn2
           by_cases hj4 : j < 4
           ·have hjb : decide (0 ≤ (24 - 8 * (j : Int))) = true := by simp; omega
            go_wp2_with (at_builtin; refine wpList_append_c rfl _ _ _ rfl i0 Try.underlying46 HI.out.1 HI.out.2.1 HI.out.2.2.1 HI.out.2.2.2 B6 (outB (v1.take i) ++ (wordB x).take j) (.slice p n2 c) rfl _ _ _ (x / 2 ^ (24 - 8 * j) % 256) (by simp) HBj.out rfl (by rw [List.length_append, z0j, take_len4 x j (by omega)]; simp; omega) ?_; intro v9 w9 hb9; have hfm := hb9.form; rw [List.length_append, List.length_append, List.length_singleton, take_len4 x j (by omega), z0j, List.length_take, HQ.out.2.2.1, Nat.min_eq_left (Nat.le_of_lt HLT.out)] at hfm; obtain ⟨p9, c9, rfl, _⟩ := hfm; have HB9 := Lib.hid hb9; clear hb9)
            go_roundg (4 - (j + 1))
            case measure => have := HK2.out; omega
            case rel =>
             have e1 : 4 * i + j + 1 = n2 + 1 := by have := HN2.out; have := HN0.out; omega
             refine ⟨j + 1, n2 + 1, p9, c9, by omega, rfl, ?_, by rw [e1], by have := HN2.out; omega, ?_⟩
             ·go_num
             ·have := HB9.out
              rw [e1, List.append_assoc, ← take_succ4 x j hj4] at this
              exact this
           ·have hjb : decide (0 ≤ (24 - 8 * (j : Int))) = false := by simp; omega
            obtain rfl : j = 4 := by omega
            go_wp2_with (fail)
            go_roundg (8 - (i + 1))
            case measure => have := HK.out; omega
            case rel =>
             refine ⟨i + 1, n2, p, c, by have := HLT.out; omega, rfl, by go_num, rfl, by have := HN2.out; have := HN0.out; omega, ?_⟩
             have := HBj.out
             rw [List.take_of_length_le (show (wordB x).length ≤ 4 from by simp [wordB]), HXX.out, ← outB_take_succ v1 i (by rw [HQ.out.2.2.1]; exact HLT.out)] at this
             exact this
         ·have hltb : decide (i < 8) = false := by simpa using hlt
          obtain rfl : i = 8 := by omega
          rw [List.take_of_length_le (by rw [HQ.out.2.2.1]; omega)] at HBf
          have hn32 : n0 = (outB v1).length := by rw [z0j, HQ.out.2.2.1]; omega
          have hown := HBf.out.own
          have hcv := conv_own (P := Try.prog) Try.underlying46 Try.underlying5 Try.underlying9 hown
          have HN32 := Lib.hid hn32
          clear hn32 hown hltb hn0
          go_wp2_with (fail)
          go_ret
          have he : (eat v (pad held many)).1 = v1 := by rw [← HE0.out, ← HE.out]
          rw [he]
          refine ⟨rfl, HBL.out.trans (HBf.out.below.mono ?_)⟩
          rw [HB6.out]
          exact HBL.out.size
end Go.Proofs.Ytcfdplmapdgfmaa.Mine
set_option linter.unusedVariables false
set_option linter.unusedSimpArgs false
namespace Go.Proofs.Ytcfdplmapdgfmaa.Mine
open Go.RowKit Go.Proofs.YtcfdplmapdgfmaaW.PrintWords
def shaEnd (v held : List Nat) (many : Nat) : List Nat := outB (eat v (pad held many)).1
def sha (l : List Nat) : List Nat := shaEnd (eat begin8 l).1 (eat begin8 l).2 l.length
theorem eat_len (v p : List Nat) : (eat v p).2.length ≤ p.length := by
 suffices h : ∀ k v p, p.length ≤ k → (eat v p).2.length ≤ p.length from h p.length v p (Nat.le_refl _)
 intro k
 induction k with
 | zero => intro v p hp; rw [eat_end _ _ (by omega)]; exact Nat.le_refl _
 | succ k ih =>
  intro v p hp
  by_cases h : 64 ≤ p.length
  ·rw [eat_step _ _ h]
   have := ih (stir v (p.take 64)) (p.drop 64) (by rw [List.length_drop]; omega)
   rw [List.length_drop] at this
   omega
  ·rw [eat_end _ _ (by omega)]; exact Nat.le_refl _
set_option maxRecDepth 100000 in
theorem of_calls (t : ByteArray) (w : World) (ht : t.size ≤ 70368744177664) :
  Calls Try.prog 62 #[.string t] w fun e w' => e = .returned (.string (sb (sha (bs t)))) ∧ Below w.heap.size w w' := by
 go_enter Try.func62, Try.ntmps62
 go_wp2_with (first
  | (go_at_call 88; refine (new_calls _).mono ?_; rintro e w1 ⟨b, rfl, hb, hst, hbel⟩; have HS := Lib.hid hst; have HB := Lib.hid (And.intro hb hbel); clear hst hb hbel)
  | (go_at_call 89; refine (write_calls b b begin8 [] 0 (.slice none 0 0) t _ HS.out (by omega) (Nat.le_refl _)).mono ?_; rintro e w2 ⟨rfl, hv2, hst2, hbel2⟩; have HS2 := Lib.hid hst2; have HB2 := Lib.hid hbel2; clear hst2 hbel2)
  | (go_at_call 90; refine (sum_calls b b _ _ _ hv2 _ HS2.out (by omega) (by have := eat_len begin8 ([] ++ bs t); rw [List.nil_append, z05] at this; simpa using this)).mono ?_; rintro e w3 ⟨rfl, hbel3⟩; have HB3 := Lib.hid hbel3; clear hbel3))
 go_ret
 refine ⟨?_, ?_⟩
 ·unfold sha shaEnd
  rw [z05]
  simp
 ·refine HB.out.2.trans ?_
  have h2 := HB2.out.mono (B' := w.heap.size) HB.out.1
  refine h2.trans (HB3.out.mono ?_)
  have := HB.out.2.size
  have := HB2.out.size
  omega
end Go.Proofs.Ytcfdplmapdgfmaa.Mine
set_option linter.unusedVariables false
set_option linter.unusedSimpArgs false
namespace Go.Proofs.Ytcfdplmapdgfmaa.Mine
open Go.RowKit Go.Proofs.YtcfdplmapdgfmaaW.PrintWords
def wnew (W : List Nat) (i : Nat) : Nat := (W.getD (i - 16) 0 + W.getD (i - 7) 0 + small (W.getD (i - 15) 0) + great (W.getD (i - 2) 0)) % 4294967296
def extend : Nat → Nat → List Nat → List Nat
 | 0, _, W => W
 | k + 1, i, W => extend k (i + 1) (W.set i (wnew W i))
theorem getD_set_ne (W : List Nat) (i j x : Nat) (h : i ≠ j) : (W.set i x).getD j 0 = W.getD j 0 := by
 rw [List.getD_eq_getElem?_getD, List.getElem?_set_ne h, ← List.getD_eq_getElem?_getD]
theorem getD_set_eq (W : List Nat) (i x : Nat) (h : i < W.length) : (W.set i x).getD i 0 = x := by
 rw [List.getD_eq_getElem?_getD, List.getElem?_set_self h]; rfl
theorem extend_length : ∀ (k i : Nat) (W : List Nat), (extend k i W).length = W.length
 | 0, _, _ => rfl
 | k + 1, i, W => by rw [extend, extend_length k]; simp
theorem extend_old : ∀ (k i : Nat) (W : List Nat) (j : Nat), j < i → (extend k i W).getD j 0 = W.getD j 0
 | 0, _, _, _, _ => rfl
 | k + 1, i, W, j, h => by rw [extend, extend_old k (i + 1) _ j (by omega), getD_set_ne _ _ _ _ (by omega)]
theorem extend_new : ∀ (k i : Nat) (W : List Nat) (j : Nat), 16 ≤ i → i ≤ j → j < i + k → i + k ≤ W.length → (extend k i W).getD j 0 = wnew (extend k i W) j
 | 0, i, W, j, _, h1, h2, _ => by omega
 | k + 1, i, W, j, h0, h1, h2, h3 => by
  by_cases hij : i = j
  ·subst hij
   have e : ∀ m, m < i → (extend (k + 1) i W).getD m 0 = W.getD m 0 := extend_old (k + 1) i W
   have e2 : (extend (k + 1) i W).getD i 0 = wnew W i := by
    rw [extend, extend_old k (i + 1) _ i (by omega), getD_set_eq _ _ _ (by omega)]
   rw [e2]
   unfold wnew
   rw [e _ (by omega), e _ (by omega), e _ (by omega), e _ (by omega)]
  ·rw [extend]
   exact extend_new k (i + 1) _ j (by omega) (by omega) (by omega) (by simp; omega)
def rounds : List Nat → Nat → List Nat → List Nat → List Nat
 | [], _, _, x => x
 | k :: ks, i, W, x => rounds ks (i + 1) W (stepX k (W.getD i 0) x)
def Ring (W wl : List Nat) (i : Nat) : Prop := wl.length = 16 ∧ ∀ j, j < max i 16 → max i 16 ≤ j + 16 → wl.getD (j % 16) 0 = W.getD j 0
theorem Ring.step {W wl : List Nat} {i : Nat} (h : Ring W wl i) (hW : ∀ j, 16 ≤ j → j < 64 → W.getD j 0 = wnew W j) (hi : i < 64) :
  Ring W (roundW wl i) (i + 1) ∧ (roundW wl i).getD (i % 16) 0 = W.getD i 0 := by
 unfold roundW
 by_cases h16 : 16 ≤ i
 ·rw [if_pos h16]
  have m1 : max i 16 = i := by omega
  have m2 : max (i + 1) 16 = i + 1 := by omega
  have hr := h.2
  rw [m1] at hr
  have e0 := hr (i - 16) (by omega) (by omega)
  have e1 := hr (i - 15) (by omega) (by omega)
  have e9 := hr (i - 7) (by omega) (by omega)
  have e14 := hr (i - 2) (by omega) (by omega)
  rw [show (i - 16) % 16 = i % 16 from by omega] at e0
  rw [show (i - 15) % 16 = (i + 1) % 16 from by omega] at e1
  rw [show (i - 7) % 16 = (i + 9) % 16 from by omega] at e9
  rw [show (i - 2) % 16 = (i + 14) % 16 from by omega] at e14
  have hv : (wl.getD (i % 16) 0 + (small (wl.getD ((i + 1) % 16) 0) + wl.getD ((i + 9) % 16) 0 + great (wl.getD ((i + 14) % 16) 0))) % 4294967296 = W.getD i 0 := by
   rw [hW i h16 hi, e0, e1, e9, e14]
   unfold wnew
   congr 1
   omega
  rw [hv]
  refine ⟨⟨by simp [h.1], fun j h1 h2 => ?_⟩, getD_set_eq _ _ _ (by rw [h.1]; omega)⟩
  rw [m2] at h1 h2
  by_cases hj : j = i
  ·subst hj
   exact getD_set_eq _ _ _ (by rw [h.1]; omega)
  ·rw [getD_set_ne _ _ _ _ (by omega)]
   exact hr j (by omega) (by omega)
 ·rw [if_neg h16]
  have m1 : max i 16 = 16 := by omega
  have m2 : max (i + 1) 16 = 16 := by omega
  have hr := h.2
  rw [m1] at hr
  refine ⟨⟨h.1, fun j h1 h2 => hr j (by omega) (by omega)⟩, hr i (by omega) (by omega)⟩
theorem stirGo_rounds (W : List Nat) (hW : ∀ j, 16 ≤ j → j < 64 → W.getD j 0 = wnew W j) :
  ∀ (ks : List Nat) (i : Nat) (wl x : List Nat), i + ks.length ≤ 64 → Ring W wl i → stirGo ks i wl x = rounds ks i W x
 | [], _, _, _, _, _ => rfl
 | k :: ks, i, wl, x, hl, hr => by
  rw [List.length_cons] at hl
  obtain ⟨h1, h2⟩ := hr.step hW (by omega)
  rw [stirGo, rounds, h2]
  exact stirGo_rounds W hW ks (i + 1) _ _ (by omega) h1
theorem fill_more : ∀ (p wl more : List Nat) (i : Nat), i + p.length ≤ 4 * wl.length → fill (wl ++ more) p i = fill wl p i ++ more
 | [], _, _, _, _ => rfl
 | c :: cs, wl, more, i, h => by
  rw [List.length_cons] at h
  have hi : i / 4 < wl.length := by omega
  have e : (wl ++ more).getD (i / 4) 0 = wl.getD (i / 4) 0 := by
   rw [List.getD_eq_getElem?_getD, List.getElem?_append_left hi, ← List.getD_eq_getElem?_getD]
  rw [fill, fill, e, List.set_append_left _ _ hi]
  exact fill_more cs _ more (i + 1) (by rw [List.length_set]; omega)
def sched (p : List Nat) : List Nat := extend 48 16 (fill (List.replicate 64 0) p 0)
def stirR (v p : List Nat) : List Nat := (List.range 8).map fun j => (v.getD j 0 + (rounds salts 0 (sched p) v).getD j 0) % 4294967296
theorem stir_stirR (v p : List Nat) (hp : p.length = 64) : stir v p = stirR v p := by
 unfold stir stirR
 have hW : ∀ j, 16 ≤ j → j < 64 → (sched p).getD j 0 = wnew (sched p) j := fun j h1 h2 =>
  extend_new 48 16 _ j (Nat.le_refl _) h1 (by omega) (by rw [fill_length]; simp)
 have hr : Ring (sched p) (fill (List.replicate 16 0) p 0) 0 := by
  refine ⟨by rw [fill_length]; simp, fun j h1 _ => ?_⟩
  have hj : j < 16 := by omega
  unfold sched
  rw [extend_old 48 16 _ j hj, show List.replicate 64 0 = List.replicate 16 0 ++ List.replicate 48 0 from rfl, fill_more p _ _ 0 (by rw [hp]; simp), Nat.mod_eq_of_lt hj]
  have hl : j < (fill (List.replicate 16 0) p 0).length := by rw [fill_length]; simpa using hj
  rw [List.getD_eq_getElem?_getD, List.getD_eq_getElem?_getD, List.getElem?_append_left hl]
 rw [stirGo_rounds (sched p) hW salts 0 _ _ (by decide) hr]
end Go.Proofs.Ytcfdplmapdgfmaa.Mine
set_option linter.unusedVariables false
set_option linter.unusedSimpArgs false
namespace Go.Proofs.Ytcfdplmapdgfmaa.Mine
open Go.RowKit Go.Proofs.YtcfdplmapdgfmaaW.PrintWords
theorem eat_append : ∀ (k : Nat) (v a b : List Nat), a.length ≤ k → eat v (a ++ b) = eat (eat v a).1 ((eat v a).2 ++ b) := by
 intro k
 induction k with
 | zero => intro v a b hk; rw [eat_end v a (by omega)]
 | succ k ih =>
  intro v a b hk
  by_cases h : 64 ≤ a.length
  ·rw [eat_step v (a ++ b) (by rw [List.length_append]; omega), eat_step v a h, List.take_append_of_le_length h, List.drop_append_of_le_length h]
   exact ih _ _ _ (by rw [List.length_drop]; omega)
  ·rw [eat_end v a (by omega)]
theorem eat_mod : ∀ (k : Nat) (v a : List Nat), a.length ≤ k → (eat v a).2.length = a.length % 64 := by
 intro k
 induction k with
 | zero => intro v a hk; rw [eat_end v a (by omega)]; show a.length = a.length % 64; omega
 | succ k ih =>
  intro v a hk
  by_cases h : 64 ≤ a.length
  ·rw [eat_step v a h, ih _ _ (by rw [List.length_drop]; omega), List.length_drop]; omega
  ·rw [eat_end v a (by omega)]; show a.length = a.length % 64; omega
def tail (m : Nat) : List Nat := [128] ++ List.replicate (gap m) 0 ++ lenB m
theorem pad_tail (held : List Nat) (m : Nat) (h : held.length % 64 = m % 64) : pad held m = held ++ tail m := by
 have e : gap held.length = gap m := by unfold gap; rw [h]
 simp [pad, tail, e]
theorem shaEnd_eat (v a : List Nat) (m : Nat) (h : a.length % 64 = m % 64) : shaEnd (eat v a).1 (eat v a).2 m = outB (eat v (a ++ tail m)).1 := by
 unfold shaEnd
 rw [pad_tail _ _ (by rw [eat_mod _ v a (Nat.le_refl _)]; omega), eat_append _ v a _ (Nat.le_refl _)]
theorem sha_eq (l : List Nat) : sha l = outB (eat begin8 (pad l l.length)).1 := by
 unfold sha
 rw [shaEnd_eat _ _ _ rfl, pad_tail _ _ rfl]
end Go.Proofs.Ytcfdplmapdgfmaa.Mine
