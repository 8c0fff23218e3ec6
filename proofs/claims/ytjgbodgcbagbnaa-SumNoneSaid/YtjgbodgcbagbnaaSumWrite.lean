/- The contract of State.Write. -/
import Derived.Test.YtjgbodgcbagbnaaSumState
set_option linter.unusedVariables false
set_option linter.unusedSimpArgs false
namespace Go.Proofs.Ytjgbodgcbagbnaa.Mine
open Go.RowKit Go.Proofs.YtjgbodgcbagbnaaW.PrintWords

set_option maxRecDepth 100000 in
set_option maxHeartbeats 1000000 in
theorem write_calls (base b : Nat) (v held : List Nat) (many : Nat) (hv : Value) (t : ByteArray) (w : World) (hst : St w base b v held many hv) (hm : many + t.size ≤ 70368744177664) (hh : held.length ≤ many) :
    Calls Try.prog 19 #[.pointer (some ⟨b, 0, none⟩), .string t] w fun e w' => e = .returned (.tuple #[]) ∧ ∃ hv', St w' base b (eat v (held ++ bs t)).1 (eat v (held ++ bs t)).2 (many + t.size) hv' ∧ Below base w w' := by
  obtain ⟨pt, cp, rfl⟩ := hst.form
  have HST := Lib.hid hst
  have hs9 : St (w.setCell ⟨b, 9, none⟩ (.int .u64 ((many : Int) + (t.size : Int)))) base b v held (many + t.size) (.slice pt held.length cp) := by
    have := hst.set9 (many + t.size)
    rwa [Int.natCast_add] at this
  have HS9 := Lib.hid hs9
  clear hs9
  have HH := Lib.hid hh
  have c9 := hst.c9
  have f9 := hst.fr 9
  have f8 := hst.fr 8
  have c8 := hst.c8
  clear hst hh
  obtain ⟨i0, hi0, hz0, hz1, hz2⟩ : ∃ i, Try.prog.info? 5 = some i ∧ i.zero = some (.int .u8 0) ∧ i.size = 1 ∧ i.bytes = 1 := ⟨_, rfl, rfl, rfl, rfl⟩
  have hxs : (u8s held).length + t.size ≤ 140737488355328 := by rw [u8s_length]; have := HH.out; omega
  have hxm : (u8s held).length + t.size ≤ maxLen := by simp only [maxLen]; omega
  have hbase : Hid (base ≤ (w.setCell ⟨b, 9, none⟩ (.int .u64 ((many : Int) + (t.size : Int)))).heap.size) := by
    have h1 := HST.out.lt
    have h2 := HST.out.low
    unfold Hid
    simp [World.setCell]
    omega
  go_enter Try.func19, Try.ntmps19
  have HI := Lib.hid (And.intro hi0 (And.intro hz0 (And.intro hz1 hz2)))
  clear hi0 hz0 hz1 hz2
  have hcap : base ≤ w.heap.size := by have h1 := HST.out.lt; have h2 := HST.out.low; omega
  have HCAP := Lib.hid hcap
  clear hcap
  go_wp2_with (at_builtin; refine wpList_append_row _ rfl _ _ _ _ rfl base 5 i0 Try.underlying46 Try.underlying9 HI.out.1 HI.out.2.1 HI.out.2.2.1 HI.out.2.2.2 (.slice pt held.length cp) (u8s held) rfl HS9.out.held t rfl hxm hxs hbase.out ?_; intro hv1 w1 hrow1 hgr1 hown1; rw [strCells_u8s, ← u8s_append] at hrow1; have hfm := hrow1.form; rw [u8s_length] at hfm; obtain ⟨p1, cp1, rfl⟩ := hfm; have c81 : w1.cell? ⟨b, 8, none⟩ = some (.slice pt held.length cp) := (World.cell?_of_block (w := _) (hgr1.block b HS9.out.lt (fun e => HS9.out.apart b e.symm rfl))).trans HS9.out.c8; have f81 : w1.frozen? ⟨b, 8, none⟩ = false := (World.frozen?_of_block (w := _) (hgr1.block b HS9.out.lt (fun e => HS9.out.apart b e.symm rfl))).trans (HS9.out.fr 8); have HROW := Lib.hid hrow1; have HGR := Lib.hid hgr1; have HOWN := Lib.hid hown1; clear hrow1 hgr1 hown1)
  have hs2 : St (w1.setCell ⟨b, 8, none⟩ (.slice p1 (held ++ bs t).length cp1)) base b v (held ++ bs t) (many + t.size) (.slice p1 (held ++ bs t).length cp1) :=
    HS9.out.grow HGR.out HROW.out (by intro x hx; rcases List.mem_append.1 hx with h1 | h1; exact HST.out.bytes x h1; exact bs_lt t x h1) HOWN.out
  have hb2 : Below base w (w1.setCell ⟨b, 8, none⟩ (.slice p1 (held ++ bs t).length cp1)) := by
    refine Below.setCell (p := ⟨b, 8, none⟩) ?_ HST.out.low _
    refine Below.trans (b := w.setCell ⟨b, 9, none⟩ (.int .u64 ((many : Int) + (t.size : Int)))) ((Below.refl _ w).setCell (p := ⟨b, 9, none⟩) HST.out.low _) ?_
    refine (Below.refl base _).grown HGR.out hbase.out fun k hk => (HST.out.held.lt k hk).1
  rw [List.length_append] at hs2 hb2
  have HS2 := Lib.hid hs2
  have HB2 := Lib.hid hb2
  clear hs2 hb2
  obtain ⟨E0, hE0⟩ : ∃ x, x = eat v (held ++ bs t) := ⟨_, rfl⟩
  have HE0 := Lib.hid hE0
  clear hE0
  go_loopg [] (held.length + (bs t).length) (fun k wr => ∃ (v1 p1 : List Nat) (p : Option Addr) (c n : Nat), k = n ∧ Hid (n = p1.length) ∧ Hid (St wr base b v1 p1 (many + t.size) (.slice p n c)) ∧ Hid (eat v1 p1 = E0) ∧ Hid (Below base w wr))
  case atStart =>
    exact ⟨v, held ++ bs t, p1, cp1, _, rfl, by unfold Hid; simp, HS2.out, HE0.out.symm, HB2.out⟩
  case round =>
    clear c8 c9 f8 f9 c81 f81
    obtain ⟨v1, q1, p, c, n, hk, HN, HS, HE, HB⟩ := hrel
    replace hk := hk.symm; subst hk
    have hc8 := HS.out.c8
    by_cases h64 : 64 ≤ n
    · have hb1 : decide (64 ≤ (n : Int)) = true := by simp; omega
      obtain ⟨g, off, c', he, hnc, hcm, hgb, hbg, hg, hcl⟩ := HS.out.filled (by rw [← HN.out]; omega)
      rw [← HN.out] at he hnc
      cases he
      have HCL := Lib.hid hcl
      clear hcl
      obtain ⟨a0, a1, a2, a3, a4, a5, a6, a7, rfl⟩ := list8 v1 HS.out.len
      have x0 := HS.out.cellv 0 (by omega)
      have x1 := HS.out.cellv 1 (by omega)
      have x2 := HS.out.cellv 2 (by omega)
      have x3 := HS.out.cellv 3 (by omega)
      have x4 := HS.out.cellv 4 (by omega)
      have x5 := HS.out.cellv 5 (by omega)
      have x6 := HS.out.cellv 6 (by omega)
      have x7 := HS.out.cellv 7 (by omega)
      simp only [List.getD_cons_zero, List.getD_cons_succ] at x0 x1 x2 x3 x4 x5 x6 x7
      have P3 : Hid ((q1.take 64).length = 64) := by unfold Hid; rw [List.length_take, ← HN.out]; omega
      have P4 : Hid (∀ x ∈ q1.take 64, x < 256) := fun x hx => HS.out.bytes x (List.mem_of_mem_take hx)
      have P8 : Hid (∀ j, j < 64 → wr.cell? ((⟨g, off, none⟩ : Addr).add j) = some (.int .u8 (((q1.take 64).getD j 0 : Nat) : Int))) := by
        intro j hj
        have e1 : (q1.take 64).getD j 0 = q1.getD j 0 := by simp [List.getD_eq_getElem?_getD, List.getElem?_take, hj]
        rw [e1]
        exact HCL.out j (by rw [← HN.out]; omega)
      simp only [maxLen] at hcm
      have HW := Lib.hid (And.intro HS.out.len HS.out.words)
      obtain ⟨s0, s1, s2, s3, s4, s5, s6, s7, hs⟩ := list8 (stir [a0, a1, a2, a3, a4, a5, a6, a7] (q1.take 64)) (stir_length _ _)
      have hw8 := stir_words [a0, a1, a2, a3, a4, a5, a6, a7] (q1.take 64)
      rw [hs] at hw8
      have HS8 := Lib.hid hs
      have HW8 := Lib.hid hw8
      clear hs hw8
      have hcall := stir_calls [a0, a1, a2, a3, a4, a5, a6, a7] (q1.take 64) ⟨g, off, none⟩ n c wr.drew HW.out.1 HW.out.2 P3.out P4.out h64 hnc hcm P8.out hg
      rw [u32a_lit] at hcall
      go_upto_region 4 with (fail)
      go_region_with (go_at_call 39; refine hcall.mono ?_; rintro e w2 ⟨rfl, hb2⟩; rw [HS8.out, u32a_lit]; have hs2 := HS.out.below (below_of_drew hb2) (Nat.le_refl _); have y0 := hs2.cellv 0 (by omega); have y1 := hs2.cellv 1 (by omega); have y2 := hs2.cellv 2 (by omega); have y3 := hs2.cellv 3 (by omega); have y4 := hs2.cellv 4 (by omega); have y5 := hs2.cellv 5 (by omega); have y6 := hs2.cellv 6 (by omega); have y7 := hs2.cellv 7 (by omega); have z0 := hs2.fr 0; have z1 := hs2.fr 1; have z2 := hs2.fr 2; have z3 := hs2.fr 3; have z4 := hs2.fr 4; have z5 := hs2.fr 5; have z6 := hs2.fr 6; have z7 := hs2.fr 7; have HS2 := Lib.hid hs2; have HB2 := Lib.hid (below_of_drew hb2); clear hb2 hs2)
      all_goals
        clear x0 x1 x2 x3 x4 x5 x6 x7 y0 y1 y2 y3 y4 y5 y6 y7 z0 z1 z2 z3 z4 z5 z6 z7 hcall
        rename_i w2 _ _
        have hs3 := HS2.out.set8 HW8.out
        have hc83 := hs3.c8
        have hf83 := hs3.fr 8
        have HS3 := Lib.hid hs3
        clear hs3
        have hb4 : Below base wr ((((((((w2.setCell ⟨b, 0, none⟩ (.int .u32 (s0 : Int))).setCell ⟨b, 1, none⟩ (.int .u32 (s1 : Int))).setCell ⟨b, 2, none⟩ (.int .u32 (s2 : Int))).setCell ⟨b, 3, none⟩ (.int .u32 (s3 : Int))).setCell ⟨b, 4, none⟩ (.int .u32 (s4 : Int))).setCell ⟨b, 5, none⟩ (.int .u32 (s5 : Int))).setCell ⟨b, 6, none⟩ (.int .u32 (s6 : Int))).setCell ⟨b, 7, none⟩ (.int .u32 (s7 : Int))) := by
          have hl := HS.out.low
          have hlt := HS.out.lt
          have hdr : wr.drew.heap.size = wr.heap.size := rfl
          exact (((((((((HB2.out.mono (B' := base) (by omega)).setCell (p := ⟨b, 0, none⟩) hl _).setCell (p := ⟨b, 1, none⟩) hl _).setCell (p := ⟨b, 2, none⟩) hl _).setCell (p := ⟨b, 3, none⟩) hl _).setCell (p := ⟨b, 4, none⟩) hl _).setCell (p := ⟨b, 5, none⟩) hl _).setCell (p := ⟨b, 6, none⟩) hl _).setCell (p := ⟨b, 7, none⟩) hl _)
        generalize hw4 : ((((((((w2.setCell ⟨b, 0, none⟩ (.int .u32 (s0 : Int))).setCell ⟨b, 1, none⟩ (.int .u32 (s1 : Int))).setCell ⟨b, 2, none⟩ (.int .u32 (s2 : Int))).setCell ⟨b, 3, none⟩ (.int .u32 (s3 : Int))).setCell ⟨b, 4, none⟩ (.int .u32 (s4 : Int))).setCell ⟨b, 5, none⟩ (.int .u32 (s5 : Int))).setCell ⟨b, 6, none⟩ (.int .u32 (s6 : Int))).setCell ⟨b, 7, none⟩ (.int .u32 (s7 : Int))) = w4 at *
        clear hw4
        have HB4 := Lib.hid hb4
        clear hb4
        by_cases hc64 : c = 64
        · subst hc64
          obtain rfl : n = 64 := by omega
          go_wp2_with (fail)
          go_roundg 0
          case measure => omega
          case rel =>
            refine ⟨[s0, s1, s2, s3, s4, s5, s6, s7], q1.drop 64, _, _, 0, rfl, ?_, HS3.out.cut0 HN.out, ?_, (HB.out.trans HB4.out).setCell (p := ⟨b, 8, none⟩) HS.out.low _⟩
            · unfold Hid; rw [List.length_drop, ← HN.out]
            · rw [← HS8.out]; unfold Hid; rw [← eat_step _ _ (by have := HN.out; omega)]; exact HE.out
        · have hcb : (c == 64) = false := by simpa using hc64
          have hcb2 : (c = 64) = False := by simpa using hc64
          go_wp2_with (fail)
          go_roundg (n - 64)
          case measure => omega
          case rel =>
            refine ⟨[s0, s1, s2, s3, s4, s5, s6, s7], q1.drop 64, _, _, n - 64, rfl, ?_, HS3.out.cut HN.out h64 hc64, ?_, (HB.out.trans HB4.out).setCell (p := ⟨b, 8, none⟩) HS.out.low _⟩
            · unfold Hid; rw [List.length_drop, ← HN.out]
            · rw [← HS8.out]; unfold Hid; rw [← eat_step _ _ (by have := HN.out; omega)]; exact HE.out
    · have hb1 : decide (64 ≤ (n : Int)) = false := by simp; omega
      go_wp2_with (fail)

      (try simp only [Exit.inBlock, Exit.then]); refine bodyPost_end (results_none rfl _ _ _) rfl ?_
      have he := HE.out
      rw [eat_end _ _ (by rw [← HN.out]; omega)] at he
      rw [← HE0.out, ← he]
      exact ⟨rfl, _, HS.out, HB.out⟩
end Go.Proofs.Ytjgbodgcbagbnaa.Mine
