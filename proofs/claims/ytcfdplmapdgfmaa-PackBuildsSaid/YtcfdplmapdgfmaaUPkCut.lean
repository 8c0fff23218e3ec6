import Derived.Test.YtcfdplmapdgfmaaUPkRScan
import Derived.Test.YtcfdplmapdgfmaaUPkAw
import Derived.Deep.RegionHeld3
set_option linter.unusedVariables false
set_option linter.unusedSimpArgs false
namespace Go.Proofs.Ytcfdplmapdgfmaa.Mine
open Go.RowKit Go.Proofs.YtcfdplmapdgfmaaW.PrintWords
def itemCut (x : ItemP) : ItemP := ⟨if 40 < x.base.size then x.base.extract 0 40 else x.base, if 400 < x.data.size then x.data.extract 0 400 else x.data, x.pos⟩
def cutP (l : List ItemP) : List ItemP := (l.take 20).map itemCut
def itemCs (x : ItemP) : Array Value := #[.string x.base, .string x.data, .int .i64 x.pos]
def itemRow (x : ItemP) (cs : List Value) : Prop := cs = [.string x.base, .string x.data, .int .i64 x.pos]
theorem item_row {W : World} {g : Nat} {t : TypeId} {x : ItemP} (h : W.heap[g]? = some (.cells (itemCs x) t (0, 0))) : ReadsRow itemRow itemK.sz W (some ⟨g, 0, none⟩) 1 [x] := by
 refine ⟨rfl, by decide, fun _ => ⟨_, rfl, fun j p hj => ?_⟩⟩
 have hj0 : j = 0 := by
  rcases Nat.eq_zero_or_pos j with h | h
  ·exact h
  ·rw [List.getElem?_eq_none (by rw [List.length_singleton]; omega)] at hj; cases hj
 subst hj0
 simp only [List.getElem?_cons_zero, Option.some.injEq] at hj
 subst hj
 refine ⟨[.string x.base, .string x.data, .int .i64 x.pos], rfl, rfl, fun i u hu => ?_⟩
 have ha : (⟨g, 0, none⟩ : Addr).add (0 * itemK.sz + i) = ⟨g, i, none⟩ := by unfold Addr.add; split <;> simp_all
 rw [ha, z0a h i, ← hu]
 simp [itemCs]
structure CutS (w W : World) (v4 v5 : Value) (x4 x5 : List ItemP) (B : Nat) (y : ItemP) : Prop where
 r4 : Kd.R itemK 60 W w.heap.size (fun _ => True) v4 x4
 r5 : Kd.R itemK 61 W w.heap.size (fun _ => True) v5 x5
 bel : Below w.heap.size w W
 bx : W.heap[B]? = some (.cells (itemCs y) 60 (0, 0))
 nb : some B ≠ v4.ownBlock
section
variable {w W : World} {v4 v5 : Value} {x4 x5 : List ItemP} {B : Nat} {y : ItemP}
theorem CutS.alloc (h : CutS w W v4 v5 x4 x5 B y) (o : Obj) : CutS w (W.alloc o) v4 v5 x4 x5 B y :=
 ⟨Kd.z0q h.r4 o, Kd.z0q h.r5 o, z03 h.bel o, z12 h.bx o, h.nb⟩
theorem CutS.drew (h : CutS w W v4 v5 x4 x5 B y) : CutS w W.drew v4 v5 x4 x5 B y :=
 ⟨Kd.R_drew h.r4, Kd.R_drew h.r5, z0v h.bel, z0w h.bx, h.nb⟩
theorem CutS.cells (h : CutS w W v4 v5 x4 x5 B y) : W.cell? ⟨B, 0, none⟩ = some (.string y.base) ∧ W.cell? ⟨B, 1, none⟩ = some (.string y.data) ∧ W.cell? ⟨B, 2, none⟩ = some (.int .i64 y.pos) :=
 ⟨(z0a h.bx 0).trans rfl, (z0a h.bx 1).trans rfl, (z0a h.bx 2).trans rfl⟩
variable {ops : Array Oper} {o : Oper} {a : Act} {Q : Exit → Act → World → Prop} {Kc : Act → World → Prop}
theorem cut_step4 (hS : CutS w W v4 v5 x4 x5 B y) (hw : Region.wanted o (yielded ops a.tmps) = true) (s x : Operand) (ho : o.op = .call { callee := .builtin .append, args := #[s, x], argTypes := #[48, 48] })
  (M g c : Nat) (hM : ∀ k, v4.ownBlock = some k → k < M) (hs : a.eval s = v4) (hx : a.eval x = .slice (some ⟨g, 0, none⟩) 1 c) (hg : W.heap[g]? = some (.cells (itemCs y) 60 (0, 0))) (hl : x4.length ≤ 100)
  (h : ∀ v1 w1, CutS w w1 v1 v5 (x4 ++ [y]) x5 B y → (∀ g2 o2, M ≤ g2 → W.heap[g2]? = some o2 → w1.heap[g2]? = some o2) → Kc (a.put o.dst v1) w1) :
  if Region.wanted o (yielded ops a.tmps) = true then Oper.wp Try.prog o a W Kc Q else Kc (a.put o.dst undef) W := by
 refine Kd.R_append_rows_step itemK (Rr := itemRow) (w0 := w) w.heap.size hw s x 48 60 (.agg #[.string ⟨#[]⟩, .string ⟨#[]⟩, .int .i64 0]) 40 ho Try.underlying48 info_item rfl (by decide) (by omega) v4 x4 [y] (some ⟨g, 0, none⟩) 1 c (fun _ => True) (fun _ => False) hs hx hS.r4 (item_row hg) (fun x cs hr => by subst hr; exact item_M _ _ _ _) (fun _ hk => hk.elim) (fun _ _ => trivial) hS.bel hS.bel.size (by omega) ?_
 intro v1 w1 hr hb hgr hat
 refine h v1 w1 ⟨hr, Kd.R_over hS.r5 hS.r4 (by decide) hgr, hb, blk_grown hS.bx hgr hS.nb, ?_⟩ fun g2 o2 h2 h3 => blk_grown h3 hgr fun e => by have := hM g2 e.symm; omega
 rcases hat with e | ⟨b, e, hle⟩
 ·rw [e]; exact hS.nb
 ·rw [e]; intro e2; injection e2 with e2; have := blk_lt hS.bx; omega
theorem cut_step5 (hS : CutS w W v4 v5 x4 x5 B y) (hw : Region.wanted o (yielded ops a.tmps) = true) (s x : Operand) (ho : o.op = .call { callee := .builtin .append, args := #[s, x], argTypes := #[49, 49] })
  (g c : Nat) (hs : a.eval s = v5) (hx : a.eval x = .slice (some ⟨g, 0, none⟩) 1 c) (hg : W.heap[g]? = some (.cells (itemCs y) 61 (0, 0))) (hl : x5.length ≤ 100)
  (h : ∀ v1 w1, CutS w w1 v4 v1 x4 (x5 ++ [y]) B y → Kc (a.put o.dst v1) w1) :
  if Region.wanted o (yielded ops a.tmps) = true then Oper.wp Try.prog o a W Kc Q else Kc (a.put o.dst undef) W := by
 refine Kd.R_append_rows_step itemK (Rr := itemRow) (w0 := w) w.heap.size hw s x 49 61 (.agg #[.string ⟨#[]⟩, .string ⟨#[]⟩, .int .i64 0]) 40 ho Try.underlying49 info_ritem rfl (by decide) (by omega) v5 x5 [y] (some ⟨g, 0, none⟩) 1 c (fun _ => True) (fun _ => False) hs hx hS.r5 (item_row hg) (fun x cs hr => by subst hr; exact item_M _ _ _ _) (fun _ hk => hk.elim) (fun _ _ => trivial) hS.bel hS.bel.size (by omega) ?_
 intro v1 w1 hr hb hgr hat
 exact h v1 w1 ⟨Kd.R_over hS.r4 hS.r5 (by decide) hgr, hr, hb, blk_grown hS.bx hgr (Kd.R_ne hS.r5 hS.bx (by decide)), hS.nb⟩
end
theorem blk_new2 (w : World) (o o2 : Obj) : ((w.alloc o).alloc o2).heap[w.heap.size + 1]? = some o2 := by
 have h := z0d (w.alloc o) o2
 rwa [show (w.alloc o).heap.size = w.heap.size + 1 from by simp] at h
theorem cutP_length (l : List ItemP) : (cutP l).length = min 20 l.length := by rw [cutP, List.length_map, List.length_take]
theorem cutP_take (l : List ItemP) (j : Nat) (hj : j < l.length) (h20 : j < 20) : (cutP l).take (j + 1) = (cutP l).take j ++ [itemCut l[j]] := by
 rw [List.take_succ_eq_append_getElem (by rw [cutP_length]; omega)]
 congr 1
 simp [cutP]
def CutOut (k : List ItemP) (w : World) (e : Ending) (w' : World) : Prop := ∃ A1 c1 A2 c2, e = .returned (.tuple #[.slice A1 k.length c1, .slice A2 k.length c2]) ∧ Kd.C itemK w' A1 k.length k ∧ Kd.C itemK w' A2 k.length k ∧ k.length ≤ c1 ∧ Below w.heap.size w w'
set_option maxRecDepth 100000 in
set_option maxHeartbeats 4000000 in
theorem cut_calls (l : List ItemP) (A : Option Addr) (c : Nat) (w : World) (hC : Kd.C itemK w A l.length l) (hl : l.length ≤ 9223372036854775807) :
  Calls Try.prog 22 #[.slice A l.length c] w fun e w' => CutOut (cutP l) w e w' := by
 have hlen := cutP_length l
 have HC := Lib.hid hC
 have HLN := Lib.hid hlen
 clear hC hlen
 go_enter Try.func22, Try.ntmps22
 go_wp2_with fail
 go_loopg [4, 5, 6] (cutP l).length (fun gg s4 s5 s6 wr => ∃ (j : Nat), j ≤ (cutP l).length ∧ gg = (cutP l).length - j ∧ s6 = .int .i64 j ∧
   Hid (Kd.R itemK 60 wr w.heap.size (fun _ => True) s4 ((cutP l).take j)) ∧ Hid (Kd.R itemK 61 wr w.heap.size (fun _ => True) s5 ((cutP l).take j)) ∧ Hid (Below w.heap.size w wr))
 case atStart =>
  exact ⟨0, Nat.zero_le _, by omega, by go_num, Kd.z0q (Kd.R_empty _ _ _ _ (Nat.le_refl _)) _, by unfold Hid; have := Kd.R_empty itemK 61 (w.alloc (.cells #[] 60)) w.heap.size (by simp); simpa using this, z03 (z03 (Below.refl _ _) _) _⟩
 case round =>
  obtain ⟨j, hj, hgk, rfl, H4, H5, HB⟩ := hrel
  have HG := Lib.hid hgk
  clear hgk
  by_cases hlt : j < (cutP l).length
  ·have hjl : j < l.length := by have := HLN.out; omega
   have hj20 : j < 20 := by have := HLN.out; omega
   have hltb : decide ((j : Int) < (l.length : Int)) = true := by simp; omega
   have h20b : decide ((j : Int) < 20) = true := by simp; omega
   obtain ⟨x, rfl, k0, k1, k2⟩ := itemC_at (Kd.z0t HC.out HB.out) j hjl
   obtain ⟨y, hy⟩ : ∃ y, y = itemCut l[j] := ⟨_, rfl⟩
   obtain ⟨B0, hB0⟩ : ∃ B, B = l[j].base := ⟨_, rfl⟩
   obtain ⟨D0, hD0⟩ : ∃ B, B = l[j].data := ⟨_, rfl⟩
   have hyb : y.base = if 40 < B0.size then B0.extract 0 40 else B0 := by rw [hy, hB0]; rfl
   have hyd : y.data = if 400 < D0.size then D0.extract 0 400 else D0 := by rw [hy, hD0]; rfl
   have hyp : l[j].pos = y.pos := by rw [hy]; rfl
   rw [← hB0] at k0
   rw [← hD0] at k1
   rw [hyp] at k2
   have HY := Lib.hid hy
   clear hB0 hD0 hyp hy hlt
   obtain ⟨y0, y1, y2⟩ := y
   simp only at hyb hyd k2
   by_cases hb : 40 < B0.size
   ·have hbb : decide ((B0.size : Int) > 40) = true := by simp; omega
    rw [if_pos hb] at hyb
    have hb1 := z0y B0 40 40 .i64 rfl (by omega)
    rw [← hyb] at hb1
    clear hyb hb
    by_cases hd : 400 < D0.size
    ·have hdd : decide ((D0.size : Int) > 400) = true := by simp; omega
     rw [if_pos hd] at hyd
     have hd1 := z0y D0 400 400 .i64 rfl (by omega)
     rw [← hyd] at hd1
     clear hyd hd
     go_upto_region 10 with fail
     have hc0 : CutS w (wr.alloc (.cells (itemCs ⟨y0, y1, y2⟩) 60)) u4 u5 ((cutP l).take j) ((cutP l).take j) wr.heap.size ⟨y0, y1, y2⟩ := ⟨Kd.z0q H4.out _, Kd.z0q H5.out _, z03 HB.out _, z0d _ _, fun e => absurd (Kd.R_lt H4.out _ e.symm) (Nat.lt_irrefl _)⟩
     have hM := fun k e => Nat.lt_of_lt_of_le (Kd.R_lt H4.out k e) (show wr.heap.size ≤ (wr.alloc (.cells (itemCs ⟨y0, y1, y2⟩) 60)).heap.size from by simp)
     obtain ⟨V, hV⟩ : ∃ V, V = wr.alloc (.cells #[.string y0, .string y1, .int .i64 y2] 60) := ⟨_, rfl⟩
     rw [← hV]
     rw [show wr.alloc (.cells (itemCs ⟨y0, y1, y2⟩) 60) = V from hV.symm] at hc0 hM
     obtain ⟨Bx, hBx⟩ : ∃ B, B = wr.heap.size := ⟨_, rfl⟩
     rw [← hBx] at hc0 ⊢
     have HC0 := Lib.hid hc0
     have HM := Lib.hid hM
     clear hc0 hM hV hBx
     go_region_held3 (fun w' => w'.cell? ⟨Bx, 0, none⟩ = some (.string y0) ∧ w'.cell? ⟨Bx, 1, none⟩ = some (.string y1) ∧ w'.cell? ⟨Bx, 2, none⟩ = some (.int .i64 y2))
      (first | exact HP5.out.cells | exact HP4.out.cells | exact (HP4.out.alloc _).cells | exact (HC0.out.drew).cells | exact (HC0.out.drew.alloc _).cells | exact ((HC0.out.drew.alloc _).alloc _).cells)
      (first
       | (have hh := HP4.out; refine cut_step5 (by first | exact HP4.out | exact HP4.out.alloc _) (by rfl) (.tmp 44) (.tmp 46) rfl _ _ rfl rfl (by first | exact z0d _ _ | exact HK4.out _ _ (by simp) (z0d _ _) | exact HK4.out _ _ (by simp) (z12 (z0d _ _) _) | exact HK4.out _ _ (by simp) (blk_new2 V.drew _ _)) (by rw [List.length_take]; omega) ?_; intro v5 w5 hs5; have HP5 := Lib.hid hs5; clear hs5 hh)
       | (refine cut_step4 (by first | exact HC0.out.drew.alloc _ | exact (HC0.out.drew.alloc _).alloc _) (by rfl) (.tmp 40) (.tmp 42) rfl V.heap.size _ _ HM.out rfl rfl (by first | exact z0d _ _ | exact z12 (z0d _ _) _ | exact blk_new2 V.drew _ _) (by rw [List.length_take]; omega) ?_; intro v4 w4 hs4 hk4; have HP4 := Lib.hid hs4; have HK4 := Lib.hid hk4; clear hs4 hk4))
     all_goals (
      go_wp2_with fail
      go_roundg ((cutP l).length - (j + 1))
      case measure => have := HG.out; have := HLN.out; omega
      case rel =>
       exact ⟨j + 1, by have := HLN.out; omega, rfl, by go_num, by unfold Hid; rw [cutP_take l j hjl hj20, ← HY.out]; exact HP5.out.r4, by unfold Hid; rw [cutP_take l j hjl hj20, ← HY.out]; exact HP5.out.r5, HP5.out.bel⟩)
    ·have hdd : decide ((D0.size : Int) > 400) = false := by simp; omega
     rw [if_neg hd] at hyd
     subst hyd
     clear hd
     go_upto_region 10 with fail
     have hc0 : CutS w (wr.alloc (.cells (itemCs ⟨y0, y1, y2⟩) 60)) u4 u5 ((cutP l).take j) ((cutP l).take j) wr.heap.size ⟨y0, y1, y2⟩ := ⟨Kd.z0q H4.out _, Kd.z0q H5.out _, z03 HB.out _, z0d _ _, fun e => absurd (Kd.R_lt H4.out _ e.symm) (Nat.lt_irrefl _)⟩
     have hM := fun k e => Nat.lt_of_lt_of_le (Kd.R_lt H4.out k e) (show wr.heap.size ≤ (wr.alloc (.cells (itemCs ⟨y0, y1, y2⟩) 60)).heap.size from by simp)
     obtain ⟨V, hV⟩ : ∃ V, V = wr.alloc (.cells #[.string y0, .string y1, .int .i64 y2] 60) := ⟨_, rfl⟩
     rw [← hV]
     rw [show wr.alloc (.cells (itemCs ⟨y0, y1, y2⟩) 60) = V from hV.symm] at hc0 hM
     obtain ⟨Bx, hBx⟩ : ∃ B, B = wr.heap.size := ⟨_, rfl⟩
     rw [← hBx] at hc0 ⊢
     have HC0 := Lib.hid hc0
     have HM := Lib.hid hM
     clear hc0 hM hV hBx
     go_region_held3 (fun w' => w'.cell? ⟨Bx, 0, none⟩ = some (.string y0) ∧ w'.cell? ⟨Bx, 1, none⟩ = some (.string y1) ∧ w'.cell? ⟨Bx, 2, none⟩ = some (.int .i64 y2))
      (first | exact HP5.out.cells | exact HP4.out.cells | exact (HP4.out.alloc _).cells | exact (HC0.out.drew).cells | exact (HC0.out.drew.alloc _).cells | exact ((HC0.out.drew.alloc _).alloc _).cells)
      (first
       | (have hh := HP4.out; refine cut_step5 (by first | exact HP4.out | exact HP4.out.alloc _) (by rfl) (.tmp 44) (.tmp 46) rfl _ _ rfl rfl (by first | exact z0d _ _ | exact HK4.out _ _ (by simp) (z0d _ _) | exact HK4.out _ _ (by simp) (z12 (z0d _ _) _) | exact HK4.out _ _ (by simp) (blk_new2 V.drew _ _)) (by rw [List.length_take]; omega) ?_; intro v5 w5 hs5; have HP5 := Lib.hid hs5; clear hs5 hh)
       | (refine cut_step4 (by first | exact HC0.out.drew.alloc _ | exact (HC0.out.drew.alloc _).alloc _) (by rfl) (.tmp 40) (.tmp 42) rfl V.heap.size _ _ HM.out rfl rfl (by first | exact z0d _ _ | exact z12 (z0d _ _) _ | exact blk_new2 V.drew _ _) (by rw [List.length_take]; omega) ?_; intro v4 w4 hs4 hk4; have HP4 := Lib.hid hs4; have HK4 := Lib.hid hk4; clear hs4 hk4))
     all_goals (
      go_wp2_with fail
      go_roundg ((cutP l).length - (j + 1))
      case measure => have := HG.out; have := HLN.out; omega
      case rel =>
       exact ⟨j + 1, by have := HLN.out; omega, rfl, by go_num, by unfold Hid; rw [cutP_take l j hjl hj20, ← HY.out]; exact HP5.out.r4, by unfold Hid; rw [cutP_take l j hjl hj20, ← HY.out]; exact HP5.out.r5, HP5.out.bel⟩)
   ·have hbb : decide ((B0.size : Int) > 40) = false := by simp; omega
    rw [if_neg hb] at hyb
    subst hyb
    clear hb
    by_cases hd : 400 < D0.size
    ·have hdd : decide ((D0.size : Int) > 400) = true := by simp; omega
     rw [if_pos hd] at hyd
     have hd1 := z0y D0 400 400 .i64 rfl (by omega)
     rw [← hyd] at hd1
     clear hyd hd
     go_upto_region 10 with fail
     have hc0 : CutS w (wr.alloc (.cells (itemCs ⟨y0, y1, y2⟩) 60)) u4 u5 ((cutP l).take j) ((cutP l).take j) wr.heap.size ⟨y0, y1, y2⟩ := ⟨Kd.z0q H4.out _, Kd.z0q H5.out _, z03 HB.out _, z0d _ _, fun e => absurd (Kd.R_lt H4.out _ e.symm) (Nat.lt_irrefl _)⟩
     have hM := fun k e => Nat.lt_of_lt_of_le (Kd.R_lt H4.out k e) (show wr.heap.size ≤ (wr.alloc (.cells (itemCs ⟨y0, y1, y2⟩) 60)).heap.size from by simp)
     obtain ⟨V, hV⟩ : ∃ V, V = wr.alloc (.cells #[.string y0, .string y1, .int .i64 y2] 60) := ⟨_, rfl⟩
     rw [← hV]
     rw [show wr.alloc (.cells (itemCs ⟨y0, y1, y2⟩) 60) = V from hV.symm] at hc0 hM
     obtain ⟨Bx, hBx⟩ : ∃ B, B = wr.heap.size := ⟨_, rfl⟩
     rw [← hBx] at hc0 ⊢
     have HC0 := Lib.hid hc0
     have HM := Lib.hid hM
     clear hc0 hM hV hBx
     go_region_held3 (fun w' => w'.cell? ⟨Bx, 0, none⟩ = some (.string y0) ∧ w'.cell? ⟨Bx, 1, none⟩ = some (.string y1) ∧ w'.cell? ⟨Bx, 2, none⟩ = some (.int .i64 y2))
      (first | exact HP5.out.cells | exact HP4.out.cells | exact (HP4.out.alloc _).cells | exact (HC0.out.drew).cells | exact (HC0.out.drew.alloc _).cells | exact ((HC0.out.drew.alloc _).alloc _).cells)
      (first
       | (have hh := HP4.out; refine cut_step5 (by first | exact HP4.out | exact HP4.out.alloc _) (by rfl) (.tmp 44) (.tmp 46) rfl _ _ rfl rfl (by first | exact z0d _ _ | exact HK4.out _ _ (by simp) (z0d _ _) | exact HK4.out _ _ (by simp) (z12 (z0d _ _) _) | exact HK4.out _ _ (by simp) (blk_new2 V.drew _ _)) (by rw [List.length_take]; omega) ?_; intro v5 w5 hs5; have HP5 := Lib.hid hs5; clear hs5 hh)
       | (refine cut_step4 (by first | exact HC0.out.drew.alloc _ | exact (HC0.out.drew.alloc _).alloc _) (by rfl) (.tmp 40) (.tmp 42) rfl V.heap.size _ _ HM.out rfl rfl (by first | exact z0d _ _ | exact z12 (z0d _ _) _ | exact blk_new2 V.drew _ _) (by rw [List.length_take]; omega) ?_; intro v4 w4 hs4 hk4; have HP4 := Lib.hid hs4; have HK4 := Lib.hid hk4; clear hs4 hk4))
     all_goals (
      go_wp2_with fail
      go_roundg ((cutP l).length - (j + 1))
      case measure => have := HG.out; have := HLN.out; omega
      case rel =>
       exact ⟨j + 1, by have := HLN.out; omega, rfl, by go_num, by unfold Hid; rw [cutP_take l j hjl hj20, ← HY.out]; exact HP5.out.r4, by unfold Hid; rw [cutP_take l j hjl hj20, ← HY.out]; exact HP5.out.r5, HP5.out.bel⟩)
    ·have hdd : decide ((D0.size : Int) > 400) = false := by simp; omega
     rw [if_neg hd] at hyd
     subst hyd
     clear hd
     go_upto_region 10 with fail
     have hc0 : CutS w (wr.alloc (.cells (itemCs ⟨y0, y1, y2⟩) 60)) u4 u5 ((cutP l).take j) ((cutP l).take j) wr.heap.size ⟨y0, y1, y2⟩ := ⟨Kd.z0q H4.out _, Kd.z0q H5.out _, z03 HB.out _, z0d _ _, fun e => absurd (Kd.R_lt H4.out _ e.symm) (Nat.lt_irrefl _)⟩
     have hM := fun k e => Nat.lt_of_lt_of_le (Kd.R_lt H4.out k e) (show wr.heap.size ≤ (wr.alloc (.cells (itemCs ⟨y0, y1, y2⟩) 60)).heap.size from by simp)
     obtain ⟨V, hV⟩ : ∃ V, V = wr.alloc (.cells #[.string y0, .string y1, .int .i64 y2] 60) := ⟨_, rfl⟩
     rw [← hV]
     rw [show wr.alloc (.cells (itemCs ⟨y0, y1, y2⟩) 60) = V from hV.symm] at hc0 hM
     obtain ⟨Bx, hBx⟩ : ∃ B, B = wr.heap.size := ⟨_, rfl⟩
     rw [← hBx] at hc0 ⊢
     have HC0 := Lib.hid hc0
     have HM := Lib.hid hM
     clear hc0 hM hV hBx
     go_region_held3 (fun w' => w'.cell? ⟨Bx, 0, none⟩ = some (.string y0) ∧ w'.cell? ⟨Bx, 1, none⟩ = some (.string y1) ∧ w'.cell? ⟨Bx, 2, none⟩ = some (.int .i64 y2))
      (first | exact HP5.out.cells | exact HP4.out.cells | exact (HP4.out.alloc _).cells | exact (HC0.out.drew).cells | exact (HC0.out.drew.alloc _).cells | exact ((HC0.out.drew.alloc _).alloc _).cells)
      (first
       | (have hh := HP4.out; refine cut_step5 (by first | exact HP4.out | exact HP4.out.alloc _) (by rfl) (.tmp 44) (.tmp 46) rfl _ _ rfl rfl (by first | exact z0d _ _ | exact HK4.out _ _ (by simp) (z0d _ _) | exact HK4.out _ _ (by simp) (z12 (z0d _ _) _) | exact HK4.out _ _ (by simp) (blk_new2 V.drew _ _)) (by rw [List.length_take]; omega) ?_; intro v5 w5 hs5; have HP5 := Lib.hid hs5; clear hs5 hh)
       | (refine cut_step4 (by first | exact HC0.out.drew.alloc _ | exact (HC0.out.drew.alloc _).alloc _) (by rfl) (.tmp 40) (.tmp 42) rfl V.heap.size _ _ HM.out rfl rfl (by first | exact z0d _ _ | exact z12 (z0d _ _) _ | exact blk_new2 V.drew _ _) (by rw [List.length_take]; omega) ?_; intro v4 w4 hs4 hk4; have HP4 := Lib.hid hs4; have HK4 := Lib.hid hk4; clear hs4 hk4))
     all_goals (
      go_wp2_with fail
      go_roundg ((cutP l).length - (j + 1))
      case measure => have := HG.out; have := HLN.out; omega
      case rel =>
       exact ⟨j + 1, by have := HLN.out; omega, rfl, by go_num, by unfold Hid; rw [cutP_take l j hjl hj20, ← HY.out]; exact HP5.out.r4, by unfold Hid; rw [cutP_take l j hjl hj20, ← HY.out]; exact HP5.out.r5, HP5.out.bel⟩)
  ·obtain rfl : j = (cutP l).length := by omega
   have h4 := H4.out
   have h5 := H5.out
   rw [List.take_length] at h4 h5
   obtain ⟨A1, c1, e1, g3, g1⟩ := Kd.R_reads h4
   obtain ⟨A2, c2, e2, _, g2⟩ := Kd.R_reads h5
   rw [e1, e2]
   have HG1 := Lib.hid (And.intro g1 (And.intro g2 g3))
   have hln := HLN.out
   obtain ⟨n, hn⟩ : ∃ n, n = (cutP l).length := ⟨_, rfl⟩
   have HNN := Lib.hid hn
   rw [← hn] at hln HG1 ⊢
   clear h4 h5 g1 g2 g3 e1 e2 hlt hj
   by_cases hlt : n < l.length
   ·have hltb : decide ((n : Int) < (l.length : Int)) = true := by simp; omega
    have h20b : decide ((n : Int) < 20) = false := by simp; omega
    clear hln hn
    go_wp2_with fail
    go_ret2
    exact ⟨A1, c1, A2, c2, by rw [← HNN.out]; rfl, by rw [← HNN.out]; exact HG1.out.1, by rw [← HNN.out]; exact HG1.out.2.1, by rw [← HNN.out]; exact HG1.out.2.2, HB.out⟩
   ·have hltb : decide ((n : Int) < (l.length : Int)) = false := by simp; omega
    clear hln hn
    go_wp2_with fail
    go_ret2
    exact ⟨A1, c1, A2, c2, by rw [← HNN.out]; rfl, by rw [← HNN.out]; exact HG1.out.1, by rw [← HNN.out]; exact HG1.out.2.1, by rw [← HNN.out]; exact HG1.out.2.2, HB.out⟩
end Go.Proofs.Ytcfdplmapdgfmaa.Mine
