import Derived.Test.YtcfdplmapdgfmaaRIxSort
import Derived.Deep.RegionHeld3
set_option linter.unusedVariables false
set_option linter.unusedSimpArgs false
namespace Go.Proofs.Ytcfdplmapdgfmaa.Mine
open List renaming setIfInBounds_toArray → q1, set_cons_zero → q2, set_cons_succ → q3
open Go.RowKit Go.Proofs.YtcfdplmapdgfmaaW.PrintWords
theorem info_rspot : (Try.prog.info? 77).map (fun i => (i.zero, i.size, i.bytes)) = some (some (.agg #[.string ⟨#[]⟩, .int .i64 0]), spotK.sz, 24) := by kernel_rfl
def spotRow (x : SpotP) (cs : List Value) : Prop := cs = spotCs x
theorem spot_row {W : World} {g : Nat} {t : TypeId} {x : SpotP} (h : W.heap[g]? = some (.cells #[.string x.id, .int .i64 x.pos] t (0, 0))) : ReadsRow spotRow spotK.sz W (some ⟨g, 0, none⟩) 1 [x] := by
 refine ⟨rfl, by decide, fun _ => ⟨_, rfl, fun j p hj => ?_⟩⟩
 have hj0 : j = 0 := by
  rcases Nat.eq_zero_or_pos j with h | h
  ·exact h
  ·rw [List.getElem?_eq_none (by rw [List.length_singleton]; omega)] at hj; cases hj
 subst hj0
 simp only [List.getElem?_cons_zero, Option.some.injEq] at hj
 subst hj
 refine ⟨spotCs x, rfl, rfl, fun i u hu => ?_⟩
 have ha : (⟨g, 0, none⟩ : Addr).add (0 * spotK.sz + i) = ⟨g, i, none⟩ := by unfold Addr.add; split <;> simp_all
 rw [ha, z03 h i, ← hu]
 simp [spotCs]
structure CutI (w W : World) (v4 v5 : Value) (x4 x5 : List SpotP) : Prop where
 r4 : Kd.R spotK 78 W w.heap.size (fun _ => True) v4 x4
 r5 : Kd.R spotK 77 W w.heap.size (fun _ => True) v5 x5
 bel : Below w.heap.size w W
section
variable {w W : World} {v4 v5 : Value} {x4 x5 : List SpotP} {y : SpotP}
theorem CutI.alloc (h : CutI w W v4 v5 x4 x5) (o : Obj) : CutI w (W.alloc o) v4 v5 x4 x5 := ⟨Kd.R_alloc h.r4 o, Kd.R_alloc h.r5 o, z01 h.bel o⟩
theorem CutI.drew (h : CutI w W v4 v5 x4 x5) : CutI w W.drew v4 v5 x4 x5 := ⟨Kd.R_drew h.r4, Kd.R_drew h.r5, z04 h.bel⟩
theorem CutI.cells (h : CutI w W v4 v5 x4 x5) {x : Addr} {j : Nat} (h0 : w.cell? (x.add (j * 2)) = some (.string y.id)) (h1 : w.cell? ⟨(x.add (j * 2)).block, (x.add (j * 2)).off + 1, none⟩ = some (.int .i64 y.pos)) : W.cell? (x.add (j * 2)) = some (.string y.id) ∧ W.cell? ⟨(x.add (j * 2)).block, (x.add (j * 2)).off + 1, none⟩ = some (.int .i64 y.pos) := ⟨z00 h.bel h0, z00 h.bel h1⟩
variable {ops : Array Oper} {o : Oper} {a : Act} {Q : Exit → Act → World → Prop} {Kc : Act → World → Prop}
theorem cutI_step4 (hS : CutI w W v4 v5 x4 x5) (hw : Region.wanted o (yielded ops a.tmps) = true) (s x : Operand) (ho : o.op = .call { callee := .builtin .append, args := #[s, x], argTypes := #[64, 64] })
  (M g c : Nat) (y : SpotP) (hM : ∀ k, v4.ownBlock = some k → k < M) (hs : a.eval s = v4) (hx : a.eval x = .slice (some ⟨g, 0, none⟩) 1 c) (hg : W.heap[g]? = some (.cells #[.string y.id, .int .i64 y.pos] 78 (0, 0))) (hl : x4.length ≤ 100)
  (h : ∀ v1 w1, CutI w w1 v1 v5 (x4 ++ [y]) x5 → (∀ g2 o2, M ≤ g2 → W.heap[g2]? = some o2 → w1.heap[g2]? = some o2) → Kc (a.put o.dst v1) w1) :
  if Region.wanted o (yielded ops a.tmps) = true then Oper.wp Try.prog o a W Kc Q else Kc (a.put o.dst undef) W := by
 refine Kd.z0h spotK (Rr := spotRow) (w0 := w) w.heap.size hw s x 64 78 (.agg #[.string ⟨#[]⟩, .int .i64 0]) 24 ho Try.underlying64 info_spot rfl (by decide) (by omega) v4 x4 [y] (some ⟨g, 0, none⟩) 1 c (fun _ => True) (fun _ => False) hs hx hS.r4 (spot_row hg) (fun x cs hr => by subst hr; exact spot_M _ _ _ _) (fun _ hk => hk.elim) (fun _ _ => trivial) hS.bel hS.bel.size (by omega) ?_
 intro v1 w1 hr hb hgr hat
 exact h v1 w1 ⟨hr, Kd.R_over hS.r5 hS.r4 (by decide) hgr, hb⟩ fun g2 o2 h2 h3 => blk_grown h3 hgr fun e => by have := hM g2 e.symm; omega
theorem cutI_step5 (hS : CutI w W v4 v5 x4 x5) (hw : Region.wanted o (yielded ops a.tmps) = true) (s x : Operand) (ho : o.op = .call { callee := .builtin .append, args := #[s, x], argTypes := #[65, 65] })
  (g c : Nat) (y : SpotP) (hs : a.eval s = v5) (hx : a.eval x = .slice (some ⟨g, 0, none⟩) 1 c) (hg : W.heap[g]? = some (.cells #[.string y.id, .int .i64 y.pos] 77 (0, 0))) (hl : x5.length ≤ 100)
  (h : ∀ v1 w1, CutI w w1 v4 v1 x4 (x5 ++ [y]) → Kc (a.put o.dst v1) w1) :
  if Region.wanted o (yielded ops a.tmps) = true then Oper.wp Try.prog o a W Kc Q else Kc (a.put o.dst undef) W := by
 refine Kd.z0h spotK (Rr := spotRow) (w0 := w) w.heap.size hw s x 65 77 (.agg #[.string ⟨#[]⟩, .int .i64 0]) 24 ho Try.underlying65 info_rspot rfl (by decide) (by omega) v5 x5 [y] (some ⟨g, 0, none⟩) 1 c (fun _ => True) (fun _ => False) hs hx hS.r5 (spot_row hg) (fun x cs hr => by subst hr; exact spot_M _ _ _ _) (fun _ hk => hk.elim) (fun _ _ => trivial) hS.bel hS.bel.size (by omega) ?_
 intro v1 w1 hr hb hgr hat
 exact h v1 w1 ⟨Kd.R_over hS.r4 hS.r5 (by decide) hgr, hr, hb⟩
end
def CutOutI (k : List SpotP) (w : World) (e : Ending) (w' : World) : Prop := ∃ A1 c1 A2 c2, e = .returned (.tuple #[.slice A1 k.length c1, .slice A2 k.length c2]) ∧ Kd.C spotK w' A1 k.length k ∧ Kd.C spotK w' A2 k.length k ∧ Below w.heap.size w w'
set_option maxRecDepth 100000 in
set_option maxHeartbeats 1000000 in
theorem cut11_calls (l : List SpotP) (A : Option Addr) (c : Nat) (w : World) (hC : Kd.C spotK w A l.length l) (hl : l.length ≤ 9223372036854775807) :
  Calls Try.prog 28 #[.slice A l.length c] w fun e w' => CutOutI (l.take 30) w e w' := by
 have hlen : (l.take 30).length = min 30 l.length := List.length_take
 obtain ⟨K, hK⟩ : ∃ K, K = l.take 30 := ⟨_, rfl⟩
 rw [← hK] at hlen ⊢
 have hKat : ∀ j (h : j < l.length), j < 30 → K.take (j + 1) = K.take j ++ [l[j]] := fun j h h30 => by
  rw [hK, List.take_succ_eq_append_getElem (by rw [List.length_take]; omega), List.getElem_take]
 have HK := Lib.hid hKat
 have HC := Lib.hid hC
 have HLN := Lib.hid hlen
 clear hC hlen hK hKat
 go_enter Try.func28, Try.ntmps28
 go_wp2_with fail
 go_loopg [4, 5, 6] K.length (fun gg s4 s5 s6 wr => ∃ (j : Nat), j ≤ K.length ∧ gg = K.length - j ∧ s6 = .int .i64 j ∧ Hid (CutI w wr s4 s5 (K.take j) (K.take j)))
 case atStart =>
  exact ⟨0, Nat.zero_le _, by omega, by go_num, Kd.R_alloc (Kd.R_empty _ _ _ _ (Nat.le_refl _)) _, by have := Kd.R_empty spotK 77 (w.alloc (.cells #[] 78)) w.heap.size (by simp); simpa using this, z01 (z01 (Below.refl _ _) _) _⟩
 case round =>
  obtain ⟨j, hj, hgk, rfl, H⟩ := hrel
  have HG := Lib.hid hgk
  clear hgk
  by_cases hlt : j < K.length
  ·have hjl : j < l.length := by have := HLN.out; omega
   have hj20 : j < 30 := by have := HLN.out; omega
   have hltb : decide ((j : Int) < (l.length : Int)) = true := by simp; omega
   have h20b : decide ((j : Int) < 30) = true := by simp; omega
   obtain ⟨x, rfl, o0, o1⟩ := spotC_at HC.out j hjl
   obtain ⟨y, hy⟩ : ∃ y, y = l[j] := ⟨_, rfl⟩
   rw [← hy] at o0 o1
   have HO := Lib.hid (And.intro o0 o1)
   have k0 := z00 H.out.bel o0
   have k1 := z00 H.out.bel o1
   have HY := Lib.hid hy
   have HM := Lib.hid (Kd.R_lt H.out.r4)
   have q1 : (j : Int) < (l.length : Int) := by omega
   clear hy o0 o1 hlt
   go_upto_region 5 with fail
   go_region_held3 (fun w' => w'.cell? (x.add (j * 2)) = some (.string y.id) ∧ w'.cell? ⟨(x.add (j * 2)).block, (x.add (j * 2)).off + 1, none⟩ = some (.int .i64 y.pos))
    (first | exact HP5.out.cells HO.out.1 HO.out.2 | exact HP4.out.cells HO.out.1 HO.out.2 | exact (HP4.out.alloc _).cells HO.out.1 HO.out.2 | exact (H.out.drew).cells HO.out.1 HO.out.2 | exact (H.out.drew.alloc _).cells HO.out.1 HO.out.2 | exact ((H.out.drew.alloc _).alloc _).cells HO.out.1 HO.out.2)
    (first
     | (have hh := HP4.out; refine cutI_step5 (by first | exact HP4.out | exact HP4.out.alloc _) (by rfl) (.tmp 26) (.tmp 31) rfl _ _ y rfl rfl (by first | exact z09 _ _ | exact HK4.out _ _ (by simp) (z09 _ _) | exact HK4.out _ _ (by simp) (blk_alloc (z09 _ _) _) | exact HK4.out _ _ (by simp) (blk_new2 wr.drew _ _)) (by rw [List.length_take]; omega) ?_; intro v5 w5 hs5; have HP5 := Lib.hid hs5; clear hs5 hh)
     | (refine cutI_step4 (by first | exact H.out.drew.alloc _ | exact (H.out.drew.alloc _).alloc _) (by rfl) (.tmp 19) (.tmp 24) rfl wr.heap.size _ _ y HM.out rfl rfl (by first | exact z09 _ _ | exact blk_alloc (z09 _ _) _ | exact blk_new2 wr.drew _ _) (by rw [List.length_take]; omega) ?_; intro v4 w4 hs4 hk4; have HP4 := Lib.hid hs4; have HK4 := Lib.hid hk4; clear hs4 hk4))
   all_goals (
    go_wp2_with fail
    go_roundg (K.length - (j + 1))
    case measure => have := HG.out; have := HLN.out; omega
    case rel =>
     exact ⟨j + 1, by have := HLN.out; omega, rfl, by go_num, by unfold Hid; rw [HK.out j hjl hj20, ← HY.out]; exact HP5.out⟩)
  ·obtain rfl : j = K.length := by omega
   have h := H.out
   rw [List.take_length] at h
   obtain ⟨A1, c1, e1, _, g1⟩ := Kd.R_reads h.r4
   obtain ⟨A2, c2, e2, _, g2⟩ := Kd.R_reads h.r5
   rw [e1, e2]
   have HG1 := Lib.hid (And.intro g1 (And.intro g2 h.bel))
   have hln := HLN.out
   obtain ⟨n, hn⟩ : ∃ n, n = K.length := ⟨_, rfl⟩
   have HNN := Lib.hid hn
   rw [← hn] at hln HG1 ⊢
   clear h g1 g2 e1 e2 hlt hj
   by_cases hlt : n < l.length
   ·have hltb : decide ((n : Int) < (l.length : Int)) = true := by simp; omega
    have h20b : decide ((n : Int) < 30) = false := by simp; omega
    clear hln hn
    go_wp2_with fail
    go_ret2
    exact ⟨A1, c1, A2, c2, by rw [← HNN.out]; rfl, by rw [← HNN.out]; exact HG1.out.1, by rw [← HNN.out]; exact HG1.out.2.1, HG1.out.2.2⟩
   ·have hltb : decide ((n : Int) < (l.length : Int)) = false := by simp; omega
    clear hln hn
    go_wp2_with fail
    go_ret2
    exact ⟨A1, c1, A2, c2, by rw [← HNN.out]; rfl, by rw [← HNN.out]; exact HG1.out.1, by rw [← HNN.out]; exact HG1.out.2.1, HG1.out.2.2⟩
end Go.Proofs.Ytcfdplmapdgfmaa.Mine
