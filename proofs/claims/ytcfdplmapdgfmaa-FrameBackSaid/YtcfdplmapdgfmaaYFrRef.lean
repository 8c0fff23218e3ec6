import Derived.Test.YtcfdplmapdgfmaaYFrCut
import Derived.Deep.RegionHeld3
set_option linter.unusedVariables false
set_option linter.unusedSimpArgs false
namespace Go.Proofs.Ytcfdplmapdgfmaa.Mine
open List renaming setIfInBounds_toArray → q1, set_cons_zero → q2, set_cons_succ → q3
open Go.RowKit Go.Proofs.YtcfdplmapdgfmaaW.PrintWords
def Ref4R (w W : World) (v : Value) (l : List RefP) : Prop := Kd.R refK 94 W w.heap.size (fun _ => True) v l
theorem ref4E : ∀ q, q ∈ 94 :: refK.E → q = 94 := by intro q hq; simpa [refK, Kd.pair, Kd.string, Kd.scalar] using hq
theorem info_ref4 : (Try.prog.info? 94).map (fun i => (i.zero, i.size, i.bytes)) = some (some (.agg #[(.string ⟨#[]⟩), (.string ⟨#[]⟩)]), refK.sz, 32) := by kernel_rfl
theorem results_c1 {P : Program} {fn : Func} {p : Tmp} {ty : TypeId} (h : fn.results = #[.cell p ty]) (tmps : Array Value) (w : World) (g : Nat) (t : TypeId) (cs : Array Value) (fr : Nat × Nat) (d : TypeDesc)
  (hp : tmps.getD p undef = .pointer (some ⟨g, 0, none⟩)) (hg : w.heap[g]? = some (.cells cs t fr))
  (hu : P.underlying ty = some d) (hd : (match d with | .struct _ | .array _ _ => true | _ => false) = true) (hi : (P.info? ty).map (·.size) = some cs.size) :
  (results fn tmps).run P w = .ok (.agg cs) w := by
 have hp' : tmps[p]?.getD undef = .pointer (some ⟨g, 0, none⟩) := by simpa using hp
 simp [results, h, hp', asAddr, run_loadVar_row w g t ty cs fr d hg hu hd hi]
theorem say4_size : (Try.prog.info? 34).map (·.size) = some 9 := by kernel_rfl
structure RW (w W : World) (ca co : Array Value) : Prop where
 pa : W.heap[w.heap.size]? = some (.cells ca 26 (0, 0))
 rb : W.heap[w.heap.size + 1]? = some (.cells zeroC 34 (0, 0))
 ob : W.heap[w.heap.size + 2]? = some (.cells co 34 (0, 0))
 bel : Below w.heap.size w W
theorem RW.set {w W : World} {ca : Array Value} {kind ask : Int} {v2 v3 v4 : Value} {ticket : ByteArray} {n of : Int} {data : ByteArray} (h : RW w W ca (sayC kind ask v2 v3 v4 ticket n of data)) (u : Value) : RW w (W.setCell ⟨w.heap.size + 2, 4, none⟩ u) ca (sayC kind ask v2 v3 u ticket n of data) :=
 ⟨blk_far h.pa (by simp) u, blk_far h.rb (by simp) u, blk_set h.ob 4 u, z08 h.bel (by simp)⟩
set_option maxRecDepth 100000 in
set_option maxHeartbeats 4000000 in
theorem ref_say_calls (x : SayP) (v : Value) (w : World) (hv : SayV w v x) (hlen : x.refs.length ≤ 1000) :
  Calls Try.prog 15 #[v] w fun e w' => ∃ v', e = .returned v' ∧ SayV w' v' x ∧ Below w.heap.size w w' := by
 obtain ⟨A2, c2, A3, c3, A4, c4, rfl, h2, l2, h3, l3, h4, l4⟩ := hv
 obtain ⟨kind, ask, ids, no, refs, ticket, n, of, data⟩ := x
 dsimp only at *
 have H := Lib.hid (And.intro h2 (And.intro h3 h4))
 clear h2 h3 h4
 go_enter Try.func15, Try.ntmps15
 go_wp2_with fail
 go_loopg [4] refs.length (fun gg s4 wr => ∃ (j : Nat) (p : Option Addr) (k : Nat), j ≤ refs.length ∧ gg = refs.length - j ∧ s4 = .int .i64 j ∧
   Hid (RW w wr (sayC kind ask (.slice A2 ids.length c2) (.slice A3 no.length c3) (.slice A4 refs.length c4) ticket n of data) (sayC kind ask (.slice A2 ids.length c2) (.slice A3 no.length c3) (.slice p j k) ticket n of data)) ∧ Hid (Ref4R w wr (.slice p j k) (refs.take j)))
 case atStart =>
  refine ⟨0, none, 0, Nat.zero_le _, rfl, rfl, ⟨?_, ?_, ?_, ?_⟩, ?_⟩
  ·exact z0a (z0a (blk_new w _) _) _
  ·have := blk_new (w.alloc (.cells (sayC kind ask (.slice A2 ids.length c2) (.slice A3 no.length c3) (.slice A4 refs.length c4) ticket n of data) 26)) (.cells zeroC 34)
   rw [show (w.alloc (.cells (sayC kind ask (.slice A2 ids.length c2) (.slice A3 no.length c3) (.slice A4 refs.length c4) ticket n of data) 26)).heap.size = w.heap.size + 1 from by simp] at this
   exact z0a this _
  ·have := blk_new ((w.alloc (.cells (sayC kind ask (.slice A2 ids.length c2) (.slice A3 no.length c3) (.slice A4 refs.length c4) ticket n of data) 26)).alloc (.cells zeroC 34)) (.cells (sayC kind ask (.slice A2 ids.length c2) (.slice A3 no.length c3) (.slice none 0 0) ticket n of data) 34)
   rw [show ((w.alloc (.cells (sayC kind ask (.slice A2 ids.length c2) (.slice A3 no.length c3) (.slice A4 refs.length c4) ticket n of data) 26)).alloc (.cells zeroC 34)).heap.size = w.heap.size + 2 from by simp] at this
   exact this
  ·exact (((Below.refl _ _).alloc (Nat.le_refl _) _).alloc (by simp) _).alloc (by simp; omega) _
  ·exact Kd.R_nil _ _ _ _ _
 case round =>
  obtain ⟨j, p, k, hj, hgg, rfl, HR, HO⟩ := hrel
  have HG := Lib.hid hgg
  clear hgg
  have ca4 := (z11 HR.out.pa).2.2.2.2.1
  by_cases hlt : j < refs.length
  ·have hjb : decide (j < refs.length) = true := by simpa using hlt
   have hjb2 : decide ((j : Int) < (refs.length : Int)) = true := by simp; omega
   have hi0 : (0 : Int) ≤ (j : Int) := by omega
   have hi1 : (j : Int) < (refs.length : Int) := by omega
   obtain ⟨ad, rfl, hw0, hw1⟩ := refC_at H.out.2.2 j hlt
   rw [add_field _ _ _ (by omega)] at hw1
   obtain ⟨nm, hnm⟩ : ∃ nm, nm = (refs[j]).1 := ⟨_, rfl⟩
   obtain ⟨d, hd⟩ : ∃ d, d = (refs[j]).2 := ⟨_, rfl⟩
   have htk : refs.take (j + 1) = refs.take j ++ [(nm, d)] := by rw [List.take_succ_eq_append_getElem hlt, hnm, hd]
   have HTK := Lib.hid htk
   rw [← hnm] at hw0
   rw [← hd] at hw1
   have hx0 := z14 HR.out.bel hw0
   have hx1 := z14 HR.out.bel hw1
   have HX := Lib.hid (And.intro hw0 hw1)
   have HOD : Hid (Ref4R w wr.drew (.slice p j k) (refs.take j)) := HO
   have hlj : (refs.take j).length = j := by rw [List.length_take]; omega
   have HLJ := Lib.hid hlj
   have hj32 : ((refs.take j).length + 1) * 32 ≤ 140737488355328 := by omega
   have co4 := (z11 HR.out.ob).2.2.2.2.1
   have fo4 := z02 HR.out.ob 4
   have n0 := World.new_ne wr _ hx0
   have n1 := World.new_ne wr _ hx1
   have n2 := World.new_ne wr _ ca4
   have n3 := World.new_ne wr _ co4
   clear hnm hd htk hlj hw0 hw1
   go_wp2_with fail
   rename_i Q0 K0 hK0
   refine wp_region_held_drew (S := fun w' => w'.cell? ⟨w.heap.size, 4, none⟩ = some (.slice (some ad) refs.length c4) ∧ w'.cell? (ad.add (j * 2)) = some (.string nm) ∧ w'.cell? ⟨(ad.add (j * 2)).block, (ad.add (j * 2)).off + 1, none⟩ = some (.string d)) (by kernel_rfl) ⟨ca4, hx0, hx1⟩ (fun hHeld => ?_)
   refine wpAnyH_take (i := 0) (v := ?v0x1) rfl (by kernel_rfl) (by kernel_rfl) (by kernel_rfl) (fun _ _ _ h => h) (Or.inl ⟨by rfl, ?y0x1⟩) (by first | trivial | assumption) ?r0x1
   case y0x1 => (intro w' hSw; obtain ⟨s1, s2, s3⟩ := hSw; go_simp; try (with_reducible rfl))
   try simp only [Act.put, q1, q2, q3]
   refine wpAnyH_take (i := 2) (v := ?v2x2) rfl (by kernel_rfl) (by kernel_rfl) (by kernel_rfl) (fun _ _ _ h => h) (Or.inl ⟨by rfl, ?y2x2⟩) (by first | trivial | assumption) ?r2x2
   case y2x2 => (intro w' hSw; obtain ⟨s1, s2, s3⟩ := hSw; go_simp; try (with_reducible rfl))
   try simp only [Act.put, q1, q2, q3]
   refine wpAnyH_take (i := 3) (v := ?v3x3) rfl (by kernel_rfl) (by kernel_rfl) (by kernel_rfl) (fun _ _ _ h => h) (Or.inl ⟨by rfl, ?y3x3⟩) (by first | trivial | assumption) ?r3x3
   case y3x3 => (intro w' hSw; obtain ⟨s1, s2, s3⟩ := hSw; go_simp; try (with_reducible rfl))
   try simp only [Act.put, q1, q2, q3]
   refine wpAnyH_take (i := 4) (v := ?v4x4) rfl (by kernel_rfl) (by kernel_rfl) (by kernel_rfl) (fun _ _ _ h => h) (Or.inl ⟨by rfl, ?y4x4⟩) (by first | trivial | assumption) ?r4x4
   case y4x4 => (intro w' hSw; obtain ⟨s1, s2, s3⟩ := hSw; go_simp; try (with_reducible rfl))
   try simp only [Act.put, q1, q2, q3]
   refine wpAnyH_take (i := 5) (v := ?v5x5) rfl (by kernel_rfl) (by kernel_rfl) (by kernel_rfl) (fun _ _ _ h => h) (Or.inl ⟨by rfl, ?y5x5⟩) (by first | trivial | assumption) ?r5x5
   case y5x5 => (intro w' hSw; obtain ⟨s1, s2, s3⟩ := hSw; go_simp; try (with_reducible rfl))
   try simp only [Act.put, q1, q2, q3]
   refine wpAnyH_take (i := 6) (v := ?v6x6) rfl (by kernel_rfl) (by kernel_rfl) (by kernel_rfl) (fun _ _ _ h => h) (Or.inl ⟨by rfl, ?y6x6⟩) (by first | trivial | assumption) ?r6x6
   case y6x6 => (intro w' hSw; obtain ⟨s1, s2, s3⟩ := hSw; go_simp; try (with_reducible rfl))
   try simp only [Act.put, q1, q2, q3]
   refine wpAnyH_ready (rs := [1, 7]) (by kernel_rfl) (by simp) ?_
   refine AllReadyH.cons rfl (fun K hK => ?_) ?_
   ·go_simp
    refine hK.out _ _ ⟨ca4, hx0, hx1⟩ (fun hHeld2 => ?_)
    clear hK K
    try simp only [Act.put, q1, q2, q3]
    refine wpAnyH_ready (rs := [7]) (by kernel_rfl) (by simp) ?_
    refine AllReadyH.cons rfl (fun K hK => ?_) AllReadyH.nil
    go_simp
    have hbb := z03 (Below.refl wr.heap.size wr) (.cells #[.string nm, .string d] 94)
    refine hK.out _ _ ⟨z14 hbb ca4, z14 hbb hx0, z14 hbb hx1⟩ (fun hHeld2 => ?_)
    clear hbb
    clear hK K
    try simp only [Act.put, q1, q2, q3]
    refine wpAnyH_ready (rs := [8]) (by kernel_rfl) (by simp) ?_
    refine AllReadyH.cons rfl (fun K hK => ?_) AllReadyH.nil
    refine Kd.R_append_step refK (w0 := w) (W := wr.drew) w.heap.size (by rfl) (.tmp 30) (.tmp 36) 32 94 (.agg #[(.string ⟨#[]⟩), (.string ⟨#[]⟩)]) 32 rfl Try.underlying32 info_ref4 rfl (by decide) (by omega) (.slice p j k) (refs.take j) (nm, d) [.string nm, .string d] (fun _ => True) (fun _ => False) rfl rfl ⟨[.string nm], [.string d], rfl, rfl, rfl⟩ (fun _ hk => hk.elim) (fun _ _ => trivial) HOD.out (below_drew HR.out.bel) (below_drew HR.out.bel).size hj32 ?_
    intro v1 w1 hr1 hb1 hg1 hat1
    have pa1 := blk_grown (w := wr.drew) (z09 HR.out.pa) hg1 (Kd.R_ne HO.out HR.out.pa (by decide))
    have rb1 := blk_grown (w := wr.drew) (z09 HR.out.rb) hg1 (Kd.R_ne HO.out HR.out.rb (by decide))
    have ob1 := blk_grown (w := wr.drew) (z09 HR.out.ob) hg1 (Kd.R_ne HO.out HR.out.ob (by decide))
    have hx0' := z14 hb1 HX.out.1
    have hx1' := z14 hb1 HX.out.2
    obtain ⟨p1, k1, rfl, l1, hz1⟩ := Kd.R_reads hr1
    have hl1 : (refs.take j ++ [(nm, d)]).length = j + 1 := by rw [List.length_append, HLJ.out]; rfl
    rw [hl1] at hr1 ⊢
    rw [← HTK.out] at hr1
    have ca1 := (z11 pa1).2.2.2.2.1
    have co1 := (z11 ob1).2.2.2.2.1
    have fo1 := z02 ob1 4
    have HN := Lib.hid (RW.mk pa1 rb1 ob1 hb1)
    have HO1 := Lib.hid hr1
    refine hK.out _ _ ⟨ca1, hx0', hx1'⟩ (fun hHeld4 => ?_)
    clear pa1 rb1 ob1 hr1 hb1 hg1 hat1 hz1
    clear hK K
    try simp only [Act.put, q1, q2, q3]
    refine wpAnyH_take (i := 9) (v := ?v9x7) rfl (by kernel_rfl) (by kernel_rfl) (by kernel_rfl) (fun _ _ _ h => h) (Or.inl ⟨by rfl, ?y9x7⟩) (by first | trivial | assumption) ?r9x7
    case y9x7 => (intro w' hSw; obtain ⟨s1, s2, s3⟩ := hSw; go_simp; try (with_reducible rfl))
    try simp only [Act.put, q1, q2, q3]
    refine wpAnyH_ready (rs := [10]) (by kernel_rfl) (by simp) ?_
    refine AllReadyH.cons rfl (fun K hK => ?_) AllReadyH.nil
    go_simp
    have hset : RW w (w1.setCell ⟨w.heap.size + 1 + 1, 4, none⟩ (.slice p1 (j + 1) k1)) (sayC kind ask (.slice A2 ids.length c2) (.slice A3 no.length c3) (.slice (some ad) refs.length c4) ticket n of data) (sayC kind ask (.slice A2 ids.length c2) (.slice A3 no.length c3) (.slice p1 (j + 1) k1) ticket n of data) := HN.out.set _
    have hro : Ref4R w (w1.setCell ⟨w.heap.size + 1 + 1, 4, none⟩ (.slice p1 (j + 1) k1)) (.slice p1 (j + 1) k1) (refs.take (j + 1)) := Kd.R_set HO1.out HN.out.ob (fun q hq => by rw [ref4E q hq]; decide) 4 _
    refine hK.out _ _ ⟨(z11 hset.pa).2.2.2.2.1, z14 hset.bel HX.out.1, z14 hset.bel HX.out.2⟩ (fun hHeld5 => ?_)
    clear hK K
    try simp only [Act.put, q1, q2, q3]
    refine wpAnyH_done (by kernel_rfl) ?_ _
    refine hK0 _ _ ?_
    go_wp2_with fail
    go_roundg (refs.length - (j + 1))
    case measure => have := HG.out; omega
    case rel => exact ⟨j + 1, p1, k1, by omega, rfl, by go_num, hset, hro⟩
   refine AllReadyH.cons rfl (fun K hK => ?_) AllReadyH.nil
   go_simp
   have hbb := z03 (Below.refl wr.heap.size wr) (.cells #[.string nm, .string d] 94)
   refine hK.out _ _ ⟨z14 hbb ca4, z14 hbb hx0, z14 hbb hx1⟩ (fun hHeld2 => ?_)
   clear hbb
   clear hK K
   try simp only [Act.put, q1, q2, q3]
   refine wpAnyH_ready (rs := [1]) (by kernel_rfl) (by simp) ?_
   refine AllReadyH.cons rfl (fun K hK => ?_) AllReadyH.nil
   have hbb := z03 (Below.refl wr.heap.size wr) (.cells #[.string nm, .string d] 94)
   have co4 := z14 hbb co4
   go_simp
   refine hK.out _ _ ⟨z14 hbb ca4, z14 hbb hx0, z14 hbb hx1⟩ (fun hHeld3 => ?_)
   clear hK K
   try simp only [Act.put, q1, q2, q3]
   refine wpAnyH_ready (rs := [8]) (by kernel_rfl) (by simp) ?_
   refine AllReadyH.cons rfl (fun K hK => ?_) AllReadyH.nil
   refine Kd.R_append_step refK (w0 := w) (W := wr.drew) w.heap.size (by rfl) (.tmp 30) (.tmp 36) 32 94 (.agg #[(.string ⟨#[]⟩), (.string ⟨#[]⟩)]) 32 rfl Try.underlying32 info_ref4 rfl (by decide) (by omega) (.slice p j k) (refs.take j) (nm, d) [.string nm, .string d] (fun _ => True) (fun _ => False) rfl rfl ⟨[.string nm], [.string d], rfl, rfl, rfl⟩ (fun _ hk => hk.elim) (fun _ _ => trivial) HOD.out (below_drew HR.out.bel) (below_drew HR.out.bel).size hj32 ?_
   intro v1 w1 hr1 hb1 hg1 hat1
   have pa1 := blk_grown (w := wr.drew) (z09 HR.out.pa) hg1 (Kd.R_ne HO.out HR.out.pa (by decide))
   have rb1 := blk_grown (w := wr.drew) (z09 HR.out.rb) hg1 (Kd.R_ne HO.out HR.out.rb (by decide))
   have ob1 := blk_grown (w := wr.drew) (z09 HR.out.ob) hg1 (Kd.R_ne HO.out HR.out.ob (by decide))
   have hx0' := z14 hb1 HX.out.1
   have hx1' := z14 hb1 HX.out.2
   obtain ⟨p1, k1, rfl, l1, hz1⟩ := Kd.R_reads hr1
   have hl1 : (refs.take j ++ [(nm, d)]).length = j + 1 := by rw [List.length_append, HLJ.out]; rfl
   rw [hl1] at hr1 ⊢
   rw [← HTK.out] at hr1
   have ca1 := (z11 pa1).2.2.2.2.1
   have co1 := (z11 ob1).2.2.2.2.1
   have fo1 := z02 ob1 4
   have HN := Lib.hid (RW.mk pa1 rb1 ob1 hb1)
   have HO1 := Lib.hid hr1
   refine hK.out _ _ ⟨ca1, hx0', hx1'⟩ (fun hHeld4 => ?_)
   clear pa1 rb1 ob1 hr1 hb1 hg1 hat1 hz1
   clear hK K
   try simp only [Act.put, q1, q2, q3]
   refine wpAnyH_take (i := 9) (v := ?v9x8) rfl (by kernel_rfl) (by kernel_rfl) (by kernel_rfl) (fun _ _ _ h => h) (Or.inl ⟨by rfl, ?y9x8⟩) (by first | trivial | assumption) ?r9x8
   case y9x8 => (intro w' hSw; obtain ⟨s1, s2, s3⟩ := hSw; go_simp; try (with_reducible rfl))
   try simp only [Act.put, q1, q2, q3]
   refine wpAnyH_ready (rs := [10]) (by kernel_rfl) (by simp) ?_
   refine AllReadyH.cons rfl (fun K hK => ?_) AllReadyH.nil
   go_simp
   have hset : RW w (w1.setCell ⟨w.heap.size + 1 + 1, 4, none⟩ (.slice p1 (j + 1) k1)) (sayC kind ask (.slice A2 ids.length c2) (.slice A3 no.length c3) (.slice (some ad) refs.length c4) ticket n of data) (sayC kind ask (.slice A2 ids.length c2) (.slice A3 no.length c3) (.slice p1 (j + 1) k1) ticket n of data) := HN.out.set _
   have hro : Ref4R w (w1.setCell ⟨w.heap.size + 1 + 1, 4, none⟩ (.slice p1 (j + 1) k1)) (.slice p1 (j + 1) k1) (refs.take (j + 1)) := Kd.R_set HO1.out HN.out.ob (fun q hq => by rw [ref4E q hq]; decide) 4 _
   refine hK.out _ _ ⟨(z11 hset.pa).2.2.2.2.1, z14 hset.bel HX.out.1, z14 hset.bel HX.out.2⟩ (fun hHeld5 => ?_)
   clear hK K
   try simp only [Act.put, q1, q2, q3]
   refine wpAnyH_done (by kernel_rfl) ?_ _
   refine hK0 _ _ ?_
   go_wp2_with fail
   go_roundg (refs.length - (j + 1))
   case measure => have := HG.out; omega
   case rel => exact ⟨j + 1, p1, k1, by omega, rfl, by go_num, hset, hro⟩
  ·have hj2 : j = refs.length := by omega
   have hjb : decide (j < refs.length) = false := by simpa using hlt
   have hjb2 : decide ((j : Int) < (refs.length : Int)) = false := by simp; omega
   subst hj2
   rw [List.take_length] at HO
   obtain ⟨c0, c1, c2', c3', c4', c5, c6, c7, c8⟩ := z11 HR.out.ob
   obtain ⟨e0, e1, e2', e3', e4', e5, e6, e7, e8⟩ := z11 HR.out.rb
   unfold nilV at e2' e3' e4'
   have f0 := z02 HR.out.rb 0
   have f1 := z02 HR.out.rb 1
   have f2 := z02 HR.out.rb 2
   have f3 := z02 HR.out.rb 3
   have f4 := z02 HR.out.rb 4
   have f5 := z02 HR.out.rb 5
   have f6 := z02 HR.out.rb 6
   have f7 := z02 HR.out.rb 7
   have f8 := z02 HR.out.rb 8
   go_wp2_with fail
   have hK := nine_keep wr (w.heap.size + 1) (.int .i64 kind) (.int .u64 ask) (.slice A2 ids.length c2) (.slice A3 no.length c3) (.slice p refs.length k) (.string ticket) (.int .i64 n) (.int .i64 of) (.string data)
   have hN := nine_below HR.out.bel (Nat.le_succ w.heap.size) (.int .i64 kind) (.int .u64 ask) (.slice A2 ids.length c2) (.slice A3 no.length c3) (.slice p refs.length k) (.string ticket) (.int .i64 n) (.int .i64 of) (.string data)
   have hO2 := Kd.z1o (ok' := fun _ => True) (Kd.R_keep (Kd.R_types HO.out HR.out.rb (fun q hq => by rw [ref4E q hq]; decide)) hK (fun _ hk => hk.2)) (fun _ _ => trivial)
   obtain ⟨p', k', he, l4', r4⟩ := Kd.R_reads hO2
   injection he with h1 _ h3
   subst h1 h3
   refine bodyPost_ret (results_c1 rfl _ _ (w.heap.size + 1) 34 (sayC kind ask (.slice A2 ids.length c2) (.slice A3 no.length c3) (.slice p refs.length k) ticket n of data) (0, 0) _ rfl (nine_blk _ _ _ _ _ _ _ _ _ HR.out.rb _ _ _ _ _ _ _ _ _) Try.underlying34 rfl (say4_size.trans rfl)) rfl ?_
   exact ⟨_, rfl, ⟨A2, c2, A3, c3, p, k, rfl, Kd.z12 H.out.1 hN, l2, Kd.z12 H.out.2.1 hN, l3, r4, l4'⟩, hN⟩
end Go.Proofs.Ytcfdplmapdgfmaa.Mine
