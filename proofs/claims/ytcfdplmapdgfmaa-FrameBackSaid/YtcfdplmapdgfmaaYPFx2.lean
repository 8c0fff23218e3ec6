import Derived.Test.YtcfdplmapdgfmaaYPFx0
import Derived.Test.YtcfdplmapdgfmaaYPFx1
namespace Go.Proofs.Ytcfdplmapdgfmaa.PF
open List renaming setIfInBounds_toArray → q1, set_cons_zero → q2, set_cons_succ → q3
open Go.RowKit Go.Proofs.YtcfdplmapdgfmaaW.PrintWords Go.Proofs.YtcfdplmapdgfmaaW.PrintLast Go.Proofs.YtcfdplmapdgfmaaW.PrintMore
attribute [local go_sem] z21 z22 z23 z25 z26 z27 z28 z29   -- for this text's walks alone
set_option linter.unusedVariables false
set_option linter.unusedSimpArgs false
mutual
def z0f.j0 : Nat → Bool → Int → Int → List ByteArray → List ByteArray → List (S94) → ByteArray → Int → Int → ByteArray → Option (Int)
 | 0, _, _, _, _, _, _, _, _, _, _ => none
 | k + 1, x12, z1x, z1t, z1j, z1k, z1g, z1l, z1m, z1n, z1u => if x12 = true then (some 230) else (if (z1j.length : Int) > 64 then (z0f.j1 k true z1x z1t z1j z1k z1g z1l z1m z1n z1u) else (if (z1k.length : Int) > 64 then (z0f.j1 k true z1x z1t z1j z1k z1g z1l z1m z1n z1u) else (if (z1g.length : Int) > 256 then (z0f.j1 k true z1x z1t z1j z1k z1g z1l z1m z1n z1u) else (z0f.j1 k (decide ((z1u.size : Int) > 700)) z1x z1t z1j z1k z1g z1l z1m z1n z1u))))
def z0f.j1 : Nat → Bool → Int → Int → List ByteArray → List ByteArray → List (S94) → ByteArray → Int → Int → ByteArray → Option (Int)
 | 0, _, _, _, _, _, _, _, _, _, _ => none
 | k + 1, x34, z1x, z1t, z1j, z1k, z1g, z1l, z1m, z1n, z1u => if x34 = true then (some 3) else (if z1t ≤ 4611686018427387904 then (if z1m ≥ 0 then (if z1m ≤ 4194304 then (if z1n ≥ 0 then (if z1n ≤ 4194304 then (if z1l.toList = ([] : List UInt8) then ((z0w.f k z1j).bind fun t103 => (if t103 = true then ((z0w.f k z1k).bind fun t104 => (z0f.j2 k t104 z1x z1t z1j z1k z1g z1l z1m z1n z1u)) else (z0f.j2 k false z1x z1t z1j z1k z1g z1l z1m z1n z1u))) else (if (z1l.size : Int) = 32 then ((z0w.f k z1j).bind fun t105 => (if t105 = true then ((z0w.f k z1k).bind fun t106 => (z0f.j2 k t106 z1x z1t z1j z1k z1g z1l z1m z1n z1u)) else (z0f.j2 k false z1x z1t z1j z1k z1g z1l z1m z1n z1u))) else (z0f.j2 k false z1x z1t z1j z1k z1g z1l z1m z1n z1u))) else (z0f.j2 k false z1x z1t z1j z1k z1g z1l z1m z1n z1u)) else (z0f.j2 k false z1x z1t z1j z1k z1g z1l z1m z1n z1u)) else (z0f.j2 k false z1x z1t z1j z1k z1g z1l z1m z1n z1u)) else (z0f.j2 k false z1x z1t z1j z1k z1g z1l z1m z1n z1u)) else (z0f.j2 k false z1x z1t z1j z1k z1g z1l z1m z1n z1u))
def z0f.j2 : Nat → Bool → Int → Int → List ByteArray → List ByteArray → List (S94) → ByteArray → Int → Int → ByteArray → Option (Int)
 | 0, _, _, _, _, _, _, _, _, _, _ => none
 | k + 1, x3, z1x, z1t, z1j, z1k, z1g, z1l, z1m, z1n, z1u => z0f.l0 k x3 0 z1x z1t z1j z1k z1g z1l z1m z1n z1u
def z0f.l0 : Nat → Bool → Int → Int → Int → List ByteArray → List ByteArray → List (S94) → ByteArray → Int → Int → ByteArray → Option (Int)
 | 0, _, _, _, _, _, _, _, _, _, _, _ => none
 | k + 1, x3, x4, z1x, z1t, z1j, z1k, z1g, z1l, z1m, z1n, z1u => if x4 < (z1g.length : Int) then (if x3 = true then (if 0 ≤ x4 then ((z0g.f ((z15 z1g x4).f0)).bind fun t108 => (if t108 > 0 then (z0f.l0 k ((((z15 z1g x4).f1).size : Int) == 32) (wrap64 (x4 + 1)) z1x z1t z1j z1k z1g z1l z1m z1n z1u) else (z0f.l0 k false (wrap64 (x4 + 1)) z1x z1t z1j z1k z1g z1l z1m z1n z1u))) else (none)) else (z0f.l0 k false (wrap64 (x4 + 1)) z1x z1t z1j z1k z1g z1l z1m z1n z1u)) else (if x3 = true then (some 0) else (some 230))
end
def z0f.f (k : Nat) (a0_0 : Int) (a0_1 : Int) (l0_2 : List ByteArray) (l0_3 : List ByteArray) (l0_4 : List (S94)) (a0_5 : ByteArray) (a0_6 : Int) (a0_7 : Int) (a0_8 : ByteArray) : Option (Int) := if a0_0 < 1 then (z0f.j0 k true a0_0 a0_1 l0_2 l0_3 l0_4 a0_5 a0_6 a0_7 a0_8) else (z0f.j0 k (decide (a0_0 > 9)) a0_0 a0_1 l0_2 l0_3 l0_4 a0_5 a0_6 a0_7 a0_8)
theorem z0f.mono_l : ∀ k, (∀ y0 y1 y2 y3 y4 y5 y6 y7 y8 y9, LeO (z0f.j0 k y0 y1 y2 y3 y4 y5 y6 y7 y8 y9) (z0f.j0 (k + 1) y0 y1 y2 y3 y4 y5 y6 y7 y8 y9)) ∧ (∀ y0 y1 y2 y3 y4 y5 y6 y7 y8 y9, LeO (z0f.j1 k y0 y1 y2 y3 y4 y5 y6 y7 y8 y9) (z0f.j1 (k + 1) y0 y1 y2 y3 y4 y5 y6 y7 y8 y9)) ∧ (∀ y0 y1 y2 y3 y4 y5 y6 y7 y8 y9, LeO (z0f.j2 k y0 y1 y2 y3 y4 y5 y6 y7 y8 y9) (z0f.j2 (k + 1) y0 y1 y2 y3 y4 y5 y6 y7 y8 y9)) ∧ (∀ y0 y1 y2 y3 y4 y5 y6 y7 y8 y9 y10, LeO (z0f.l0 k y0 y1 y2 y3 y4 y5 y6 y7 y8 y9 y10) (z0f.l0 (k + 1) y0 y1 y2 y3 y4 y5 y6 y7 y8 y9 y10))
 | 0 => ⟨fun _ _ _ _ _ _ _ _ _ _ r h => by simp [z0f.j0] at h, fun _ _ _ _ _ _ _ _ _ _ r h => by simp [z0f.j1] at h, fun _ _ _ _ _ _ _ _ _ _ r h => by simp [z0f.j2] at h, fun _ _ _ _ _ _ _ _ _ _ _ r h => by simp [z0f.l0] at h⟩
 | k + 1 => by
  obtain ⟨ih0, ih1, ih2, ih3⟩ := z0f.mono_l k
  refine ⟨?_, ?_, ?_, ?_⟩
  ·intro y0 y1 y2 y3 y4 y5 y6 y7 y8 y9
   unfold z0f.j0
   repeat' first
   | (with_reducible exact ih0 _ _ _ _ _ _ _ _ _ _)
   | (with_reducible exact ih1 _ _ _ _ _ _ _ _ _ _)
   | (with_reducible exact ih2 _ _ _ _ _ _ _ _ _ _)
   | (with_reducible exact ih3 _ _ _ _ _ _ _ _ _ _ _)
   | (with_reducible exact z0w.mono _ _)
   | (with_reducible exact LeO.refl _)
   | (with_reducible exact LeO.none _)
   | (with_reducible refine LeO.ite ?_ ?_)
   | (with_reducible refine LeO.bind ?_ (fun _ => ?_))
   | exact ih0 _ _ _ _ _ _ _ _ _ _
   | exact ih1 _ _ _ _ _ _ _ _ _ _
   | exact ih2 _ _ _ _ _ _ _ _ _ _
   | exact ih3 _ _ _ _ _ _ _ _ _ _ _
   | exact z0w.mono _ _
   | exact LeO.none _
   | refine LeO.ite ?_ ?_
   | refine LeO.bind ?_ (fun _ => ?_)
  ·intro y0 y1 y2 y3 y4 y5 y6 y7 y8 y9
   unfold z0f.j1
   repeat' first
   | (with_reducible exact ih0 _ _ _ _ _ _ _ _ _ _)
   | (with_reducible exact ih1 _ _ _ _ _ _ _ _ _ _)
   | (with_reducible exact ih2 _ _ _ _ _ _ _ _ _ _)
   | (with_reducible exact ih3 _ _ _ _ _ _ _ _ _ _ _)
   | (with_reducible exact z0w.mono _ _)
   | (with_reducible exact LeO.refl _)
   | (with_reducible exact LeO.none _)
   | (with_reducible refine LeO.ite ?_ ?_)
   | (with_reducible refine LeO.bind ?_ (fun _ => ?_))
   | exact ih0 _ _ _ _ _ _ _ _ _ _
   | exact ih1 _ _ _ _ _ _ _ _ _ _
   | exact ih2 _ _ _ _ _ _ _ _ _ _
   | exact ih3 _ _ _ _ _ _ _ _ _ _ _
   | exact z0w.mono _ _
   | exact LeO.none _
   | refine LeO.ite ?_ ?_
   | refine LeO.bind ?_ (fun _ => ?_)
  ·intro y0 y1 y2 y3 y4 y5 y6 y7 y8 y9
   unfold z0f.j2
   repeat' first
   | (with_reducible exact ih0 _ _ _ _ _ _ _ _ _ _)
   | (with_reducible exact ih1 _ _ _ _ _ _ _ _ _ _)
   | (with_reducible exact ih2 _ _ _ _ _ _ _ _ _ _)
   | (with_reducible exact ih3 _ _ _ _ _ _ _ _ _ _ _)
   | (with_reducible exact z0w.mono _ _)
   | (with_reducible exact LeO.refl _)
   | (with_reducible exact LeO.none _)
   | (with_reducible refine LeO.ite ?_ ?_)
   | (with_reducible refine LeO.bind ?_ (fun _ => ?_))
   | exact ih0 _ _ _ _ _ _ _ _ _ _
   | exact ih1 _ _ _ _ _ _ _ _ _ _
   | exact ih2 _ _ _ _ _ _ _ _ _ _
   | exact ih3 _ _ _ _ _ _ _ _ _ _ _
   | exact z0w.mono _ _
   | exact LeO.none _
   | refine LeO.ite ?_ ?_
   | refine LeO.bind ?_ (fun _ => ?_)
  ·intro y0 y1 y2 y3 y4 y5 y6 y7 y8 y9 y10
   unfold z0f.l0
   repeat' first
   | (with_reducible exact ih0 _ _ _ _ _ _ _ _ _ _)
   | (with_reducible exact ih1 _ _ _ _ _ _ _ _ _ _)
   | (with_reducible exact ih2 _ _ _ _ _ _ _ _ _ _)
   | (with_reducible exact ih3 _ _ _ _ _ _ _ _ _ _ _)
   | (with_reducible exact z0w.mono _ _)
   | (with_reducible exact LeO.refl _)
   | (with_reducible exact LeO.none _)
   | (with_reducible refine LeO.ite ?_ ?_)
   | (with_reducible refine LeO.bind ?_ (fun _ => ?_))
   | exact ih0 _ _ _ _ _ _ _ _ _ _
   | exact ih1 _ _ _ _ _ _ _ _ _ _
   | exact ih2 _ _ _ _ _ _ _ _ _ _
   | exact ih3 _ _ _ _ _ _ _ _ _ _ _
   | exact z0w.mono _ _
   | exact LeO.none _
   | refine LeO.ite ?_ ?_
   | refine LeO.bind ?_ (fun _ => ?_)
theorem z0f.mono : ∀ a0 a1 a2 a3 a4 a5 a6 a7 a8 k, LeO (z0f.f k a0 a1 a2 a3 a4 a5 a6 a7 a8) (z0f.f (k + 1) a0 a1 a2 a3 a4 a5 a6 a7 a8) := by
 intro a0 a1 a2 a3 a4 a5 a6 a7 a8 k
 obtain ⟨ih0, ih1, ih2, ih3⟩ := z0f.mono_l k
 unfold z0f.f
 repeat' first
   | (with_reducible exact ih0 _ _ _ _ _ _ _ _ _ _)
   | (with_reducible exact ih1 _ _ _ _ _ _ _ _ _ _)
   | (with_reducible exact ih2 _ _ _ _ _ _ _ _ _ _)
   | (with_reducible exact ih3 _ _ _ _ _ _ _ _ _ _ _)
   | (with_reducible exact z0w.mono _ _)
   | (with_reducible exact LeO.refl _)
   | (with_reducible exact LeO.none _)
   | (with_reducible refine LeO.ite ?_ ?_)
   | (with_reducible refine LeO.bind ?_ (fun _ => ?_))
   | exact ih0 _ _ _ _ _ _ _ _ _ _
   | exact ih1 _ _ _ _ _ _ _ _ _ _
   | exact ih2 _ _ _ _ _ _ _ _ _ _
   | exact ih3 _ _ _ _ _ _ _ _ _ _ _
   | exact z0w.mono _ _
   | exact LeO.none _
   | refine LeO.ite ?_ ?_
   | refine LeO.bind ?_ (fun _ => ?_)
set_option maxHeartbeats 8000000 in
set_option maxRecDepth 100000 in
theorem z0f.calls (k : Nat) (a0_0 : Int) (a0_1 : Int) (A0_2 : Option Addr) (c0_2 : Nat) (l0_2 : List ByteArray) (A0_3 : Option Addr) (c0_3 : Nat) (l0_3 : List ByteArray) (A0_4 : Option Addr) (c0_4 : Nat) (l0_4 : List (S94)) (a0_5 : ByteArray) (a0_6 : Int) (a0_7 : Int) (a0_8 : ByteArray) (r : Int) (w : World) (hr0_2 : Kd.C Kd.string w A0_2 l0_2.length l0_2) (hc0_2 : l0_2.length ≤ c0_2) (hr0_3 : Kd.C Kd.string w A0_3 l0_3.length l0_3) (hc0_3 : l0_3.length ≤ c0_3) (hr0_4 : Kd.C k94 w A0_4 l0_4.length l0_4) (hc0_4 : l0_4.length ≤ c0_4) (h : z0f.f k a0_0 a0_1 l0_2 l0_3 l0_4 a0_5 a0_6 a0_7 a0_8 = some r) :
  Calls Try.prog 14 #[.agg #[.int .i64 a0_0, .int .u64 a0_1, .slice A0_2 l0_2.length c0_2, .slice A0_3 l0_3.length c0_3, .slice A0_4 l0_4.length c0_4, .string a0_5, .int .i64 a0_6, .int .i64 a0_7, .string a0_8]] w fun e w' => e = .returned (.int .i64 r) ∧ Below w.heap.size w w' := by
 have hu34 := Try.underlying34
 have HR0_2 := z01.mk hr0_2
 have HC0_2 := z01.mk hc0_2
 clear hr0_2 hc0_2
 have HR0_3 := z01.mk hr0_3
 have HC0_3 := z01.mk hc0_3
 clear hr0_3 hc0_3
 have HR0_4 := z01.mk hr0_4
 have HC0_4 := z01.mk hc0_4
 clear hr0_4 hc0_4
 have HB := z01.mk (Below.refl w.heap.size w)
 have H : (if a0_0 < 1 then (z0f.j0 k true a0_0 a0_1 l0_2 l0_3 l0_4 a0_5 a0_6 a0_7 a0_8) else (z0f.j0 k (decide (a0_0 > 9)) a0_0 a0_1 l0_2 l0_3 l0_4 a0_5 a0_6 a0_7 a0_8)) = some r := h
 clear h
 have HC2 := z01.mk H
 clear H
 go_enter Try.func14, Try.ntmps14
 go_upto_region 1 with (first | ((with_reducible refine gate_dst (N := 1) rfl ?_); (try (refine gate_guard (by rfl) ?_; dsimp only)); refine box_event ?hg (N := 1) ?hd (cs := #[.int .i64 a0_0, .int .u64 a0_1, .slice A0_2 l0_2.length c0_2, .slice A0_3 l0_3.length c0_3, .slice A0_4 l0_4.length c0_4, .string a0_5, .int .i64 a0_6, .int .i64 a0_7, .string a0_8]) (t := 34) ?hr ?_; (case hd => rfl); (case hg => rfl); (case hr => first | (go_simp; done) | (go_simp; rfl)); intro gb102 hg w3 hbox hb; have n0_ := z01.mk (z0i (by repeat (first | (with_reducible first | exact HB.out | apply z03 | apply z05 | apply z04) | exact HB.out | exact Below.refl _ _)) hb); have n1_ := z01.mk (hbox); have n2_ := z01.mk ((by rw [hg]; exact (z18 (by repeat (first | (with_reducible first | exact HB.out | apply z03 | apply z05 | apply z04) | exact HB.out | exact Below.refl _ _))) : w.heap.size ≤ gb102)); have n3_ := z01.mk ((by rw [hg]; exact (z18 (by repeat (first | (with_reducible first | exact HB.out | apply z03 | apply z05 | apply z04) | exact HB.out | exact Below.refl _ _))) : w.heap.size ≤ gb102)); clear HB; have HB := n0_; have BK102 := n1_; have GW102 := n2_; have GE102 := n3_; clear n0_ n1_ n2_ n3_; clear hb hbox hg))
 (try simp only [Act.put, q1, q2, q3])
 go_cut [12] (fun v12 wc => ∃ (kq : Nat) (x12_1 : Bool), v12 = .bool x12_1 ∧ z01 (z0f.j0 kq x12_1 a0_0 a0_1 l0_2 l0_3 l0_4 a0_5 a0_6 a0_7 a0_8 = some r) ∧ z01 (kq ≤ k) ∧ z01 (wc.heap[gb102]? = some (.cells #[.int .i64 a0_0, .int .u64 a0_1, (.slice A0_2 l0_2.length c0_2), (.slice A0_3 l0_3.length c0_3), (.slice A0_4 l0_4.length c0_4), .string a0_5, .int .i64 a0_6, .int .i64 a0_7, .string a0_8] 34 (0, 0))) ∧ z01 (Below w.heap.size w wc))
 case first =>
  have H := HC2.out
  clear HC2
  by_cases c4 : a0_0 < 1
  ·rw [if_pos c4] at H
   have c4b0 : decide (a0_0 < 1) = true := decide_eq_true c4
   clear c4
   (first | rw [c4b0] | (simp only [z06, z07]; rw [c4b0]) | skip)
   have H' := z01.mk H
   clear H
   have hcz5_0 : w3.cell? ⟨gb102, 0, none⟩ = some (.int .i64 a0_0) := (z00 BK102.out 0).trans rfl
   have hcz5_1 : w3.cell? ⟨gb102, 1, none⟩ = some (.int .u64 a0_1) := (z00 BK102.out 1).trans rfl
   have hcz5_2 : w3.cell? ⟨gb102, 2, none⟩ = some (.slice A0_2 l0_2.length c0_2) := (z00 BK102.out 2).trans rfl
   have hcz5_3 : w3.cell? ⟨gb102, 3, none⟩ = some (.slice A0_3 l0_3.length c0_3) := (z00 BK102.out 3).trans rfl
   have hcz5_4 : w3.cell? ⟨gb102, 4, none⟩ = some (.slice A0_4 l0_4.length c0_4) := (z00 BK102.out 4).trans rfl
   have hcz5_5 : w3.cell? ⟨gb102, 5, none⟩ = some (.string a0_5) := (z00 BK102.out 5).trans rfl
   have hcz5_6 : w3.cell? ⟨gb102, 6, none⟩ = some (.int .i64 a0_6) := (z00 BK102.out 6).trans rfl
   have hcz5_7 : w3.cell? ⟨gb102, 7, none⟩ = some (.int .i64 a0_7) := (z00 BK102.out 7).trans rfl
   have hcz5_8 : w3.cell? ⟨gb102, 8, none⟩ = some (.string a0_8) := (z00 BK102.out 8).trans rfl
   have hfz5_0 := z02 BK102.out 0
   have hfz5_1 := z02 BK102.out 1
   have hfz5_2 := z02 BK102.out 2
   have hfz5_3 := z02 BK102.out 3
   have hfz5_4 := z02 BK102.out 4
   have hfz5_5 := z02 BK102.out 5
   have hfz5_6 := z02 BK102.out 6
   have hfz5_7 := z02 BK102.out 7
   have hfz5_8 := z02 BK102.out 8
   go_wp2
   go_meet
   case rel => exact ⟨_, (true), (by first | rfl | (simp; done) | (simp [*]; done)), H', ⟨by first | omega | exact Nat.le_refl _⟩, ⟨by (with_reducible repeat (first | refine z0c ?_ _ | refine z09 ?_ | refine z0a ?_ _)); exact BK102.out⟩, ⟨by repeat (first | (with_reducible first | exact HB.out | apply z03 | apply z05 | apply z04 | refine z08 ?_ GE102.out) | exact HB.out)⟩⟩
  ·rw [if_neg c4] at H
   have c4b0 : decide (a0_0 < 1) = false := decide_eq_false c4
   clear c4
   (first | rw [c4b0] | (simp only [z06, z07]; rw [c4b0]) | skip)
   have H' := z01.mk H
   clear H
   have hcz6_0 : w3.cell? ⟨gb102, 0, none⟩ = some (.int .i64 a0_0) := (z00 BK102.out 0).trans rfl
   have hcz6_1 : w3.cell? ⟨gb102, 1, none⟩ = some (.int .u64 a0_1) := (z00 BK102.out 1).trans rfl
   have hcz6_2 : w3.cell? ⟨gb102, 2, none⟩ = some (.slice A0_2 l0_2.length c0_2) := (z00 BK102.out 2).trans rfl
   have hcz6_3 : w3.cell? ⟨gb102, 3, none⟩ = some (.slice A0_3 l0_3.length c0_3) := (z00 BK102.out 3).trans rfl
   have hcz6_4 : w3.cell? ⟨gb102, 4, none⟩ = some (.slice A0_4 l0_4.length c0_4) := (z00 BK102.out 4).trans rfl
   have hcz6_5 : w3.cell? ⟨gb102, 5, none⟩ = some (.string a0_5) := (z00 BK102.out 5).trans rfl
   have hcz6_6 : w3.cell? ⟨gb102, 6, none⟩ = some (.int .i64 a0_6) := (z00 BK102.out 6).trans rfl
   have hcz6_7 : w3.cell? ⟨gb102, 7, none⟩ = some (.int .i64 a0_7) := (z00 BK102.out 7).trans rfl
   have hcz6_8 : w3.cell? ⟨gb102, 8, none⟩ = some (.string a0_8) := (z00 BK102.out 8).trans rfl
   have hfz6_0 := z02 BK102.out 0
   have hfz6_1 := z02 BK102.out 1
   have hfz6_2 := z02 BK102.out 2
   have hfz6_3 := z02 BK102.out 3
   have hfz6_4 := z02 BK102.out 4
   have hfz6_5 := z02 BK102.out 5
   have hfz6_6 := z02 BK102.out 6
   have hfz6_7 := z02 BK102.out 7
   have hfz6_8 := z02 BK102.out 8
   go_wp2
   go_meet
   case rel => exact ⟨_, (decide (a0_0 > 9)), (by first | rfl | (simp; done) | (simp [*]; done)), H', ⟨by first | omega | exact Nat.le_refl _⟩, ⟨by (with_reducible repeat (first | refine z0c ?_ _ | refine z09 ?_ | refine z0a ?_ _)); exact BK102.out⟩, ⟨by repeat (first | (with_reducible first | exact HB.out | apply z03 | apply z05 | apply z04 | refine z08 ?_ GE102.out) | exact HB.out)⟩⟩
 case rest =>
  clear HC2
  try clear c1
  try clear p2
  try clear c4
  try clear c4b0
  try clear hcz5_0
  try clear hcz5_1
  try clear hcz5_2
  try clear hcz5_3
  try clear hcz5_4
  try clear hcz5_5
  try clear hcz5_6
  try clear hcz5_7
  try clear hcz5_8
  try clear hcz6_0
  try clear hcz6_1
  try clear hcz6_2
  try clear hcz6_3
  try clear hcz6_4
  try clear hcz6_5
  try clear hcz6_6
  try clear hcz6_7
  try clear hcz6_8
  try clear hfz5_0
  try clear hfz5_1
  try clear hfz5_2
  try clear hfz5_3
  try clear hfz5_4
  try clear hfz5_5
  try clear hfz5_6
  try clear hfz5_7
  try clear hfz5_8
  try clear hfz6_0
  try clear hfz6_1
  try clear hfz6_2
  try clear hfz6_3
  try clear hfz6_4
  try clear hfz6_5
  try clear hfz6_6
  try clear hfz6_7
  try clear hfz6_8
  obtain ⟨kq, x12_1, rfl, HA, HJ1, BK102, HB⟩ := hcut
  cases kq with
  | zero => exact absurd HA.out (by simp [z0f.j0])
  | succ kj1 =>
   have H := HA.out
   clear HA
   simp only [z0f.j0] at H
   by_cases c7 : x12_1 = true
   ·subst c7
    have H1 : (some 230) = some r := by rw [if_pos rfl] at H; exact H
    clear H
    have H := H1
    clear H1
    obtain rfl := Option.some.inj H
    go_wp2
    go_ret
    exact ⟨by first | rfl | (simp [z0n, z0o] <;> rfl) | (simp [*, z0n, z0o] <;> rfl), by repeat (first | (with_reducible first | exact HB.out | apply z03 | apply z05 | apply z04 | refine z08 ?_ GE102.out) | exact HB.out)⟩
   ·replace c7 := Bool.eq_false_iff.mpr c7
    subst c7
    have H1 : (if (l0_2.length : Int) > 64 then (z0f.j1 kj1 true a0_0 a0_1 l0_2 l0_3 l0_4 a0_5 a0_6 a0_7 a0_8) else (if (l0_3.length : Int) > 64 then (z0f.j1 kj1 true a0_0 a0_1 l0_2 l0_3 l0_4 a0_5 a0_6 a0_7 a0_8) else (if (l0_4.length : Int) > 256 then (z0f.j1 kj1 true a0_0 a0_1 l0_2 l0_3 l0_4 a0_5 a0_6 a0_7 a0_8) else (z0f.j1 kj1 (decide ((a0_8.size : Int) > 700)) a0_0 a0_1 l0_2 l0_3 l0_4 a0_5 a0_6 a0_7 a0_8)))) = some r := by rw [if_neg (show ¬ (false = true) by decide)] at H; exact H
    clear H
    have H := H1
    clear H1
    have HC8 := z01.mk H
    clear H
    go_upto_region 3 with (fail)
    go_cut [34] (fun v34 wc => ∃ (kq : Nat) (x34_7 : Bool), v34 = .bool x34_7 ∧ z01 (z0f.j1 kq x34_7 a0_0 a0_1 l0_2 l0_3 l0_4 a0_5 a0_6 a0_7 a0_8 = some r) ∧ z01 (kq ≤ kj1) ∧ z01 (wc.heap[gb102]? = some (.cells #[.int .i64 a0_0, .int .u64 a0_1, (.slice A0_2 l0_2.length c0_2), (.slice A0_3 l0_3.length c0_3), (.slice A0_4 l0_4.length c0_4), .string a0_5, .int .i64 a0_6, .int .i64 a0_7, .string a0_8] 34 (0, 0))) ∧ z01 (Below w.heap.size w wc))
    case first =>
     have H := HC8.out
     clear HC8
     by_cases c9 : (l0_2.length : Int) > 64
     ·rw [if_pos c9] at H
      have c9b0 : decide (64 < (l0_2.length : Int)) = true := decide_eq_true c9
      have c9b1 : decide (64 < l0_2.length) = true := decide_eq_true (by omega)
      clear c9
      (first | rw [c9b0] | (simp only [z06, z07]; rw [c9b0]) | skip)
      have H' := z01.mk H
      clear H
      have hcz10_0 : wc.cell? ⟨gb102, 0, none⟩ = some (.int .i64 a0_0) := (z00 BK102.out 0).trans rfl
      have hcz10_1 : wc.cell? ⟨gb102, 1, none⟩ = some (.int .u64 a0_1) := (z00 BK102.out 1).trans rfl
      have hcz10_2 : wc.cell? ⟨gb102, 2, none⟩ = some (.slice A0_2 l0_2.length c0_2) := (z00 BK102.out 2).trans rfl
      have hcz10_3 : wc.cell? ⟨gb102, 3, none⟩ = some (.slice A0_3 l0_3.length c0_3) := (z00 BK102.out 3).trans rfl
      have hcz10_4 : wc.cell? ⟨gb102, 4, none⟩ = some (.slice A0_4 l0_4.length c0_4) := (z00 BK102.out 4).trans rfl
      have hcz10_5 : wc.cell? ⟨gb102, 5, none⟩ = some (.string a0_5) := (z00 BK102.out 5).trans rfl
      have hcz10_6 : wc.cell? ⟨gb102, 6, none⟩ = some (.int .i64 a0_6) := (z00 BK102.out 6).trans rfl
      have hcz10_7 : wc.cell? ⟨gb102, 7, none⟩ = some (.int .i64 a0_7) := (z00 BK102.out 7).trans rfl
      have hcz10_8 : wc.cell? ⟨gb102, 8, none⟩ = some (.string a0_8) := (z00 BK102.out 8).trans rfl
      have hfz10_0 := z02 BK102.out 0
      have hfz10_1 := z02 BK102.out 1
      have hfz10_2 := z02 BK102.out 2
      have hfz10_3 := z02 BK102.out 3
      have hfz10_4 := z02 BK102.out 4
      have hfz10_5 := z02 BK102.out 5
      have hfz10_6 := z02 BK102.out 6
      have hfz10_7 := z02 BK102.out 7
      have hfz10_8 := z02 BK102.out 8
      go_wp2
      go_meet
      case rel => exact ⟨_, (true), (by first | rfl | (simp; done) | (simp [*]; done)), H', ⟨by have := HJ1.out; first | omega | exact Nat.le_refl _⟩, ⟨by (with_reducible repeat (first | refine z0c ?_ _ | refine z09 ?_ | refine z0a ?_ _)); exact BK102.out⟩, ⟨by repeat (first | (with_reducible first | exact HB.out | apply z03 | apply z05 | apply z04 | refine z08 ?_ GE102.out) | exact HB.out)⟩⟩
     ·rw [if_neg c9] at H
      have c9b0 : decide (64 < (l0_2.length : Int)) = false := decide_eq_false c9
      have c9b1 : decide (64 < l0_2.length) = false := decide_eq_false (by omega)
      clear c9
      (first | rw [c9b0] | (simp only [z06, z07]; rw [c9b0]) | skip)
      by_cases c11 : (l0_3.length : Int) > 64
      ·rw [if_pos c11] at H
       have c11b0 : decide (64 < (l0_3.length : Int)) = true := decide_eq_true c11
       have c11b1 : decide (64 < l0_3.length) = true := decide_eq_true (by omega)
       clear c11
       have H' := z01.mk H
       clear H
       have hcz12_0 : wc.cell? ⟨gb102, 0, none⟩ = some (.int .i64 a0_0) := (z00 BK102.out 0).trans rfl
       have hcz12_1 : wc.cell? ⟨gb102, 1, none⟩ = some (.int .u64 a0_1) := (z00 BK102.out 1).trans rfl
       have hcz12_2 : wc.cell? ⟨gb102, 2, none⟩ = some (.slice A0_2 l0_2.length c0_2) := (z00 BK102.out 2).trans rfl
       have hcz12_3 : wc.cell? ⟨gb102, 3, none⟩ = some (.slice A0_3 l0_3.length c0_3) := (z00 BK102.out 3).trans rfl
       have hcz12_4 : wc.cell? ⟨gb102, 4, none⟩ = some (.slice A0_4 l0_4.length c0_4) := (z00 BK102.out 4).trans rfl
       have hcz12_5 : wc.cell? ⟨gb102, 5, none⟩ = some (.string a0_5) := (z00 BK102.out 5).trans rfl
       have hcz12_6 : wc.cell? ⟨gb102, 6, none⟩ = some (.int .i64 a0_6) := (z00 BK102.out 6).trans rfl
       have hcz12_7 : wc.cell? ⟨gb102, 7, none⟩ = some (.int .i64 a0_7) := (z00 BK102.out 7).trans rfl
       have hcz12_8 : wc.cell? ⟨gb102, 8, none⟩ = some (.string a0_8) := (z00 BK102.out 8).trans rfl
       have hfz12_0 := z02 BK102.out 0
       have hfz12_1 := z02 BK102.out 1
       have hfz12_2 := z02 BK102.out 2
       have hfz12_3 := z02 BK102.out 3
       have hfz12_4 := z02 BK102.out 4
       have hfz12_5 := z02 BK102.out 5
       have hfz12_6 := z02 BK102.out 6
       have hfz12_7 := z02 BK102.out 7
       have hfz12_8 := z02 BK102.out 8
       go_wp2
       go_meet
       case rel => exact ⟨_, (true), (by first | rfl | (simp; done) | (simp [*]; done)), H', ⟨by have := HJ1.out; first | omega | exact Nat.le_refl _⟩, ⟨by (with_reducible repeat (first | refine z0c ?_ _ | refine z09 ?_ | refine z0a ?_ _)); exact BK102.out⟩, ⟨by repeat (first | (with_reducible first | exact HB.out | apply z03 | apply z05 | apply z04 | refine z08 ?_ GE102.out) | exact HB.out)⟩⟩
      ·rw [if_neg c11] at H
       have c11b0 : decide (64 < (l0_3.length : Int)) = false := decide_eq_false c11
       have c11b1 : decide (64 < l0_3.length) = false := decide_eq_false (by omega)
       clear c11
       by_cases c13 : (l0_4.length : Int) > 256
       ·rw [if_pos c13] at H
        have c13b0 : decide (256 < (l0_4.length : Int)) = true := decide_eq_true c13
        have c13b1 : decide (256 < l0_4.length) = true := decide_eq_true (by omega)
        clear c13
        have H' := z01.mk H
        clear H
        have hcz14_0 : wc.cell? ⟨gb102, 0, none⟩ = some (.int .i64 a0_0) := (z00 BK102.out 0).trans rfl
        have hcz14_1 : wc.cell? ⟨gb102, 1, none⟩ = some (.int .u64 a0_1) := (z00 BK102.out 1).trans rfl
        have hcz14_2 : wc.cell? ⟨gb102, 2, none⟩ = some (.slice A0_2 l0_2.length c0_2) := (z00 BK102.out 2).trans rfl
        have hcz14_3 : wc.cell? ⟨gb102, 3, none⟩ = some (.slice A0_3 l0_3.length c0_3) := (z00 BK102.out 3).trans rfl
        have hcz14_4 : wc.cell? ⟨gb102, 4, none⟩ = some (.slice A0_4 l0_4.length c0_4) := (z00 BK102.out 4).trans rfl
        have hcz14_5 : wc.cell? ⟨gb102, 5, none⟩ = some (.string a0_5) := (z00 BK102.out 5).trans rfl
        have hcz14_6 : wc.cell? ⟨gb102, 6, none⟩ = some (.int .i64 a0_6) := (z00 BK102.out 6).trans rfl
        have hcz14_7 : wc.cell? ⟨gb102, 7, none⟩ = some (.int .i64 a0_7) := (z00 BK102.out 7).trans rfl
        have hcz14_8 : wc.cell? ⟨gb102, 8, none⟩ = some (.string a0_8) := (z00 BK102.out 8).trans rfl
        have hfz14_0 := z02 BK102.out 0
        have hfz14_1 := z02 BK102.out 1
        have hfz14_2 := z02 BK102.out 2
        have hfz14_3 := z02 BK102.out 3
        have hfz14_4 := z02 BK102.out 4
        have hfz14_5 := z02 BK102.out 5
        have hfz14_6 := z02 BK102.out 6
        have hfz14_7 := z02 BK102.out 7
        have hfz14_8 := z02 BK102.out 8
        go_wp2
        go_meet
        case rel => exact ⟨_, (true), (by first | rfl | (simp; done) | (simp [*]; done)), H', ⟨by have := HJ1.out; first | omega | exact Nat.le_refl _⟩, ⟨by (with_reducible repeat (first | refine z0c ?_ _ | refine z09 ?_ | refine z0a ?_ _)); exact BK102.out⟩, ⟨by repeat (first | (with_reducible first | exact HB.out | apply z03 | apply z05 | apply z04 | refine z08 ?_ GE102.out) | exact HB.out)⟩⟩
       ·rw [if_neg c13] at H
        have c13b0 : decide (256 < (l0_4.length : Int)) = false := decide_eq_false c13
        have c13b1 : decide (256 < l0_4.length) = false := decide_eq_false (by omega)
        clear c13
        have H' := z01.mk H
        clear H
        have hcz15_0 : wc.cell? ⟨gb102, 0, none⟩ = some (.int .i64 a0_0) := (z00 BK102.out 0).trans rfl
        have hcz15_1 : wc.cell? ⟨gb102, 1, none⟩ = some (.int .u64 a0_1) := (z00 BK102.out 1).trans rfl
        have hcz15_2 : wc.cell? ⟨gb102, 2, none⟩ = some (.slice A0_2 l0_2.length c0_2) := (z00 BK102.out 2).trans rfl
        have hcz15_3 : wc.cell? ⟨gb102, 3, none⟩ = some (.slice A0_3 l0_3.length c0_3) := (z00 BK102.out 3).trans rfl
        have hcz15_4 : wc.cell? ⟨gb102, 4, none⟩ = some (.slice A0_4 l0_4.length c0_4) := (z00 BK102.out 4).trans rfl
        have hcz15_5 : wc.cell? ⟨gb102, 5, none⟩ = some (.string a0_5) := (z00 BK102.out 5).trans rfl
        have hcz15_6 : wc.cell? ⟨gb102, 6, none⟩ = some (.int .i64 a0_6) := (z00 BK102.out 6).trans rfl
        have hcz15_7 : wc.cell? ⟨gb102, 7, none⟩ = some (.int .i64 a0_7) := (z00 BK102.out 7).trans rfl
        have hcz15_8 : wc.cell? ⟨gb102, 8, none⟩ = some (.string a0_8) := (z00 BK102.out 8).trans rfl
        have hfz15_0 := z02 BK102.out 0
        have hfz15_1 := z02 BK102.out 1
        have hfz15_2 := z02 BK102.out 2
        have hfz15_3 := z02 BK102.out 3
        have hfz15_4 := z02 BK102.out 4
        have hfz15_5 := z02 BK102.out 5
        have hfz15_6 := z02 BK102.out 6
        have hfz15_7 := z02 BK102.out 7
        have hfz15_8 := z02 BK102.out 8
        go_wp2
        go_meet
        case rel => exact ⟨_, (decide ((a0_8.size : Int) > 700)), (by first | rfl | (simp; done) | (simp [*]; done)), H', ⟨by have := HJ1.out; first | omega | exact Nat.le_refl _⟩, ⟨by (with_reducible repeat (first | refine z0c ?_ _ | refine z09 ?_ | refine z0a ?_ _)); exact BK102.out⟩, ⟨by repeat (first | (with_reducible first | exact HB.out | apply z03 | apply z05 | apply z04 | refine z08 ?_ GE102.out) | exact HB.out)⟩⟩
    case rest =>
     clear HC8
     try clear c1
     try clear p2
     try clear c4
     try clear c4b0
     try clear c7
     try clear c9
     try clear c9b0
     try clear c9b1
     try clear c11
     try clear c11b0
     try clear c11b1
     try clear c13
     try clear c13b0
     try clear c13b1
     try clear c14
     try clear hcz10_0
     try clear hcz10_1
     try clear hcz10_2
     try clear hcz10_3
     try clear hcz10_4
     try clear hcz10_5
     try clear hcz10_6
     try clear hcz10_7
     try clear hcz10_8
     try clear hcz12_0
     try clear hcz12_1
     try clear hcz12_2
     try clear hcz12_3
     try clear hcz12_4
     try clear hcz12_5
     try clear hcz12_6
     try clear hcz12_7
     try clear hcz12_8
     try clear hcz14_0
     try clear hcz14_1
     try clear hcz14_2
     try clear hcz14_3
     try clear hcz14_4
     try clear hcz14_5
     try clear hcz14_6
     try clear hcz14_7
     try clear hcz14_8
     try clear hcz15_0
     try clear hcz15_1
     try clear hcz15_2
     try clear hcz15_3
     try clear hcz15_4
     try clear hcz15_5
     try clear hcz15_6
     try clear hcz15_7
     try clear hcz15_8
     try clear hcz5_0
     try clear hcz5_1
     try clear hcz5_2
     try clear hcz5_3
     try clear hcz5_4
     try clear hcz5_5
     try clear hcz5_6
     try clear hcz5_7
     try clear hcz5_8
     try clear hcz6_0
     try clear hcz6_1
     try clear hcz6_2
     try clear hcz6_3
     try clear hcz6_4
     try clear hcz6_5
     try clear hcz6_6
     try clear hcz6_7
     try clear hcz6_8
     try clear hfz10_0
     try clear hfz10_1
     try clear hfz10_2
     try clear hfz10_3
     try clear hfz10_4
     try clear hfz10_5
     try clear hfz10_6
     try clear hfz10_7
     try clear hfz10_8
     try clear hfz12_0
     try clear hfz12_1
     try clear hfz12_2
     try clear hfz12_3
     try clear hfz12_4
     try clear hfz12_5
     try clear hfz12_6
     try clear hfz12_7
     try clear hfz12_8
     try clear hfz14_0
     try clear hfz14_1
     try clear hfz14_2
     try clear hfz14_3
     try clear hfz14_4
     try clear hfz14_5
     try clear hfz14_6
     try clear hfz14_7
     try clear hfz14_8
     try clear hfz15_0
     try clear hfz15_1
     try clear hfz15_2
     try clear hfz15_3
     try clear hfz15_4
     try clear hfz15_5
     try clear hfz15_6
     try clear hfz15_7
     try clear hfz15_8
     try clear hfz5_0
     try clear hfz5_1
     try clear hfz5_2
     try clear hfz5_3
     try clear hfz5_4
     try clear hfz5_5
     try clear hfz5_6
     try clear hfz5_7
     try clear hfz5_8
     try clear hfz6_0
     try clear hfz6_1
     try clear hfz6_2
     try clear hfz6_3
     try clear hfz6_4
     try clear hfz6_5
     try clear hfz6_6
     try clear hfz6_7
     try clear hfz6_8
     try clear p2
     obtain ⟨kq, x34_7, rfl, HA, HJ7, BK102, HB⟩ := hcut
     cases kq with
     | zero => exact absurd HA.out (by simp [z0f.j1])
     | succ kj7 =>
      have H := HA.out
      clear HA
      simp only [z0f.j1] at H
      by_cases c16 : x34_7 = true
      ·subst c16
       have H1 : (some 3) = some r := by rw [if_pos rfl] at H; exact H
       clear H
       have H := H1
       clear H1
       obtain rfl := Option.some.inj H
       go_wp2
       go_ret
       exact ⟨by first | rfl | (simp [z0n, z0o] <;> rfl) | (simp [*, z0n, z0o] <;> rfl), by repeat (first | (with_reducible first | exact HB.out | apply z03 | apply z05 | apply z04 | refine z08 ?_ GE102.out) | exact HB.out)⟩
      ·replace c16 := Bool.eq_false_iff.mpr c16
       subst c16
       have H1 : (if a0_1 ≤ 4611686018427387904 then (if a0_6 ≥ 0 then (if a0_6 ≤ 4194304 then (if a0_7 ≥ 0 then (if a0_7 ≤ 4194304 then (if a0_5.toList = ([] : List UInt8) then ((z0w.f kj7 l0_2).bind fun t103 => (if t103 = true then ((z0w.f kj7 l0_3).bind fun t104 => (z0f.j2 kj7 t104 a0_0 a0_1 l0_2 l0_3 l0_4 a0_5 a0_6 a0_7 a0_8)) else (z0f.j2 kj7 false a0_0 a0_1 l0_2 l0_3 l0_4 a0_5 a0_6 a0_7 a0_8))) else (if (a0_5.size : Int) = 32 then ((z0w.f kj7 l0_2).bind fun t105 => (if t105 = true then ((z0w.f kj7 l0_3).bind fun t106 => (z0f.j2 kj7 t106 a0_0 a0_1 l0_2 l0_3 l0_4 a0_5 a0_6 a0_7 a0_8)) else (z0f.j2 kj7 false a0_0 a0_1 l0_2 l0_3 l0_4 a0_5 a0_6 a0_7 a0_8))) else (z0f.j2 kj7 false a0_0 a0_1 l0_2 l0_3 l0_4 a0_5 a0_6 a0_7 a0_8))) else (z0f.j2 kj7 false a0_0 a0_1 l0_2 l0_3 l0_4 a0_5 a0_6 a0_7 a0_8)) else (z0f.j2 kj7 false a0_0 a0_1 l0_2 l0_3 l0_4 a0_5 a0_6 a0_7 a0_8)) else (z0f.j2 kj7 false a0_0 a0_1 l0_2 l0_3 l0_4 a0_5 a0_6 a0_7 a0_8)) else (z0f.j2 kj7 false a0_0 a0_1 l0_2 l0_3 l0_4 a0_5 a0_6 a0_7 a0_8)) else (z0f.j2 kj7 false a0_0 a0_1 l0_2 l0_3 l0_4 a0_5 a0_6 a0_7 a0_8)) = some r := by rw [if_neg (show ¬ (false = true) by decide)] at H; exact H
       clear H
       have H := H1
       clear H1
       have HC17 := z01.mk H
       clear H
       go_upto_region 5 with (fail)
       go_cut [3] (fun v3 wc => ∃ (kq : Nat) (x3_16 : Bool), v3 = .bool x3_16 ∧ z01 (z0f.j2 kq x3_16 a0_0 a0_1 l0_2 l0_3 l0_4 a0_5 a0_6 a0_7 a0_8 = some r) ∧ z01 (kq ≤ kj7) ∧ z01 (wc.heap[gb102]? = some (.cells #[.int .i64 a0_0, .int .u64 a0_1, (.slice A0_2 l0_2.length c0_2), (.slice A0_3 l0_3.length c0_3), (.slice A0_4 l0_4.length c0_4), .string a0_5, .int .i64 a0_6, .int .i64 a0_7, .string a0_8] 34 (0, 0))) ∧ z01 (Below w.heap.size w wc))
       case first =>
        have H := HC17.out
        clear HC17
        by_cases c18 : a0_1 ≤ 4611686018427387904
        ·rw [if_pos c18] at H
         have c18b0 : decide (a0_1 ≤ 4611686018427387904) = true := decide_eq_true c18
         clear c18
         (first | rw [c18b0] | (simp only [z06, z07]; rw [c18b0]) | skip)
         by_cases c19 : a0_6 ≥ 0
         ·rw [if_pos c19] at H
          have c19b0 : decide (0 ≤ a0_6) = true := decide_eq_true c19
          clear c19
          by_cases c20 : a0_6 ≤ 4194304
          ·rw [if_pos c20] at H
           have c20b0 : decide (a0_6 ≤ 4194304) = true := decide_eq_true c20
           clear c20
           by_cases c21 : a0_7 ≥ 0
           ·rw [if_pos c21] at H
            have c21b0 : decide (0 ≤ a0_7) = true := decide_eq_true c21
            clear c21
            by_cases c22 : a0_7 ≤ 4194304
            ·rw [if_pos c22] at H
             have c22b0 : decide (a0_7 ≤ 4194304) = true := decide_eq_true c22
             clear c22
             by_cases c23 : a0_5.toList = ([] : List UInt8)
             ·rw [if_pos c23] at H
              have c23b0 : (a0_5.toList == ([] : List UInt8)) = true := beq_iff_eq.mpr c23
              have c23b1 : (a0_5.toList != ([] : List UInt8)) = false := bne_eq_false_iff_eq.mpr c23
              clear c23
              replace H := Option.bind_eq_some_iff.mp H
              obtain ⟨t103, A240, H⟩ := H
              replace H : (if t103 = true then ((z0w.f kj7 l0_3).bind fun t104 => (z0f.j2 kj7 t104 a0_0 a0_1 l0_2 l0_3 l0_4 a0_5 a0_6 a0_7 a0_8)) else (z0f.j2 kj7 false a0_0 a0_1 l0_2 l0_3 l0_4 a0_5 a0_6 a0_7 a0_8)) = some r := H
              have A24 := z01.mk A240
              clear A240
              by_cases c25 : t103 = true
              ·subst c25
               have H1 : ((z0w.f kj7 l0_3).bind fun t104 => (z0f.j2 kj7 t104 a0_0 a0_1 l0_2 l0_3 l0_4 a0_5 a0_6 a0_7 a0_8)) = some r := by rw [if_pos rfl] at H; exact H
               clear H
               have H := H1
               clear H1
               replace H := Option.bind_eq_some_iff.mp H
               obtain ⟨t104, A260, H⟩ := H
               replace H : (z0f.j2 kj7 t104 a0_0 a0_1 l0_2 l0_3 l0_4 a0_5 a0_6 a0_7 a0_8) = some r := H
               have A26 := z01.mk A260
               clear A260
               have H' := z01.mk H
               clear H
               have hcz27_0 : wc.cell? ⟨gb102, 0, none⟩ = some (.int .i64 a0_0) := (z00 BK102.out 0).trans rfl
               have hcz27_1 : wc.cell? ⟨gb102, 1, none⟩ = some (.int .u64 a0_1) := (z00 BK102.out 1).trans rfl
               have hcz27_2 : wc.cell? ⟨gb102, 2, none⟩ = some (.slice A0_2 l0_2.length c0_2) := (z00 BK102.out 2).trans rfl
               have hcz27_3 : wc.cell? ⟨gb102, 3, none⟩ = some (.slice A0_3 l0_3.length c0_3) := (z00 BK102.out 3).trans rfl
               have hcz27_4 : wc.cell? ⟨gb102, 4, none⟩ = some (.slice A0_4 l0_4.length c0_4) := (z00 BK102.out 4).trans rfl
               have hcz27_5 : wc.cell? ⟨gb102, 5, none⟩ = some (.string a0_5) := (z00 BK102.out 5).trans rfl
               have hcz27_6 : wc.cell? ⟨gb102, 6, none⟩ = some (.int .i64 a0_6) := (z00 BK102.out 6).trans rfl
               have hcz27_7 : wc.cell? ⟨gb102, 7, none⟩ = some (.int .i64 a0_7) := (z00 BK102.out 7).trans rfl
               have hcz27_8 : wc.cell? ⟨gb102, 8, none⟩ = some (.string a0_8) := (z00 BK102.out 8).trans rfl
               have hfz27_0 := z02 BK102.out 0
               have hfz27_1 := z02 BK102.out 1
               have hfz27_2 := z02 BK102.out 2
               have hfz27_3 := z02 BK102.out 3
               have hfz27_4 := z02 BK102.out 4
               have hfz27_5 := z02 BK102.out 5
               have hfz27_6 := z02 BK102.out 6
               have hfz27_7 := z02 BK102.out 7
               have hfz27_8 := z02 BK102.out 8
               go_wp2_with (first | (go_at_call 43; (with_reducible refine (z0w.calls kj7 _ _ l0_2 true _ ?side1 ?side2 A24.out).mono ?_); (case side1 => repeat (first | exact (Kd.z12 HR0_2.out HB.out) | (with_reducible refine Kd.z1b ?_ _) | (with_reducible refine Kd.z1d ?_ _) | (with_reducible refine Kd.z1c ?_))); (case side2 => exact HC0_2.out); rintro e w' ⟨rfl, ⟨nd, rfl⟩⟩) | (go_at_call 43; (with_reducible refine (z0w.calls kj7 _ _ l0_3 t104 _ ?side1 ?side2 A26.out).mono ?_); (case side1 => repeat (first | exact (Kd.z12 HR0_3.out (by repeat (first | (with_reducible first | exact HB.out | apply z03 | apply z05 | apply z04 | refine z08 ?_ GE102.out) | exact HB.out))) | (with_reducible refine Kd.z1b ?_ _) | (with_reducible refine Kd.z1d ?_ _) | (with_reducible refine Kd.z1c ?_))); (case side2 => exact HC0_3.out); rintro e w' ⟨rfl, ⟨nd, rfl⟩⟩))
               go_meet
               case rel => exact ⟨_, (t104), (by first | rfl | (simp; done) | (simp [*]; done)), H', ⟨by have := HJ1.out; have := HJ7.out; first | omega | exact Nat.le_refl _⟩, ⟨by (with_reducible repeat (first | refine z0c ?_ _ | refine z09 ?_ | refine z0a ?_ _)); exact BK102.out⟩, ⟨by repeat (first | (with_reducible first | exact HB.out | apply z03 | apply z05 | apply z04 | refine z08 ?_ GE102.out) | exact HB.out)⟩⟩
              ·replace c25 := Bool.eq_false_iff.mpr c25
               subst c25
               have H1 : (z0f.j2 kj7 false a0_0 a0_1 l0_2 l0_3 l0_4 a0_5 a0_6 a0_7 a0_8) = some r := by rw [if_neg (show ¬ (false = true) by decide)] at H; exact H
               clear H
               have H := H1
               clear H1
               have H' := z01.mk H
               clear H
               have hcz28_0 : wc.cell? ⟨gb102, 0, none⟩ = some (.int .i64 a0_0) := (z00 BK102.out 0).trans rfl
               have hcz28_1 : wc.cell? ⟨gb102, 1, none⟩ = some (.int .u64 a0_1) := (z00 BK102.out 1).trans rfl
               have hcz28_2 : wc.cell? ⟨gb102, 2, none⟩ = some (.slice A0_2 l0_2.length c0_2) := (z00 BK102.out 2).trans rfl
               have hcz28_3 : wc.cell? ⟨gb102, 3, none⟩ = some (.slice A0_3 l0_3.length c0_3) := (z00 BK102.out 3).trans rfl
               have hcz28_4 : wc.cell? ⟨gb102, 4, none⟩ = some (.slice A0_4 l0_4.length c0_4) := (z00 BK102.out 4).trans rfl
               have hcz28_5 : wc.cell? ⟨gb102, 5, none⟩ = some (.string a0_5) := (z00 BK102.out 5).trans rfl
               have hcz28_6 : wc.cell? ⟨gb102, 6, none⟩ = some (.int .i64 a0_6) := (z00 BK102.out 6).trans rfl
               have hcz28_7 : wc.cell? ⟨gb102, 7, none⟩ = some (.int .i64 a0_7) := (z00 BK102.out 7).trans rfl
               have hcz28_8 : wc.cell? ⟨gb102, 8, none⟩ = some (.string a0_8) := (z00 BK102.out 8).trans rfl
               have hfz28_0 := z02 BK102.out 0
               have hfz28_1 := z02 BK102.out 1
               have hfz28_2 := z02 BK102.out 2
               have hfz28_3 := z02 BK102.out 3
               have hfz28_4 := z02 BK102.out 4
               have hfz28_5 := z02 BK102.out 5
               have hfz28_6 := z02 BK102.out 6
               have hfz28_7 := z02 BK102.out 7
               have hfz28_8 := z02 BK102.out 8
               go_wp2_with (first | (go_at_call 43; (with_reducible refine (z0w.calls kj7 _ _ l0_2 false _ ?side1 ?side2 A24.out).mono ?_); (case side1 => repeat (first | exact (Kd.z12 HR0_2.out HB.out) | (with_reducible refine Kd.z1b ?_ _) | (with_reducible refine Kd.z1d ?_ _) | (with_reducible refine Kd.z1c ?_))); (case side2 => exact HC0_2.out); rintro e w' ⟨rfl, ⟨nd, rfl⟩⟩))
               go_meet
               case rel => exact ⟨_, (false), (by first | rfl | (simp; done) | (simp [*]; done)), H', ⟨by have := HJ1.out; have := HJ7.out; first | omega | exact Nat.le_refl _⟩, ⟨by (with_reducible repeat (first | refine z0c ?_ _ | refine z09 ?_ | refine z0a ?_ _)); exact BK102.out⟩, ⟨by repeat (first | (with_reducible first | exact HB.out | apply z03 | apply z05 | apply z04 | refine z08 ?_ GE102.out) | exact HB.out)⟩⟩
             ·rw [if_neg c23] at H
              have c23b0 : (a0_5.toList == ([] : List UInt8)) = false := beq_eq_false_iff_ne.mpr c23
              have c23b1 : (a0_5.toList != ([] : List UInt8)) = true := bne_iff_ne.mpr c23
              by_cases c29 : (a0_5.size : Int) = 32
              ·rw [if_pos c29] at H
               have c29b0 : ((a0_5.size : Int) == 32) = true := beq_iff_eq.mpr c29
               have c29b1 : ((a0_5.size : Int) != 32) = false := bne_eq_false_iff_eq.mpr c29
               clear c29
               replace H := Option.bind_eq_some_iff.mp H
               obtain ⟨t105, A300, H⟩ := H
               replace H : (if t105 = true then ((z0w.f kj7 l0_3).bind fun t106 => (z0f.j2 kj7 t106 a0_0 a0_1 l0_2 l0_3 l0_4 a0_5 a0_6 a0_7 a0_8)) else (z0f.j2 kj7 false a0_0 a0_1 l0_2 l0_3 l0_4 a0_5 a0_6 a0_7 a0_8)) = some r := H
               have A30 := z01.mk A300
               clear A300
               by_cases c31 : t105 = true
               ·subst c31
                have H1 : ((z0w.f kj7 l0_3).bind fun t106 => (z0f.j2 kj7 t106 a0_0 a0_1 l0_2 l0_3 l0_4 a0_5 a0_6 a0_7 a0_8)) = some r := by rw [if_pos rfl] at H; exact H
                clear H
                have H := H1
                clear H1
                replace H := Option.bind_eq_some_iff.mp H
                obtain ⟨t106, A320, H⟩ := H
                replace H : (z0f.j2 kj7 t106 a0_0 a0_1 l0_2 l0_3 l0_4 a0_5 a0_6 a0_7 a0_8) = some r := H
                have A32 := z01.mk A320
                clear A320
                have H' := z01.mk H
                clear H
                have hcz33_0 : wc.cell? ⟨gb102, 0, none⟩ = some (.int .i64 a0_0) := (z00 BK102.out 0).trans rfl
                have hcz33_1 : wc.cell? ⟨gb102, 1, none⟩ = some (.int .u64 a0_1) := (z00 BK102.out 1).trans rfl
                have hcz33_2 : wc.cell? ⟨gb102, 2, none⟩ = some (.slice A0_2 l0_2.length c0_2) := (z00 BK102.out 2).trans rfl
                have hcz33_3 : wc.cell? ⟨gb102, 3, none⟩ = some (.slice A0_3 l0_3.length c0_3) := (z00 BK102.out 3).trans rfl
                have hcz33_4 : wc.cell? ⟨gb102, 4, none⟩ = some (.slice A0_4 l0_4.length c0_4) := (z00 BK102.out 4).trans rfl
                have hcz33_5 : wc.cell? ⟨gb102, 5, none⟩ = some (.string a0_5) := (z00 BK102.out 5).trans rfl
                have hcz33_6 : wc.cell? ⟨gb102, 6, none⟩ = some (.int .i64 a0_6) := (z00 BK102.out 6).trans rfl
                have hcz33_7 : wc.cell? ⟨gb102, 7, none⟩ = some (.int .i64 a0_7) := (z00 BK102.out 7).trans rfl
                have hcz33_8 : wc.cell? ⟨gb102, 8, none⟩ = some (.string a0_8) := (z00 BK102.out 8).trans rfl
                have hfz33_0 := z02 BK102.out 0
                have hfz33_1 := z02 BK102.out 1
                have hfz33_2 := z02 BK102.out 2
                have hfz33_3 := z02 BK102.out 3
                have hfz33_4 := z02 BK102.out 4
                have hfz33_5 := z02 BK102.out 5
                have hfz33_6 := z02 BK102.out 6
                have hfz33_7 := z02 BK102.out 7
                have hfz33_8 := z02 BK102.out 8
                go_wp2_with (first | (go_at_call 43; (with_reducible refine (z0w.calls kj7 _ _ l0_2 true _ ?side1 ?side2 A30.out).mono ?_); (case side1 => repeat (first | exact (Kd.z12 HR0_2.out HB.out) | (with_reducible refine Kd.z1b ?_ _) | (with_reducible refine Kd.z1d ?_ _) | (with_reducible refine Kd.z1c ?_))); (case side2 => exact HC0_2.out); rintro e w' ⟨rfl, ⟨nd, rfl⟩⟩) | (go_at_call 43; (with_reducible refine (z0w.calls kj7 _ _ l0_3 t106 _ ?side1 ?side2 A32.out).mono ?_); (case side1 => repeat (first | exact (Kd.z12 HR0_3.out (by repeat (first | (with_reducible first | exact HB.out | apply z03 | apply z05 | apply z04 | refine z08 ?_ GE102.out) | exact HB.out))) | (with_reducible refine Kd.z1b ?_ _) | (with_reducible refine Kd.z1d ?_ _) | (with_reducible refine Kd.z1c ?_))); (case side2 => exact HC0_3.out); rintro e w' ⟨rfl, ⟨nd, rfl⟩⟩))
                go_meet
                case rel => exact ⟨_, (t106), (by first | rfl | (simp; done) | (simp [*]; done)), H', ⟨by have := HJ1.out; have := HJ7.out; first | omega | exact Nat.le_refl _⟩, ⟨by (with_reducible repeat (first | refine z0c ?_ _ | refine z09 ?_ | refine z0a ?_ _)); exact BK102.out⟩, ⟨by repeat (first | (with_reducible first | exact HB.out | apply z03 | apply z05 | apply z04 | refine z08 ?_ GE102.out) | exact HB.out)⟩⟩
               ·replace c31 := Bool.eq_false_iff.mpr c31
                subst c31
                have H1 : (z0f.j2 kj7 false a0_0 a0_1 l0_2 l0_3 l0_4 a0_5 a0_6 a0_7 a0_8) = some r := by rw [if_neg (show ¬ (false = true) by decide)] at H; exact H
                clear H
                have H := H1
                clear H1
                have H' := z01.mk H
                clear H
                have hcz34_0 : wc.cell? ⟨gb102, 0, none⟩ = some (.int .i64 a0_0) := (z00 BK102.out 0).trans rfl
                have hcz34_1 : wc.cell? ⟨gb102, 1, none⟩ = some (.int .u64 a0_1) := (z00 BK102.out 1).trans rfl
                have hcz34_2 : wc.cell? ⟨gb102, 2, none⟩ = some (.slice A0_2 l0_2.length c0_2) := (z00 BK102.out 2).trans rfl
                have hcz34_3 : wc.cell? ⟨gb102, 3, none⟩ = some (.slice A0_3 l0_3.length c0_3) := (z00 BK102.out 3).trans rfl
                have hcz34_4 : wc.cell? ⟨gb102, 4, none⟩ = some (.slice A0_4 l0_4.length c0_4) := (z00 BK102.out 4).trans rfl
                have hcz34_5 : wc.cell? ⟨gb102, 5, none⟩ = some (.string a0_5) := (z00 BK102.out 5).trans rfl
                have hcz34_6 : wc.cell? ⟨gb102, 6, none⟩ = some (.int .i64 a0_6) := (z00 BK102.out 6).trans rfl
                have hcz34_7 : wc.cell? ⟨gb102, 7, none⟩ = some (.int .i64 a0_7) := (z00 BK102.out 7).trans rfl
                have hcz34_8 : wc.cell? ⟨gb102, 8, none⟩ = some (.string a0_8) := (z00 BK102.out 8).trans rfl
                have hfz34_0 := z02 BK102.out 0
                have hfz34_1 := z02 BK102.out 1
                have hfz34_2 := z02 BK102.out 2
                have hfz34_3 := z02 BK102.out 3
                have hfz34_4 := z02 BK102.out 4
                have hfz34_5 := z02 BK102.out 5
                have hfz34_6 := z02 BK102.out 6
                have hfz34_7 := z02 BK102.out 7
                have hfz34_8 := z02 BK102.out 8
                go_wp2_with (first | (go_at_call 43; (with_reducible refine (z0w.calls kj7 _ _ l0_2 false _ ?side1 ?side2 A30.out).mono ?_); (case side1 => repeat (first | exact (Kd.z12 HR0_2.out HB.out) | (with_reducible refine Kd.z1b ?_ _) | (with_reducible refine Kd.z1d ?_ _) | (with_reducible refine Kd.z1c ?_))); (case side2 => exact HC0_2.out); rintro e w' ⟨rfl, ⟨nd, rfl⟩⟩))
                go_meet
                case rel => exact ⟨_, (false), (by first | rfl | (simp; done) | (simp [*]; done)), H', ⟨by have := HJ1.out; have := HJ7.out; first | omega | exact Nat.le_refl _⟩, ⟨by (with_reducible repeat (first | refine z0c ?_ _ | refine z09 ?_ | refine z0a ?_ _)); exact BK102.out⟩, ⟨by repeat (first | (with_reducible first | exact HB.out | apply z03 | apply z05 | apply z04 | refine z08 ?_ GE102.out) | exact HB.out)⟩⟩
              ·rw [if_neg c29] at H
               have c29b0 : ((a0_5.size : Int) == 32) = false := beq_eq_false_iff_ne.mpr c29
               have c29b1 : ((a0_5.size : Int) != 32) = true := bne_iff_ne.mpr c29
               have H' := z01.mk H
               clear H
               have hcz35_0 : wc.cell? ⟨gb102, 0, none⟩ = some (.int .i64 a0_0) := (z00 BK102.out 0).trans rfl
               have hcz35_1 : wc.cell? ⟨gb102, 1, none⟩ = some (.int .u64 a0_1) := (z00 BK102.out 1).trans rfl
               have hcz35_2 : wc.cell? ⟨gb102, 2, none⟩ = some (.slice A0_2 l0_2.length c0_2) := (z00 BK102.out 2).trans rfl
               have hcz35_3 : wc.cell? ⟨gb102, 3, none⟩ = some (.slice A0_3 l0_3.length c0_3) := (z00 BK102.out 3).trans rfl
               have hcz35_4 : wc.cell? ⟨gb102, 4, none⟩ = some (.slice A0_4 l0_4.length c0_4) := (z00 BK102.out 4).trans rfl
               have hcz35_5 : wc.cell? ⟨gb102, 5, none⟩ = some (.string a0_5) := (z00 BK102.out 5).trans rfl
               have hcz35_6 : wc.cell? ⟨gb102, 6, none⟩ = some (.int .i64 a0_6) := (z00 BK102.out 6).trans rfl
               have hcz35_7 : wc.cell? ⟨gb102, 7, none⟩ = some (.int .i64 a0_7) := (z00 BK102.out 7).trans rfl
               have hcz35_8 : wc.cell? ⟨gb102, 8, none⟩ = some (.string a0_8) := (z00 BK102.out 8).trans rfl
               have hfz35_0 := z02 BK102.out 0
               have hfz35_1 := z02 BK102.out 1
               have hfz35_2 := z02 BK102.out 2
               have hfz35_3 := z02 BK102.out 3
               have hfz35_4 := z02 BK102.out 4
               have hfz35_5 := z02 BK102.out 5
               have hfz35_6 := z02 BK102.out 6
               have hfz35_7 := z02 BK102.out 7
               have hfz35_8 := z02 BK102.out 8
               go_wp2
               go_meet
               case rel => exact ⟨_, (false), (by first | rfl | (simp; done) | (simp [*]; done)), H', ⟨by have := HJ1.out; have := HJ7.out; first | omega | exact Nat.le_refl _⟩, ⟨by (with_reducible repeat (first | refine z0c ?_ _ | refine z09 ?_ | refine z0a ?_ _)); exact BK102.out⟩, ⟨by repeat (first | (with_reducible first | exact HB.out | apply z03 | apply z05 | apply z04 | refine z08 ?_ GE102.out) | exact HB.out)⟩⟩
            ·rw [if_neg c22] at H
             have c22b0 : decide (a0_7 ≤ 4194304) = false := decide_eq_false c22
             clear c22
             have H' := z01.mk H
             clear H
             have hcz36_0 : wc.cell? ⟨gb102, 0, none⟩ = some (.int .i64 a0_0) := (z00 BK102.out 0).trans rfl
             have hcz36_1 : wc.cell? ⟨gb102, 1, none⟩ = some (.int .u64 a0_1) := (z00 BK102.out 1).trans rfl
             have hcz36_2 : wc.cell? ⟨gb102, 2, none⟩ = some (.slice A0_2 l0_2.length c0_2) := (z00 BK102.out 2).trans rfl
             have hcz36_3 : wc.cell? ⟨gb102, 3, none⟩ = some (.slice A0_3 l0_3.length c0_3) := (z00 BK102.out 3).trans rfl
             have hcz36_4 : wc.cell? ⟨gb102, 4, none⟩ = some (.slice A0_4 l0_4.length c0_4) := (z00 BK102.out 4).trans rfl
             have hcz36_5 : wc.cell? ⟨gb102, 5, none⟩ = some (.string a0_5) := (z00 BK102.out 5).trans rfl
             have hcz36_6 : wc.cell? ⟨gb102, 6, none⟩ = some (.int .i64 a0_6) := (z00 BK102.out 6).trans rfl
             have hcz36_7 : wc.cell? ⟨gb102, 7, none⟩ = some (.int .i64 a0_7) := (z00 BK102.out 7).trans rfl
             have hcz36_8 : wc.cell? ⟨gb102, 8, none⟩ = some (.string a0_8) := (z00 BK102.out 8).trans rfl
             have hfz36_0 := z02 BK102.out 0
             have hfz36_1 := z02 BK102.out 1
             have hfz36_2 := z02 BK102.out 2
             have hfz36_3 := z02 BK102.out 3
             have hfz36_4 := z02 BK102.out 4
             have hfz36_5 := z02 BK102.out 5
             have hfz36_6 := z02 BK102.out 6
             have hfz36_7 := z02 BK102.out 7
             have hfz36_8 := z02 BK102.out 8
             go_wp2
             go_meet
             case rel => exact ⟨_, (false), (by first | rfl | (simp; done) | (simp [*]; done)), H', ⟨by have := HJ1.out; have := HJ7.out; first | omega | exact Nat.le_refl _⟩, ⟨by (with_reducible repeat (first | refine z0c ?_ _ | refine z09 ?_ | refine z0a ?_ _)); exact BK102.out⟩, ⟨by repeat (first | (with_reducible first | exact HB.out | apply z03 | apply z05 | apply z04 | refine z08 ?_ GE102.out) | exact HB.out)⟩⟩
           ·rw [if_neg c21] at H
            have c21b0 : decide (0 ≤ a0_7) = false := decide_eq_false c21
            clear c21
            have H' := z01.mk H
            clear H
            have hcz37_0 : wc.cell? ⟨gb102, 0, none⟩ = some (.int .i64 a0_0) := (z00 BK102.out 0).trans rfl
            have hcz37_1 : wc.cell? ⟨gb102, 1, none⟩ = some (.int .u64 a0_1) := (z00 BK102.out 1).trans rfl
            have hcz37_2 : wc.cell? ⟨gb102, 2, none⟩ = some (.slice A0_2 l0_2.length c0_2) := (z00 BK102.out 2).trans rfl
            have hcz37_3 : wc.cell? ⟨gb102, 3, none⟩ = some (.slice A0_3 l0_3.length c0_3) := (z00 BK102.out 3).trans rfl
            have hcz37_4 : wc.cell? ⟨gb102, 4, none⟩ = some (.slice A0_4 l0_4.length c0_4) := (z00 BK102.out 4).trans rfl
            have hcz37_5 : wc.cell? ⟨gb102, 5, none⟩ = some (.string a0_5) := (z00 BK102.out 5).trans rfl
            have hcz37_6 : wc.cell? ⟨gb102, 6, none⟩ = some (.int .i64 a0_6) := (z00 BK102.out 6).trans rfl
            have hcz37_7 : wc.cell? ⟨gb102, 7, none⟩ = some (.int .i64 a0_7) := (z00 BK102.out 7).trans rfl
            have hcz37_8 : wc.cell? ⟨gb102, 8, none⟩ = some (.string a0_8) := (z00 BK102.out 8).trans rfl
            have hfz37_0 := z02 BK102.out 0
            have hfz37_1 := z02 BK102.out 1
            have hfz37_2 := z02 BK102.out 2
            have hfz37_3 := z02 BK102.out 3
            have hfz37_4 := z02 BK102.out 4
            have hfz37_5 := z02 BK102.out 5
            have hfz37_6 := z02 BK102.out 6
            have hfz37_7 := z02 BK102.out 7
            have hfz37_8 := z02 BK102.out 8
            go_wp2
            go_meet
            case rel => exact ⟨_, (false), (by first | rfl | (simp; done) | (simp [*]; done)), H', ⟨by have := HJ1.out; have := HJ7.out; first | omega | exact Nat.le_refl _⟩, ⟨by (with_reducible repeat (first | refine z0c ?_ _ | refine z09 ?_ | refine z0a ?_ _)); exact BK102.out⟩, ⟨by repeat (first | (with_reducible first | exact HB.out | apply z03 | apply z05 | apply z04 | refine z08 ?_ GE102.out) | exact HB.out)⟩⟩
          ·rw [if_neg c20] at H
           have c20b0 : decide (a0_6 ≤ 4194304) = false := decide_eq_false c20
           clear c20
           have H' := z01.mk H
           clear H
           have hcz38_0 : wc.cell? ⟨gb102, 0, none⟩ = some (.int .i64 a0_0) := (z00 BK102.out 0).trans rfl
           have hcz38_1 : wc.cell? ⟨gb102, 1, none⟩ = some (.int .u64 a0_1) := (z00 BK102.out 1).trans rfl
           have hcz38_2 : wc.cell? ⟨gb102, 2, none⟩ = some (.slice A0_2 l0_2.length c0_2) := (z00 BK102.out 2).trans rfl
           have hcz38_3 : wc.cell? ⟨gb102, 3, none⟩ = some (.slice A0_3 l0_3.length c0_3) := (z00 BK102.out 3).trans rfl
           have hcz38_4 : wc.cell? ⟨gb102, 4, none⟩ = some (.slice A0_4 l0_4.length c0_4) := (z00 BK102.out 4).trans rfl
           have hcz38_5 : wc.cell? ⟨gb102, 5, none⟩ = some (.string a0_5) := (z00 BK102.out 5).trans rfl
           have hcz38_6 : wc.cell? ⟨gb102, 6, none⟩ = some (.int .i64 a0_6) := (z00 BK102.out 6).trans rfl
           have hcz38_7 : wc.cell? ⟨gb102, 7, none⟩ = some (.int .i64 a0_7) := (z00 BK102.out 7).trans rfl
           have hcz38_8 : wc.cell? ⟨gb102, 8, none⟩ = some (.string a0_8) := (z00 BK102.out 8).trans rfl
           have hfz38_0 := z02 BK102.out 0
           have hfz38_1 := z02 BK102.out 1
           have hfz38_2 := z02 BK102.out 2
           have hfz38_3 := z02 BK102.out 3
           have hfz38_4 := z02 BK102.out 4
           have hfz38_5 := z02 BK102.out 5
           have hfz38_6 := z02 BK102.out 6
           have hfz38_7 := z02 BK102.out 7
           have hfz38_8 := z02 BK102.out 8
           go_wp2
           go_meet
           case rel => exact ⟨_, (false), (by first | rfl | (simp; done) | (simp [*]; done)), H', ⟨by have := HJ1.out; have := HJ7.out; first | omega | exact Nat.le_refl _⟩, ⟨by (with_reducible repeat (first | refine z0c ?_ _ | refine z09 ?_ | refine z0a ?_ _)); exact BK102.out⟩, ⟨by repeat (first | (with_reducible first | exact HB.out | apply z03 | apply z05 | apply z04 | refine z08 ?_ GE102.out) | exact HB.out)⟩⟩
         ·rw [if_neg c19] at H
          have c19b0 : decide (0 ≤ a0_6) = false := decide_eq_false c19
          clear c19
          have H' := z01.mk H
          clear H
          have hcz39_0 : wc.cell? ⟨gb102, 0, none⟩ = some (.int .i64 a0_0) := (z00 BK102.out 0).trans rfl
          have hcz39_1 : wc.cell? ⟨gb102, 1, none⟩ = some (.int .u64 a0_1) := (z00 BK102.out 1).trans rfl
          have hcz39_2 : wc.cell? ⟨gb102, 2, none⟩ = some (.slice A0_2 l0_2.length c0_2) := (z00 BK102.out 2).trans rfl
          have hcz39_3 : wc.cell? ⟨gb102, 3, none⟩ = some (.slice A0_3 l0_3.length c0_3) := (z00 BK102.out 3).trans rfl
          have hcz39_4 : wc.cell? ⟨gb102, 4, none⟩ = some (.slice A0_4 l0_4.length c0_4) := (z00 BK102.out 4).trans rfl
          have hcz39_5 : wc.cell? ⟨gb102, 5, none⟩ = some (.string a0_5) := (z00 BK102.out 5).trans rfl
          have hcz39_6 : wc.cell? ⟨gb102, 6, none⟩ = some (.int .i64 a0_6) := (z00 BK102.out 6).trans rfl
          have hcz39_7 : wc.cell? ⟨gb102, 7, none⟩ = some (.int .i64 a0_7) := (z00 BK102.out 7).trans rfl
          have hcz39_8 : wc.cell? ⟨gb102, 8, none⟩ = some (.string a0_8) := (z00 BK102.out 8).trans rfl
          have hfz39_0 := z02 BK102.out 0
          have hfz39_1 := z02 BK102.out 1
          have hfz39_2 := z02 BK102.out 2
          have hfz39_3 := z02 BK102.out 3
          have hfz39_4 := z02 BK102.out 4
          have hfz39_5 := z02 BK102.out 5
          have hfz39_6 := z02 BK102.out 6
          have hfz39_7 := z02 BK102.out 7
          have hfz39_8 := z02 BK102.out 8
          go_wp2
          go_meet
          case rel => exact ⟨_, (false), (by first | rfl | (simp; done) | (simp [*]; done)), H', ⟨by have := HJ1.out; have := HJ7.out; first | omega | exact Nat.le_refl _⟩, ⟨by (with_reducible repeat (first | refine z0c ?_ _ | refine z09 ?_ | refine z0a ?_ _)); exact BK102.out⟩, ⟨by repeat (first | (with_reducible first | exact HB.out | apply z03 | apply z05 | apply z04 | refine z08 ?_ GE102.out) | exact HB.out)⟩⟩
        ·rw [if_neg c18] at H
         have c18b0 : decide (a0_1 ≤ 4611686018427387904) = false := decide_eq_false c18
         clear c18
         (first | rw [c18b0] | (simp only [z06, z07]; rw [c18b0]) | skip)
         have H' := z01.mk H
         clear H
         have hcz40_0 : wc.cell? ⟨gb102, 0, none⟩ = some (.int .i64 a0_0) := (z00 BK102.out 0).trans rfl
         have hcz40_1 : wc.cell? ⟨gb102, 1, none⟩ = some (.int .u64 a0_1) := (z00 BK102.out 1).trans rfl
         have hcz40_2 : wc.cell? ⟨gb102, 2, none⟩ = some (.slice A0_2 l0_2.length c0_2) := (z00 BK102.out 2).trans rfl
         have hcz40_3 : wc.cell? ⟨gb102, 3, none⟩ = some (.slice A0_3 l0_3.length c0_3) := (z00 BK102.out 3).trans rfl
         have hcz40_4 : wc.cell? ⟨gb102, 4, none⟩ = some (.slice A0_4 l0_4.length c0_4) := (z00 BK102.out 4).trans rfl
         have hcz40_5 : wc.cell? ⟨gb102, 5, none⟩ = some (.string a0_5) := (z00 BK102.out 5).trans rfl
         have hcz40_6 : wc.cell? ⟨gb102, 6, none⟩ = some (.int .i64 a0_6) := (z00 BK102.out 6).trans rfl
         have hcz40_7 : wc.cell? ⟨gb102, 7, none⟩ = some (.int .i64 a0_7) := (z00 BK102.out 7).trans rfl
         have hcz40_8 : wc.cell? ⟨gb102, 8, none⟩ = some (.string a0_8) := (z00 BK102.out 8).trans rfl
         have hfz40_0 := z02 BK102.out 0
         have hfz40_1 := z02 BK102.out 1
         have hfz40_2 := z02 BK102.out 2
         have hfz40_3 := z02 BK102.out 3
         have hfz40_4 := z02 BK102.out 4
         have hfz40_5 := z02 BK102.out 5
         have hfz40_6 := z02 BK102.out 6
         have hfz40_7 := z02 BK102.out 7
         have hfz40_8 := z02 BK102.out 8
         go_wp2
         go_meet
         case rel => exact ⟨_, (false), (by first | rfl | (simp; done) | (simp [*]; done)), H', ⟨by have := HJ1.out; have := HJ7.out; first | omega | exact Nat.le_refl _⟩, ⟨by (with_reducible repeat (first | refine z0c ?_ _ | refine z09 ?_ | refine z0a ?_ _)); exact BK102.out⟩, ⟨by repeat (first | (with_reducible first | exact HB.out | apply z03 | apply z05 | apply z04 | refine z08 ?_ GE102.out) | exact HB.out)⟩⟩
       case rest =>
        clear HC17
        try clear c1
        try clear c2
        try clear p2
        try clear c3
        try clear c4
        try clear c4b0
        try clear c7
        try clear c9
        try clear c9b0
        try clear c9b1
        try clear c11
        try clear c11b0
        try clear c11b1
        try clear c13
        try clear c13b0
        try clear c13b1
        try clear c14
        try clear c16
        try clear c18
        try clear c18b0
        try clear c19
        try clear c19b0
        try clear c20
        try clear c20b0
        try clear c21
        try clear c21b0
        try clear c22
        try clear c22b0
        try clear c23
        try clear c23b0
        try clear c23b1
        try clear c25
        try clear c29
        try clear c29b0
        try clear c29b1
        try clear c31
        try clear hcz10_0
        try clear hcz10_1
        try clear hcz10_2
        try clear hcz10_3
        try clear hcz10_4
        try clear hcz10_5
        try clear hcz10_6
        try clear hcz10_7
        try clear hcz10_8
        try clear hcz12_0
        try clear hcz12_1
        try clear hcz12_2
        try clear hcz12_3
        try clear hcz12_4
        try clear hcz12_5
        try clear hcz12_6
        try clear hcz12_7
        try clear hcz12_8
        try clear hcz14_0
        try clear hcz14_1
        try clear hcz14_2
        try clear hcz14_3
        try clear hcz14_4
        try clear hcz14_5
        try clear hcz14_6
        try clear hcz14_7
        try clear hcz14_8
        try clear hcz15_0
        try clear hcz15_1
        try clear hcz15_2
        try clear hcz15_3
        try clear hcz15_4
        try clear hcz15_5
        try clear hcz15_6
        try clear hcz15_7
        try clear hcz15_8
        try clear hcz27_0
        try clear hcz27_1
        try clear hcz27_2
        try clear hcz27_3
        try clear hcz27_4
        try clear hcz27_5
        try clear hcz27_6
        try clear hcz27_7
        try clear hcz27_8
        try clear hcz28_0
        try clear hcz28_1
        try clear hcz28_2
        try clear hcz28_3
        try clear hcz28_4
        try clear hcz28_5
        try clear hcz28_6
        try clear hcz28_7
        try clear hcz28_8
        try clear hcz33_0
        try clear hcz33_1
        try clear hcz33_2
        try clear hcz33_3
        try clear hcz33_4
        try clear hcz33_5
        try clear hcz33_6
        try clear hcz33_7
        try clear hcz33_8
        try clear hcz34_0
        try clear hcz34_1
        try clear hcz34_2
        try clear hcz34_3
        try clear hcz34_4
        try clear hcz34_5
        try clear hcz34_6
        try clear hcz34_7
        try clear hcz34_8
        try clear hcz35_0
        try clear hcz35_1
        try clear hcz35_2
        try clear hcz35_3
        try clear hcz35_4
        try clear hcz35_5
        try clear hcz35_6
        try clear hcz35_7
        try clear hcz35_8
        try clear hcz36_0
        try clear hcz36_1
        try clear hcz36_2
        try clear hcz36_3
        try clear hcz36_4
        try clear hcz36_5
        try clear hcz36_6
        try clear hcz36_7
        try clear hcz36_8
        try clear hcz37_0
        try clear hcz37_1
        try clear hcz37_2
        try clear hcz37_3
        try clear hcz37_4
        try clear hcz37_5
        try clear hcz37_6
        try clear hcz37_7
        try clear hcz37_8
        try clear hcz38_0
        try clear hcz38_1
        try clear hcz38_2
        try clear hcz38_3
        try clear hcz38_4
        try clear hcz38_5
        try clear hcz38_6
        try clear hcz38_7
        try clear hcz38_8
        try clear hcz39_0
        try clear hcz39_1
        try clear hcz39_2
        try clear hcz39_3
        try clear hcz39_4
        try clear hcz39_5
        try clear hcz39_6
        try clear hcz39_7
        try clear hcz39_8
        try clear hcz40_0
        try clear hcz40_1
        try clear hcz40_2
        try clear hcz40_3
        try clear hcz40_4
        try clear hcz40_5
        try clear hcz40_6
        try clear hcz40_7
        try clear hcz40_8
        try clear hcz5_0
        try clear hcz5_1
        try clear hcz5_2
        try clear hcz5_3
        try clear hcz5_4
        try clear hcz5_5
        try clear hcz5_6
        try clear hcz5_7
        try clear hcz5_8
        try clear hcz6_0
        try clear hcz6_1
        try clear hcz6_2
        try clear hcz6_3
        try clear hcz6_4
        try clear hcz6_5
        try clear hcz6_6
        try clear hcz6_7
        try clear hcz6_8
        try clear hfz10_0
        try clear hfz10_1
        try clear hfz10_2
        try clear hfz10_3
        try clear hfz10_4
        try clear hfz10_5
        try clear hfz10_6
        try clear hfz10_7
        try clear hfz10_8
        try clear hfz12_0
        try clear hfz12_1
        try clear hfz12_2
        try clear hfz12_3
        try clear hfz12_4
        try clear hfz12_5
        try clear hfz12_6
        try clear hfz12_7
        try clear hfz12_8
        try clear hfz14_0
        try clear hfz14_1
        try clear hfz14_2
        try clear hfz14_3
        try clear hfz14_4
        try clear hfz14_5
        try clear hfz14_6
        try clear hfz14_7
        try clear hfz14_8
        try clear hfz15_0
        try clear hfz15_1
        try clear hfz15_2
        try clear hfz15_3
        try clear hfz15_4
        try clear hfz15_5
        try clear hfz15_6
        try clear hfz15_7
        try clear hfz15_8
        try clear hfz27_0
        try clear hfz27_1
        try clear hfz27_2
        try clear hfz27_3
        try clear hfz27_4
        try clear hfz27_5
        try clear hfz27_6
        try clear hfz27_7
        try clear hfz27_8
        try clear hfz28_0
        try clear hfz28_1
        try clear hfz28_2
        try clear hfz28_3
        try clear hfz28_4
        try clear hfz28_5
        try clear hfz28_6
        try clear hfz28_7
        try clear hfz28_8
        try clear hfz33_0
        try clear hfz33_1
        try clear hfz33_2
        try clear hfz33_3
        try clear hfz33_4
        try clear hfz33_5
        try clear hfz33_6
        try clear hfz33_7
        try clear hfz33_8
        try clear hfz34_0
        try clear hfz34_1
        try clear hfz34_2
        try clear hfz34_3
        try clear hfz34_4
        try clear hfz34_5
        try clear hfz34_6
        try clear hfz34_7
        try clear hfz34_8
        try clear hfz35_0
        try clear hfz35_1
        try clear hfz35_2
        try clear hfz35_3
        try clear hfz35_4
        try clear hfz35_5
        try clear hfz35_6
        try clear hfz35_7
        try clear hfz35_8
        try clear hfz36_0
        try clear hfz36_1
        try clear hfz36_2
        try clear hfz36_3
        try clear hfz36_4
        try clear hfz36_5
        try clear hfz36_6
        try clear hfz36_7
        try clear hfz36_8
        try clear hfz37_0
        try clear hfz37_1
        try clear hfz37_2
        try clear hfz37_3
        try clear hfz37_4
        try clear hfz37_5
        try clear hfz37_6
        try clear hfz37_7
        try clear hfz37_8
        try clear hfz38_0
        try clear hfz38_1
        try clear hfz38_2
        try clear hfz38_3
        try clear hfz38_4
        try clear hfz38_5
        try clear hfz38_6
        try clear hfz38_7
        try clear hfz38_8
        try clear hfz39_0
        try clear hfz39_1
        try clear hfz39_2
        try clear hfz39_3
        try clear hfz39_4
        try clear hfz39_5
        try clear hfz39_6
        try clear hfz39_7
        try clear hfz39_8
        try clear hfz40_0
        try clear hfz40_1
        try clear hfz40_2
        try clear hfz40_3
        try clear hfz40_4
        try clear hfz40_5
        try clear hfz40_6
        try clear hfz40_7
        try clear hfz40_8
        try clear hfz5_0
        try clear hfz5_1
        try clear hfz5_2
        try clear hfz5_3
        try clear hfz5_4
        try clear hfz5_5
        try clear hfz5_6
        try clear hfz5_7
        try clear hfz5_8
        try clear hfz6_0
        try clear hfz6_1
        try clear hfz6_2
        try clear hfz6_3
        try clear hfz6_4
        try clear hfz6_5
        try clear hfz6_6
        try clear hfz6_7
        try clear hfz6_8
        try clear p2
        obtain ⟨kq, x3_16, rfl, HA, HJ16, BK102, HB⟩ := hcut
        cases kq with
        | zero => exact absurd HA.out (by simp [z0f.j2])
        | succ kj16 =>
         have H := HA.out
         clear HA
         simp only [z0f.j2] at H
         have H' := z01.mk H
         clear H
         go_wp2
         go_loopg [3, 4] kj16 (fun kq v3 v4 w' => ∃ (x3_4 : Bool) (x4_4 : Int), v3 = .bool x3_4 ∧ v4 = .int .i64 x4_4 ∧ z01 (z0f.l0 kq x3_4 x4_4 a0_0 a0_1 l0_2 l0_3 l0_4 a0_5 a0_6 a0_7 a0_8 = some r) ∧ z01 (kq ≤ kj16) ∧ z01 (w'.heap[gb102]? = some (.cells #[.int .i64 a0_0, .int .u64 a0_1, (.slice A0_2 l0_2.length c0_2), (.slice A0_3 l0_3.length c0_3), (.slice A0_4 l0_4.length c0_4), .string a0_5, .int .i64 a0_6, .int .i64 a0_7, .string a0_8] 34 (0, 0))) ∧ z01 (Below w.heap.size w w'))
         case atStart => exact ⟨(x3_16), (0), (by first | rfl | (simp; done) | (simp [*]; done)), (by first | rfl | (simp; done) | (simp [*]; done)), H', ⟨Nat.le_refl _⟩, ⟨by (with_reducible repeat (first | refine z0c ?_ _ | refine z09 ?_ | refine z0a ?_ _)); exact BK102.out⟩, ⟨by repeat (first | (with_reducible first | exact HB.out | apply z03 | apply z05 | apply z04 | refine z08 ?_ GE102.out) | exact HB.out)⟩⟩
         case round =>
          clear H'
          try clear c1
          try clear c2
          try clear p2
          try clear c3
          try clear c4
          try clear c4b0
          try clear c7
          try clear c9
          try clear c9b0
          try clear c9b1
          try clear c11
          try clear c11b0
          try clear c11b1
          try clear c13
          try clear c13b0
          try clear c13b1
          try clear c14
          try clear c16
          try clear c18
          try clear c18b0
          try clear c19
          try clear c19b0
          try clear c20
          try clear c20b0
          try clear c21
          try clear c21b0
          try clear c22
          try clear c22b0
          try clear c23
          try clear c23b0
          try clear c23b1
          try clear c25
          try clear c29
          try clear c29b0
          try clear c29b1
          try clear c31
          try clear hcz10_0
          try clear hcz10_1
          try clear hcz10_2
          try clear hcz10_3
          try clear hcz10_4
          try clear hcz10_5
          try clear hcz10_6
          try clear hcz10_7
          try clear hcz10_8
          try clear hcz12_0
          try clear hcz12_1
          try clear hcz12_2
          try clear hcz12_3
          try clear hcz12_4
          try clear hcz12_5
          try clear hcz12_6
          try clear hcz12_7
          try clear hcz12_8
          try clear hcz14_0
          try clear hcz14_1
          try clear hcz14_2
          try clear hcz14_3
          try clear hcz14_4
          try clear hcz14_5
          try clear hcz14_6
          try clear hcz14_7
          try clear hcz14_8
          try clear hcz15_0
          try clear hcz15_1
          try clear hcz15_2
          try clear hcz15_3
          try clear hcz15_4
          try clear hcz15_5
          try clear hcz15_6
          try clear hcz15_7
          try clear hcz15_8
          try clear hcz27_0
          try clear hcz27_1
          try clear hcz27_2
          try clear hcz27_3
          try clear hcz27_4
          try clear hcz27_5
          try clear hcz27_6
          try clear hcz27_7
          try clear hcz27_8
          try clear hcz28_0
          try clear hcz28_1
          try clear hcz28_2
          try clear hcz28_3
          try clear hcz28_4
          try clear hcz28_5
          try clear hcz28_6
          try clear hcz28_7
          try clear hcz28_8
          try clear hcz33_0
          try clear hcz33_1
          try clear hcz33_2
          try clear hcz33_3
          try clear hcz33_4
          try clear hcz33_5
          try clear hcz33_6
          try clear hcz33_7
          try clear hcz33_8
          try clear hcz34_0
          try clear hcz34_1
          try clear hcz34_2
          try clear hcz34_3
          try clear hcz34_4
          try clear hcz34_5
          try clear hcz34_6
          try clear hcz34_7
          try clear hcz34_8
          try clear hcz35_0
          try clear hcz35_1
          try clear hcz35_2
          try clear hcz35_3
          try clear hcz35_4
          try clear hcz35_5
          try clear hcz35_6
          try clear hcz35_7
          try clear hcz35_8
          try clear hcz36_0
          try clear hcz36_1
          try clear hcz36_2
          try clear hcz36_3
          try clear hcz36_4
          try clear hcz36_5
          try clear hcz36_6
          try clear hcz36_7
          try clear hcz36_8
          try clear hcz37_0
          try clear hcz37_1
          try clear hcz37_2
          try clear hcz37_3
          try clear hcz37_4
          try clear hcz37_5
          try clear hcz37_6
          try clear hcz37_7
          try clear hcz37_8
          try clear hcz38_0
          try clear hcz38_1
          try clear hcz38_2
          try clear hcz38_3
          try clear hcz38_4
          try clear hcz38_5
          try clear hcz38_6
          try clear hcz38_7
          try clear hcz38_8
          try clear hcz39_0
          try clear hcz39_1
          try clear hcz39_2
          try clear hcz39_3
          try clear hcz39_4
          try clear hcz39_5
          try clear hcz39_6
          try clear hcz39_7
          try clear hcz39_8
          try clear hcz40_0
          try clear hcz40_1
          try clear hcz40_2
          try clear hcz40_3
          try clear hcz40_4
          try clear hcz40_5
          try clear hcz40_6
          try clear hcz40_7
          try clear hcz40_8
          try clear hcz5_0
          try clear hcz5_1
          try clear hcz5_2
          try clear hcz5_3
          try clear hcz5_4
          try clear hcz5_5
          try clear hcz5_6
          try clear hcz5_7
          try clear hcz5_8
          try clear hcz6_0
          try clear hcz6_1
          try clear hcz6_2
          try clear hcz6_3
          try clear hcz6_4
          try clear hcz6_5
          try clear hcz6_6
          try clear hcz6_7
          try clear hcz6_8
          try clear hfz10_0
          try clear hfz10_1
          try clear hfz10_2
          try clear hfz10_3
          try clear hfz10_4
          try clear hfz10_5
          try clear hfz10_6
          try clear hfz10_7
          try clear hfz10_8
          try clear hfz12_0
          try clear hfz12_1
          try clear hfz12_2
          try clear hfz12_3
          try clear hfz12_4
          try clear hfz12_5
          try clear hfz12_6
          try clear hfz12_7
          try clear hfz12_8
          try clear hfz14_0
          try clear hfz14_1
          try clear hfz14_2
          try clear hfz14_3
          try clear hfz14_4
          try clear hfz14_5
          try clear hfz14_6
          try clear hfz14_7
          try clear hfz14_8
          try clear hfz15_0
          try clear hfz15_1
          try clear hfz15_2
          try clear hfz15_3
          try clear hfz15_4
          try clear hfz15_5
          try clear hfz15_6
          try clear hfz15_7
          try clear hfz15_8
          try clear hfz27_0
          try clear hfz27_1
          try clear hfz27_2
          try clear hfz27_3
          try clear hfz27_4
          try clear hfz27_5
          try clear hfz27_6
          try clear hfz27_7
          try clear hfz27_8
          try clear hfz28_0
          try clear hfz28_1
          try clear hfz28_2
          try clear hfz28_3
          try clear hfz28_4
          try clear hfz28_5
          try clear hfz28_6
          try clear hfz28_7
          try clear hfz28_8
          try clear hfz33_0
          try clear hfz33_1
          try clear hfz33_2
          try clear hfz33_3
          try clear hfz33_4
          try clear hfz33_5
          try clear hfz33_6
          try clear hfz33_7
          try clear hfz33_8
          try clear hfz34_0
          try clear hfz34_1
          try clear hfz34_2
          try clear hfz34_3
          try clear hfz34_4
          try clear hfz34_5
          try clear hfz34_6
          try clear hfz34_7
          try clear hfz34_8
          try clear hfz35_0
          try clear hfz35_1
          try clear hfz35_2
          try clear hfz35_3
          try clear hfz35_4
          try clear hfz35_5
          try clear hfz35_6
          try clear hfz35_7
          try clear hfz35_8
          try clear hfz36_0
          try clear hfz36_1
          try clear hfz36_2
          try clear hfz36_3
          try clear hfz36_4
          try clear hfz36_5
          try clear hfz36_6
          try clear hfz36_7
          try clear hfz36_8
          try clear hfz37_0
          try clear hfz37_1
          try clear hfz37_2
          try clear hfz37_3
          try clear hfz37_4
          try clear hfz37_5
          try clear hfz37_6
          try clear hfz37_7
          try clear hfz37_8
          try clear hfz38_0
          try clear hfz38_1
          try clear hfz38_2
          try clear hfz38_3
          try clear hfz38_4
          try clear hfz38_5
          try clear hfz38_6
          try clear hfz38_7
          try clear hfz38_8
          try clear hfz39_0
          try clear hfz39_1
          try clear hfz39_2
          try clear hfz39_3
          try clear hfz39_4
          try clear hfz39_5
          try clear hfz39_6
          try clear hfz39_7
          try clear hfz39_8
          try clear hfz40_0
          try clear hfz40_1
          try clear hfz40_2
          try clear hfz40_3
          try clear hfz40_4
          try clear hfz40_5
          try clear hfz40_6
          try clear hfz40_7
          try clear hfz40_8
          try clear hfz5_0
          try clear hfz5_1
          try clear hfz5_2
          try clear hfz5_3
          try clear hfz5_4
          try clear hfz5_5
          try clear hfz5_6
          try clear hfz5_7
          try clear hfz5_8
          try clear hfz6_0
          try clear hfz6_1
          try clear hfz6_2
          try clear hfz6_3
          try clear hfz6_4
          try clear hfz6_5
          try clear hfz6_6
          try clear hfz6_7
          try clear hfz6_8
          try clear p2
          obtain ⟨x3_4, x4_4, rfl, rfl, HA, HK4, BK102, HB⟩ := hrel
          cases gk with
          | zero => exact absurd HA.out (by simp [z0f.l0])
          | succ k4 =>
           have H := HA.out
           clear HA
           simp only [z0f.l0] at H
           by_cases c41 : x4_4 < (l0_4.length : Int)
           ·rw [if_pos c41] at H
            have c41b0 : decide (x4_4 < (l0_4.length : Int)) = true := decide_eq_true c41
            clear c41
            by_cases c42 : x3_4 = true
            ·subst c42
             have H1 : (if 0 ≤ x4_4 then ((z0g.f ((z15 l0_4 x4_4).f0)).bind fun t108 => (if t108 > 0 then (z0f.l0 k4 ((((z15 l0_4 x4_4).f1).size : Int) == 32) (wrap64 (x4_4 + 1)) a0_0 a0_1 l0_2 l0_3 l0_4 a0_5 a0_6 a0_7 a0_8) else (z0f.l0 k4 false (wrap64 (x4_4 + 1)) a0_0 a0_1 l0_2 l0_3 l0_4 a0_5 a0_6 a0_7 a0_8))) else (none)) = some r := by rw [if_pos rfl] at H; exact H
             clear H
             have H := H1
             clear H1
             by_cases c43 : 0 ≤ x4_4
             ·rw [if_pos c43] at H
              have c43b0 : decide (0 ≤ x4_4) = true := decide_eq_true c43
              clear c43
              replace H := Option.bind_eq_some_iff.mp H
              obtain ⟨t108, A440, H⟩ := H
              replace H : (if t108 > 0 then (z0f.l0 k4 ((((z15 l0_4 x4_4).f1).size : Int) == 32) (wrap64 (x4_4 + 1)) a0_0 a0_1 l0_2 l0_3 l0_4 a0_5 a0_6 a0_7 a0_8) else (z0f.l0 k4 false (wrap64 (x4_4 + 1)) a0_0 a0_1 l0_2 l0_3 l0_4 a0_5 a0_6 a0_7 a0_8)) = some r := H
              have A44 := z01.mk A440
              clear A440
              by_cases c45 : t108 > 0
              ·rw [if_pos c45] at H
               have c45b0 : decide (0 < t108) = true := decide_eq_true c45
               clear c45
               have H' := z01.mk H
               clear H
               have hcz46_0 : wr.cell? ⟨gb102, 0, none⟩ = some (.int .i64 a0_0) := (z00 BK102.out 0).trans rfl
               have hcz46_1 : wr.cell? ⟨gb102, 1, none⟩ = some (.int .u64 a0_1) := (z00 BK102.out 1).trans rfl
               have hcz46_2 : wr.cell? ⟨gb102, 2, none⟩ = some (.slice A0_2 l0_2.length c0_2) := (z00 BK102.out 2).trans rfl
               have hcz46_3 : wr.cell? ⟨gb102, 3, none⟩ = some (.slice A0_3 l0_3.length c0_3) := (z00 BK102.out 3).trans rfl
               have hcz46_4 : wr.cell? ⟨gb102, 4, none⟩ = some (.slice A0_4 l0_4.length c0_4) := (z00 BK102.out 4).trans rfl
               have hcz46_5 : wr.cell? ⟨gb102, 5, none⟩ = some (.string a0_5) := (z00 BK102.out 5).trans rfl
               have hcz46_6 : wr.cell? ⟨gb102, 6, none⟩ = some (.int .i64 a0_6) := (z00 BK102.out 6).trans rfl
               have hcz46_7 : wr.cell? ⟨gb102, 7, none⟩ = some (.int .i64 a0_7) := (z00 BK102.out 7).trans rfl
               have hcz46_8 : wr.cell? ⟨gb102, 8, none⟩ = some (.string a0_8) := (z00 BK102.out 8).trans rfl
               have hfz46_0 := z02 BK102.out 0
               have hfz46_1 := z02 BK102.out 1
               have hfz46_2 := z02 BK102.out 2
               have hfz46_3 := z02 BK102.out 3
               have hfz46_4 := z02 BK102.out 4
               have hfz46_5 := z02 BK102.out 5
               have hfz46_6 := z02 BK102.out 6
               have hfz46_7 := z02 BK102.out 7
               have hfz46_8 := z02 BK102.out 8
               have p107 : 0 ≤ (x4_4 : Int) := of_decide_eq_true (by first | (with_reducible assumption) | assumption)
               have q107 : x4_4 < (l0_4.length : Int) := of_decide_eq_true (by first | (with_reducible assumption) | assumption)
               obtain ⟨ad107, e107, hx107_0, hx107_1⟩ := at_T94 HR0_4.out x4_4 p107 q107
               cases e107
               replace hx107_0 := (HB.out.cell (World.block_lt_of_cell? w _ hx107_0)).trans hx107_0
               replace hx107_1 := (HB.out.cell (World.block_lt_of_cell? w _ hx107_1)).trans hx107_1
               replace p107 := eq_true p107
               replace q107 := eq_true q107
               go_wp2_with (first | (go_at_call 44; (with_reducible refine (z0g.calls ((z15 l0_4 x4_4).f0) t108 _ A44.out).mono ?_); rintro e w47 ⟨rfl, hb⟩; have n0_ := z01.mk (z0m (g := gb102) (o := .cells #[.int .i64 a0_0, .int .u64 a0_1, .slice A0_2 l0_2.length c0_2, .slice A0_3 l0_3.length c0_3, .slice (some ad107) l0_4.length c0_4, .string a0_5, .int .i64 a0_6, .int .i64 a0_7, .string a0_8] 34 (0, 0)) (by (with_reducible repeat (first | refine z0c ?_ _ | refine z09 ?_ | refine z0a ?_ _)); exact BK102.out) hb); have n1_ := z01.mk (z0i (by repeat (first | (with_reducible first | exact HB.out | apply z03 | apply z05 | apply z04 | refine z08 ?_ GE102.out) | exact HB.out)) hb); clear BK102; clear HB; have BK102 := n0_; have HB := n1_; clear n0_ n1_; (try clear hb); (try clear hb2); (try clear hk); (try clear hi); have hcz48_0 : w47.cell? ⟨gb102, 0, none⟩ = some (.int .i64 a0_0) := (z00 BK102.out 0).trans rfl; have hcz48_1 : w47.cell? ⟨gb102, 1, none⟩ = some (.int .u64 a0_1) := (z00 BK102.out 1).trans rfl; have hcz48_2 : w47.cell? ⟨gb102, 2, none⟩ = some (.slice A0_2 l0_2.length c0_2) := (z00 BK102.out 2).trans rfl; have hcz48_3 : w47.cell? ⟨gb102, 3, none⟩ = some (.slice A0_3 l0_3.length c0_3) := (z00 BK102.out 3).trans rfl; have hcz48_4 : w47.cell? ⟨gb102, 4, none⟩ = some (.slice (some ad107) l0_4.length c0_4) := (z00 BK102.out 4).trans rfl; have hcz48_5 : w47.cell? ⟨gb102, 5, none⟩ = some (.string a0_5) := (z00 BK102.out 5).trans rfl; have hcz48_6 : w47.cell? ⟨gb102, 6, none⟩ = some (.int .i64 a0_6) := (z00 BK102.out 6).trans rfl; have hcz48_7 : w47.cell? ⟨gb102, 7, none⟩ = some (.int .i64 a0_7) := (z00 BK102.out 7).trans rfl; have hcz48_8 : w47.cell? ⟨gb102, 8, none⟩ = some (.string a0_8) := (z00 BK102.out 8).trans rfl; have hfz48_0 := z02 BK102.out 0; have hfz48_1 := z02 BK102.out 1; have hfz48_2 := z02 BK102.out 2; have hfz48_3 := z02 BK102.out 3; have hfz48_4 := z02 BK102.out 4; have hfz48_5 := z02 BK102.out 5; have hfz48_6 := z02 BK102.out 6; have hfz48_7 := z02 BK102.out 7; have hfz48_8 := z02 BK102.out 8; have p109 : 0 ≤ (x4_4 : Int) := of_decide_eq_true (by first | (with_reducible assumption) | assumption); have q109 : x4_4 < (l0_4.length : Int) := of_decide_eq_true (by first | (with_reducible assumption) | assumption); obtain ⟨ad109, e109, hx109_0, hx109_1⟩ := at_T94 HR0_4.out x4_4 p109 q109; obtain rfl : ad107 = ad109 := (by injection e109); replace hx109_0 := (HB.out.cell (World.block_lt_of_cell? w _ hx109_0)).trans hx109_0; replace hx109_1 := (HB.out.cell (World.block_lt_of_cell? w _ hx109_1)).trans hx109_1; replace p109 := eq_true p109; replace q109 := eq_true q109))
               go_roundg k4
               case measure => have := HJ1.out; have := HJ7.out; have := HJ16.out; have := HK4.out; omega
               case rel => exact ⟨(((((z15 l0_4 x4_4).f1).size : Int) == 32)), (wrap64 (x4_4 + 1)), (by first | rfl | (simp; done) | (simp [*]; done)), (by first | rfl | (simp; done) | (simp [*]; done)), H', ⟨by have := HJ1.out; have := HJ7.out; have := HJ16.out; have := HK4.out; omega⟩, ⟨by (with_reducible repeat (first | refine z0c ?_ _ | refine z09 ?_ | refine z0a ?_ _)); exact BK102.out⟩, ⟨by repeat (first | (with_reducible first | exact HB.out | apply z03 | apply z05 | apply z04 | refine z08 ?_ GE102.out) | exact HB.out)⟩⟩
              ·rw [if_neg c45] at H
               have c45b0 : decide (0 < t108) = false := decide_eq_false c45
               clear c45
               have H' := z01.mk H
               clear H
               have hcz49_0 : wr.cell? ⟨gb102, 0, none⟩ = some (.int .i64 a0_0) := (z00 BK102.out 0).trans rfl
               have hcz49_1 : wr.cell? ⟨gb102, 1, none⟩ = some (.int .u64 a0_1) := (z00 BK102.out 1).trans rfl
               have hcz49_2 : wr.cell? ⟨gb102, 2, none⟩ = some (.slice A0_2 l0_2.length c0_2) := (z00 BK102.out 2).trans rfl
               have hcz49_3 : wr.cell? ⟨gb102, 3, none⟩ = some (.slice A0_3 l0_3.length c0_3) := (z00 BK102.out 3).trans rfl
               have hcz49_4 : wr.cell? ⟨gb102, 4, none⟩ = some (.slice A0_4 l0_4.length c0_4) := (z00 BK102.out 4).trans rfl
               have hcz49_5 : wr.cell? ⟨gb102, 5, none⟩ = some (.string a0_5) := (z00 BK102.out 5).trans rfl
               have hcz49_6 : wr.cell? ⟨gb102, 6, none⟩ = some (.int .i64 a0_6) := (z00 BK102.out 6).trans rfl
               have hcz49_7 : wr.cell? ⟨gb102, 7, none⟩ = some (.int .i64 a0_7) := (z00 BK102.out 7).trans rfl
               have hcz49_8 : wr.cell? ⟨gb102, 8, none⟩ = some (.string a0_8) := (z00 BK102.out 8).trans rfl
               have hfz49_0 := z02 BK102.out 0
               have hfz49_1 := z02 BK102.out 1
               have hfz49_2 := z02 BK102.out 2
               have hfz49_3 := z02 BK102.out 3
               have hfz49_4 := z02 BK102.out 4
               have hfz49_5 := z02 BK102.out 5
               have hfz49_6 := z02 BK102.out 6
               have hfz49_7 := z02 BK102.out 7
               have hfz49_8 := z02 BK102.out 8
               have p107 : 0 ≤ (x4_4 : Int) := of_decide_eq_true (by first | (with_reducible assumption) | assumption)
               have q107 : x4_4 < (l0_4.length : Int) := of_decide_eq_true (by first | (with_reducible assumption) | assumption)
               obtain ⟨ad107, e107, hx107_0, hx107_1⟩ := at_T94 HR0_4.out x4_4 p107 q107
               cases e107
               replace hx107_0 := (HB.out.cell (World.block_lt_of_cell? w _ hx107_0)).trans hx107_0
               replace hx107_1 := (HB.out.cell (World.block_lt_of_cell? w _ hx107_1)).trans hx107_1
               replace p107 := eq_true p107
               replace q107 := eq_true q107
               go_wp2_with (first | (go_at_call 44; (with_reducible refine (z0g.calls ((z15 l0_4 x4_4).f0) t108 _ A44.out).mono ?_); rintro e w50 ⟨rfl, hb⟩; have n0_ := z01.mk (z0m (g := gb102) (o := .cells #[.int .i64 a0_0, .int .u64 a0_1, .slice A0_2 l0_2.length c0_2, .slice A0_3 l0_3.length c0_3, .slice (some ad107) l0_4.length c0_4, .string a0_5, .int .i64 a0_6, .int .i64 a0_7, .string a0_8] 34 (0, 0)) (by (with_reducible repeat (first | refine z0c ?_ _ | refine z09 ?_ | refine z0a ?_ _)); exact BK102.out) hb); have n1_ := z01.mk (z0i (by repeat (first | (with_reducible first | exact HB.out | apply z03 | apply z05 | apply z04 | refine z08 ?_ GE102.out) | exact HB.out)) hb); clear BK102; clear HB; have BK102 := n0_; have HB := n1_; clear n0_ n1_; (try clear hb); (try clear hb2); (try clear hk); (try clear hi)))
               go_roundg k4
               case measure => have := HJ1.out; have := HJ7.out; have := HJ16.out; have := HK4.out; omega
               case rel => exact ⟨(false), (wrap64 (x4_4 + 1)), (by first | rfl | (simp; done) | (simp [*]; done)), (by first | rfl | (simp; done) | (simp [*]; done)), H', ⟨by have := HJ1.out; have := HJ7.out; have := HJ16.out; have := HK4.out; omega⟩, ⟨by (with_reducible repeat (first | refine z0c ?_ _ | refine z09 ?_ | refine z0a ?_ _)); exact BK102.out⟩, ⟨by repeat (first | (with_reducible first | exact HB.out | apply z03 | apply z05 | apply z04 | refine z08 ?_ GE102.out) | exact HB.out)⟩⟩
             ·rw [if_neg c43] at H
              exact absurd H (by simp)
            ·replace c42 := Bool.eq_false_iff.mpr c42
             subst c42
             have H1 : (z0f.l0 k4 false (wrap64 (x4_4 + 1)) a0_0 a0_1 l0_2 l0_3 l0_4 a0_5 a0_6 a0_7 a0_8) = some r := by rw [if_neg (show ¬ (false = true) by decide)] at H; exact H
             clear H
             have H := H1
             clear H1
             have H' := z01.mk H
             clear H
             have hcz51_0 : wr.cell? ⟨gb102, 0, none⟩ = some (.int .i64 a0_0) := (z00 BK102.out 0).trans rfl
             have hcz51_1 : wr.cell? ⟨gb102, 1, none⟩ = some (.int .u64 a0_1) := (z00 BK102.out 1).trans rfl
             have hcz51_2 : wr.cell? ⟨gb102, 2, none⟩ = some (.slice A0_2 l0_2.length c0_2) := (z00 BK102.out 2).trans rfl
             have hcz51_3 : wr.cell? ⟨gb102, 3, none⟩ = some (.slice A0_3 l0_3.length c0_3) := (z00 BK102.out 3).trans rfl
             have hcz51_4 : wr.cell? ⟨gb102, 4, none⟩ = some (.slice A0_4 l0_4.length c0_4) := (z00 BK102.out 4).trans rfl
             have hcz51_5 : wr.cell? ⟨gb102, 5, none⟩ = some (.string a0_5) := (z00 BK102.out 5).trans rfl
             have hcz51_6 : wr.cell? ⟨gb102, 6, none⟩ = some (.int .i64 a0_6) := (z00 BK102.out 6).trans rfl
             have hcz51_7 : wr.cell? ⟨gb102, 7, none⟩ = some (.int .i64 a0_7) := (z00 BK102.out 7).trans rfl
             have hcz51_8 : wr.cell? ⟨gb102, 8, none⟩ = some (.string a0_8) := (z00 BK102.out 8).trans rfl
             have hfz51_0 := z02 BK102.out 0
             have hfz51_1 := z02 BK102.out 1
             have hfz51_2 := z02 BK102.out 2
             have hfz51_3 := z02 BK102.out 3
             have hfz51_4 := z02 BK102.out 4
             have hfz51_5 := z02 BK102.out 5
             have hfz51_6 := z02 BK102.out 6
             have hfz51_7 := z02 BK102.out 7
             have hfz51_8 := z02 BK102.out 8
             go_wp2
             go_roundg k4
             case measure => have := HJ1.out; have := HJ7.out; have := HJ16.out; have := HK4.out; omega
             case rel => exact ⟨(false), (wrap64 (x4_4 + 1)), (by first | rfl | (simp; done) | (simp [*]; done)), (by first | rfl | (simp; done) | (simp [*]; done)), H', ⟨by have := HJ1.out; have := HJ7.out; have := HJ16.out; have := HK4.out; omega⟩, ⟨by (with_reducible repeat (first | refine z0c ?_ _ | refine z09 ?_ | refine z0a ?_ _)); exact BK102.out⟩, ⟨by repeat (first | (with_reducible first | exact HB.out | apply z03 | apply z05 | apply z04 | refine z08 ?_ GE102.out) | exact HB.out)⟩⟩
           ·rw [if_neg c41] at H
            have c41b0 : decide (x4_4 < (l0_4.length : Int)) = false := decide_eq_false c41
            clear c41
            by_cases c52 : x3_4 = true
            ·subst c52
             have H1 : (some 0) = some r := by rw [if_pos rfl] at H; exact H
             clear H
             have H := H1
             clear H1
             obtain rfl := Option.some.inj H
             have hcz53_0 : wr.cell? ⟨gb102, 0, none⟩ = some (.int .i64 a0_0) := (z00 BK102.out 0).trans rfl
             have hcz53_1 : wr.cell? ⟨gb102, 1, none⟩ = some (.int .u64 a0_1) := (z00 BK102.out 1).trans rfl
             have hcz53_2 : wr.cell? ⟨gb102, 2, none⟩ = some (.slice A0_2 l0_2.length c0_2) := (z00 BK102.out 2).trans rfl
             have hcz53_3 : wr.cell? ⟨gb102, 3, none⟩ = some (.slice A0_3 l0_3.length c0_3) := (z00 BK102.out 3).trans rfl
             have hcz53_4 : wr.cell? ⟨gb102, 4, none⟩ = some (.slice A0_4 l0_4.length c0_4) := (z00 BK102.out 4).trans rfl
             have hcz53_5 : wr.cell? ⟨gb102, 5, none⟩ = some (.string a0_5) := (z00 BK102.out 5).trans rfl
             have hcz53_6 : wr.cell? ⟨gb102, 6, none⟩ = some (.int .i64 a0_6) := (z00 BK102.out 6).trans rfl
             have hcz53_7 : wr.cell? ⟨gb102, 7, none⟩ = some (.int .i64 a0_7) := (z00 BK102.out 7).trans rfl
             have hcz53_8 : wr.cell? ⟨gb102, 8, none⟩ = some (.string a0_8) := (z00 BK102.out 8).trans rfl
             have hfz53_0 := z02 BK102.out 0
             have hfz53_1 := z02 BK102.out 1
             have hfz53_2 := z02 BK102.out 2
             have hfz53_3 := z02 BK102.out 3
             have hfz53_4 := z02 BK102.out 4
             have hfz53_5 := z02 BK102.out 5
             have hfz53_6 := z02 BK102.out 6
             have hfz53_7 := z02 BK102.out 7
             have hfz53_8 := z02 BK102.out 8
             go_wp2
             go_ret
             exact ⟨by first | rfl | (simp [z0n, z0o] <;> rfl) | (simp [*, z0n, z0o] <;> rfl), by repeat (first | (with_reducible first | exact HB.out | apply z03 | apply z05 | apply z04 | refine z08 ?_ GE102.out) | exact HB.out)⟩
            ·replace c52 := Bool.eq_false_iff.mpr c52
             subst c52
             have H1 : (some 230) = some r := by rw [if_neg (show ¬ (false = true) by decide)] at H; exact H
             clear H
             have H := H1
             clear H1
             obtain rfl := Option.some.inj H
             have hcz54_0 : wr.cell? ⟨gb102, 0, none⟩ = some (.int .i64 a0_0) := (z00 BK102.out 0).trans rfl
             have hcz54_1 : wr.cell? ⟨gb102, 1, none⟩ = some (.int .u64 a0_1) := (z00 BK102.out 1).trans rfl
             have hcz54_2 : wr.cell? ⟨gb102, 2, none⟩ = some (.slice A0_2 l0_2.length c0_2) := (z00 BK102.out 2).trans rfl
             have hcz54_3 : wr.cell? ⟨gb102, 3, none⟩ = some (.slice A0_3 l0_3.length c0_3) := (z00 BK102.out 3).trans rfl
             have hcz54_4 : wr.cell? ⟨gb102, 4, none⟩ = some (.slice A0_4 l0_4.length c0_4) := (z00 BK102.out 4).trans rfl
             have hcz54_5 : wr.cell? ⟨gb102, 5, none⟩ = some (.string a0_5) := (z00 BK102.out 5).trans rfl
             have hcz54_6 : wr.cell? ⟨gb102, 6, none⟩ = some (.int .i64 a0_6) := (z00 BK102.out 6).trans rfl
             have hcz54_7 : wr.cell? ⟨gb102, 7, none⟩ = some (.int .i64 a0_7) := (z00 BK102.out 7).trans rfl
             have hcz54_8 : wr.cell? ⟨gb102, 8, none⟩ = some (.string a0_8) := (z00 BK102.out 8).trans rfl
             have hfz54_0 := z02 BK102.out 0
             have hfz54_1 := z02 BK102.out 1
             have hfz54_2 := z02 BK102.out 2
             have hfz54_3 := z02 BK102.out 3
             have hfz54_4 := z02 BK102.out 4
             have hfz54_5 := z02 BK102.out 5
             have hfz54_6 := z02 BK102.out 6
             have hfz54_7 := z02 BK102.out 7
             have hfz54_8 := z02 BK102.out 8
             go_wp2
             go_ret
             exact ⟨by first | rfl | (simp [z0n, z0o] <;> rfl) | (simp [*, z0n, z0o] <;> rfl), by repeat (first | (with_reducible first | exact HB.out | apply z03 | apply z05 | apply z04 | refine z08 ?_ GE102.out) | exact HB.out)⟩
end Go.Proofs.Ytcfdplmapdgfmaa.PF
