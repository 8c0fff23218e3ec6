import Derived.Test.YtcfdplmapdgfmaaYPFx0
import Derived.Test.YtcfdplmapdgfmaaYPFx5
namespace Go.Proofs.Ytcfdplmapdgfmaa.PF
open List renaming setIfInBounds_toArray → q1, set_cons_zero → q2, set_cons_succ → q3
open Go.RowKit Go.Proofs.YtcfdplmapdgfmaaW.PrintWords Go.Proofs.YtcfdplmapdgfmaaW.PrintLast Go.Proofs.YtcfdplmapdgfmaaW.PrintMore
attribute [local go_sem] z21 z22 z23 z25 z26 z27 z28 z29   -- for this text's walks alone
set_option linter.unusedVariables false
set_option linter.unusedSimpArgs false
def z0t.l0 : Nat → ByteArray → Int → Int → Int → List ByteArray → List ByteArray → List (S94) → ByteArray → Int → Int → ByteArray → Option (ByteArray)
 | 0, _, _, _, _, _, _, _, _, _, _, _ => none
 | k + 1, x3, x4, x195000, x195001, x195002, x195003, x195004, x195005, x195006, x195007, x195008 => if x4 < (x195004.length : Int) then (if 0 ≤ x4 then ((z2k.f ((z15 x195004 x4).f0)).bind fun t204 => (if ((z15 x195004 x4).f1).size + t204.size ≤ 9223372036854775807 then (if x3.size + (((z15 x195004 x4).f1) ++ t204).size ≤ 9223372036854775807 then (z0t.l0 k (x3 ++ (((z15 x195004 x4).f1) ++ t204)) (wrap64 (x4 + 1)) x195000 x195001 x195002 x195003 x195004 x195005 x195006 x195007 x195008) else (none)) else (none))) else (none)) else ((z2k.f x195005).bind fun t205 => (if x3.size + t205.size ≤ 9223372036854775807 then ((z0j.f (IntKind.u64.wrap (x195006))).bind fun t206 => (if (x3 ++ t205).size + t206.size ≤ 9223372036854775807 then ((z0j.f (IntKind.u64.wrap (x195007))).bind fun t207 => (if ((x3 ++ t205) ++ t206).size + t207.size ≤ 9223372036854775807 then ((z2k.f x195008).bind fun t208 => (if (((x3 ++ t205) ++ t206) ++ t207).size + t208.size ≤ 9223372036854775807 then ((z1z.f ((((x3 ++ t205) ++ t206) ++ t207) ++ t208)).bind fun t209 => (some t209)) else (none))) else (none))) else (none))) else (none)))
def z0t.f (k : Nat) (a0_0 : Int) (a0_1 : Int) (l0_2 : List ByteArray) (l0_3 : List ByteArray) (l0_4 : List (S94)) (a0_5 : ByteArray) (a0_6 : Int) (a0_7 : Int) (a0_8 : ByteArray) : Option (ByteArray) := (some (([(a0_0) % 256] : List Int) : List Int)).bind fun y195 => ((z0j.f a0_1).bind fun t198 => (if (strOfNums y195).size + t198.size ≤ 9223372036854775807 then ((z10.f k l0_2).bind fun t199 => (if ((strOfNums y195) ++ t198).size + t199.size ≤ 9223372036854775807 then ((z10.f k l0_3).bind fun t200 => (if (((strOfNums y195) ++ t198) ++ t199).size + t200.size ≤ 9223372036854775807 then ((z0j.f (IntKind.u64.wrap ((l0_4.length : Int)))).bind fun t201 => (if ((((strOfNums y195) ++ t198) ++ t199) ++ t200).size + t201.size ≤ 9223372036854775807 then (z0t.l0 k (((((strOfNums y195) ++ t198) ++ t199) ++ t200) ++ t201) 0 a0_0 a0_1 l0_2 l0_3 l0_4 a0_5 a0_6 a0_7 a0_8) else (none))) else (none))) else (none))) else (none)))
theorem z0t.mono_l : ∀ k, (∀ y0 y1 y2 y3 y4 y5 y6 y7 y8 y9 y10, LeO (z0t.l0 k y0 y1 y2 y3 y4 y5 y6 y7 y8 y9 y10) (z0t.l0 (k + 1) y0 y1 y2 y3 y4 y5 y6 y7 y8 y9 y10))
 | 0 => fun _ _ _ _ _ _ _ _ _ _ _ r h => by simp [z0t.l0] at h
 | k + 1 => by
  have ih0 := z0t.mono_l k
  ·intro y0 y1 y2 y3 y4 y5 y6 y7 y8 y9 y10
   unfold z0t.l0
   repeat' first
   | (with_reducible exact ih0 _ _ _ _ _ _ _ _ _ _ _)
   | (with_reducible exact z10.mono _ _)
   | (with_reducible exact LeO.refl _)
   | (with_reducible exact LeO.none _)
   | (with_reducible refine LeO.ite ?_ ?_)
   | (with_reducible refine LeO.bind ?_ (fun _ => ?_))
   | exact ih0 _ _ _ _ _ _ _ _ _ _ _
   | exact z10.mono _ _
   | exact LeO.none _
   | refine LeO.ite ?_ ?_
   | refine LeO.bind ?_ (fun _ => ?_)
theorem z0t.mono : ∀ a0 a1 a2 a3 a4 a5 a6 a7 a8 k, LeO (z0t.f k a0 a1 a2 a3 a4 a5 a6 a7 a8) (z0t.f (k + 1) a0 a1 a2 a3 a4 a5 a6 a7 a8) := by
 intro a0 a1 a2 a3 a4 a5 a6 a7 a8 k
 have ih0 := z0t.mono_l k
 unfold z0t.f
 repeat' first
   | (with_reducible exact ih0 _ _ _ _ _ _ _ _ _ _ _)
   | (with_reducible exact z10.mono _ _)
   | (with_reducible exact LeO.refl _)
   | (with_reducible exact LeO.none _)
   | (with_reducible refine LeO.ite ?_ ?_)
   | (with_reducible refine LeO.bind ?_ (fun _ => ?_))
   | exact ih0 _ _ _ _ _ _ _ _ _ _ _
   | exact z10.mono _ _
   | exact LeO.none _
   | refine LeO.ite ?_ ?_
   | refine LeO.bind ?_ (fun _ => ?_)
def z0t.T1 : Bool × List (List Nat × List Nat) := (true, [([], []), ([0], [0]), ([1], [1]), ([2], [2]), ([3], [3]), ([], []), ([5], [5]), ([6], [6]), ([4, 7], [4, 7]), ([], []), ([9], [9]), ([10, 7], [10]), ([8, 11], [8, 11]), ([], []), ([13], [13]), ([14, 11], [14]), ([12, 15], [12, 15]), ([], []), ([17], [17]), ([18], [18]), ([19], [19]), ([20, 15], [20]), ([16, 21], [16, 21]), ([22, 21, 0, 1, 2, 3, 4, 5, 6, 7, 8, 9, 10, 11, 12, 13, 14, 15, 16, 17, 18, 19, 20, 21, 22], [22])])
def z0t.B1 : List Nat := [0, 1, 3, 7, 15, 0, 32, 96, 255, 0, 512, 1760, 4095, 0, 8192, 28384, 65535, 0, 131072, 393216, 917504, 2027232, 4194303, 8388607]
theorem z0t.tab1 : rtab .any (opsOf Try.f19 1) = z0t.T1 := by kernel_rfl
theorem z0t.bits1 : waitsOk z0t.T1.2 z0t.B1 = true := by kernel_rfl
def z0t.T5 : Bool × List (List Nat × List Nat) := (true, [([], []), ([], []), ([1], [1]), ([], []), ([2, 3], [2, 3]), ([4], [4]), ([5], [5]), ([], []), ([7], [7]), ([], []), ([8, 9], [8, 9]), ([10], [10]), ([11], [11]), ([12], [12]), ([6, 13], [6, 13]), ([0, 14], [0, 14]), ([15, 13, 0, 1, 2, 3, 4, 5, 6, 7, 8, 9, 10, 11, 12, 13, 14, 15], [0, 15])])
def z0t.B5 : List Nat := [0, 0, 2, 0, 14, 30, 62, 0, 128, 0, 896, 1920, 3968, 8064, 16382, 32767, 65535]
theorem z0t.tab5 : rtab .any (opsOf Try.f19 5) = z0t.T5 := by kernel_rfl
theorem z0t.bits5 : waitsOk z0t.T5.2 z0t.B5 = true := by kernel_rfl
def z0t.T6 : Bool × List (List Nat × List Nat) := (true, [([], []), ([], []), ([1], [1]), ([2], [2]), ([0, 3], [0, 3]), ([], []), ([5], [5]), ([6], [6]), ([7, 3], [7]), ([4, 8], [4, 8]), ([], []), ([10], [10]), ([11], [11]), ([12, 8], [12]), ([9, 13], [9, 13]), ([], []), ([15], [15]), ([16, 13], [16]), ([14, 17], [14, 17]), ([18, 17], [18]), ([19, 19, 0, 1, 2, 3, 4, 5, 6, 7, 8, 9, 10, 11, 12, 13, 14, 15, 16, 17, 18, 19], [19])])
def z0t.B6 : List Nat := [0, 0, 2, 6, 15, 0, 32, 96, 238, 511, 0, 1024, 3072, 7662, 16383, 0, 32768, 114158, 262143, 524287, 1048575]
theorem z0t.tab6 : rtab .any (opsOf Try.f19 6) = z0t.T6 := by kernel_rfl
theorem z0t.bits6 : waitsOk z0t.T6.2 z0t.B6 = true := by kernel_rfl
set_option maxHeartbeats 8000000 in
set_option maxRecDepth 100000 in
theorem z0t.calls (k : Nat) (a0_0 : Int) (a0_1 : Int) (A0_2 : Option Addr) (c0_2 : Nat) (l0_2 : List ByteArray) (A0_3 : Option Addr) (c0_3 : Nat) (l0_3 : List ByteArray) (A0_4 : Option Addr) (c0_4 : Nat) (l0_4 : List (S94)) (a0_5 : ByteArray) (a0_6 : Int) (a0_7 : Int) (a0_8 : ByteArray) (r : ByteArray) (w : World) (hr0_2 : Kd.C Kd.string w A0_2 l0_2.length l0_2) (hc0_2 : l0_2.length ≤ c0_2) (hr0_3 : Kd.C Kd.string w A0_3 l0_3.length l0_3) (hc0_3 : l0_3.length ≤ c0_3) (hr0_4 : Kd.C k94 w A0_4 l0_4.length l0_4) (hc0_4 : l0_4.length ≤ c0_4) (h : z0t.f k a0_0 a0_1 l0_2 l0_3 l0_4 a0_5 a0_6 a0_7 a0_8 = some r) :
  Calls Try.prog 19 #[.agg #[.int .i64 a0_0, .int .u64 a0_1, .slice A0_2 l0_2.length c0_2, .slice A0_3 l0_3.length c0_3, .slice A0_4 l0_4.length c0_4, .string a0_5, .int .i64 a0_6, .int .i64 a0_7, .string a0_8]] w fun e w' => e = .returned (.string r) ∧ Below w.heap.size w w' := by
 have hu34 := Try.underlying34
 have HR0_2 := z01.mk hr0_2
 have HC0_2 := z01.mk hc0_2
 clear hr0_2 hc0_2
 have HR0_3 := z01.mk hr0_3
 have HC0_3 := z01.mk hc0_3
 clear hr0_3 hc0_3
 have HR0_4 := z01.mk hr0_4
 have HC0_4 := z01.mk hc0_4
 clear hr0_4 hc0_4
 have HB := z01.mk (Below.refl w.heap.size w)
 have H : ((some (([(a0_0) % 256] : List Int) : List Int)).bind fun y195 => ((z0j.f a0_1).bind fun t198 => (if (strOfNums y195).size + t198.size ≤ 9223372036854775807 then ((z10.f k l0_2).bind fun t199 => (if ((strOfNums y195) ++ t198).size + t199.size ≤ 9223372036854775807 then ((z10.f k l0_3).bind fun t200 => (if (((strOfNums y195) ++ t198) ++ t199).size + t200.size ≤ 9223372036854775807 then ((z0j.f (IntKind.u64.wrap ((l0_4.length : Int)))).bind fun t201 => (if ((((strOfNums y195) ++ t198) ++ t199) ++ t200).size + t201.size ≤ 9223372036854775807 then (z0t.l0 k (((((strOfNums y195) ++ t198) ++ t199) ++ t200) ++ t201) 0 a0_0 a0_1 l0_2 l0_3 l0_4 a0_5 a0_6 a0_7 a0_8) else (none))) else (none))) else (none))) else (none)))) = some r := h
 clear h
 obtain ⟨y195, hy195⟩ : ∃ y_ : List Int, y_ = (([(a0_0) % 256] : List Int)) := ⟨_, rfl⟩
 replace H : ((z0j.f a0_1).bind fun t198 => (if (strOfNums y195).size + t198.size ≤ 9223372036854775807 then ((z10.f k l0_2).bind fun t199 => (if ((strOfNums y195) ++ t198).size + t199.size ≤ 9223372036854775807 then ((z10.f k l0_3).bind fun t200 => (if (((strOfNums y195) ++ t198) ++ t199).size + t200.size ≤ 9223372036854775807 then ((z0j.f (IntKind.u64.wrap ((l0_4.length : Int)))).bind fun t201 => (if ((((strOfNums y195) ++ t198) ++ t199) ++ t200).size + t201.size ≤ 9223372036854775807 then (z0t.l0 k (((((strOfNums y195) ++ t198) ++ t199) ++ t200) ++ t201) 0 a0_0 a0_1 l0_2 l0_3 l0_4 a0_5 a0_6 a0_7 a0_8) else (none))) else (none))) else (none))) else (none))) = some r := by first | (rw [hy195]; with_reducible exact H) | (have H2_ := (Option.bind_some _ _).symm.trans H; rw [hy195]; with_reducible exact H2_) | (have H2_ := (Option.bind_some _ _).symm.trans H; with_reducible exact H2_) | with_reducible exact H | (rw [hy195]; exact H) | exact H
 have Ny195 := z01.mk hy195
 clear hy195
 replace H := Option.bind_eq_some_iff.mp H
 obtain ⟨t198, A20, H⟩ := H
 replace H : (if (strOfNums y195).size + t198.size ≤ 9223372036854775807 then ((z10.f k l0_2).bind fun t199 => (if ((strOfNums y195) ++ t198).size + t199.size ≤ 9223372036854775807 then ((z10.f k l0_3).bind fun t200 => (if (((strOfNums y195) ++ t198) ++ t199).size + t200.size ≤ 9223372036854775807 then ((z0j.f (IntKind.u64.wrap ((l0_4.length : Int)))).bind fun t201 => (if ((((strOfNums y195) ++ t198) ++ t199) ++ t200).size + t201.size ≤ 9223372036854775807 then (z0t.l0 k (((((strOfNums y195) ++ t198) ++ t199) ++ t200) ++ t201) 0 a0_0 a0_1 l0_2 l0_3 l0_4 a0_5 a0_6 a0_7 a0_8) else (none))) else (none))) else (none))) else (none)) = some r := H
 have A2 := z01.mk A20
 clear A20
 by_cases c3 : (strOfNums y195).size + t198.size ≤ 9223372036854775807
 ·rw [if_pos c3] at H
  have c3b0 := eq_true c3
  have c3b1 : decide ((strOfNums y195).size + t198.size ≤ 9223372036854775807) = true := decide_eq_true c3
  try have c3b2 : (9223372036854775807 < (strOfNums y195).size + t198.size) = False := eq_false (Nat.not_lt.2 c3)
  clear c3
  replace H := Option.bind_eq_some_iff.mp H
  obtain ⟨t199, A40, H⟩ := H
  replace H : (if ((strOfNums y195) ++ t198).size + t199.size ≤ 9223372036854775807 then ((z10.f k l0_3).bind fun t200 => (if (((strOfNums y195) ++ t198) ++ t199).size + t200.size ≤ 9223372036854775807 then ((z0j.f (IntKind.u64.wrap ((l0_4.length : Int)))).bind fun t201 => (if ((((strOfNums y195) ++ t198) ++ t199) ++ t200).size + t201.size ≤ 9223372036854775807 then (z0t.l0 k (((((strOfNums y195) ++ t198) ++ t199) ++ t200) ++ t201) 0 a0_0 a0_1 l0_2 l0_3 l0_4 a0_5 a0_6 a0_7 a0_8) else (none))) else (none))) else (none)) = some r := H
  have A4 := z01.mk A40
  clear A40
  by_cases c5 : ((strOfNums y195) ++ t198).size + t199.size ≤ 9223372036854775807
  ·rw [if_pos c5] at H
   have c5b0 := eq_true c5
   have c5z := c5
   simp only [ByteArray.size_append] at c5z
   have c5z2 := eq_false (Nat.not_lt.2 c5z)
   clear c5z
   have c5b1 : decide (((strOfNums y195) ++ t198).size + t199.size ≤ 9223372036854775807) = true := decide_eq_true c5
   try have c5b2 : (9223372036854775807 < ((strOfNums y195) ++ t198).size + t199.size) = False := eq_false (Nat.not_lt.2 c5)
   clear c5
   replace H := Option.bind_eq_some_iff.mp H
   obtain ⟨t200, A60, H⟩ := H
   replace H : (if (((strOfNums y195) ++ t198) ++ t199).size + t200.size ≤ 9223372036854775807 then ((z0j.f (IntKind.u64.wrap ((l0_4.length : Int)))).bind fun t201 => (if ((((strOfNums y195) ++ t198) ++ t199) ++ t200).size + t201.size ≤ 9223372036854775807 then (z0t.l0 k (((((strOfNums y195) ++ t198) ++ t199) ++ t200) ++ t201) 0 a0_0 a0_1 l0_2 l0_3 l0_4 a0_5 a0_6 a0_7 a0_8) else (none))) else (none)) = some r := H
   have A6 := z01.mk A60
   clear A60
   by_cases c7 : (((strOfNums y195) ++ t198) ++ t199).size + t200.size ≤ 9223372036854775807
   ·rw [if_pos c7] at H
    have c7b0 := eq_true c7
    have c7z := c7
    simp only [ByteArray.size_append] at c7z
    have c7z2 := eq_false (Nat.not_lt.2 c7z)
    clear c7z
    have c7b1 : decide ((((strOfNums y195) ++ t198) ++ t199).size + t200.size ≤ 9223372036854775807) = true := decide_eq_true c7
    try have c7b2 : (9223372036854775807 < (((strOfNums y195) ++ t198) ++ t199).size + t200.size) = False := eq_false (Nat.not_lt.2 c7)
    clear c7
    replace H := Option.bind_eq_some_iff.mp H
    obtain ⟨t201, A80, H⟩ := H
    replace H : (if ((((strOfNums y195) ++ t198) ++ t199) ++ t200).size + t201.size ≤ 9223372036854775807 then (z0t.l0 k (((((strOfNums y195) ++ t198) ++ t199) ++ t200) ++ t201) 0 a0_0 a0_1 l0_2 l0_3 l0_4 a0_5 a0_6 a0_7 a0_8) else (none)) = some r := H
    have A8 := z01.mk A80
    clear A80
    by_cases c9 : ((((strOfNums y195) ++ t198) ++ t199) ++ t200).size + t201.size ≤ 9223372036854775807
    ·rw [if_pos c9] at H
     have c9b0 := eq_true c9
     have c9z := c9
     simp only [ByteArray.size_append] at c9z
     have c9z2 := eq_false (Nat.not_lt.2 c9z)
     clear c9z
     have c9b1 : decide (((((strOfNums y195) ++ t198) ++ t199) ++ t200).size + t201.size ≤ 9223372036854775807) = true := decide_eq_true c9
     try have c9b2 : (9223372036854775807 < ((((strOfNums y195) ++ t198) ++ t199) ++ t200).size + t201.size) = False := eq_false (Nat.not_lt.2 c9)
     clear c9
     have H' := z01.mk H
     clear H
     go_enter Try.func19, Try.ntmps19
     try go_wp2_with (first | ((with_reducible refine gate_dst (N := 1) rfl ?_); refine box_event ?hg (N := 1) ?hd (cs := #[.int .i64 a0_0, .int .u64 a0_1, .slice A0_2 l0_2.length c0_2, .slice A0_3 l0_3.length c0_3, .slice A0_4 l0_4.length c0_4, .string a0_5, .int .i64 a0_6, .int .i64 a0_7, .string a0_8]) (t := 34) ?hr ?_; (case hd => rfl); (case hg => rfl); (case hr => first | (go_simp; done) | (go_simp; rfl)); intro gb194 hg w10 hbox hb; have n0_ := z01.mk (z0i (by repeat (first | (with_reducible first | exact HB.out | apply z03 | apply z05 | apply z04) | exact HB.out | exact Below.refl _ _)) hb); have n1_ := z01.mk (hbox); have n2_ := z01.mk ((by rw [hg]; exact (z18 (by repeat (first | (with_reducible first | exact HB.out | apply z03 | apply z05 | apply z04) | exact HB.out | exact Below.refl _ _))) : w.heap.size ≤ gb194)); have n3_ := z01.mk ((by rw [hg]; exact (z18 (by repeat (first | (with_reducible first | exact HB.out | apply z03 | apply z05 | apply z04) | exact HB.out | exact Below.refl _ _))) : w.heap.size ≤ gb194)); clear HB; have HB := n0_; have BK194 := n1_; have GW194 := n2_; have GE194 := n3_; clear n0_ n1_ n2_ n3_; clear hb hbox hg))
     have n0_ := z01.mk (z09 BK194.out)
     have n1_ := z01.mk (z04 HB.out)
     clear BK194
     clear HB
     have BK194 := n0_
     have HB := n1_
     clear n0_ n1_
     refine start_ (n := 24) (S := fun w' => w'.cell? ⟨gb194, 0, none⟩ = some (.int .i64 a0_0) ∧ w'.cell? ⟨gb194, 1, none⟩ = some (.int .u64 a0_1) ∧ w'.cell? ⟨gb194, 2, none⟩ = some (.slice A0_2 l0_2.length c0_2) ∧ w'.cell? ⟨gb194, 3, none⟩ = some (.slice A0_3 l0_3.length c0_3) ∧ w'.cell? ⟨gb194, 4, none⟩ = some (.slice A0_4 l0_4.length c0_4) ∧ w'.cell? ⟨gb194, 5, none⟩ = some (.string a0_5) ∧ w'.cell? ⟨gb194, 6, none⟩ = some (.int .i64 a0_6) ∧ w'.cell? ⟨gb194, 7, none⟩ = some (.int .i64 a0_7) ∧ w'.cell? ⟨gb194, 8, none⟩ = some (.string a0_8)) (ds := []) #[false, false, false, false, false, false, false, false, false, false, false, false, false, false, false, false, false, false, false, false, false, false, false, false] (by kernel_rfl) rfl rfl ⟨(z00 BK194.out 0).trans rfl, (z00 BK194.out 1).trans rfl, (z00 BK194.out 2).trans rfl, (z00 BK194.out 3).trans rfl, (z00 BK194.out 4).trans rfl, (z00 BK194.out 5).trans rfl, (z00 BK194.out 6).trans rfl, (z00 BK194.out 7).trans rfl, (z00 BK194.out 8).trans rfl⟩ (fun hHeld => ?_); refine with_tabW z0t.tab1 z0t.bits1 (fun HT_ HW_ => ?_)
     generalize w10.drew = w11 at BK194 HB hHeld ⊢
     refine z0d (i := 0) (N := some 5) (v := ?_) (a' := ?_) #[true, false, false, false, false, false, false, false, false, false, false, false, false, false, false, false, false, false, false, false, false, false, false, false] rfl rfl (z0e HT_.out (by kernel_rfl)) (fun _ _ _ h => h) (Or.inl ⟨by rfl, ?_⟩) ?_ ?_
     rotate_left
     ·intro w'
      go_simp
      with_reducible rfl
     rotate_left
     ·simp only [Act.put, q1, q2, q3, z06, z07]
      rfl
     refine z0d (i := 5) (N := some 10) (v := ?_) (a' := ?_) #[true, false, false, false, false, true, false, false, false, false, false, false, false, false, false, false, false, false, false, false, false, false, false, false] rfl rfl (z0e HT_.out (by kernel_rfl)) (fun _ _ _ h => h) (Or.inl ⟨by rfl, ?_⟩) ?_ ?_
     rotate_left
     ·intro w'
      go_simp
      with_reducible rfl
     rotate_left
     ·simp only [Act.put, q1, q2, q3, z06, z07]
      rfl
     refine z0d (i := 9) (N := some 14) (v := ?_) (a' := ?_) #[true, false, false, false, false, true, false, false, false, true, false, false, false, false, false, false, false, false, false, false, false, false, false, false] rfl rfl (z0e HT_.out (by kernel_rfl)) (fun _ _ _ h => h) (Or.inl ⟨by rfl, ?_⟩) ?_ ?_
     rotate_left
     ·intro w'
      go_simp
      with_reducible rfl
     rotate_left
     ·simp only [Act.put, q1, q2, q3, z06, z07]
      rfl
     refine z0d (i := 13) (N := some 18) (v := ?_) (a' := ?_) #[true, false, false, false, false, true, false, false, false, true, false, false, false, true, false, false, false, false, false, false, false, false, false, false] rfl rfl (z0e HT_.out (by kernel_rfl)) (fun _ _ _ h => h) (Or.inl ⟨by rfl, ?_⟩) ?_ ?_
     rotate_left
     ·intro w'
      go_simp
      with_reducible rfl
     rotate_left
     ·simp only [Act.put, q1, q2, q3, z06, z07]
      rfl
     refine z0d (i := 17) (N := some 22) (v := ?_) (a' := ?_) #[true, false, false, false, false, true, false, false, false, true, false, false, false, true, false, false, false, true, false, false, false, false, false, false] rfl rfl (z0e HT_.out (by kernel_rfl)) (fun _ _ _ h => h) (Or.inl ⟨by rfl, ?_⟩) ?_ ?_
     rotate_left
     ·intro w'
      go_simp
      with_reducible rfl
     rotate_left
     ·simp only [Act.put, q1, q2, q3, z06, z07]
      rfl
     refine take_ (i := 1) (N := some 6) (v := ?_) (a' := ?_) #[true, true, false, false, false, true, false, false, false, true, false, false, false, true, false, false, false, true, false, false, false, false, false, false] rfl rfl (z1a HT_.out HW_.out (by kernel_rfl)) (fun _ _ _ h => h) (Or.inl ⟨by rfl, ?_⟩) hHeld ?_ ?_
     rotate_left
     ·rintro w' ⟨s0, s1, s2, s3, s4, s5, s6, s7, s8⟩
      go_simp
      with_reducible rfl
     rotate_left
     ·simp only [Act.put, q1, q2, q3, z06, z07]
      rfl
     refine z0d (i := 2) (N := some 7) (v := ?_) (a' := ?_) #[true, true, true, false, false, true, false, false, false, true, false, false, false, true, false, false, false, true, false, false, false, false, false, false] rfl rfl (z0e HT_.out (by kernel_rfl)) (fun _ _ _ h => h) (Or.inl ⟨by rfl, ?_⟩) ?_ ?_
     rotate_left
     ·intro w'
      go_simp
      with_reducible rfl
     rotate_left
     ·simp only [Act.put, q1, q2, q3, z06, z07]
      rfl
     refine take_ (i := 6) (N := some 11) (v := ?_) (a' := ?_) #[true, true, true, false, false, true, true, false, false, true, false, false, false, true, false, false, false, true, false, false, false, false, false, false] rfl rfl (z1a HT_.out HW_.out (by kernel_rfl)) (fun _ _ _ h => h) (Or.inl ⟨by rfl, ?_⟩) hHeld ?_ ?_
     rotate_left
     ·rintro w' ⟨s0, s1, s2, s3, s4, s5, s6, s7, s8⟩
      go_simp
      with_reducible rfl
     rotate_left
     ·simp only [Act.put, q1, q2, q3, z06, z07]
      rfl
     refine take_ (i := 10) (N := some 15) (v := ?_) (a' := ?_) #[true, true, true, false, false, true, true, false, false, true, true, false, false, true, false, false, false, true, false, false, false, false, false, false] rfl rfl (z1a HT_.out HW_.out (by kernel_rfl)) (fun _ _ _ h => h) (Or.inl ⟨by rfl, ?_⟩) hHeld ?_ ?_
     rotate_left
     ·rintro w' ⟨s0, s1, s2, s3, s4, s5, s6, s7, s8⟩
      go_simp
      with_reducible rfl
     rotate_left
     ·simp only [Act.put, q1, q2, q3, z06, z07]
      rfl
     refine take_ (i := 14) (N := some 19) (v := ?_) (a' := ?_) #[true, true, true, false, false, true, true, false, false, true, true, false, false, true, true, false, false, true, false, false, false, false, false, false] rfl rfl (z1a HT_.out HW_.out (by kernel_rfl)) (fun _ _ _ h => h) (Or.inl ⟨by rfl, ?_⟩) hHeld ?_ ?_
     rotate_left
     ·rintro w' ⟨s0, s1, s2, s3, s4, s5, s6, s7, s8⟩
      go_simp
      with_reducible rfl
     rotate_left
     ·simp only [Act.put, q1, q2, q3, z06, z07]
      rfl
     refine take_ (i := 18) (N := some 23) (v := ?_) (a' := ?_) #[true, true, true, false, false, true, true, false, false, true, true, false, false, true, true, false, false, true, true, false, false, false, false, false] rfl rfl (z1a HT_.out HW_.out (by kernel_rfl)) (fun _ _ _ h => h) (Or.inl ⟨by rfl, ?_⟩) hHeld ?_ ?_
     rotate_left
     ·rintro w' ⟨s0, s1, s2, s3, s4, s5, s6, s7, s8⟩
      go_simp
      with_reducible rfl
     rotate_left
     ·simp only [Act.put, q1, q2, q3, z06, z07]
      rfl
     refine z0d (i := 19) (N := some 24) (v := ?_) (a' := ?_) #[true, true, true, false, false, true, true, false, false, true, true, false, false, true, true, false, false, true, true, true, false, false, false, false] rfl rfl (z0e HT_.out (by kernel_rfl)) (fun _ _ _ h => h) (Or.inl ⟨by rfl, ?_⟩) ?_ ?_
     rotate_left
     ·intro w'
      go_simp
      with_reducible rfl
     rotate_left
     ·simp only [Act.put, q1, q2, q3, z06, z07]
      rfl
     refine z0d (i := 20) (N := some 25) (v := ?_) (a' := ?_) #[true, true, true, false, false, true, true, false, false, true, true, false, false, true, true, false, false, true, true, true, true, false, false, false] rfl rfl (z0e HT_.out (by kernel_rfl)) (fun _ _ _ h => h) (Or.inl ⟨by rfl, ?_⟩) ?_ ?_
     rotate_left
     ·intro w'
      go_simp
      with_reducible rfl
     rotate_left
     ·simp only [Act.put, q1, q2, q3, z06, z07]
      rfl
     refine join_ (σ := Value) 2 #[true, true, true, true, true, true, true, true, true, true, true, true, true, true, true, true, true, true, true, true, true, true, false, false] (fun s_ => [(8, s_), (9, .string (strOfNums y195)), (12, .string t198), (16, .string t199), (20, .string t200), (26, .string t201), (13, .string ((strOfNums y195) ++ t198)), (17, .string (((strOfNums y195) ++ t198) ++ t199)), (21, .string ((((strOfNums y195) ++ t198) ++ t199) ++ t200))]) (fun s_ w' => (w'.cell? ⟨gb194, 0, none⟩ = some (.int .i64 a0_0) ∧ w'.cell? ⟨gb194, 1, none⟩ = some (.int .u64 a0_1) ∧ w'.cell? ⟨gb194, 2, none⟩ = some (.slice A0_2 l0_2.length c0_2) ∧ w'.cell? ⟨gb194, 3, none⟩ = some (.slice A0_3 l0_3.length c0_3) ∧ w'.cell? ⟨gb194, 4, none⟩ = some (.slice A0_4 l0_4.length c0_4) ∧ w'.cell? ⟨gb194, 5, none⟩ = some (.string a0_5) ∧ w'.cell? ⟨gb194, 6, none⟩ = some (.int .i64 a0_6) ∧ w'.cell? ⟨gb194, 7, none⟩ = some (.int .i64 a0_7) ∧ w'.cell? ⟨gb194, 8, none⟩ = some (.string a0_8)) ∧ (Kd.R (Kd.int .u8) 5 w' w.heap.size (fun _ => True) s_ y195) ∧ (w'.heap[gb194]? = some (.cells #[.int .i64 a0_0, .int .u64 a0_1, .slice A0_2 l0_2.length c0_2, .slice A0_3 l0_3.length c0_3, .slice A0_4 l0_4.length c0_4, .string a0_5, .int .i64 a0_6, .int .i64 a0_7, .string a0_8] 34 (0, 0))) ∧ (Below w.heap.size w w')) ?_ ?_
     rotate_left
     ·intro hJ3_4_7_11_15_21
      refine join_ (σ := Value) 3 #[true, true, true, true, true, true, true, true, true, true, true, true, true, true, true, true, true, true, true, true, true, false, false, false] (fun s_ => [(8, s_), (9, .string (strOfNums y195)), (12, .string t198), (16, .string t199), (20, .string t200), (13, .string ((strOfNums y195) ++ t198)), (17, .string (((strOfNums y195) ++ t198) ++ t199)), (21, .string ((((strOfNums y195) ++ t198) ++ t199) ++ t200))]) (fun s_ w' => (w'.cell? ⟨gb194, 0, none⟩ = some (.int .i64 a0_0) ∧ w'.cell? ⟨gb194, 1, none⟩ = some (.int .u64 a0_1) ∧ w'.cell? ⟨gb194, 2, none⟩ = some (.slice A0_2 l0_2.length c0_2) ∧ w'.cell? ⟨gb194, 3, none⟩ = some (.slice A0_3 l0_3.length c0_3) ∧ w'.cell? ⟨gb194, 4, none⟩ = some (.slice A0_4 l0_4.length c0_4) ∧ w'.cell? ⟨gb194, 5, none⟩ = some (.string a0_5) ∧ w'.cell? ⟨gb194, 6, none⟩ = some (.int .i64 a0_6) ∧ w'.cell? ⟨gb194, 7, none⟩ = some (.int .i64 a0_7) ∧ w'.cell? ⟨gb194, 8, none⟩ = some (.string a0_8)) ∧ (Kd.R (Kd.int .u8) 5 w' w.heap.size (fun _ => True) s_ y195) ∧ (w'.heap[gb194]? = some (.cells #[.int .i64 a0_0, .int .u64 a0_1, .slice A0_2 l0_2.length c0_2, .slice A0_3 l0_3.length c0_3, .slice A0_4 l0_4.length c0_4, .string a0_5, .int .i64 a0_6, .int .i64 a0_7, .string a0_8] 34 (0, 0))) ∧ (Below w.heap.size w w')) ?_ ?_
      rotate_left
      ·intro hJ3_4_7_11_15
       refine join_ (σ := Value) 6 #[true, true, true, true, false, true, true, true, false, true, true, true, false, true, true, true, false, true, true, true, true, true, false, false] (fun s_ => [(8, s_), (12, .string t198), (16, .string t199), (20, .string t200), (26, .string t201)]) (fun s_ w' => (w'.cell? ⟨gb194, 0, none⟩ = some (.int .i64 a0_0) ∧ w'.cell? ⟨gb194, 1, none⟩ = some (.int .u64 a0_1) ∧ w'.cell? ⟨gb194, 2, none⟩ = some (.slice A0_2 l0_2.length c0_2) ∧ w'.cell? ⟨gb194, 3, none⟩ = some (.slice A0_3 l0_3.length c0_3) ∧ w'.cell? ⟨gb194, 4, none⟩ = some (.slice A0_4 l0_4.length c0_4) ∧ w'.cell? ⟨gb194, 5, none⟩ = some (.string a0_5) ∧ w'.cell? ⟨gb194, 6, none⟩ = some (.int .i64 a0_6) ∧ w'.cell? ⟨gb194, 7, none⟩ = some (.int .i64 a0_7) ∧ w'.cell? ⟨gb194, 8, none⟩ = some (.string a0_8)) ∧ (Kd.R (Kd.int .u8) 5 w' w.heap.size (fun _ => True) s_ y195) ∧ (w'.heap[gb194]? = some (.cells #[.int .i64 a0_0, .int .u64 a0_1, .slice A0_2 l0_2.length c0_2, .slice A0_3 l0_3.length c0_3, .slice A0_4 l0_4.length c0_4, .string a0_5, .int .i64 a0_6, .int .i64 a0_7, .string a0_8] 34 (0, 0))) ∧ (Below w.heap.size w w')) ?_ ?_
       rotate_left
       ·intro hJ3_7_11_15_21
        refine join_ (σ := Value) 5 #[true, true, true, true, true, true, true, true, true, true, true, true, true, true, true, false, false, true, true, true, true, false, false, false] (fun s_ => [(8, s_), (9, .string (strOfNums y195)), (12, .string t198), (16, .string t199), (13, .string ((strOfNums y195) ++ t198)), (17, .string (((strOfNums y195) ++ t198) ++ t199))]) (fun s_ w' => (w'.cell? ⟨gb194, 0, none⟩ = some (.int .i64 a0_0) ∧ w'.cell? ⟨gb194, 1, none⟩ = some (.int .u64 a0_1) ∧ w'.cell? ⟨gb194, 2, none⟩ = some (.slice A0_2 l0_2.length c0_2) ∧ w'.cell? ⟨gb194, 3, none⟩ = some (.slice A0_3 l0_3.length c0_3) ∧ w'.cell? ⟨gb194, 4, none⟩ = some (.slice A0_4 l0_4.length c0_4) ∧ w'.cell? ⟨gb194, 5, none⟩ = some (.string a0_5) ∧ w'.cell? ⟨gb194, 6, none⟩ = some (.int .i64 a0_6) ∧ w'.cell? ⟨gb194, 7, none⟩ = some (.int .i64 a0_7) ∧ w'.cell? ⟨gb194, 8, none⟩ = some (.string a0_8)) ∧ (Kd.R (Kd.int .u8) 5 w' w.heap.size (fun _ => True) s_ y195) ∧ (w'.heap[gb194]? = some (.cells #[.int .i64 a0_0, .int .u64 a0_1, .slice A0_2 l0_2.length c0_2, .slice A0_3 l0_3.length c0_3, .slice A0_4 l0_4.length c0_4, .string a0_5, .int .i64 a0_6, .int .i64 a0_7, .string a0_8] 34 (0, 0))) ∧ (Below w.heap.size w w')) ?_ ?_
        rotate_left
        ·intro hJ3_4_7_11
         refine join_ (σ := Value) 7 #[true, true, true, true, false, true, true, true, false, true, true, true, false, true, true, true, false, true, true, true, true, false, false, false] (fun s_ => [(8, s_), (12, .string t198), (16, .string t199), (20, .string t200)]) (fun s_ w' => (w'.cell? ⟨gb194, 0, none⟩ = some (.int .i64 a0_0) ∧ w'.cell? ⟨gb194, 1, none⟩ = some (.int .u64 a0_1) ∧ w'.cell? ⟨gb194, 2, none⟩ = some (.slice A0_2 l0_2.length c0_2) ∧ w'.cell? ⟨gb194, 3, none⟩ = some (.slice A0_3 l0_3.length c0_3) ∧ w'.cell? ⟨gb194, 4, none⟩ = some (.slice A0_4 l0_4.length c0_4) ∧ w'.cell? ⟨gb194, 5, none⟩ = some (.string a0_5) ∧ w'.cell? ⟨gb194, 6, none⟩ = some (.int .i64 a0_6) ∧ w'.cell? ⟨gb194, 7, none⟩ = some (.int .i64 a0_7) ∧ w'.cell? ⟨gb194, 8, none⟩ = some (.string a0_8)) ∧ (Kd.R (Kd.int .u8) 5 w' w.heap.size (fun _ => True) s_ y195) ∧ (w'.heap[gb194]? = some (.cells #[.int .i64 a0_0, .int .u64 a0_1, .slice A0_2 l0_2.length c0_2, .slice A0_3 l0_3.length c0_3, .slice A0_4 l0_4.length c0_4, .string a0_5, .int .i64 a0_6, .int .i64 a0_7, .string a0_8] 34 (0, 0))) ∧ (Below w.heap.size w w')) ?_ ?_
         rotate_left
         ·intro hJ3_7_11_15
          refine join_ (σ := Unit) 7 #[true, true, true, false, false, true, true, true, false, true, true, true, false, true, true, true, false, true, true, true, true, true, false, false] (fun s_ => [(12, .string t198), (16, .string t199), (20, .string t200), (26, .string t201)]) (fun s_ w' => (w'.cell? ⟨gb194, 0, none⟩ = some (.int .i64 a0_0) ∧ w'.cell? ⟨gb194, 1, none⟩ = some (.int .u64 a0_1) ∧ w'.cell? ⟨gb194, 2, none⟩ = some (.slice A0_2 l0_2.length c0_2) ∧ w'.cell? ⟨gb194, 3, none⟩ = some (.slice A0_3 l0_3.length c0_3) ∧ w'.cell? ⟨gb194, 4, none⟩ = some (.slice A0_4 l0_4.length c0_4) ∧ w'.cell? ⟨gb194, 5, none⟩ = some (.string a0_5) ∧ w'.cell? ⟨gb194, 6, none⟩ = some (.int .i64 a0_6) ∧ w'.cell? ⟨gb194, 7, none⟩ = some (.int .i64 a0_7) ∧ w'.cell? ⟨gb194, 8, none⟩ = some (.string a0_8)) ∧ (w'.heap[gb194]? = some (.cells #[.int .i64 a0_0, .int .u64 a0_1, .slice A0_2 l0_2.length c0_2, .slice A0_3 l0_3.length c0_3, .slice A0_4 l0_4.length c0_4, .string a0_5, .int .i64 a0_6, .int .i64 a0_7, .string a0_8] 34 (0, 0))) ∧ (Below w.heap.size w w')) ?_ ?_
          rotate_left
          ·intro hJ7_11_15_21
           refine join_ (σ := Value) 7 #[true, true, true, true, true, true, true, true, true, true, true, false, false, true, true, false, false, true, true, true, true, false, false, false] (fun s_ => [(8, s_), (9, .string (strOfNums y195)), (12, .string t198), (13, .string ((strOfNums y195) ++ t198))]) (fun s_ w' => (w'.cell? ⟨gb194, 0, none⟩ = some (.int .i64 a0_0) ∧ w'.cell? ⟨gb194, 1, none⟩ = some (.int .u64 a0_1) ∧ w'.cell? ⟨gb194, 2, none⟩ = some (.slice A0_2 l0_2.length c0_2) ∧ w'.cell? ⟨gb194, 3, none⟩ = some (.slice A0_3 l0_3.length c0_3) ∧ w'.cell? ⟨gb194, 4, none⟩ = some (.slice A0_4 l0_4.length c0_4) ∧ w'.cell? ⟨gb194, 5, none⟩ = some (.string a0_5) ∧ w'.cell? ⟨gb194, 6, none⟩ = some (.int .i64 a0_6) ∧ w'.cell? ⟨gb194, 7, none⟩ = some (.int .i64 a0_7) ∧ w'.cell? ⟨gb194, 8, none⟩ = some (.string a0_8)) ∧ (Kd.R (Kd.int .u8) 5 w' w.heap.size (fun _ => True) s_ y195) ∧ (w'.heap[gb194]? = some (.cells #[.int .i64 a0_0, .int .u64 a0_1, .slice A0_2 l0_2.length c0_2, .slice A0_3 l0_3.length c0_3, .slice A0_4 l0_4.length c0_4, .string a0_5, .int .i64 a0_6, .int .i64 a0_7, .string a0_8] 34 (0, 0))) ∧ (Below w.heap.size w w')) ?_ ?_
           rotate_left
           ·intro hJ3_4_7
            refine join_ (σ := Value) 8 #[true, true, true, true, false, true, true, true, false, true, true, true, false, true, true, false, false, true, true, true, true, false, false, false] (fun s_ => [(8, s_), (12, .string t198), (16, .string t199)]) (fun s_ w' => (w'.cell? ⟨gb194, 0, none⟩ = some (.int .i64 a0_0) ∧ w'.cell? ⟨gb194, 1, none⟩ = some (.int .u64 a0_1) ∧ w'.cell? ⟨gb194, 2, none⟩ = some (.slice A0_2 l0_2.length c0_2) ∧ w'.cell? ⟨gb194, 3, none⟩ = some (.slice A0_3 l0_3.length c0_3) ∧ w'.cell? ⟨gb194, 4, none⟩ = some (.slice A0_4 l0_4.length c0_4) ∧ w'.cell? ⟨gb194, 5, none⟩ = some (.string a0_5) ∧ w'.cell? ⟨gb194, 6, none⟩ = some (.int .i64 a0_6) ∧ w'.cell? ⟨gb194, 7, none⟩ = some (.int .i64 a0_7) ∧ w'.cell? ⟨gb194, 8, none⟩ = some (.string a0_8)) ∧ (Kd.R (Kd.int .u8) 5 w' w.heap.size (fun _ => True) s_ y195) ∧ (w'.heap[gb194]? = some (.cells #[.int .i64 a0_0, .int .u64 a0_1, .slice A0_2 l0_2.length c0_2, .slice A0_3 l0_3.length c0_3, .slice A0_4 l0_4.length c0_4, .string a0_5, .int .i64 a0_6, .int .i64 a0_7, .string a0_8] 34 (0, 0))) ∧ (Below w.heap.size w w')) ?_ ?_
            rotate_left
            ·intro hJ3_7_11
             refine join_ (σ := Unit) 8 #[true, true, true, false, false, true, true, true, false, true, true, true, false, true, true, true, false, true, true, true, true, false, false, false] (fun s_ => [(12, .string t198), (16, .string t199), (20, .string t200)]) (fun s_ w' => (w'.cell? ⟨gb194, 0, none⟩ = some (.int .i64 a0_0) ∧ w'.cell? ⟨gb194, 1, none⟩ = some (.int .u64 a0_1) ∧ w'.cell? ⟨gb194, 2, none⟩ = some (.slice A0_2 l0_2.length c0_2) ∧ w'.cell? ⟨gb194, 3, none⟩ = some (.slice A0_3 l0_3.length c0_3) ∧ w'.cell? ⟨gb194, 4, none⟩ = some (.slice A0_4 l0_4.length c0_4) ∧ w'.cell? ⟨gb194, 5, none⟩ = some (.string a0_5) ∧ w'.cell? ⟨gb194, 6, none⟩ = some (.int .i64 a0_6) ∧ w'.cell? ⟨gb194, 7, none⟩ = some (.int .i64 a0_7) ∧ w'.cell? ⟨gb194, 8, none⟩ = some (.string a0_8)) ∧ (w'.heap[gb194]? = some (.cells #[.int .i64 a0_0, .int .u64 a0_1, .slice A0_2 l0_2.length c0_2, .slice A0_3 l0_3.length c0_3, .slice A0_4 l0_4.length c0_4, .string a0_5, .int .i64 a0_6, .int .i64 a0_7, .string a0_8] 34 (0, 0))) ∧ (Below w.heap.size w w')) ?_ ?_
             rotate_left
             ·intro hJ7_11_15
              refine join_ (σ := Value) 9 #[true, true, true, true, true, true, true, false, false, true, true, false, false, true, true, false, false, true, true, true, true, false, false, false] (fun s_ => [(8, s_), (9, .string (strOfNums y195))]) (fun s_ w' => (w'.cell? ⟨gb194, 0, none⟩ = some (.int .i64 a0_0) ∧ w'.cell? ⟨gb194, 1, none⟩ = some (.int .u64 a0_1) ∧ w'.cell? ⟨gb194, 2, none⟩ = some (.slice A0_2 l0_2.length c0_2) ∧ w'.cell? ⟨gb194, 3, none⟩ = some (.slice A0_3 l0_3.length c0_3) ∧ w'.cell? ⟨gb194, 4, none⟩ = some (.slice A0_4 l0_4.length c0_4) ∧ w'.cell? ⟨gb194, 5, none⟩ = some (.string a0_5) ∧ w'.cell? ⟨gb194, 6, none⟩ = some (.int .i64 a0_6) ∧ w'.cell? ⟨gb194, 7, none⟩ = some (.int .i64 a0_7) ∧ w'.cell? ⟨gb194, 8, none⟩ = some (.string a0_8)) ∧ (Kd.R (Kd.int .u8) 5 w' w.heap.size (fun _ => True) s_ y195) ∧ (w'.heap[gb194]? = some (.cells #[.int .i64 a0_0, .int .u64 a0_1, .slice A0_2 l0_2.length c0_2, .slice A0_3 l0_3.length c0_3, .slice A0_4 l0_4.length c0_4, .string a0_5, .int .i64 a0_6, .int .i64 a0_7, .string a0_8] 34 (0, 0))) ∧ (Below w.heap.size w w')) ?_ ?_
              rotate_left
              ·intro hJ3_4
               refine join_ (σ := Value) 9 #[true, true, true, true, false, true, true, true, false, true, true, false, false, true, true, false, false, true, true, true, true, false, false, false] (fun s_ => [(8, s_), (12, .string t198)]) (fun s_ w' => (w'.cell? ⟨gb194, 0, none⟩ = some (.int .i64 a0_0) ∧ w'.cell? ⟨gb194, 1, none⟩ = some (.int .u64 a0_1) ∧ w'.cell? ⟨gb194, 2, none⟩ = some (.slice A0_2 l0_2.length c0_2) ∧ w'.cell? ⟨gb194, 3, none⟩ = some (.slice A0_3 l0_3.length c0_3) ∧ w'.cell? ⟨gb194, 4, none⟩ = some (.slice A0_4 l0_4.length c0_4) ∧ w'.cell? ⟨gb194, 5, none⟩ = some (.string a0_5) ∧ w'.cell? ⟨gb194, 6, none⟩ = some (.int .i64 a0_6) ∧ w'.cell? ⟨gb194, 7, none⟩ = some (.int .i64 a0_7) ∧ w'.cell? ⟨gb194, 8, none⟩ = some (.string a0_8)) ∧ (Kd.R (Kd.int .u8) 5 w' w.heap.size (fun _ => True) s_ y195) ∧ (w'.heap[gb194]? = some (.cells #[.int .i64 a0_0, .int .u64 a0_1, .slice A0_2 l0_2.length c0_2, .slice A0_3 l0_3.length c0_3, .slice A0_4 l0_4.length c0_4, .string a0_5, .int .i64 a0_6, .int .i64 a0_7, .string a0_8] 34 (0, 0))) ∧ (Below w.heap.size w w')) ?_ ?_
               rotate_left
               ·intro hJ3_7
                refine join_ (σ := Unit) 9 #[true, true, true, false, false, true, true, true, false, true, true, true, false, true, true, false, false, true, true, true, true, false, false, false] (fun s_ => [(12, .string t198), (16, .string t199)]) (fun s_ w' => (w'.cell? ⟨gb194, 0, none⟩ = some (.int .i64 a0_0) ∧ w'.cell? ⟨gb194, 1, none⟩ = some (.int .u64 a0_1) ∧ w'.cell? ⟨gb194, 2, none⟩ = some (.slice A0_2 l0_2.length c0_2) ∧ w'.cell? ⟨gb194, 3, none⟩ = some (.slice A0_3 l0_3.length c0_3) ∧ w'.cell? ⟨gb194, 4, none⟩ = some (.slice A0_4 l0_4.length c0_4) ∧ w'.cell? ⟨gb194, 5, none⟩ = some (.string a0_5) ∧ w'.cell? ⟨gb194, 6, none⟩ = some (.int .i64 a0_6) ∧ w'.cell? ⟨gb194, 7, none⟩ = some (.int .i64 a0_7) ∧ w'.cell? ⟨gb194, 8, none⟩ = some (.string a0_8)) ∧ (w'.heap[gb194]? = some (.cells #[.int .i64 a0_0, .int .u64 a0_1, .slice A0_2 l0_2.length c0_2, .slice A0_3 l0_3.length c0_3, .slice A0_4 l0_4.length c0_4, .string a0_5, .int .i64 a0_6, .int .i64 a0_7, .string a0_8] 34 (0, 0))) ∧ (Below w.heap.size w w')) ?_ ?_
                rotate_left
                ·intro hJ7_11
                 refine join_ (σ := Value) 10 #[true, true, true, true, false, true, true, false, false, true, true, false, false, true, true, false, false, true, true, true, true, false, false, false] (fun s_ => [(8, s_)]) (fun s_ w' => (w'.cell? ⟨gb194, 0, none⟩ = some (.int .i64 a0_0) ∧ w'.cell? ⟨gb194, 1, none⟩ = some (.int .u64 a0_1) ∧ w'.cell? ⟨gb194, 2, none⟩ = some (.slice A0_2 l0_2.length c0_2) ∧ w'.cell? ⟨gb194, 3, none⟩ = some (.slice A0_3 l0_3.length c0_3) ∧ w'.cell? ⟨gb194, 4, none⟩ = some (.slice A0_4 l0_4.length c0_4) ∧ w'.cell? ⟨gb194, 5, none⟩ = some (.string a0_5) ∧ w'.cell? ⟨gb194, 6, none⟩ = some (.int .i64 a0_6) ∧ w'.cell? ⟨gb194, 7, none⟩ = some (.int .i64 a0_7) ∧ w'.cell? ⟨gb194, 8, none⟩ = some (.string a0_8)) ∧ (Kd.R (Kd.int .u8) 5 w' w.heap.size (fun _ => True) s_ y195) ∧ (w'.heap[gb194]? = some (.cells #[.int .i64 a0_0, .int .u64 a0_1, .slice A0_2 l0_2.length c0_2, .slice A0_3 l0_3.length c0_3, .slice A0_4 l0_4.length c0_4, .string a0_5, .int .i64 a0_6, .int .i64 a0_7, .string a0_8] 34 (0, 0))) ∧ (Below w.heap.size w w')) ?_ ?_
                 rotate_left
                 ·intro hJ3
                  refine join_ (σ := Unit) 10 #[true, true, true, false, false, true, true, true, false, true, true, false, false, true, true, false, false, true, true, true, true, false, false, false] (fun s_ => [(12, .string t198)]) (fun s_ w' => (w'.cell? ⟨gb194, 0, none⟩ = some (.int .i64 a0_0) ∧ w'.cell? ⟨gb194, 1, none⟩ = some (.int .u64 a0_1) ∧ w'.cell? ⟨gb194, 2, none⟩ = some (.slice A0_2 l0_2.length c0_2) ∧ w'.cell? ⟨gb194, 3, none⟩ = some (.slice A0_3 l0_3.length c0_3) ∧ w'.cell? ⟨gb194, 4, none⟩ = some (.slice A0_4 l0_4.length c0_4) ∧ w'.cell? ⟨gb194, 5, none⟩ = some (.string a0_5) ∧ w'.cell? ⟨gb194, 6, none⟩ = some (.int .i64 a0_6) ∧ w'.cell? ⟨gb194, 7, none⟩ = some (.int .i64 a0_7) ∧ w'.cell? ⟨gb194, 8, none⟩ = some (.string a0_8)) ∧ (w'.heap[gb194]? = some (.cells #[.int .i64 a0_0, .int .u64 a0_1, .slice A0_2 l0_2.length c0_2, .slice A0_3 l0_3.length c0_3, .slice A0_4 l0_4.length c0_4, .string a0_5, .int .i64 a0_6, .int .i64 a0_7, .string a0_8] 34 (0, 0))) ∧ (Below w.heap.size w w')) ?_ ?_
                  rotate_left
                  ·intro hJ7
                   refine two_ (i := 3) (j := 7) (Ni := some 8) (Nj := some 12) #[true, true, true, true, false, true, true, false, false, true, true, false, false, true, true, false, false, true, true, true, true, false, false, false] #[true, true, true, false, false, true, true, true, false, true, true, false, false, true, true, false, false, true, true, true, true, false, false, false] rfl rfl rfl rfl (two_of HT_.out (by kernel_rfl)) (by decide) (by decide) (fun K hK => ?_) (fun K hK => ?_)
                   ·skip
                    refine Kd.z2l (Kd.int .u8) _ 5 ?hg (N := 8) ?hd (xs := ([(a0_0) % 256] : List Int)) (inner := [.int .u8 ((a0_0) % 256)]) (ok := fun _ => True) (okp := fun _ => True) ?hr ?hp (fun _ hk => hk) trivial (Below.refl _ _) (Nat.le_refl _) (by simp) ?_; (case hd => rfl); (case hg => rfl); (case hr => first | (go_simp; done) | (go_simp; rfl)); (case hp => exact (Reps.one (show Kd.M (Kd.int .u8) _ _ _ ((a0_0) % 256) [.int .u8 ((a0_0) % 256)] from rfl) (Reps.none _ _)))
                    intro v196 w12 ho13 hb hg_ hnew_
                    clear hg_ hnew_
                    (first | rw [← Ny195.out] at ho13 | (simp only [Int.reduceToNat] at ho13; rw [← Ny195.out] at ho13))
                    have n0_ := z01.mk (Kd.z20 ho13 (z18 (by repeat (first | (with_reducible first | exact HB.out | apply z03 | apply z05 | apply z04 | refine z08 ?_ GE194.out) | exact HB.out))))
                    have n1_ := z01.mk (z0m (g := gb194) (o := .cells #[.int .i64 a0_0, .int .u64 a0_1, .slice A0_2 l0_2.length c0_2, .slice A0_3 l0_3.length c0_3, .slice A0_4 l0_4.length c0_4, .string a0_5, .int .i64 a0_6, .int .i64 a0_7, .string a0_8] 34 (0, 0)) (by (with_reducible repeat (first | refine z0c ?_ _ | refine z09 ?_ | refine z0a ?_ _)); exact BK194.out) hb)
                    have n2_ := z01.mk (z0i (by repeat (first | (with_reducible first | exact HB.out | apply z03 | apply z05 | apply z04 | refine z08 ?_ GE194.out) | exact HB.out)) hb)
                    clear BK194
                    clear HB
                    have HO197 := n0_
                    have BK194 := n1_
                    have HB := n2_
                    clear n0_ n1_ n2_
                    clear hb ho13
                    refine hK.out _ _ ⟨(z00 BK194.out 0).trans rfl, (z00 BK194.out 1).trans rfl, (z00 BK194.out 2).trans rfl, (z00 BK194.out 3).trans rfl, (z00 BK194.out 4).trans rfl, (z00 BK194.out 5).trans rfl, (z00 BK194.out 6).trans rfl, (z00 BK194.out 7).trans rfl, (z00 BK194.out 8).trans rfl⟩ (fun hHeld => ?_)
                    clear hK K
                    refine z0b (a' := ?_) ?_ ?_
                    rotate_left
                    ·show Act.put _ (some 8) _ = _
                     simp only [Act.put, q1, q2, q3, z06, z07]
                     rfl
                    exact z0b (by first | (simp only [putAll, Act.put, q1, q2, q3]; done) | (simp only [putAll, Act.put, q1, q2, q3]; rfl)) (hJ3 (v196) _ ⟨hHeld, (by (with_reducible repeat (first | apply Kd.z0p | apply Kd.z0r | apply Kd.z0q)); exact HO197.out), (by (with_reducible repeat (first | refine z0c ?_ _ | refine z09 ?_ | refine z0a ?_ _)); exact BK194.out), (by repeat (first | (with_reducible first | exact HB.out | apply z03 | apply z05 | apply z04 | refine z08 ?_ GE194.out) | exact HB.out))⟩)
                   ·skip
                    refine z13 Try.func51 (by kernel_rfl) rfl #[.int .u64 a0_1] (by rfl) rfl rfl (by (try simp only [List.map_toArray, List.map_cons, List.map_nil]); first | done | rfl | (simp only [List.length_drop, List.length_take]; rfl)) ?_
                    with_reducible refine (z0j.calls a0_1 t198 _ A2.out).mono ?_
                    rintro e w12 ⟨rfl, hb⟩
                    refine ⟨_, rfl, ?_⟩
                    have n0_ := z01.mk (z0m (g := gb194) (o := .cells #[.int .i64 a0_0, .int .u64 a0_1, .slice A0_2 l0_2.length c0_2, .slice A0_3 l0_3.length c0_3, .slice A0_4 l0_4.length c0_4, .string a0_5, .int .i64 a0_6, .int .i64 a0_7, .string a0_8] 34 (0, 0)) (by (with_reducible repeat (first | refine z0c ?_ _ | refine z09 ?_ | refine z0a ?_ _)); exact BK194.out) hb)
                    have n1_ := z01.mk (z0i (by repeat (first | (with_reducible first | exact HB.out | apply z03 | apply z05 | apply z04 | refine z08 ?_ GE194.out) | exact HB.out)) hb)
                    clear BK194
                    clear HB
                    have BK194 := n0_
                    have HB := n1_
                    clear n0_ n1_
                    (try clear hb)
                    (try clear hb2)
                    (try clear hk)
                    (try clear hi)
                    refine hK.out _ _ ⟨(z00 BK194.out 0).trans rfl, (z00 BK194.out 1).trans rfl, (z00 BK194.out 2).trans rfl, (z00 BK194.out 3).trans rfl, (z00 BK194.out 4).trans rfl, (z00 BK194.out 5).trans rfl, (z00 BK194.out 6).trans rfl, (z00 BK194.out 7).trans rfl, (z00 BK194.out 8).trans rfl⟩ (fun hHeld => ?_)
                    clear hK K
                    refine z0b (a' := ?_) ?_ ?_
                    rotate_left
                    ·show Act.put _ (some 12) _ = _
                     simp only [Act.put, q1, q2, q3, z06, z07]
                     rfl
                    exact z0b (by first | (simp only [putAll, Act.put, q1, q2, q3]; done) | (simp only [putAll, Act.put, q1, q2, q3]; rfl)) (hJ7 () _ ⟨hHeld, (by (with_reducible repeat (first | refine z0c ?_ _ | refine z09 ?_ | refine z0a ?_ _)); exact BK194.out), (by repeat (first | (with_reducible first | exact HB.out | apply z03 | apply z05 | apply z04 | refine z08 ?_ GE194.out) | exact HB.out))⟩)
                  ·skip
                   rintro _ w13 ⟨hS_, h0_, h1_⟩
                   have n0_ : z01 (w13.heap[gb194]? = some (.cells #[.int .i64 a0_0, .int .u64 a0_1, .slice A0_2 l0_2.length c0_2, .slice A0_3 l0_3.length c0_3, .slice A0_4 l0_4.length c0_4, .string a0_5, .int .i64 a0_6, .int .i64 a0_7, .string a0_8] 34 (0, 0))) := ⟨h0_⟩
                   have n1_ : z01 (Below w.heap.size w w13) := ⟨h1_⟩
                   clear BK194
                   clear HB
                   clear h0_ h1_
                   have BK194 := n0_
                   have HB := n1_
                   clear n0_ n1_
                   have hHeld : w13.cell? ⟨gb194, 0, none⟩ = some (.int .i64 a0_0) ∧ w13.cell? ⟨gb194, 1, none⟩ = some (.int .u64 a0_1) ∧ w13.cell? ⟨gb194, 2, none⟩ = some (.slice A0_2 l0_2.length c0_2) ∧ w13.cell? ⟨gb194, 3, none⟩ = some (.slice A0_3 l0_3.length c0_3) ∧ w13.cell? ⟨gb194, 4, none⟩ = some (.slice A0_4 l0_4.length c0_4) ∧ w13.cell? ⟨gb194, 5, none⟩ = some (.string a0_5) ∧ w13.cell? ⟨gb194, 6, none⟩ = some (.int .i64 a0_6) ∧ w13.cell? ⟨gb194, 7, none⟩ = some (.int .i64 a0_7) ∧ w13.cell? ⟨gb194, 8, none⟩ = some (.string a0_8) := hS_
                   refine z0b (a' := ?_) ?_ ?_
                   rotate_left
                   ·simp only [putAll, Act.put, q1, q2, q3]
                    rfl
                   refine two_ (i := 3) (j := 11) (Ni := some 8) (Nj := some 16) #[true, true, true, true, false, true, true, true, false, true, true, false, false, true, true, false, false, true, true, true, true, false, false, false] #[true, true, true, false, false, true, true, true, false, true, true, true, false, true, true, false, false, true, true, true, true, false, false, false] rfl rfl rfl rfl (two_of HT_.out (by kernel_rfl)) (by decide) (by decide) (fun K hK => ?_) (fun K hK => ?_)
                   ·skip
                    refine Kd.z2l (Kd.int .u8) _ 5 ?hg (N := 8) ?hd (xs := ([(a0_0) % 256] : List Int)) (inner := [.int .u8 ((a0_0) % 256)]) (ok := fun _ => True) (okp := fun _ => True) ?hr ?hp (fun _ hk => hk) trivial (Below.refl _ _) (Nat.le_refl _) (by simp) ?_; (case hd => rfl); (case hg => rfl); (case hr => first | (go_simp; done) | (go_simp; rfl)); (case hp => exact (Reps.one (show Kd.M (Kd.int .u8) _ _ _ ((a0_0) % 256) [.int .u8 ((a0_0) % 256)] from rfl) (Reps.none _ _)))
                    intro v196 w14 ho15 hb hg_ hnew_
                    clear hg_ hnew_
                    (first | rw [← Ny195.out] at ho15 | (simp only [Int.reduceToNat] at ho15; rw [← Ny195.out] at ho15))
                    have n0_ := z01.mk (Kd.z20 ho15 (z18 (by repeat (first | (with_reducible first | exact HB.out | apply z03 | apply z05 | apply z04 | refine z08 ?_ GE194.out) | exact HB.out))))
                    have n1_ := z01.mk (z0m (g := gb194) (o := .cells #[.int .i64 a0_0, .int .u64 a0_1, .slice A0_2 l0_2.length c0_2, .slice A0_3 l0_3.length c0_3, .slice A0_4 l0_4.length c0_4, .string a0_5, .int .i64 a0_6, .int .i64 a0_7, .string a0_8] 34 (0, 0)) (by (with_reducible repeat (first | refine z0c ?_ _ | refine z09 ?_ | refine z0a ?_ _)); exact BK194.out) hb)
                    have n2_ := z01.mk (z0i (by repeat (first | (with_reducible first | exact HB.out | apply z03 | apply z05 | apply z04 | refine z08 ?_ GE194.out) | exact HB.out)) hb)
                    clear BK194
                    clear HB
                    have HO197 := n0_
                    have BK194 := n1_
                    have HB := n2_
                    clear n0_ n1_ n2_
                    clear hb ho15
                    refine hK.out _ _ ⟨(z00 BK194.out 0).trans rfl, (z00 BK194.out 1).trans rfl, (z00 BK194.out 2).trans rfl, (z00 BK194.out 3).trans rfl, (z00 BK194.out 4).trans rfl, (z00 BK194.out 5).trans rfl, (z00 BK194.out 6).trans rfl, (z00 BK194.out 7).trans rfl, (z00 BK194.out 8).trans rfl⟩ (fun hHeld => ?_)
                    clear hK K
                    refine z0b (a' := ?_) ?_ ?_
                    rotate_left
                    ·show Act.put _ (some 8) _ = _
                     simp only [Act.put, q1, q2, q3, z06, z07]
                     rfl
                    exact z0b (by first | (simp only [putAll, Act.put, q1, q2, q3]; done) | (simp only [putAll, Act.put, q1, q2, q3]; rfl)) (hJ3_7 (v196) _ ⟨hHeld, (by (with_reducible repeat (first | apply Kd.z0p | apply Kd.z0r | apply Kd.z0q)); exact HO197.out), (by (with_reducible repeat (first | refine z0c ?_ _ | refine z09 ?_ | refine z0a ?_ _)); exact BK194.out), (by repeat (first | (with_reducible first | exact HB.out | apply z03 | apply z05 | apply z04 | refine z08 ?_ GE194.out) | exact HB.out))⟩)
                   ·skip
                    refine z13 Try.func52 (by kernel_rfl) rfl #[.slice A0_2 l0_2.length c0_2] (by rfl) rfl rfl (by (try simp only [List.map_toArray, List.map_cons, List.map_nil]); first | done | rfl | (simp only [List.length_drop, List.length_take]; rfl)) ?_
                    with_reducible refine (z10.calls k _ _ l0_2 t199 _ ?side1 ?side2 A4.out).mono ?_
                    (case side1 => repeat (first | exact (Kd.z12 HR0_2.out HB.out) | (with_reducible refine Kd.z1b ?_ _) | (with_reducible refine Kd.z1d ?_ _) | (with_reducible refine Kd.z1c ?_)))
                    (case side2 => exact HC0_2.out)
                    rintro e w14 ⟨rfl, hb⟩
                    refine ⟨_, rfl, ?_⟩
                    have n0_ := z01.mk (z0m (g := gb194) (o := .cells #[.int .i64 a0_0, .int .u64 a0_1, .slice A0_2 l0_2.length c0_2, .slice A0_3 l0_3.length c0_3, .slice A0_4 l0_4.length c0_4, .string a0_5, .int .i64 a0_6, .int .i64 a0_7, .string a0_8] 34 (0, 0)) (by (with_reducible repeat (first | refine z0c ?_ _ | refine z09 ?_ | refine z0a ?_ _)); exact BK194.out) hb)
                    have n1_ := z01.mk (z0i (by repeat (first | (with_reducible first | exact HB.out | apply z03 | apply z05 | apply z04 | refine z08 ?_ GE194.out) | exact HB.out)) hb)
                    clear BK194
                    clear HB
                    have BK194 := n0_
                    have HB := n1_
                    clear n0_ n1_
                    (try clear hb)
                    (try clear hb2)
                    (try clear hk)
                    (try clear hi)
                    refine hK.out _ _ ⟨(z00 BK194.out 0).trans rfl, (z00 BK194.out 1).trans rfl, (z00 BK194.out 2).trans rfl, (z00 BK194.out 3).trans rfl, (z00 BK194.out 4).trans rfl, (z00 BK194.out 5).trans rfl, (z00 BK194.out 6).trans rfl, (z00 BK194.out 7).trans rfl, (z00 BK194.out 8).trans rfl⟩ (fun hHeld => ?_)
                    clear hK K
                    refine z0b (a' := ?_) ?_ ?_
                    rotate_left
                    ·show Act.put _ (some 16) _ = _
                     simp only [Act.put, q1, q2, q3, z06, z07]
                     rfl
                    exact z0b (by first | (simp only [putAll, Act.put, q1, q2, q3]; done) | (simp only [putAll, Act.put, q1, q2, q3]; rfl)) (hJ7_11 () _ ⟨hHeld, (by (with_reducible repeat (first | refine z0c ?_ _ | refine z09 ?_ | refine z0a ?_ _)); exact BK194.out), (by repeat (first | (with_reducible first | exact HB.out | apply z03 | apply z05 | apply z04 | refine z08 ?_ GE194.out) | exact HB.out))⟩)
                 ·skip
                  rintro v196 w14 ⟨hS_, h0_, h1_, h2_⟩
                  have n0_ : z01 (Kd.R (Kd.int .u8) 5 w14 w.heap.size (fun _ => True) v196 y195) := ⟨h0_⟩
                  have n1_ : z01 (w14.heap[gb194]? = some (.cells #[.int .i64 a0_0, .int .u64 a0_1, .slice A0_2 l0_2.length c0_2, .slice A0_3 l0_3.length c0_3, .slice A0_4 l0_4.length c0_4, .string a0_5, .int .i64 a0_6, .int .i64 a0_7, .string a0_8] 34 (0, 0))) := ⟨h1_⟩
                  have n2_ : z01 (Below w.heap.size w w14) := ⟨h2_⟩
                  clear BK194
                  clear HB
                  clear h0_ h1_ h2_
                  have HO197 := n0_
                  have BK194 := n1_
                  have HB := n2_
                  clear n0_ n1_ n2_
                  have hHeld : w14.cell? ⟨gb194, 0, none⟩ = some (.int .i64 a0_0) ∧ w14.cell? ⟨gb194, 1, none⟩ = some (.int .u64 a0_1) ∧ w14.cell? ⟨gb194, 2, none⟩ = some (.slice A0_2 l0_2.length c0_2) ∧ w14.cell? ⟨gb194, 3, none⟩ = some (.slice A0_3 l0_3.length c0_3) ∧ w14.cell? ⟨gb194, 4, none⟩ = some (.slice A0_4 l0_4.length c0_4) ∧ w14.cell? ⟨gb194, 5, none⟩ = some (.string a0_5) ∧ w14.cell? ⟨gb194, 6, none⟩ = some (.int .i64 a0_6) ∧ w14.cell? ⟨gb194, 7, none⟩ = some (.int .i64 a0_7) ∧ w14.cell? ⟨gb194, 8, none⟩ = some (.string a0_8) := hS_
                  refine z0b (a' := ?_) ?_ ?_
                  rotate_left
                  ·simp only [putAll, Act.put, q1, q2, q3]
                   rfl
                  refine two_ (i := 4) (j := 7) (Ni := some 9) (Nj := some 12) #[true, true, true, true, true, true, true, false, false, true, true, false, false, true, true, false, false, true, true, true, true, false, false, false] #[true, true, true, true, false, true, true, true, false, true, true, false, false, true, true, false, false, true, true, true, true, false, false, false] rfl rfl rfl rfl (two_of HT_.out (by kernel_rfl)) (by decide) (by decide) (fun K hK => ?_) (fun K hK => ?_)
                  ·skip
                   have hcv15 := z2e (P := Try.prog) Try.underlying46 Try.underlying5 Try.underlying9 (Kd.z2f HO197.out)
                   refine value_ (w1 := ?_) (v := ?_) (by rfl) rfl ?_ ?_
                   rotate_left 2
                   ·go_simp
                    constructor
                    ·rfl
                    ·rfl
                   clear hcv15
                   refine hK.out _ _ ⟨(z00 BK194.out 0).trans rfl, (z00 BK194.out 1).trans rfl, (z00 BK194.out 2).trans rfl, (z00 BK194.out 3).trans rfl, (z00 BK194.out 4).trans rfl, (z00 BK194.out 5).trans rfl, (z00 BK194.out 6).trans rfl, (z00 BK194.out 7).trans rfl, (z00 BK194.out 8).trans rfl⟩ (fun hHeld => ?_)
                   clear hK K
                   refine z0b (a' := ?_) ?_ ?_
                   rotate_left
                   ·show Act.put _ (some 9) _ = _
                    simp only [Act.put, q1, q2, q3, z06, z07]
                    rfl
                   exact z0b (by first | (simp only [putAll, Act.put, q1, q2, q3]; done) | (simp only [putAll, Act.put, q1, q2, q3]; rfl)) (hJ3_4 (v196) _ ⟨hHeld, (by (with_reducible repeat (first | apply Kd.z0p | apply Kd.z0r | apply Kd.z0q)); exact HO197.out), (by (with_reducible repeat (first | refine z0c ?_ _ | refine z09 ?_ | refine z0a ?_ _)); exact BK194.out), (by repeat (first | (with_reducible first | exact HB.out | apply z03 | apply z05 | apply z04 | refine z08 ?_ GE194.out) | exact HB.out))⟩)
                  ·skip
                   refine z13 Try.func51 (by kernel_rfl) rfl #[.int .u64 a0_1] (by rfl) rfl rfl (by (try simp only [List.map_toArray, List.map_cons, List.map_nil]); first | done | rfl | (simp only [List.length_drop, List.length_take]; rfl)) ?_
                   with_reducible refine (z0j.calls a0_1 t198 _ A2.out).mono ?_
                   rintro e w15 ⟨rfl, hb⟩
                   refine ⟨_, rfl, ?_⟩
                   have n0_ := z01.mk (Kd.z1p (by (with_reducible repeat (first | apply Kd.z0p | apply Kd.z0r | apply Kd.z0q)); exact HO197.out) hb)
                   have n1_ := z01.mk (z0m (g := gb194) (o := .cells #[.int .i64 a0_0, .int .u64 a0_1, .slice A0_2 l0_2.length c0_2, .slice A0_3 l0_3.length c0_3, .slice A0_4 l0_4.length c0_4, .string a0_5, .int .i64 a0_6, .int .i64 a0_7, .string a0_8] 34 (0, 0)) (by (with_reducible repeat (first | refine z0c ?_ _ | refine z09 ?_ | refine z0a ?_ _)); exact BK194.out) hb)
                   have n2_ := z01.mk (z0i (by repeat (first | (with_reducible first | exact HB.out | apply z03 | apply z05 | apply z04 | refine z08 ?_ GE194.out) | exact HB.out)) hb)
                   clear HO197
                   clear BK194
                   clear HB
                   have HO197 := n0_
                   have BK194 := n1_
                   have HB := n2_
                   clear n0_ n1_ n2_
                   (try clear hb)
                   (try clear hb2)
                   (try clear hk)
                   (try clear hi)
                   refine hK.out _ _ ⟨(z00 BK194.out 0).trans rfl, (z00 BK194.out 1).trans rfl, (z00 BK194.out 2).trans rfl, (z00 BK194.out 3).trans rfl, (z00 BK194.out 4).trans rfl, (z00 BK194.out 5).trans rfl, (z00 BK194.out 6).trans rfl, (z00 BK194.out 7).trans rfl, (z00 BK194.out 8).trans rfl⟩ (fun hHeld => ?_)
                   clear hK K
                   refine z0b (a' := ?_) ?_ ?_
                   rotate_left
                   ·show Act.put _ (some 12) _ = _
                    simp only [Act.put, q1, q2, q3, z06, z07]
                    rfl
                   exact z0b (by first | (simp only [putAll, Act.put, q1, q2, q3]; done) | (simp only [putAll, Act.put, q1, q2, q3]; rfl)) (hJ3_7 (v196) _ ⟨hHeld, (by (with_reducible repeat (first | apply Kd.z0p | apply Kd.z0r | apply Kd.z0q)); exact HO197.out), (by (with_reducible repeat (first | refine z0c ?_ _ | refine z09 ?_ | refine z0a ?_ _)); exact BK194.out), (by repeat (first | (with_reducible first | exact HB.out | apply z03 | apply z05 | apply z04 | refine z08 ?_ GE194.out) | exact HB.out))⟩)
                ·skip
                 rintro _ w14 ⟨hS_, h0_, h1_⟩
                 have n0_ : z01 (w14.heap[gb194]? = some (.cells #[.int .i64 a0_0, .int .u64 a0_1, .slice A0_2 l0_2.length c0_2, .slice A0_3 l0_3.length c0_3, .slice A0_4 l0_4.length c0_4, .string a0_5, .int .i64 a0_6, .int .i64 a0_7, .string a0_8] 34 (0, 0))) := ⟨h0_⟩
                 have n1_ : z01 (Below w.heap.size w w14) := ⟨h1_⟩
                 clear BK194
                 clear HB
                 clear h0_ h1_
                 have BK194 := n0_
                 have HB := n1_
                 clear n0_ n1_
                 have hHeld : w14.cell? ⟨gb194, 0, none⟩ = some (.int .i64 a0_0) ∧ w14.cell? ⟨gb194, 1, none⟩ = some (.int .u64 a0_1) ∧ w14.cell? ⟨gb194, 2, none⟩ = some (.slice A0_2 l0_2.length c0_2) ∧ w14.cell? ⟨gb194, 3, none⟩ = some (.slice A0_3 l0_3.length c0_3) ∧ w14.cell? ⟨gb194, 4, none⟩ = some (.slice A0_4 l0_4.length c0_4) ∧ w14.cell? ⟨gb194, 5, none⟩ = some (.string a0_5) ∧ w14.cell? ⟨gb194, 6, none⟩ = some (.int .i64 a0_6) ∧ w14.cell? ⟨gb194, 7, none⟩ = some (.int .i64 a0_7) ∧ w14.cell? ⟨gb194, 8, none⟩ = some (.string a0_8) := hS_
                 refine z0b (a' := ?_) ?_ ?_
                 rotate_left
                 ·simp only [putAll, Act.put, q1, q2, q3]
                  rfl
                 refine two_ (i := 3) (j := 15) (Ni := some 8) (Nj := some 20) #[true, true, true, true, false, true, true, true, false, true, true, true, false, true, true, false, false, true, true, true, true, false, false, false] #[true, true, true, false, false, true, true, true, false, true, true, true, false, true, true, true, false, true, true, true, true, false, false, false] rfl rfl rfl rfl (two_of HT_.out (by kernel_rfl)) (by decide) (by decide) (fun K hK => ?_) (fun K hK => ?_)
                 ·skip
                  refine Kd.z2l (Kd.int .u8) _ 5 ?hg (N := 8) ?hd (xs := ([(a0_0) % 256] : List Int)) (inner := [.int .u8 ((a0_0) % 256)]) (ok := fun _ => True) (okp := fun _ => True) ?hr ?hp (fun _ hk => hk) trivial (Below.refl _ _) (Nat.le_refl _) (by simp) ?_; (case hd => rfl); (case hg => rfl); (case hr => first | (go_simp; done) | (go_simp; rfl)); (case hp => exact (Reps.one (show Kd.M (Kd.int .u8) _ _ _ ((a0_0) % 256) [.int .u8 ((a0_0) % 256)] from rfl) (Reps.none _ _)))
                  intro v196 w15 ho16 hb hg_ hnew_
                  clear hg_ hnew_
                  (first | rw [← Ny195.out] at ho16 | (simp only [Int.reduceToNat] at ho16; rw [← Ny195.out] at ho16))
                  have n0_ := z01.mk (Kd.z20 ho16 (z18 (by repeat (first | (with_reducible first | exact HB.out | apply z03 | apply z05 | apply z04 | refine z08 ?_ GE194.out) | exact HB.out))))
                  have n1_ := z01.mk (z0m (g := gb194) (o := .cells #[.int .i64 a0_0, .int .u64 a0_1, .slice A0_2 l0_2.length c0_2, .slice A0_3 l0_3.length c0_3, .slice A0_4 l0_4.length c0_4, .string a0_5, .int .i64 a0_6, .int .i64 a0_7, .string a0_8] 34 (0, 0)) (by (with_reducible repeat (first | refine z0c ?_ _ | refine z09 ?_ | refine z0a ?_ _)); exact BK194.out) hb)
                  have n2_ := z01.mk (z0i (by repeat (first | (with_reducible first | exact HB.out | apply z03 | apply z05 | apply z04 | refine z08 ?_ GE194.out) | exact HB.out)) hb)
                  clear BK194
                  clear HB
                  have HO197 := n0_
                  have BK194 := n1_
                  have HB := n2_
                  clear n0_ n1_ n2_
                  clear hb ho16
                  refine hK.out _ _ ⟨(z00 BK194.out 0).trans rfl, (z00 BK194.out 1).trans rfl, (z00 BK194.out 2).trans rfl, (z00 BK194.out 3).trans rfl, (z00 BK194.out 4).trans rfl, (z00 BK194.out 5).trans rfl, (z00 BK194.out 6).trans rfl, (z00 BK194.out 7).trans rfl, (z00 BK194.out 8).trans rfl⟩ (fun hHeld => ?_)
                  clear hK K
                  refine z0b (a' := ?_) ?_ ?_
                  rotate_left
                  ·show Act.put _ (some 8) _ = _
                   simp only [Act.put, q1, q2, q3, z06, z07]
                   rfl
                  exact z0b (by first | (simp only [putAll, Act.put, q1, q2, q3]; done) | (simp only [putAll, Act.put, q1, q2, q3]; rfl)) (hJ3_7_11 (v196) _ ⟨hHeld, (by (with_reducible repeat (first | apply Kd.z0p | apply Kd.z0r | apply Kd.z0q)); exact HO197.out), (by (with_reducible repeat (first | refine z0c ?_ _ | refine z09 ?_ | refine z0a ?_ _)); exact BK194.out), (by repeat (first | (with_reducible first | exact HB.out | apply z03 | apply z05 | apply z04 | refine z08 ?_ GE194.out) | exact HB.out))⟩)
                 ·skip
                  refine z13 Try.func52 (by kernel_rfl) rfl #[.slice A0_3 l0_3.length c0_3] (by rfl) rfl rfl (by (try simp only [List.map_toArray, List.map_cons, List.map_nil]); first | done | rfl | (simp only [List.length_drop, List.length_take]; rfl)) ?_
                  with_reducible refine (z10.calls k _ _ l0_3 t200 _ ?side1 ?side2 A6.out).mono ?_
                  (case side1 => repeat (first | exact (Kd.z12 HR0_3.out HB.out) | (with_reducible refine Kd.z1b ?_ _) | (with_reducible refine Kd.z1d ?_ _) | (with_reducible refine Kd.z1c ?_)))
                  (case side2 => exact HC0_3.out)
                  rintro e w15 ⟨rfl, hb⟩
                  refine ⟨_, rfl, ?_⟩
                  have n0_ := z01.mk (z0m (g := gb194) (o := .cells #[.int .i64 a0_0, .int .u64 a0_1, .slice A0_2 l0_2.length c0_2, .slice A0_3 l0_3.length c0_3, .slice A0_4 l0_4.length c0_4, .string a0_5, .int .i64 a0_6, .int .i64 a0_7, .string a0_8] 34 (0, 0)) (by (with_reducible repeat (first | refine z0c ?_ _ | refine z09 ?_ | refine z0a ?_ _)); exact BK194.out) hb)
                  have n1_ := z01.mk (z0i (by repeat (first | (with_reducible first | exact HB.out | apply z03 | apply z05 | apply z04 | refine z08 ?_ GE194.out) | exact HB.out)) hb)
                  clear BK194
                  clear HB
                  have BK194 := n0_
                  have HB := n1_
                  clear n0_ n1_
                  (try clear hb)
                  (try clear hb2)
                  (try clear hk)
                  (try clear hi)
                  refine hK.out _ _ ⟨(z00 BK194.out 0).trans rfl, (z00 BK194.out 1).trans rfl, (z00 BK194.out 2).trans rfl, (z00 BK194.out 3).trans rfl, (z00 BK194.out 4).trans rfl, (z00 BK194.out 5).trans rfl, (z00 BK194.out 6).trans rfl, (z00 BK194.out 7).trans rfl, (z00 BK194.out 8).trans rfl⟩ (fun hHeld => ?_)
                  clear hK K
                  refine z0b (a' := ?_) ?_ ?_
                  rotate_left
                  ·show Act.put _ (some 20) _ = _
                   simp only [Act.put, q1, q2, q3, z06, z07]
                   rfl
                  exact z0b (by first | (simp only [putAll, Act.put, q1, q2, q3]; done) | (simp only [putAll, Act.put, q1, q2, q3]; rfl)) (hJ7_11_15 () _ ⟨hHeld, (by (with_reducible repeat (first | refine z0c ?_ _ | refine z09 ?_ | refine z0a ?_ _)); exact BK194.out), (by repeat (first | (with_reducible first | exact HB.out | apply z03 | apply z05 | apply z04 | refine z08 ?_ GE194.out) | exact HB.out))⟩)
               ·skip
                rintro v196 w15 ⟨hS_, h0_, h1_, h2_⟩
                have n0_ : z01 (Kd.R (Kd.int .u8) 5 w15 w.heap.size (fun _ => True) v196 y195) := ⟨h0_⟩
                have n1_ : z01 (w15.heap[gb194]? = some (.cells #[.int .i64 a0_0, .int .u64 a0_1, .slice A0_2 l0_2.length c0_2, .slice A0_3 l0_3.length c0_3, .slice A0_4 l0_4.length c0_4, .string a0_5, .int .i64 a0_6, .int .i64 a0_7, .string a0_8] 34 (0, 0))) := ⟨h1_⟩
                have n2_ : z01 (Below w.heap.size w w15) := ⟨h2_⟩
                clear BK194
                clear HB
                clear h0_ h1_ h2_
                have HO197 := n0_
                have BK194 := n1_
                have HB := n2_
                clear n0_ n1_ n2_
                have hHeld : w15.cell? ⟨gb194, 0, none⟩ = some (.int .i64 a0_0) ∧ w15.cell? ⟨gb194, 1, none⟩ = some (.int .u64 a0_1) ∧ w15.cell? ⟨gb194, 2, none⟩ = some (.slice A0_2 l0_2.length c0_2) ∧ w15.cell? ⟨gb194, 3, none⟩ = some (.slice A0_3 l0_3.length c0_3) ∧ w15.cell? ⟨gb194, 4, none⟩ = some (.slice A0_4 l0_4.length c0_4) ∧ w15.cell? ⟨gb194, 5, none⟩ = some (.string a0_5) ∧ w15.cell? ⟨gb194, 6, none⟩ = some (.int .i64 a0_6) ∧ w15.cell? ⟨gb194, 7, none⟩ = some (.int .i64 a0_7) ∧ w15.cell? ⟨gb194, 8, none⟩ = some (.string a0_8) := hS_
                refine z0b (a' := ?_) ?_ ?_
                rotate_left
                ·simp only [putAll, Act.put, q1, q2, q3]
                 rfl
                refine two_ (i := 4) (j := 11) (Ni := some 9) (Nj := some 16) #[true, true, true, true, true, true, true, true, false, true, true, false, false, true, true, false, false, true, true, true, true, false, false, false] #[true, true, true, true, false, true, true, true, false, true, true, true, false, true, true, false, false, true, true, true, true, false, false, false] rfl rfl rfl rfl (two_of HT_.out (by kernel_rfl)) (by decide) (by decide) (fun K hK => ?_) (fun K hK => ?_)
                ·skip
                 have hcv16 := z2e (P := Try.prog) Try.underlying46 Try.underlying5 Try.underlying9 (Kd.z2f HO197.out)
                 refine value_ (w1 := ?_) (v := ?_) (by rfl) rfl ?_ ?_
                 rotate_left 2
                 ·go_simp
                  constructor
                  ·rfl
                  ·rfl
                 clear hcv16
                 refine hK.out _ _ ⟨(z00 BK194.out 0).trans rfl, (z00 BK194.out 1).trans rfl, (z00 BK194.out 2).trans rfl, (z00 BK194.out 3).trans rfl, (z00 BK194.out 4).trans rfl, (z00 BK194.out 5).trans rfl, (z00 BK194.out 6).trans rfl, (z00 BK194.out 7).trans rfl, (z00 BK194.out 8).trans rfl⟩ (fun hHeld => ?_)
                 clear hK K
                 refine z0b (a' := ?_) ?_ ?_
                 rotate_left
                 ·show Act.put _ (some 9) _ = _
                  simp only [Act.put, q1, q2, q3, z06, z07]
                  rfl
                 refine z0d (i := 8) (N := some 13) (v := ?_) (a' := ?_) #[true, true, true, true, true, true, true, true, true, true, true, false, false, true, true, false, false, true, true, true, true, false, false, false] rfl rfl (z0e HT_.out (by kernel_rfl)) (fun _ _ _ h => h) (Or.inl ⟨by rfl, ?_⟩) ?_ ?_
                 rotate_left
                 ·intro w'
                  go_simp
                  with_reducible rfl
                 rotate_left
                 ·simp only [Act.put, q1, q2, q3, z06, z07]
                  rfl
                 exact z0b (by first | (simp only [putAll, Act.put, q1, q2, q3]; done) | (simp only [putAll, Act.put, q1, q2, q3]; rfl)) (hJ3_4_7 (v196) _ ⟨hHeld, (by (with_reducible repeat (first | apply Kd.z0p | apply Kd.z0r | apply Kd.z0q)); exact HO197.out), (by (with_reducible repeat (first | refine z0c ?_ _ | refine z09 ?_ | refine z0a ?_ _)); exact BK194.out), (by repeat (first | (with_reducible first | exact HB.out | apply z03 | apply z05 | apply z04 | refine z08 ?_ GE194.out) | exact HB.out))⟩)
                ·skip
                 refine z13 Try.func52 (by kernel_rfl) rfl #[.slice A0_2 l0_2.length c0_2] (by rfl) rfl rfl (by (try simp only [List.map_toArray, List.map_cons, List.map_nil]); first | done | rfl | (simp only [List.length_drop, List.length_take]; rfl)) ?_
                 with_reducible refine (z10.calls k _ _ l0_2 t199 _ ?side1 ?side2 A4.out).mono ?_
                 (case side1 => repeat (first | exact (Kd.z12 HR0_2.out HB.out) | (with_reducible refine Kd.z1b ?_ _) | (with_reducible refine Kd.z1d ?_ _) | (with_reducible refine Kd.z1c ?_)))
                 (case side2 => exact HC0_2.out)
                 rintro e w16 ⟨rfl, hb⟩
                 refine ⟨_, rfl, ?_⟩
                 have n0_ := z01.mk (Kd.z1p (by (with_reducible repeat (first | apply Kd.z0p | apply Kd.z0r | apply Kd.z0q)); exact HO197.out) hb)
                 have n1_ := z01.mk (z0m (g := gb194) (o := .cells #[.int .i64 a0_0, .int .u64 a0_1, .slice A0_2 l0_2.length c0_2, .slice A0_3 l0_3.length c0_3, .slice A0_4 l0_4.length c0_4, .string a0_5, .int .i64 a0_6, .int .i64 a0_7, .string a0_8] 34 (0, 0)) (by (with_reducible repeat (first | refine z0c ?_ _ | refine z09 ?_ | refine z0a ?_ _)); exact BK194.out) hb)
                 have n2_ := z01.mk (z0i (by repeat (first | (with_reducible first | exact HB.out | apply z03 | apply z05 | apply z04 | refine z08 ?_ GE194.out) | exact HB.out)) hb)
                 clear HO197
                 clear BK194
                 clear HB
                 have HO197 := n0_
                 have BK194 := n1_
                 have HB := n2_
                 clear n0_ n1_ n2_
                 (try clear hb)
                 (try clear hb2)
                 (try clear hk)
                 (try clear hi)
                 refine hK.out _ _ ⟨(z00 BK194.out 0).trans rfl, (z00 BK194.out 1).trans rfl, (z00 BK194.out 2).trans rfl, (z00 BK194.out 3).trans rfl, (z00 BK194.out 4).trans rfl, (z00 BK194.out 5).trans rfl, (z00 BK194.out 6).trans rfl, (z00 BK194.out 7).trans rfl, (z00 BK194.out 8).trans rfl⟩ (fun hHeld => ?_)
                 clear hK K
                 refine z0b (a' := ?_) ?_ ?_
                 rotate_left
                 ·show Act.put _ (some 16) _ = _
                  simp only [Act.put, q1, q2, q3, z06, z07]
                  rfl
                 exact z0b (by first | (simp only [putAll, Act.put, q1, q2, q3]; done) | (simp only [putAll, Act.put, q1, q2, q3]; rfl)) (hJ3_7_11 (v196) _ ⟨hHeld, (by (with_reducible repeat (first | apply Kd.z0p | apply Kd.z0r | apply Kd.z0q)); exact HO197.out), (by (with_reducible repeat (first | refine z0c ?_ _ | refine z09 ?_ | refine z0a ?_ _)); exact BK194.out), (by repeat (first | (with_reducible first | exact HB.out | apply z03 | apply z05 | apply z04 | refine z08 ?_ GE194.out) | exact HB.out))⟩)
              ·skip
               rintro v196 w15 ⟨hS_, h0_, h1_, h2_⟩
               have n0_ : z01 (Kd.R (Kd.int .u8) 5 w15 w.heap.size (fun _ => True) v196 y195) := ⟨h0_⟩
               have n1_ : z01 (w15.heap[gb194]? = some (.cells #[.int .i64 a0_0, .int .u64 a0_1, .slice A0_2 l0_2.length c0_2, .slice A0_3 l0_3.length c0_3, .slice A0_4 l0_4.length c0_4, .string a0_5, .int .i64 a0_6, .int .i64 a0_7, .string a0_8] 34 (0, 0))) := ⟨h1_⟩
               have n2_ : z01 (Below w.heap.size w w15) := ⟨h2_⟩
               clear BK194
               clear HB
               clear h0_ h1_ h2_
               have HO197 := n0_
               have BK194 := n1_
               have HB := n2_
               clear n0_ n1_ n2_
               have hHeld : w15.cell? ⟨gb194, 0, none⟩ = some (.int .i64 a0_0) ∧ w15.cell? ⟨gb194, 1, none⟩ = some (.int .u64 a0_1) ∧ w15.cell? ⟨gb194, 2, none⟩ = some (.slice A0_2 l0_2.length c0_2) ∧ w15.cell? ⟨gb194, 3, none⟩ = some (.slice A0_3 l0_3.length c0_3) ∧ w15.cell? ⟨gb194, 4, none⟩ = some (.slice A0_4 l0_4.length c0_4) ∧ w15.cell? ⟨gb194, 5, none⟩ = some (.string a0_5) ∧ w15.cell? ⟨gb194, 6, none⟩ = some (.int .i64 a0_6) ∧ w15.cell? ⟨gb194, 7, none⟩ = some (.int .i64 a0_7) ∧ w15.cell? ⟨gb194, 8, none⟩ = some (.string a0_8) := hS_
               refine z0b (a' := ?_) ?_ ?_
               rotate_left
               ·simp only [putAll, Act.put, q1, q2, q3]
                rfl
               refine one_ (i := 7) (N := some 12) #[true, true, true, true, true, true, true, true, false, true, true, false, false, true, true, false, false, true, true, true, true, false, false, false] rfl rfl (z19 HT_.out (by kernel_rfl)) (by decide) (fun K hK => ?_)
               refine z13 Try.func51 (by kernel_rfl) rfl #[.int .u64 a0_1] (by rfl) rfl rfl (by (try simp only [List.map_toArray, List.map_cons, List.map_nil]); first | done | rfl | (simp only [List.length_drop, List.length_take]; rfl)) ?_
               with_reducible refine (z0j.calls a0_1 t198 _ A2.out).mono ?_
               rintro e w16 ⟨rfl, hb⟩
               refine ⟨_, rfl, ?_⟩
               have n0_ := z01.mk (Kd.z1p (by (with_reducible repeat (first | apply Kd.z0p | apply Kd.z0r | apply Kd.z0q)); exact HO197.out) hb)
               have n1_ := z01.mk (z0m (g := gb194) (o := .cells #[.int .i64 a0_0, .int .u64 a0_1, .slice A0_2 l0_2.length c0_2, .slice A0_3 l0_3.length c0_3, .slice A0_4 l0_4.length c0_4, .string a0_5, .int .i64 a0_6, .int .i64 a0_7, .string a0_8] 34 (0, 0)) (by (with_reducible repeat (first | refine z0c ?_ _ | refine z09 ?_ | refine z0a ?_ _)); exact BK194.out) hb)
               have n2_ := z01.mk (z0i (by repeat (first | (with_reducible first | exact HB.out | apply z03 | apply z05 | apply z04 | refine z08 ?_ GE194.out) | exact HB.out)) hb)
               clear HO197
               clear BK194
               clear HB
               have HO197 := n0_
               have BK194 := n1_
               have HB := n2_
               clear n0_ n1_ n2_
               (try clear hb)
               (try clear hb2)
               (try clear hk)
               (try clear hi)
               refine hK.out _ _ ⟨(z00 BK194.out 0).trans rfl, (z00 BK194.out 1).trans rfl, (z00 BK194.out 2).trans rfl, (z00 BK194.out 3).trans rfl, (z00 BK194.out 4).trans rfl, (z00 BK194.out 5).trans rfl, (z00 BK194.out 6).trans rfl, (z00 BK194.out 7).trans rfl, (z00 BK194.out 8).trans rfl⟩ (fun hHeld => ?_)
               clear hK K
               refine z0b (a' := ?_) ?_ ?_
               rotate_left
               ·show Act.put _ (some 12) _ = _
                simp only [Act.put, q1, q2, q3, z06, z07]
                rfl
               refine z0d (i := 8) (N := some 13) (v := ?_) (a' := ?_) #[true, true, true, true, true, true, true, true, true, true, true, false, false, true, true, false, false, true, true, true, true, false, false, false] rfl rfl (z0e HT_.out (by kernel_rfl)) (fun _ _ _ h => h) (Or.inl ⟨by rfl, ?_⟩) ?_ ?_
               rotate_left
               ·intro w'
                go_simp
                with_reducible rfl
               rotate_left
               ·simp only [Act.put, q1, q2, q3, z06, z07]
                rfl
               exact z0b (by first | (simp only [putAll, Act.put, q1, q2, q3]; done) | (simp only [putAll, Act.put, q1, q2, q3]; rfl)) (hJ3_4_7 (v196) _ ⟨hHeld, (by (with_reducible repeat (first | apply Kd.z0p | apply Kd.z0r | apply Kd.z0q)); exact HO197.out), (by (with_reducible repeat (first | refine z0c ?_ _ | refine z09 ?_ | refine z0a ?_ _)); exact BK194.out), (by repeat (first | (with_reducible first | exact HB.out | apply z03 | apply z05 | apply z04 | refine z08 ?_ GE194.out) | exact HB.out))⟩)
             ·skip
              rintro _ w15 ⟨hS_, h0_, h1_⟩
              have n0_ : z01 (w15.heap[gb194]? = some (.cells #[.int .i64 a0_0, .int .u64 a0_1, .slice A0_2 l0_2.length c0_2, .slice A0_3 l0_3.length c0_3, .slice A0_4 l0_4.length c0_4, .string a0_5, .int .i64 a0_6, .int .i64 a0_7, .string a0_8] 34 (0, 0))) := ⟨h0_⟩
              have n1_ : z01 (Below w.heap.size w w15) := ⟨h1_⟩
              clear BK194
              clear HB
              clear h0_ h1_
              have BK194 := n0_
              have HB := n1_
              clear n0_ n1_
              have hHeld : w15.cell? ⟨gb194, 0, none⟩ = some (.int .i64 a0_0) ∧ w15.cell? ⟨gb194, 1, none⟩ = some (.int .u64 a0_1) ∧ w15.cell? ⟨gb194, 2, none⟩ = some (.slice A0_2 l0_2.length c0_2) ∧ w15.cell? ⟨gb194, 3, none⟩ = some (.slice A0_3 l0_3.length c0_3) ∧ w15.cell? ⟨gb194, 4, none⟩ = some (.slice A0_4 l0_4.length c0_4) ∧ w15.cell? ⟨gb194, 5, none⟩ = some (.string a0_5) ∧ w15.cell? ⟨gb194, 6, none⟩ = some (.int .i64 a0_6) ∧ w15.cell? ⟨gb194, 7, none⟩ = some (.int .i64 a0_7) ∧ w15.cell? ⟨gb194, 8, none⟩ = some (.string a0_8) := hS_
              refine z0b (a' := ?_) ?_ ?_
              rotate_left
              ·simp only [putAll, Act.put, q1, q2, q3]
               rfl
              refine two_ (i := 3) (j := 21) (Ni := some 8) (Nj := some 26) #[true, true, true, true, false, true, true, true, false, true, true, true, false, true, true, true, false, true, true, true, true, false, false, false] #[true, true, true, false, false, true, true, true, false, true, true, true, false, true, true, true, false, true, true, true, true, true, false, false] rfl rfl rfl rfl (two_of HT_.out (by kernel_rfl)) (by decide) (by decide) (fun K hK => ?_) (fun K hK => ?_)
              ·skip
               refine Kd.z2l (Kd.int .u8) _ 5 ?hg (N := 8) ?hd (xs := ([(a0_0) % 256] : List Int)) (inner := [.int .u8 ((a0_0) % 256)]) (ok := fun _ => True) (okp := fun _ => True) ?hr ?hp (fun _ hk => hk) trivial (Below.refl _ _) (Nat.le_refl _) (by simp) ?_; (case hd => rfl); (case hg => rfl); (case hr => first | (go_simp; done) | (go_simp; rfl)); (case hp => exact (Reps.one (show Kd.M (Kd.int .u8) _ _ _ ((a0_0) % 256) [.int .u8 ((a0_0) % 256)] from rfl) (Reps.none _ _)))
               intro v196 w16 ho17 hb hg_ hnew_
               clear hg_ hnew_
               (first | rw [← Ny195.out] at ho17 | (simp only [Int.reduceToNat] at ho17; rw [← Ny195.out] at ho17))
               have n0_ := z01.mk (Kd.z20 ho17 (z18 (by repeat (first | (with_reducible first | exact HB.out | apply z03 | apply z05 | apply z04 | refine z08 ?_ GE194.out) | exact HB.out))))
               have n1_ := z01.mk (z0m (g := gb194) (o := .cells #[.int .i64 a0_0, .int .u64 a0_1, .slice A0_2 l0_2.length c0_2, .slice A0_3 l0_3.length c0_3, .slice A0_4 l0_4.length c0_4, .string a0_5, .int .i64 a0_6, .int .i64 a0_7, .string a0_8] 34 (0, 0)) (by (with_reducible repeat (first | refine z0c ?_ _ | refine z09 ?_ | refine z0a ?_ _)); exact BK194.out) hb)
               have n2_ := z01.mk (z0i (by repeat (first | (with_reducible first | exact HB.out | apply z03 | apply z05 | apply z04 | refine z08 ?_ GE194.out) | exact HB.out)) hb)
               clear BK194
               clear HB
               have HO197 := n0_
               have BK194 := n1_
               have HB := n2_
               clear n0_ n1_ n2_
               clear hb ho17
               refine hK.out _ _ ⟨(z00 BK194.out 0).trans rfl, (z00 BK194.out 1).trans rfl, (z00 BK194.out 2).trans rfl, (z00 BK194.out 3).trans rfl, (z00 BK194.out 4).trans rfl, (z00 BK194.out 5).trans rfl, (z00 BK194.out 6).trans rfl, (z00 BK194.out 7).trans rfl, (z00 BK194.out 8).trans rfl⟩ (fun hHeld => ?_)
               clear hK K
               refine z0b (a' := ?_) ?_ ?_
               rotate_left
               ·show Act.put _ (some 8) _ = _
                simp only [Act.put, q1, q2, q3, z06, z07]
                rfl
               exact z0b (by first | (simp only [putAll, Act.put, q1, q2, q3]; done) | (simp only [putAll, Act.put, q1, q2, q3]; rfl)) (hJ3_7_11_15 (v196) _ ⟨hHeld, (by (with_reducible repeat (first | apply Kd.z0p | apply Kd.z0r | apply Kd.z0q)); exact HO197.out), (by (with_reducible repeat (first | refine z0c ?_ _ | refine z09 ?_ | refine z0a ?_ _)); exact BK194.out), (by repeat (first | (with_reducible first | exact HB.out | apply z03 | apply z05 | apply z04 | refine z08 ?_ GE194.out) | exact HB.out))⟩)
              ·skip
               refine z13 Try.func51 (by kernel_rfl) rfl #[.int .u64 (IntKind.u64.wrap ((l0_4.length : Int)))] (by rfl) rfl rfl (by (try simp only [List.map_toArray, List.map_cons, List.map_nil]); first | done | rfl | (simp only [List.length_drop, List.length_take]; rfl)) ?_
               with_reducible refine (z0j.calls (IntKind.u64.wrap ((l0_4.length : Int))) t201 _ A8.out).mono ?_
               rintro e w16 ⟨rfl, hb⟩
               refine ⟨_, rfl, ?_⟩
               have n0_ := z01.mk (z0m (g := gb194) (o := .cells #[.int .i64 a0_0, .int .u64 a0_1, .slice A0_2 l0_2.length c0_2, .slice A0_3 l0_3.length c0_3, .slice A0_4 l0_4.length c0_4, .string a0_5, .int .i64 a0_6, .int .i64 a0_7, .string a0_8] 34 (0, 0)) (by (with_reducible repeat (first | refine z0c ?_ _ | refine z09 ?_ | refine z0a ?_ _)); exact BK194.out) hb)
               have n1_ := z01.mk (z0i (by repeat (first | (with_reducible first | exact HB.out | apply z03 | apply z05 | apply z04 | refine z08 ?_ GE194.out) | exact HB.out)) hb)
               clear BK194
               clear HB
               have BK194 := n0_
               have HB := n1_
               clear n0_ n1_
               (try clear hb)
               (try clear hb2)
               (try clear hk)
               (try clear hi)
               refine hK.out _ _ ⟨(z00 BK194.out 0).trans rfl, (z00 BK194.out 1).trans rfl, (z00 BK194.out 2).trans rfl, (z00 BK194.out 3).trans rfl, (z00 BK194.out 4).trans rfl, (z00 BK194.out 5).trans rfl, (z00 BK194.out 6).trans rfl, (z00 BK194.out 7).trans rfl, (z00 BK194.out 8).trans rfl⟩ (fun hHeld => ?_)
               clear hK K
               refine z0b (a' := ?_) ?_ ?_
               rotate_left
               ·show Act.put _ (some 26) _ = _
                simp only [Act.put, q1, q2, q3, z06, z07]
                rfl
               exact z0b (by first | (simp only [putAll, Act.put, q1, q2, q3]; done) | (simp only [putAll, Act.put, q1, q2, q3]; rfl)) (hJ7_11_15_21 () _ ⟨hHeld, (by (with_reducible repeat (first | refine z0c ?_ _ | refine z09 ?_ | refine z0a ?_ _)); exact BK194.out), (by repeat (first | (with_reducible first | exact HB.out | apply z03 | apply z05 | apply z04 | refine z08 ?_ GE194.out) | exact HB.out))⟩)
            ·skip
             rintro v196 w16 ⟨hS_, h0_, h1_, h2_⟩
             have n0_ : z01 (Kd.R (Kd.int .u8) 5 w16 w.heap.size (fun _ => True) v196 y195) := ⟨h0_⟩
             have n1_ : z01 (w16.heap[gb194]? = some (.cells #[.int .i64 a0_0, .int .u64 a0_1, .slice A0_2 l0_2.length c0_2, .slice A0_3 l0_3.length c0_3, .slice A0_4 l0_4.length c0_4, .string a0_5, .int .i64 a0_6, .int .i64 a0_7, .string a0_8] 34 (0, 0))) := ⟨h1_⟩
             have n2_ : z01 (Below w.heap.size w w16) := ⟨h2_⟩
             clear BK194
             clear HB
             clear h0_ h1_ h2_
             have HO197 := n0_
             have BK194 := n1_
             have HB := n2_
             clear n0_ n1_ n2_
             have hHeld : w16.cell? ⟨gb194, 0, none⟩ = some (.int .i64 a0_0) ∧ w16.cell? ⟨gb194, 1, none⟩ = some (.int .u64 a0_1) ∧ w16.cell? ⟨gb194, 2, none⟩ = some (.slice A0_2 l0_2.length c0_2) ∧ w16.cell? ⟨gb194, 3, none⟩ = some (.slice A0_3 l0_3.length c0_3) ∧ w16.cell? ⟨gb194, 4, none⟩ = some (.slice A0_4 l0_4.length c0_4) ∧ w16.cell? ⟨gb194, 5, none⟩ = some (.string a0_5) ∧ w16.cell? ⟨gb194, 6, none⟩ = some (.int .i64 a0_6) ∧ w16.cell? ⟨gb194, 7, none⟩ = some (.int .i64 a0_7) ∧ w16.cell? ⟨gb194, 8, none⟩ = some (.string a0_8) := hS_
             refine z0b (a' := ?_) ?_ ?_
             rotate_left
             ·simp only [putAll, Act.put, q1, q2, q3]
              rfl
             refine two_ (i := 4) (j := 15) (Ni := some 9) (Nj := some 20) #[true, true, true, true, true, true, true, true, false, true, true, true, false, true, true, false, false, true, true, true, true, false, false, false] #[true, true, true, true, false, true, true, true, false, true, true, true, false, true, true, true, false, true, true, true, true, false, false, false] rfl rfl rfl rfl (two_of HT_.out (by kernel_rfl)) (by decide) (by decide) (fun K hK => ?_) (fun K hK => ?_)
             ·skip
              have hcv17 := z2e (P := Try.prog) Try.underlying46 Try.underlying5 Try.underlying9 (Kd.z2f HO197.out)
              refine value_ (w1 := ?_) (v := ?_) (by rfl) rfl ?_ ?_
              rotate_left 2
              ·go_simp
               constructor
               ·rfl
               ·rfl
              clear hcv17
              refine hK.out _ _ ⟨(z00 BK194.out 0).trans rfl, (z00 BK194.out 1).trans rfl, (z00 BK194.out 2).trans rfl, (z00 BK194.out 3).trans rfl, (z00 BK194.out 4).trans rfl, (z00 BK194.out 5).trans rfl, (z00 BK194.out 6).trans rfl, (z00 BK194.out 7).trans rfl, (z00 BK194.out 8).trans rfl⟩ (fun hHeld => ?_)
              clear hK K
              refine z0b (a' := ?_) ?_ ?_
              rotate_left
              ·show Act.put _ (some 9) _ = _
               simp only [Act.put, q1, q2, q3, z06, z07]
               rfl
              refine z0d (i := 8) (N := some 13) (v := ?_) (a' := ?_) #[true, true, true, true, true, true, true, true, true, true, true, true, false, true, true, false, false, true, true, true, true, false, false, false] rfl rfl (z0e HT_.out (by kernel_rfl)) (fun _ _ _ h => h) (Or.inl ⟨by rfl, ?_⟩) ?_ ?_
              rotate_left
              ·intro w'
               go_simp
               with_reducible rfl
              rotate_left
              ·simp only [Act.put, q1, q2, q3, z06, z07]
               rfl
              refine z0d (i := 12) (N := some 17) (v := ?_) (a' := ?_) #[true, true, true, true, true, true, true, true, true, true, true, true, true, true, true, false, false, true, true, true, true, false, false, false] rfl rfl (z0e HT_.out (by kernel_rfl)) (fun _ _ _ h => h) (Or.inl ⟨by rfl, ?_⟩) ?_ ?_
              rotate_left
              ·intro w'
               go_simp
               with_reducible rfl
              rotate_left
              ·simp only [Act.put, q1, q2, q3, z06, z07]
               rfl
              exact z0b (by first | (simp only [putAll, Act.put, q1, q2, q3]; done) | (simp only [putAll, Act.put, q1, q2, q3]; rfl)) (hJ3_4_7_11 (v196) _ ⟨hHeld, (by (with_reducible repeat (first | apply Kd.z0p | apply Kd.z0r | apply Kd.z0q)); exact HO197.out), (by (with_reducible repeat (first | refine z0c ?_ _ | refine z09 ?_ | refine z0a ?_ _)); exact BK194.out), (by repeat (first | (with_reducible first | exact HB.out | apply z03 | apply z05 | apply z04 | refine z08 ?_ GE194.out) | exact HB.out))⟩)
             ·skip
              refine z13 Try.func52 (by kernel_rfl) rfl #[.slice A0_3 l0_3.length c0_3] (by rfl) rfl rfl (by (try simp only [List.map_toArray, List.map_cons, List.map_nil]); first | done | rfl | (simp only [List.length_drop, List.length_take]; rfl)) ?_
              with_reducible refine (z10.calls k _ _ l0_3 t200 _ ?side1 ?side2 A6.out).mono ?_
              (case side1 => repeat (first | exact (Kd.z12 HR0_3.out HB.out) | (with_reducible refine Kd.z1b ?_ _) | (with_reducible refine Kd.z1d ?_ _) | (with_reducible refine Kd.z1c ?_)))
              (case side2 => exact HC0_3.out)
              rintro e w17 ⟨rfl, hb⟩
              refine ⟨_, rfl, ?_⟩
              have n0_ := z01.mk (Kd.z1p (by (with_reducible repeat (first | apply Kd.z0p | apply Kd.z0r | apply Kd.z0q)); exact HO197.out) hb)
              have n1_ := z01.mk (z0m (g := gb194) (o := .cells #[.int .i64 a0_0, .int .u64 a0_1, .slice A0_2 l0_2.length c0_2, .slice A0_3 l0_3.length c0_3, .slice A0_4 l0_4.length c0_4, .string a0_5, .int .i64 a0_6, .int .i64 a0_7, .string a0_8] 34 (0, 0)) (by (with_reducible repeat (first | refine z0c ?_ _ | refine z09 ?_ | refine z0a ?_ _)); exact BK194.out) hb)
              have n2_ := z01.mk (z0i (by repeat (first | (with_reducible first | exact HB.out | apply z03 | apply z05 | apply z04 | refine z08 ?_ GE194.out) | exact HB.out)) hb)
              clear HO197
              clear BK194
              clear HB
              have HO197 := n0_
              have BK194 := n1_
              have HB := n2_
              clear n0_ n1_ n2_
              (try clear hb)
              (try clear hb2)
              (try clear hk)
              (try clear hi)
              refine hK.out _ _ ⟨(z00 BK194.out 0).trans rfl, (z00 BK194.out 1).trans rfl, (z00 BK194.out 2).trans rfl, (z00 BK194.out 3).trans rfl, (z00 BK194.out 4).trans rfl, (z00 BK194.out 5).trans rfl, (z00 BK194.out 6).trans rfl, (z00 BK194.out 7).trans rfl, (z00 BK194.out 8).trans rfl⟩ (fun hHeld => ?_)
              clear hK K
              refine z0b (a' := ?_) ?_ ?_
              rotate_left
              ·show Act.put _ (some 20) _ = _
               simp only [Act.put, q1, q2, q3, z06, z07]
               rfl
              exact z0b (by first | (simp only [putAll, Act.put, q1, q2, q3]; done) | (simp only [putAll, Act.put, q1, q2, q3]; rfl)) (hJ3_7_11_15 (v196) _ ⟨hHeld, (by (with_reducible repeat (first | apply Kd.z0p | apply Kd.z0r | apply Kd.z0q)); exact HO197.out), (by (with_reducible repeat (first | refine z0c ?_ _ | refine z09 ?_ | refine z0a ?_ _)); exact BK194.out), (by repeat (first | (with_reducible first | exact HB.out | apply z03 | apply z05 | apply z04 | refine z08 ?_ GE194.out) | exact HB.out))⟩)
           ·skip
            rintro v196 w16 ⟨hS_, h0_, h1_, h2_⟩
            have n0_ : z01 (Kd.R (Kd.int .u8) 5 w16 w.heap.size (fun _ => True) v196 y195) := ⟨h0_⟩
            have n1_ : z01 (w16.heap[gb194]? = some (.cells #[.int .i64 a0_0, .int .u64 a0_1, .slice A0_2 l0_2.length c0_2, .slice A0_3 l0_3.length c0_3, .slice A0_4 l0_4.length c0_4, .string a0_5, .int .i64 a0_6, .int .i64 a0_7, .string a0_8] 34 (0, 0))) := ⟨h1_⟩
            have n2_ : z01 (Below w.heap.size w w16) := ⟨h2_⟩
            clear BK194
            clear HB
            clear h0_ h1_ h2_
            have HO197 := n0_
            have BK194 := n1_
            have HB := n2_
            clear n0_ n1_ n2_
            have hHeld : w16.cell? ⟨gb194, 0, none⟩ = some (.int .i64 a0_0) ∧ w16.cell? ⟨gb194, 1, none⟩ = some (.int .u64 a0_1) ∧ w16.cell? ⟨gb194, 2, none⟩ = some (.slice A0_2 l0_2.length c0_2) ∧ w16.cell? ⟨gb194, 3, none⟩ = some (.slice A0_3 l0_3.length c0_3) ∧ w16.cell? ⟨gb194, 4, none⟩ = some (.slice A0_4 l0_4.length c0_4) ∧ w16.cell? ⟨gb194, 5, none⟩ = some (.string a0_5) ∧ w16.cell? ⟨gb194, 6, none⟩ = some (.int .i64 a0_6) ∧ w16.cell? ⟨gb194, 7, none⟩ = some (.int .i64 a0_7) ∧ w16.cell? ⟨gb194, 8, none⟩ = some (.string a0_8) := hS_
            refine z0b (a' := ?_) ?_ ?_
            rotate_left
            ·simp only [putAll, Act.put, q1, q2, q3]
             rfl
            refine one_ (i := 11) (N := some 16) #[true, true, true, true, true, true, true, true, true, true, true, true, false, true, true, false, false, true, true, true, true, false, false, false] rfl rfl (z19 HT_.out (by kernel_rfl)) (by decide) (fun K hK => ?_)
            refine z13 Try.func52 (by kernel_rfl) rfl #[.slice A0_2 l0_2.length c0_2] (by rfl) rfl rfl (by (try simp only [List.map_toArray, List.map_cons, List.map_nil]); first | done | rfl | (simp only [List.length_drop, List.length_take]; rfl)) ?_
            with_reducible refine (z10.calls k _ _ l0_2 t199 _ ?side1 ?side2 A4.out).mono ?_
            (case side1 => repeat (first | exact (Kd.z12 HR0_2.out HB.out) | (with_reducible refine Kd.z1b ?_ _) | (with_reducible refine Kd.z1d ?_ _) | (with_reducible refine Kd.z1c ?_)))
            (case side2 => exact HC0_2.out)
            rintro e w17 ⟨rfl, hb⟩
            refine ⟨_, rfl, ?_⟩
            have n0_ := z01.mk (Kd.z1p (by (with_reducible repeat (first | apply Kd.z0p | apply Kd.z0r | apply Kd.z0q)); exact HO197.out) hb)
            have n1_ := z01.mk (z0m (g := gb194) (o := .cells #[.int .i64 a0_0, .int .u64 a0_1, .slice A0_2 l0_2.length c0_2, .slice A0_3 l0_3.length c0_3, .slice A0_4 l0_4.length c0_4, .string a0_5, .int .i64 a0_6, .int .i64 a0_7, .string a0_8] 34 (0, 0)) (by (with_reducible repeat (first | refine z0c ?_ _ | refine z09 ?_ | refine z0a ?_ _)); exact BK194.out) hb)
            have n2_ := z01.mk (z0i (by repeat (first | (with_reducible first | exact HB.out | apply z03 | apply z05 | apply z04 | refine z08 ?_ GE194.out) | exact HB.out)) hb)
            clear HO197
            clear BK194
            clear HB
            have HO197 := n0_
            have BK194 := n1_
            have HB := n2_
            clear n0_ n1_ n2_
            (try clear hb)
            (try clear hb2)
            (try clear hk)
            (try clear hi)
            refine hK.out _ _ ⟨(z00 BK194.out 0).trans rfl, (z00 BK194.out 1).trans rfl, (z00 BK194.out 2).trans rfl, (z00 BK194.out 3).trans rfl, (z00 BK194.out 4).trans rfl, (z00 BK194.out 5).trans rfl, (z00 BK194.out 6).trans rfl, (z00 BK194.out 7).trans rfl, (z00 BK194.out 8).trans rfl⟩ (fun hHeld => ?_)
            clear hK K
            refine z0b (a' := ?_) ?_ ?_
            rotate_left
            ·show Act.put _ (some 16) _ = _
             simp only [Act.put, q1, q2, q3, z06, z07]
             rfl
            refine z0d (i := 12) (N := some 17) (v := ?_) (a' := ?_) #[true, true, true, true, true, true, true, true, true, true, true, true, true, true, true, false, false, true, true, true, true, false, false, false] rfl rfl (z0e HT_.out (by kernel_rfl)) (fun _ _ _ h => h) (Or.inl ⟨by rfl, ?_⟩) ?_ ?_
            rotate_left
            ·intro w'
             go_simp
             with_reducible rfl
            rotate_left
            ·simp only [Act.put, q1, q2, q3, z06, z07]
             rfl
            exact z0b (by first | (simp only [putAll, Act.put, q1, q2, q3]; done) | (simp only [putAll, Act.put, q1, q2, q3]; rfl)) (hJ3_4_7_11 (v196) _ ⟨hHeld, (by (with_reducible repeat (first | apply Kd.z0p | apply Kd.z0r | apply Kd.z0q)); exact HO197.out), (by (with_reducible repeat (first | refine z0c ?_ _ | refine z09 ?_ | refine z0a ?_ _)); exact BK194.out), (by repeat (first | (with_reducible first | exact HB.out | apply z03 | apply z05 | apply z04 | refine z08 ?_ GE194.out) | exact HB.out))⟩)
          ·skip
           rintro _ w16 ⟨hS_, h0_, h1_⟩
           have n0_ : z01 (w16.heap[gb194]? = some (.cells #[.int .i64 a0_0, .int .u64 a0_1, .slice A0_2 l0_2.length c0_2, .slice A0_3 l0_3.length c0_3, .slice A0_4 l0_4.length c0_4, .string a0_5, .int .i64 a0_6, .int .i64 a0_7, .string a0_8] 34 (0, 0))) := ⟨h0_⟩
           have n1_ : z01 (Below w.heap.size w w16) := ⟨h1_⟩
           clear BK194
           clear HB
           clear h0_ h1_
           have BK194 := n0_
           have HB := n1_
           clear n0_ n1_
           have hHeld : w16.cell? ⟨gb194, 0, none⟩ = some (.int .i64 a0_0) ∧ w16.cell? ⟨gb194, 1, none⟩ = some (.int .u64 a0_1) ∧ w16.cell? ⟨gb194, 2, none⟩ = some (.slice A0_2 l0_2.length c0_2) ∧ w16.cell? ⟨gb194, 3, none⟩ = some (.slice A0_3 l0_3.length c0_3) ∧ w16.cell? ⟨gb194, 4, none⟩ = some (.slice A0_4 l0_4.length c0_4) ∧ w16.cell? ⟨gb194, 5, none⟩ = some (.string a0_5) ∧ w16.cell? ⟨gb194, 6, none⟩ = some (.int .i64 a0_6) ∧ w16.cell? ⟨gb194, 7, none⟩ = some (.int .i64 a0_7) ∧ w16.cell? ⟨gb194, 8, none⟩ = some (.string a0_8) := hS_
           refine z0b (a' := ?_) ?_ ?_
           rotate_left
           ·simp only [putAll, Act.put, q1, q2, q3]
            rfl
           refine one_ (i := 3) (N := some 8) #[true, true, true, true, false, true, true, true, false, true, true, true, false, true, true, true, false, true, true, true, true, true, false, false] rfl rfl (z19 HT_.out (by kernel_rfl)) (by decide) (fun K hK => ?_)
           refine Kd.z2l (Kd.int .u8) _ 5 ?hg (N := 8) ?hd (xs := ([(a0_0) % 256] : List Int)) (inner := [.int .u8 ((a0_0) % 256)]) (ok := fun _ => True) (okp := fun _ => True) ?hr ?hp (fun _ hk => hk) trivial (Below.refl _ _) (Nat.le_refl _) (by simp) ?_; (case hd => rfl); (case hg => rfl); (case hr => first | (go_simp; done) | (go_simp; rfl)); (case hp => exact (Reps.one (show Kd.M (Kd.int .u8) _ _ _ ((a0_0) % 256) [.int .u8 ((a0_0) % 256)] from rfl) (Reps.none _ _)))
           intro v196 w17 ho18 hb hg_ hnew_
           clear hg_ hnew_
           (first | rw [← Ny195.out] at ho18 | (simp only [Int.reduceToNat] at ho18; rw [← Ny195.out] at ho18))
           have n0_ := z01.mk (Kd.z20 ho18 (z18 (by repeat (first | (with_reducible first | exact HB.out | apply z03 | apply z05 | apply z04 | refine z08 ?_ GE194.out) | exact HB.out))))
           have n1_ := z01.mk (z0m (g := gb194) (o := .cells #[.int .i64 a0_0, .int .u64 a0_1, .slice A0_2 l0_2.length c0_2, .slice A0_3 l0_3.length c0_3, .slice A0_4 l0_4.length c0_4, .string a0_5, .int .i64 a0_6, .int .i64 a0_7, .string a0_8] 34 (0, 0)) (by (with_reducible repeat (first | refine z0c ?_ _ | refine z09 ?_ | refine z0a ?_ _)); exact BK194.out) hb)
           have n2_ := z01.mk (z0i (by repeat (first | (with_reducible first | exact HB.out | apply z03 | apply z05 | apply z04 | refine z08 ?_ GE194.out) | exact HB.out)) hb)
           clear BK194
           clear HB
           have HO197 := n0_
           have BK194 := n1_
           have HB := n2_
           clear n0_ n1_ n2_
           clear hb ho18
           refine hK.out _ _ ⟨(z00 BK194.out 0).trans rfl, (z00 BK194.out 1).trans rfl, (z00 BK194.out 2).trans rfl, (z00 BK194.out 3).trans rfl, (z00 BK194.out 4).trans rfl, (z00 BK194.out 5).trans rfl, (z00 BK194.out 6).trans rfl, (z00 BK194.out 7).trans rfl, (z00 BK194.out 8).trans rfl⟩ (fun hHeld => ?_)
           clear hK K
           refine z0b (a' := ?_) ?_ ?_
           rotate_left
           ·show Act.put _ (some 8) _ = _
            simp only [Act.put, q1, q2, q3, z06, z07]
            rfl
           exact z0b (by first | (simp only [putAll, Act.put, q1, q2, q3]; done) | (simp only [putAll, Act.put, q1, q2, q3]; rfl)) (hJ3_7_11_15_21 (v196) _ ⟨hHeld, (by (with_reducible repeat (first | apply Kd.z0p | apply Kd.z0r | apply Kd.z0q)); exact HO197.out), (by (with_reducible repeat (first | refine z0c ?_ _ | refine z09 ?_ | refine z0a ?_ _)); exact BK194.out), (by repeat (first | (with_reducible first | exact HB.out | apply z03 | apply z05 | apply z04 | refine z08 ?_ GE194.out) | exact HB.out))⟩)
         ·skip
          rintro v196 w17 ⟨hS_, h0_, h1_, h2_⟩
          have n0_ : z01 (Kd.R (Kd.int .u8) 5 w17 w.heap.size (fun _ => True) v196 y195) := ⟨h0_⟩
          have n1_ : z01 (w17.heap[gb194]? = some (.cells #[.int .i64 a0_0, .int .u64 a0_1, .slice A0_2 l0_2.length c0_2, .slice A0_3 l0_3.length c0_3, .slice A0_4 l0_4.length c0_4, .string a0_5, .int .i64 a0_6, .int .i64 a0_7, .string a0_8] 34 (0, 0))) := ⟨h1_⟩
          have n2_ : z01 (Below w.heap.size w w17) := ⟨h2_⟩
          clear BK194
          clear HB
          clear h0_ h1_ h2_
          have HO197 := n0_
          have BK194 := n1_
          have HB := n2_
          clear n0_ n1_ n2_
          have hHeld : w17.cell? ⟨gb194, 0, none⟩ = some (.int .i64 a0_0) ∧ w17.cell? ⟨gb194, 1, none⟩ = some (.int .u64 a0_1) ∧ w17.cell? ⟨gb194, 2, none⟩ = some (.slice A0_2 l0_2.length c0_2) ∧ w17.cell? ⟨gb194, 3, none⟩ = some (.slice A0_3 l0_3.length c0_3) ∧ w17.cell? ⟨gb194, 4, none⟩ = some (.slice A0_4 l0_4.length c0_4) ∧ w17.cell? ⟨gb194, 5, none⟩ = some (.string a0_5) ∧ w17.cell? ⟨gb194, 6, none⟩ = some (.int .i64 a0_6) ∧ w17.cell? ⟨gb194, 7, none⟩ = some (.int .i64 a0_7) ∧ w17.cell? ⟨gb194, 8, none⟩ = some (.string a0_8) := hS_
          refine z0b (a' := ?_) ?_ ?_
          rotate_left
          ·simp only [putAll, Act.put, q1, q2, q3]
           rfl
          refine two_ (i := 4) (j := 21) (Ni := some 9) (Nj := some 26) #[true, true, true, true, true, true, true, true, false, true, true, true, false, true, true, true, false, true, true, true, true, false, false, false] #[true, true, true, true, false, true, true, true, false, true, true, true, false, true, true, true, false, true, true, true, true, true, false, false] rfl rfl rfl rfl (two_of HT_.out (by kernel_rfl)) (by decide) (by decide) (fun K hK => ?_) (fun K hK => ?_)
          ·skip
           have hcv18 := z2e (P := Try.prog) Try.underlying46 Try.underlying5 Try.underlying9 (Kd.z2f HO197.out)
           refine value_ (w1 := ?_) (v := ?_) (by rfl) rfl ?_ ?_
           rotate_left 2
           ·go_simp
            constructor
            ·rfl
            ·rfl
           clear hcv18
           refine hK.out _ _ ⟨(z00 BK194.out 0).trans rfl, (z00 BK194.out 1).trans rfl, (z00 BK194.out 2).trans rfl, (z00 BK194.out 3).trans rfl, (z00 BK194.out 4).trans rfl, (z00 BK194.out 5).trans rfl, (z00 BK194.out 6).trans rfl, (z00 BK194.out 7).trans rfl, (z00 BK194.out 8).trans rfl⟩ (fun hHeld => ?_)
           clear hK K
           refine z0b (a' := ?_) ?_ ?_
           rotate_left
           ·show Act.put _ (some 9) _ = _
            simp only [Act.put, q1, q2, q3, z06, z07]
            rfl
           refine z0d (i := 8) (N := some 13) (v := ?_) (a' := ?_) #[true, true, true, true, true, true, true, true, true, true, true, true, false, true, true, true, false, true, true, true, true, false, false, false] rfl rfl (z0e HT_.out (by kernel_rfl)) (fun _ _ _ h => h) (Or.inl ⟨by rfl, ?_⟩) ?_ ?_
           rotate_left
           ·intro w'
            go_simp
            with_reducible rfl
           rotate_left
           ·simp only [Act.put, q1, q2, q3, z06, z07]
            rfl
           refine z0d (i := 12) (N := some 17) (v := ?_) (a' := ?_) #[true, true, true, true, true, true, true, true, true, true, true, true, true, true, true, true, false, true, true, true, true, false, false, false] rfl rfl (z0e HT_.out (by kernel_rfl)) (fun _ _ _ h => h) (Or.inl ⟨by rfl, ?_⟩) ?_ ?_
           rotate_left
           ·intro w'
            go_simp
            with_reducible rfl
           rotate_left
           ·simp only [Act.put, q1, q2, q3, z06, z07]
            rfl
           refine z0d (i := 16) (N := some 21) (v := ?_) (a' := ?_) #[true, true, true, true, true, true, true, true, true, true, true, true, true, true, true, true, true, true, true, true, true, false, false, false] rfl rfl (z0e HT_.out (by kernel_rfl)) (fun _ _ _ h => h) (Or.inl ⟨by rfl, ?_⟩) ?_ ?_
           rotate_left
           ·intro w'
            go_simp
            with_reducible rfl
           rotate_left
           ·simp only [Act.put, q1, q2, q3, z06, z07]
            rfl
           exact z0b (by first | (simp only [putAll, Act.put, q1, q2, q3]; done) | (simp only [putAll, Act.put, q1, q2, q3]; rfl)) (hJ3_4_7_11_15 (v196) _ ⟨hHeld, (by (with_reducible repeat (first | apply Kd.z0p | apply Kd.z0r | apply Kd.z0q)); exact HO197.out), (by (with_reducible repeat (first | refine z0c ?_ _ | refine z09 ?_ | refine z0a ?_ _)); exact BK194.out), (by repeat (first | (with_reducible first | exact HB.out | apply z03 | apply z05 | apply z04 | refine z08 ?_ GE194.out) | exact HB.out))⟩)
          ·skip
           refine z13 Try.func51 (by kernel_rfl) rfl #[.int .u64 (IntKind.u64.wrap ((l0_4.length : Int)))] (by rfl) rfl rfl (by (try simp only [List.map_toArray, List.map_cons, List.map_nil]); first | done | rfl | (simp only [List.length_drop, List.length_take]; rfl)) ?_
           with_reducible refine (z0j.calls (IntKind.u64.wrap ((l0_4.length : Int))) t201 _ A8.out).mono ?_
           rintro e w18 ⟨rfl, hb⟩
           refine ⟨_, rfl, ?_⟩
           have n0_ := z01.mk (Kd.z1p (by (with_reducible repeat (first | apply Kd.z0p | apply Kd.z0r | apply Kd.z0q)); exact HO197.out) hb)
           have n1_ := z01.mk (z0m (g := gb194) (o := .cells #[.int .i64 a0_0, .int .u64 a0_1, .slice A0_2 l0_2.length c0_2, .slice A0_3 l0_3.length c0_3, .slice A0_4 l0_4.length c0_4, .string a0_5, .int .i64 a0_6, .int .i64 a0_7, .string a0_8] 34 (0, 0)) (by (with_reducible repeat (first | refine z0c ?_ _ | refine z09 ?_ | refine z0a ?_ _)); exact BK194.out) hb)
           have n2_ := z01.mk (z0i (by repeat (first | (with_reducible first | exact HB.out | apply z03 | apply z05 | apply z04 | refine z08 ?_ GE194.out) | exact HB.out)) hb)
           clear HO197
           clear BK194
           clear HB
           have HO197 := n0_
           have BK194 := n1_
           have HB := n2_
           clear n0_ n1_ n2_
           (try clear hb)
           (try clear hb2)
           (try clear hk)
           (try clear hi)
           refine hK.out _ _ ⟨(z00 BK194.out 0).trans rfl, (z00 BK194.out 1).trans rfl, (z00 BK194.out 2).trans rfl, (z00 BK194.out 3).trans rfl, (z00 BK194.out 4).trans rfl, (z00 BK194.out 5).trans rfl, (z00 BK194.out 6).trans rfl, (z00 BK194.out 7).trans rfl, (z00 BK194.out 8).trans rfl⟩ (fun hHeld => ?_)
           clear hK K
           refine z0b (a' := ?_) ?_ ?_
           rotate_left
           ·show Act.put _ (some 26) _ = _
            simp only [Act.put, q1, q2, q3, z06, z07]
            rfl
           exact z0b (by first | (simp only [putAll, Act.put, q1, q2, q3]; done) | (simp only [putAll, Act.put, q1, q2, q3]; rfl)) (hJ3_7_11_15_21 (v196) _ ⟨hHeld, (by (with_reducible repeat (first | apply Kd.z0p | apply Kd.z0r | apply Kd.z0q)); exact HO197.out), (by (with_reducible repeat (first | refine z0c ?_ _ | refine z09 ?_ | refine z0a ?_ _)); exact BK194.out), (by repeat (first | (with_reducible first | exact HB.out | apply z03 | apply z05 | apply z04 | refine z08 ?_ GE194.out) | exact HB.out))⟩)
        ·skip
         rintro v196 w17 ⟨hS_, h0_, h1_, h2_⟩
         have n0_ : z01 (Kd.R (Kd.int .u8) 5 w17 w.heap.size (fun _ => True) v196 y195) := ⟨h0_⟩
         have n1_ : z01 (w17.heap[gb194]? = some (.cells #[.int .i64 a0_0, .int .u64 a0_1, .slice A0_2 l0_2.length c0_2, .slice A0_3 l0_3.length c0_3, .slice A0_4 l0_4.length c0_4, .string a0_5, .int .i64 a0_6, .int .i64 a0_7, .string a0_8] 34 (0, 0))) := ⟨h1_⟩
         have n2_ : z01 (Below w.heap.size w w17) := ⟨h2_⟩
         clear BK194
         clear HB
         clear h0_ h1_ h2_
         have HO197 := n0_
         have BK194 := n1_
         have HB := n2_
         clear n0_ n1_ n2_
         have hHeld : w17.cell? ⟨gb194, 0, none⟩ = some (.int .i64 a0_0) ∧ w17.cell? ⟨gb194, 1, none⟩ = some (.int .u64 a0_1) ∧ w17.cell? ⟨gb194, 2, none⟩ = some (.slice A0_2 l0_2.length c0_2) ∧ w17.cell? ⟨gb194, 3, none⟩ = some (.slice A0_3 l0_3.length c0_3) ∧ w17.cell? ⟨gb194, 4, none⟩ = some (.slice A0_4 l0_4.length c0_4) ∧ w17.cell? ⟨gb194, 5, none⟩ = some (.string a0_5) ∧ w17.cell? ⟨gb194, 6, none⟩ = some (.int .i64 a0_6) ∧ w17.cell? ⟨gb194, 7, none⟩ = some (.int .i64 a0_7) ∧ w17.cell? ⟨gb194, 8, none⟩ = some (.string a0_8) := hS_
         refine z0b (a' := ?_) ?_ ?_
         rotate_left
         ·simp only [putAll, Act.put, q1, q2, q3]
          rfl
         refine one_ (i := 15) (N := some 20) #[true, true, true, true, true, true, true, true, true, true, true, true, true, true, true, true, false, true, true, true, true, false, false, false] rfl rfl (z19 HT_.out (by kernel_rfl)) (by decide) (fun K hK => ?_)
         refine z13 Try.func52 (by kernel_rfl) rfl #[.slice A0_3 l0_3.length c0_3] (by rfl) rfl rfl (by (try simp only [List.map_toArray, List.map_cons, List.map_nil]); first | done | rfl | (simp only [List.length_drop, List.length_take]; rfl)) ?_
         with_reducible refine (z10.calls k _ _ l0_3 t200 _ ?side1 ?side2 A6.out).mono ?_
         (case side1 => repeat (first | exact (Kd.z12 HR0_3.out HB.out) | (with_reducible refine Kd.z1b ?_ _) | (with_reducible refine Kd.z1d ?_ _) | (with_reducible refine Kd.z1c ?_)))
         (case side2 => exact HC0_3.out)
         rintro e w18 ⟨rfl, hb⟩
         refine ⟨_, rfl, ?_⟩
         have n0_ := z01.mk (Kd.z1p (by (with_reducible repeat (first | apply Kd.z0p | apply Kd.z0r | apply Kd.z0q)); exact HO197.out) hb)
         have n1_ := z01.mk (z0m (g := gb194) (o := .cells #[.int .i64 a0_0, .int .u64 a0_1, .slice A0_2 l0_2.length c0_2, .slice A0_3 l0_3.length c0_3, .slice A0_4 l0_4.length c0_4, .string a0_5, .int .i64 a0_6, .int .i64 a0_7, .string a0_8] 34 (0, 0)) (by (with_reducible repeat (first | refine z0c ?_ _ | refine z09 ?_ | refine z0a ?_ _)); exact BK194.out) hb)
         have n2_ := z01.mk (z0i (by repeat (first | (with_reducible first | exact HB.out | apply z03 | apply z05 | apply z04 | refine z08 ?_ GE194.out) | exact HB.out)) hb)
         clear HO197
         clear BK194
         clear HB
         have HO197 := n0_
         have BK194 := n1_
         have HB := n2_
         clear n0_ n1_ n2_
         (try clear hb)
         (try clear hb2)
         (try clear hk)
         (try clear hi)
         refine hK.out _ _ ⟨(z00 BK194.out 0).trans rfl, (z00 BK194.out 1).trans rfl, (z00 BK194.out 2).trans rfl, (z00 BK194.out 3).trans rfl, (z00 BK194.out 4).trans rfl, (z00 BK194.out 5).trans rfl, (z00 BK194.out 6).trans rfl, (z00 BK194.out 7).trans rfl, (z00 BK194.out 8).trans rfl⟩ (fun hHeld => ?_)
         clear hK K
         refine z0b (a' := ?_) ?_ ?_
         rotate_left
         ·show Act.put _ (some 20) _ = _
          simp only [Act.put, q1, q2, q3, z06, z07]
          rfl
         refine z0d (i := 16) (N := some 21) (v := ?_) (a' := ?_) #[true, true, true, true, true, true, true, true, true, true, true, true, true, true, true, true, true, true, true, true, true, false, false, false] rfl rfl (z0e HT_.out (by kernel_rfl)) (fun _ _ _ h => h) (Or.inl ⟨by rfl, ?_⟩) ?_ ?_
         rotate_left
         ·intro w'
          go_simp
          with_reducible rfl
         rotate_left
         ·simp only [Act.put, q1, q2, q3, z06, z07]
          rfl
         exact z0b (by first | (simp only [putAll, Act.put, q1, q2, q3]; done) | (simp only [putAll, Act.put, q1, q2, q3]; rfl)) (hJ3_4_7_11_15 (v196) _ ⟨hHeld, (by (with_reducible repeat (first | apply Kd.z0p | apply Kd.z0r | apply Kd.z0q)); exact HO197.out), (by (with_reducible repeat (first | refine z0c ?_ _ | refine z09 ?_ | refine z0a ?_ _)); exact BK194.out), (by repeat (first | (with_reducible first | exact HB.out | apply z03 | apply z05 | apply z04 | refine z08 ?_ GE194.out) | exact HB.out))⟩)
       ·skip
        rintro v196 w18 ⟨hS_, h0_, h1_, h2_⟩
        have n0_ : z01 (Kd.R (Kd.int .u8) 5 w18 w.heap.size (fun _ => True) v196 y195) := ⟨h0_⟩
        have n1_ : z01 (w18.heap[gb194]? = some (.cells #[.int .i64 a0_0, .int .u64 a0_1, .slice A0_2 l0_2.length c0_2, .slice A0_3 l0_3.length c0_3, .slice A0_4 l0_4.length c0_4, .string a0_5, .int .i64 a0_6, .int .i64 a0_7, .string a0_8] 34 (0, 0))) := ⟨h1_⟩
        have n2_ : z01 (Below w.heap.size w w18) := ⟨h2_⟩
        clear BK194
        clear HB
        clear h0_ h1_ h2_
        have HO197 := n0_
        have BK194 := n1_
        have HB := n2_
        clear n0_ n1_ n2_
        have hHeld : w18.cell? ⟨gb194, 0, none⟩ = some (.int .i64 a0_0) ∧ w18.cell? ⟨gb194, 1, none⟩ = some (.int .u64 a0_1) ∧ w18.cell? ⟨gb194, 2, none⟩ = some (.slice A0_2 l0_2.length c0_2) ∧ w18.cell? ⟨gb194, 3, none⟩ = some (.slice A0_3 l0_3.length c0_3) ∧ w18.cell? ⟨gb194, 4, none⟩ = some (.slice A0_4 l0_4.length c0_4) ∧ w18.cell? ⟨gb194, 5, none⟩ = some (.string a0_5) ∧ w18.cell? ⟨gb194, 6, none⟩ = some (.int .i64 a0_6) ∧ w18.cell? ⟨gb194, 7, none⟩ = some (.int .i64 a0_7) ∧ w18.cell? ⟨gb194, 8, none⟩ = some (.string a0_8) := hS_
        refine z0b (a' := ?_) ?_ ?_
        rotate_left
        ·simp only [putAll, Act.put, q1, q2, q3]
         rfl
        refine one_ (i := 4) (N := some 9) #[true, true, true, true, true, true, true, true, false, true, true, true, false, true, true, true, false, true, true, true, true, true, false, false] rfl rfl (z19 HT_.out (by kernel_rfl)) (by decide) (fun K hK => ?_)
        have hcv19 := z2e (P := Try.prog) Try.underlying46 Try.underlying5 Try.underlying9 (Kd.z2f HO197.out)
        refine value_ (w1 := ?_) (v := ?_) (by rfl) rfl ?_ ?_
        rotate_left 2
        ·go_simp
         constructor
         ·rfl
         ·rfl
        clear hcv19
        refine hK.out _ _ ⟨(z00 BK194.out 0).trans rfl, (z00 BK194.out 1).trans rfl, (z00 BK194.out 2).trans rfl, (z00 BK194.out 3).trans rfl, (z00 BK194.out 4).trans rfl, (z00 BK194.out 5).trans rfl, (z00 BK194.out 6).trans rfl, (z00 BK194.out 7).trans rfl, (z00 BK194.out 8).trans rfl⟩ (fun hHeld => ?_)
        clear hK K
        refine z0b (a' := ?_) ?_ ?_
        rotate_left
        ·show Act.put _ (some 9) _ = _
         simp only [Act.put, q1, q2, q3, z06, z07]
         rfl
        refine z0d (i := 8) (N := some 13) (v := ?_) (a' := ?_) #[true, true, true, true, true, true, true, true, true, true, true, true, false, true, true, true, false, true, true, true, true, true, false, false] rfl rfl (z0e HT_.out (by kernel_rfl)) (fun _ _ _ h => h) (Or.inl ⟨by rfl, ?_⟩) ?_ ?_
        rotate_left
        ·intro w'
         go_simp
         with_reducible rfl
        rotate_left
        ·simp only [Act.put, q1, q2, q3, z06, z07]
         rfl
        refine z0d (i := 12) (N := some 17) (v := ?_) (a' := ?_) #[true, true, true, true, true, true, true, true, true, true, true, true, true, true, true, true, false, true, true, true, true, true, false, false] rfl rfl (z0e HT_.out (by kernel_rfl)) (fun _ _ _ h => h) (Or.inl ⟨by rfl, ?_⟩) ?_ ?_
        rotate_left
        ·intro w'
         go_simp
         with_reducible rfl
        rotate_left
        ·simp only [Act.put, q1, q2, q3, z06, z07]
         rfl
        refine z0d (i := 16) (N := some 21) (v := ?_) (a' := ?_) #[true, true, true, true, true, true, true, true, true, true, true, true, true, true, true, true, true, true, true, true, true, true, false, false] rfl rfl (z0e HT_.out (by kernel_rfl)) (fun _ _ _ h => h) (Or.inl ⟨by rfl, ?_⟩) ?_ ?_
        rotate_left
        ·intro w'
         go_simp
         with_reducible rfl
        rotate_left
        ·simp only [Act.put, q1, q2, q3, z06, z07]
         rfl
        exact z0b (by first | (simp only [putAll, Act.put, q1, q2, q3]; done) | (simp only [putAll, Act.put, q1, q2, q3]; rfl)) (hJ3_4_7_11_15_21 (v196) _ ⟨hHeld, (by (with_reducible repeat (first | apply Kd.z0p | apply Kd.z0r | apply Kd.z0q)); exact HO197.out), (by (with_reducible repeat (first | refine z0c ?_ _ | refine z09 ?_ | refine z0a ?_ _)); exact BK194.out), (by repeat (first | (with_reducible first | exact HB.out | apply z03 | apply z05 | apply z04 | refine z08 ?_ GE194.out) | exact HB.out))⟩)
      ·skip
       rintro v196 w18 ⟨hS_, h0_, h1_, h2_⟩
       have n0_ : z01 (Kd.R (Kd.int .u8) 5 w18 w.heap.size (fun _ => True) v196 y195) := ⟨h0_⟩
       have n1_ : z01 (w18.heap[gb194]? = some (.cells #[.int .i64 a0_0, .int .u64 a0_1, .slice A0_2 l0_2.length c0_2, .slice A0_3 l0_3.length c0_3, .slice A0_4 l0_4.length c0_4, .string a0_5, .int .i64 a0_6, .int .i64 a0_7, .string a0_8] 34 (0, 0))) := ⟨h1_⟩
       have n2_ : z01 (Below w.heap.size w w18) := ⟨h2_⟩
       clear BK194
       clear HB
       clear h0_ h1_ h2_
       have HO197 := n0_
       have BK194 := n1_
       have HB := n2_
       clear n0_ n1_ n2_
       have hHeld : w18.cell? ⟨gb194, 0, none⟩ = some (.int .i64 a0_0) ∧ w18.cell? ⟨gb194, 1, none⟩ = some (.int .u64 a0_1) ∧ w18.cell? ⟨gb194, 2, none⟩ = some (.slice A0_2 l0_2.length c0_2) ∧ w18.cell? ⟨gb194, 3, none⟩ = some (.slice A0_3 l0_3.length c0_3) ∧ w18.cell? ⟨gb194, 4, none⟩ = some (.slice A0_4 l0_4.length c0_4) ∧ w18.cell? ⟨gb194, 5, none⟩ = some (.string a0_5) ∧ w18.cell? ⟨gb194, 6, none⟩ = some (.int .i64 a0_6) ∧ w18.cell? ⟨gb194, 7, none⟩ = some (.int .i64 a0_7) ∧ w18.cell? ⟨gb194, 8, none⟩ = some (.string a0_8) := hS_
       refine z0b (a' := ?_) ?_ ?_
       rotate_left
       ·simp only [putAll, Act.put, q1, q2, q3]
        rfl
       refine one_ (i := 21) (N := some 26) #[true, true, true, true, true, true, true, true, true, true, true, true, true, true, true, true, true, true, true, true, true, true, false, false] rfl rfl (z19 HT_.out (by kernel_rfl)) (by decide) (fun K hK => ?_)
       refine z13 Try.func51 (by kernel_rfl) rfl #[.int .u64 (IntKind.u64.wrap ((l0_4.length : Int)))] (by rfl) rfl rfl (by (try simp only [List.map_toArray, List.map_cons, List.map_nil]); first | done | rfl | (simp only [List.length_drop, List.length_take]; rfl)) ?_
       with_reducible refine (z0j.calls (IntKind.u64.wrap ((l0_4.length : Int))) t201 _ A8.out).mono ?_
       rintro e w19 ⟨rfl, hb⟩
       refine ⟨_, rfl, ?_⟩
       have n0_ := z01.mk (Kd.z1p (by (with_reducible repeat (first | apply Kd.z0p | apply Kd.z0r | apply Kd.z0q)); exact HO197.out) hb)
       have n1_ := z01.mk (z0m (g := gb194) (o := .cells #[.int .i64 a0_0, .int .u64 a0_1, .slice A0_2 l0_2.length c0_2, .slice A0_3 l0_3.length c0_3, .slice A0_4 l0_4.length c0_4, .string a0_5, .int .i64 a0_6, .int .i64 a0_7, .string a0_8] 34 (0, 0)) (by (with_reducible repeat (first | refine z0c ?_ _ | refine z09 ?_ | refine z0a ?_ _)); exact BK194.out) hb)
       have n2_ := z01.mk (z0i (by repeat (first | (with_reducible first | exact HB.out | apply z03 | apply z05 | apply z04 | refine z08 ?_ GE194.out) | exact HB.out)) hb)
       clear HO197
       clear BK194
       clear HB
       have HO197 := n0_
       have BK194 := n1_
       have HB := n2_
       clear n0_ n1_ n2_
       (try clear hb)
       (try clear hb2)
       (try clear hk)
       (try clear hi)
       refine hK.out _ _ ⟨(z00 BK194.out 0).trans rfl, (z00 BK194.out 1).trans rfl, (z00 BK194.out 2).trans rfl, (z00 BK194.out 3).trans rfl, (z00 BK194.out 4).trans rfl, (z00 BK194.out 5).trans rfl, (z00 BK194.out 6).trans rfl, (z00 BK194.out 7).trans rfl, (z00 BK194.out 8).trans rfl⟩ (fun hHeld => ?_)
       clear hK K
       refine z0b (a' := ?_) ?_ ?_
       rotate_left
       ·show Act.put _ (some 26) _ = _
        simp only [Act.put, q1, q2, q3, z06, z07]
        rfl
       exact z0b (by first | (simp only [putAll, Act.put, q1, q2, q3]; done) | (simp only [putAll, Act.put, q1, q2, q3]; rfl)) (hJ3_4_7_11_15_21 (v196) _ ⟨hHeld, (by (with_reducible repeat (first | apply Kd.z0p | apply Kd.z0r | apply Kd.z0q)); exact HO197.out), (by (with_reducible repeat (first | refine z0c ?_ _ | refine z09 ?_ | refine z0a ?_ _)); exact BK194.out), (by repeat (first | (with_reducible first | exact HB.out | apply z03 | apply z05 | apply z04 | refine z08 ?_ GE194.out) | exact HB.out))⟩)
     rintro v196 w19 ⟨hS_, h0_, h1_, h2_⟩
     have n0_ : z01 (Kd.R (Kd.int .u8) 5 w19 w.heap.size (fun _ => True) v196 y195) := ⟨h0_⟩
     have n1_ : z01 (w19.heap[gb194]? = some (.cells #[.int .i64 a0_0, .int .u64 a0_1, .slice A0_2 l0_2.length c0_2, .slice A0_3 l0_3.length c0_3, .slice A0_4 l0_4.length c0_4, .string a0_5, .int .i64 a0_6, .int .i64 a0_7, .string a0_8] 34 (0, 0))) := ⟨h1_⟩
     have n2_ : z01 (Below w.heap.size w w19) := ⟨h2_⟩
     clear BK194
     clear HB
     clear h0_ h1_ h2_
     have HO197 := n0_
     have BK194 := n1_
     have HB := n2_
     clear n0_ n1_ n2_
     have hHeld : w19.cell? ⟨gb194, 0, none⟩ = some (.int .i64 a0_0) ∧ w19.cell? ⟨gb194, 1, none⟩ = some (.int .u64 a0_1) ∧ w19.cell? ⟨gb194, 2, none⟩ = some (.slice A0_2 l0_2.length c0_2) ∧ w19.cell? ⟨gb194, 3, none⟩ = some (.slice A0_3 l0_3.length c0_3) ∧ w19.cell? ⟨gb194, 4, none⟩ = some (.slice A0_4 l0_4.length c0_4) ∧ w19.cell? ⟨gb194, 5, none⟩ = some (.string a0_5) ∧ w19.cell? ⟨gb194, 6, none⟩ = some (.int .i64 a0_6) ∧ w19.cell? ⟨gb194, 7, none⟩ = some (.int .i64 a0_7) ∧ w19.cell? ⟨gb194, 8, none⟩ = some (.string a0_8) := hS_
     refine z0b (a' := ?_) ?_ ?_
     rotate_left
     ·simp only [putAll, Act.put, q1, q2, q3]
      rfl
     refine z0d (i := 22) (N := some 27) (v := ?_) (a' := ?_) #[true, true, true, true, true, true, true, true, true, true, true, true, true, true, true, true, true, true, true, true, true, true, true, false] rfl rfl (z0e HT_.out (by kernel_rfl)) (fun _ _ _ h => h) (Or.inl ⟨by rfl, ?_⟩) ?_ ?_
     rotate_left
     ·intro w'
      go_simp
      with_reducible rfl
     rotate_left
     ·simp only [Act.put, q1, q2, q3, z06, z07]
      rfl
     refine z0d (i := 23) (N := some 3) (v := ?_) (a' := ?_) #[true, true, true, true, true, true, true, true, true, true, true, true, true, true, true, true, true, true, true, true, true, true, true, true] rfl rfl (z0e HT_.out (by kernel_rfl)) (fun _ _ _ h => h) (Or.inl ⟨by rfl, ?_⟩) ?_ ?_
     rotate_left
     ·intro w'
      go_simp
      with_reducible rfl
     rotate_left
     ·simp only [Act.put, q1, q2, q3, z06, z07]
      rfl
     refine done_ (done_of HT_.out (by kernel_rfl)) ?_
     try go_wp2
     go_loopg [3, 4] k (fun kq v3 v4 w' => ∃ (x3_1 : ByteArray) (x4_1 : Int), v3 = .string x3_1 ∧ v4 = .int .i64 x4_1 ∧ z01 (z0t.l0 kq x3_1 x4_1 a0_0 a0_1 l0_2 l0_3 l0_4 a0_5 a0_6 a0_7 a0_8 = some r) ∧ z01 (kq ≤ k) ∧ z01 (w'.heap[gb194]? = some (.cells #[.int .i64 a0_0, .int .u64 a0_1, (.slice A0_2 l0_2.length c0_2), (.slice A0_3 l0_3.length c0_3), (.slice A0_4 l0_4.length c0_4), .string a0_5, .int .i64 a0_6, .int .i64 a0_7, .string a0_8] 34 (0, 0))) ∧ z01 (Below w.heap.size w w'))
     case atStart => exact ⟨(((((strOfNums y195) ++ t198) ++ t199) ++ t200) ++ t201), (0), (by first | rfl | (simp; done) | (simp [*]; done)), (by first | rfl | (simp; done) | (simp [*]; done)), H', ⟨Nat.le_refl _⟩, ⟨by (with_reducible repeat (first | refine z0c ?_ _ | refine z09 ?_ | refine z0a ?_ _)); exact BK194.out⟩, ⟨by repeat (first | (with_reducible first | exact HB.out | apply z03 | apply z05 | apply z04 | refine z08 ?_ GE194.out) | exact HB.out)⟩⟩
     case round =>
      clear H'
      try clear hcv1
      try clear p2
      try clear c5
      try clear hcv17
      try clear hcv18
      try clear hcv19
      obtain ⟨x3_1, x4_1, rfl, rfl, HA, HK1, BK194, HB⟩ := hrel
      cases gk with
      | zero => exact absurd HA.out (by simp [z0t.l0])
      | succ k1 =>
       have H := HA.out
       clear HA
       simp only [z0t.l0] at H
       by_cases c20 : x4_1 < (l0_4.length : Int)
       ·rw [if_pos c20] at H
        have c20b0 : decide (x4_1 < (l0_4.length : Int)) = true := decide_eq_true c20
        clear c20
        by_cases c21 : 0 ≤ x4_1
        ·rw [if_pos c21] at H
         have c21b0 : decide (0 ≤ x4_1) = true := decide_eq_true c21
         clear c21
         replace H := Option.bind_eq_some_iff.mp H
         obtain ⟨t204, A220, H⟩ := H
         replace H : (if ((z15 l0_4 x4_1).f1).size + t204.size ≤ 9223372036854775807 then (if x3_1.size + (((z15 l0_4 x4_1).f1) ++ t204).size ≤ 9223372036854775807 then (z0t.l0 k1 (x3_1 ++ (((z15 l0_4 x4_1).f1) ++ t204)) (wrap64 (x4_1 + 1)) a0_0 a0_1 l0_2 l0_3 l0_4 a0_5 a0_6 a0_7 a0_8) else (none)) else (none)) = some r := H
         have A22 := z01.mk A220
         clear A220
         by_cases c23 : ((z15 l0_4 x4_1).f1).size + t204.size ≤ 9223372036854775807
         ·rw [if_pos c23] at H
          have c23b0 := eq_true c23
          have c23b1 : decide (((z15 l0_4 x4_1).f1).size + t204.size ≤ 9223372036854775807) = true := decide_eq_true c23
          try have c23b2 : (9223372036854775807 < ((z15 l0_4 x4_1).f1).size + t204.size) = False := eq_false (Nat.not_lt.2 c23)
          clear c23
          by_cases c24 : x3_1.size + (((z15 l0_4 x4_1).f1) ++ t204).size ≤ 9223372036854775807
          ·rw [if_pos c24] at H
           have c24b0 := eq_true c24
           have c24z := c24
           simp only [ByteArray.size_append] at c24z
           have c24z2 := eq_false (Nat.not_lt.2 c24z)
           clear c24z
           have c24b1 : decide (x3_1.size + (((z15 l0_4 x4_1).f1) ++ t204).size ≤ 9223372036854775807) = true := decide_eq_true c24
           try have c24b2 : (9223372036854775807 < x3_1.size + (((z15 l0_4 x4_1).f1) ++ t204).size) = False := eq_false (Nat.not_lt.2 c24)
           clear c24
           have H' := z01.mk H
           clear H
           have hcz25_0 : wr.cell? ⟨gb194, 0, none⟩ = some (.int .i64 a0_0) := (z00 BK194.out 0).trans rfl
           have hcz25_1 : wr.cell? ⟨gb194, 1, none⟩ = some (.int .u64 a0_1) := (z00 BK194.out 1).trans rfl
           have hcz25_2 : wr.cell? ⟨gb194, 2, none⟩ = some (.slice A0_2 l0_2.length c0_2) := (z00 BK194.out 2).trans rfl
           have hcz25_3 : wr.cell? ⟨gb194, 3, none⟩ = some (.slice A0_3 l0_3.length c0_3) := (z00 BK194.out 3).trans rfl
           have hcz25_4 : wr.cell? ⟨gb194, 4, none⟩ = some (.slice A0_4 l0_4.length c0_4) := (z00 BK194.out 4).trans rfl
           have hcz25_5 : wr.cell? ⟨gb194, 5, none⟩ = some (.string a0_5) := (z00 BK194.out 5).trans rfl
           have hcz25_6 : wr.cell? ⟨gb194, 6, none⟩ = some (.int .i64 a0_6) := (z00 BK194.out 6).trans rfl
           have hcz25_7 : wr.cell? ⟨gb194, 7, none⟩ = some (.int .i64 a0_7) := (z00 BK194.out 7).trans rfl
           have hcz25_8 : wr.cell? ⟨gb194, 8, none⟩ = some (.string a0_8) := (z00 BK194.out 8).trans rfl
           have hfz25_0 := z02 BK194.out 0
           have hfz25_1 := z02 BK194.out 1
           have hfz25_2 := z02 BK194.out 2
           have hfz25_3 := z02 BK194.out 3
           have hfz25_4 := z02 BK194.out 4
           have hfz25_5 := z02 BK194.out 5
           have hfz25_6 := z02 BK194.out 6
           have hfz25_7 := z02 BK194.out 7
           have hfz25_8 := z02 BK194.out 8
           try go_wp2
           have n0_ := z01.mk (z09 BK194.out)
           have n1_ := z01.mk (z04 HB.out)
           clear BK194
           clear HB
           have BK194 := n0_
           have HB := n1_
           clear n0_ n1_
           have p202 : 0 ≤ (x4_1 : Int) := of_decide_eq_true (by first | (with_reducible assumption) | assumption)
           have q202 : x4_1 < (l0_4.length : Int) := of_decide_eq_true (by first | (with_reducible assumption) | assumption)
           obtain ⟨ad202, e202, hx202_0, hx202_1⟩ := at_T94 HR0_4.out x4_1 p202 q202
           have hw202_1 := hx202_1
           have hw202_0 := hx202_0
           cases e202
           replace hx202_0 := (HB.out.cell (World.block_lt_of_cell? w _ hx202_0)).trans hx202_0
           replace hx202_1 := (HB.out.cell (World.block_lt_of_cell? w _ hx202_1)).trans hx202_1
           replace p202 := eq_true p202
           replace q202 := eq_true q202
           have p203 : 0 ≤ (x4_1 : Int) := of_decide_eq_true (by first | (with_reducible assumption) | assumption)
           have q203 : x4_1 < (l0_4.length : Int) := of_decide_eq_true (by first | (with_reducible assumption) | assumption)
           obtain ⟨ad203, e203, hx203_0, hx203_1⟩ := at_T94 HR0_4.out x4_1 p203 q203
           have hw203_1 := hx203_1
           have hw203_0 := hx203_0
           obtain rfl : ad202 = ad203 := (by injection e203)
           replace hx203_0 := (HB.out.cell (World.block_lt_of_cell? w _ hx203_0)).trans hx203_0
           replace hx203_1 := (HB.out.cell (World.block_lt_of_cell? w _ hx203_1)).trans hx203_1
           replace p203 := eq_true p203
           replace q203 := eq_true q203
           refine start_ (n := 17) (S := fun w' => w'.cell? ⟨gb194, 0, none⟩ = some (.int .i64 a0_0) ∧ w'.cell? ⟨gb194, 1, none⟩ = some (.int .u64 a0_1) ∧ w'.cell? ⟨gb194, 2, none⟩ = some (.slice A0_2 l0_2.length c0_2) ∧ w'.cell? ⟨gb194, 3, none⟩ = some (.slice A0_3 l0_3.length c0_3) ∧ w'.cell? ⟨gb194, 4, none⟩ = some (.slice (some ad202) l0_4.length c0_4) ∧ w'.cell? ⟨gb194, 5, none⟩ = some (.string a0_5) ∧ w'.cell? ⟨gb194, 6, none⟩ = some (.int .i64 a0_6) ∧ w'.cell? ⟨gb194, 7, none⟩ = some (.int .i64 a0_7) ∧ w'.cell? ⟨gb194, 8, none⟩ = some (.string a0_8) ∧ w'.cell? (ad202.add ((x4_1).toNat * 2)) = some (.string ((z15 l0_4 x4_1).f0)) ∧ w'.cell? ⟨(ad202.add ((x4_1).toNat * 2)).block, (ad202.add ((x4_1).toNat * 2)).off + 1, none⟩ = some (.string ((z15 l0_4 x4_1).f1)) ∧ w'.cell? (ad202.add ((x4_1).toNat * 2)) = some (.string ((z15 l0_4 x4_1).f0)) ∧ w'.cell? ⟨(ad202.add ((x4_1).toNat * 2)).block, (ad202.add ((x4_1).toNat * 2)).off + 1, none⟩ = some (.string ((z15 l0_4 x4_1).f1))) (ds := []) #[false, false, false, false, false, false, false, false, false, false, false, false, false, false, false, false, false] (by kernel_rfl) rfl rfl ⟨(z00 BK194.out 0).trans rfl, (z00 BK194.out 1).trans rfl, (z00 BK194.out 2).trans rfl, (z00 BK194.out 3).trans rfl, (z00 BK194.out 4).trans rfl, (z00 BK194.out 5).trans rfl, (z00 BK194.out 6).trans rfl, (z00 BK194.out 7).trans rfl, (z00 BK194.out 8).trans rfl, ((HB.out.cell (World.block_lt_of_cell? w _ hw202_0)).trans hw202_0), ((HB.out.cell (World.block_lt_of_cell? w _ hw202_1)).trans hw202_1), ((HB.out.cell (World.block_lt_of_cell? w _ hw203_0)).trans hw203_0), ((HB.out.cell (World.block_lt_of_cell? w _ hw203_1)).trans hw203_1)⟩ (fun hHeld => ?_); refine with_tabW z0t.tab5 z0t.bits5 (fun HT_ HW_ => ?_)
           generalize wr.drew = w26 at BK194 HB hx202_0 hx202_1 hx203_0 hx203_1 hHeld ⊢
           refine z0d (i := 0) (N := some 35) (v := ?_) (a' := ?_) #[true, false, false, false, false, false, false, false, false, false, false, false, false, false, false, false, false] rfl rfl (z0e HT_.out (by kernel_rfl)) (fun _ _ _ h => h) (Or.inl ⟨by rfl, ?_⟩) ?_ ?_
           rotate_left
           ·intro w'
            go_simp
            with_reducible rfl
           rotate_left
           ·simp only [Act.put, q1, q2, q3, z06, z07]
            rfl
           refine z0d (i := 1) (N := some 36) (v := ?_) (a' := ?_) #[true, true, false, false, false, false, false, false, false, false, false, false, false, false, false, false, false] rfl rfl (z0e HT_.out (by kernel_rfl)) (fun _ _ _ h => h) (Or.inl ⟨by rfl, ?_⟩) ?_ ?_
           rotate_left
           ·intro w'
            go_simp
            with_reducible rfl
           rotate_left
           ·simp only [Act.put, q1, q2, q3, z06, z07]
            rfl
           refine z0d (i := 3) (N := some 38) (v := ?_) (a' := ?_) #[true, true, false, true, false, false, false, false, false, false, false, false, false, false, false, false, false] rfl rfl (z0e HT_.out (by kernel_rfl)) (fun _ _ _ h => h) (Or.inl ⟨by rfl, ?_⟩) ?_ ?_
           rotate_left
           ·intro w'
            go_simp
            with_reducible rfl
           rotate_left
           ·simp only [Act.put, q1, q2, q3, z06, z07]
            rfl
           refine z0d (i := 7) (N := some 42) (v := ?_) (a' := ?_) #[true, true, false, true, false, false, false, true, false, false, false, false, false, false, false, false, false] rfl rfl (z0e HT_.out (by kernel_rfl)) (fun _ _ _ h => h) (Or.inl ⟨by rfl, ?_⟩) ?_ ?_
           rotate_left
           ·intro w'
            go_simp
            with_reducible rfl
           rotate_left
           ·simp only [Act.put, q1, q2, q3, z06, z07]
            rfl
           refine z0d (i := 9) (N := some 44) (v := ?_) (a' := ?_) #[true, true, false, true, false, false, false, true, false, true, false, false, false, false, false, false, false] rfl rfl (z0e HT_.out (by kernel_rfl)) (fun _ _ _ h => h) (Or.inl ⟨by rfl, ?_⟩) ?_ ?_
           rotate_left
           ·intro w'
            go_simp
            with_reducible rfl
           rotate_left
           ·simp only [Act.put, q1, q2, q3, z06, z07]
            rfl
           refine take_ (i := 2) (N := some 37) (v := ?_) (a' := ?_) #[true, true, true, true, false, false, false, true, false, true, false, false, false, false, false, false, false] rfl rfl (z1a HT_.out HW_.out (by kernel_rfl)) (fun _ _ _ h => h) (Or.inl ⟨by rfl, ?_⟩) hHeld ?_ ?_
           rotate_left
           ·rintro w' ⟨s0, s1, s2, s3, s4, s5, s6, s7, s8, s9, s10, s11, s12⟩
            go_simp
            with_reducible rfl
           rotate_left
           ·simp only [Act.put, q1, q2, q3, z06, z07]
            rfl
           refine z0d (i := 4) (N := some 39) (v := ?_) (a' := ?_) #[true, true, true, true, true, false, false, true, false, true, false, false, false, false, false, false, false] rfl rfl (z0e HT_.out (by kernel_rfl)) (fun _ _ _ h => h) (Or.inl ⟨by rfl, ?_⟩) ?_ ?_
           rotate_left
           ·intro w'
            go_simp
            with_reducible rfl
           rotate_left
           ·simp only [Act.put, q1, q2, q3, z06, z07]
            rfl
           refine z0d (i := 5) (N := some 40) (v := ?_) (a' := ?_) #[true, true, true, true, true, true, false, true, false, true, false, false, false, false, false, false, false] rfl rfl (z0e HT_.out (by kernel_rfl)) (fun _ _ _ h => h) (Or.inl ⟨by rfl, ?_⟩) ?_ ?_
           rotate_left
           ·intro w'
            go_simp
            with_reducible rfl
           rotate_left
           ·simp only [Act.put, q1, q2, q3, z06, z07]
            rfl
           refine take_ (i := 6) (N := some 41) (v := ?_) (a' := ?_) #[true, true, true, true, true, true, true, true, false, true, false, false, false, false, false, false, false] rfl rfl (z1a HT_.out HW_.out (by kernel_rfl)) (fun _ _ _ h => h) (Or.inl ⟨by rfl, ?_⟩) hHeld ?_ ?_
           rotate_left
           ·rintro w' ⟨s0, s1, s2, s3, s4, s5, s6, s7, s8, s9, s10, s11, s12⟩
            go_simp
            with_reducible rfl
           rotate_left
           ·simp only [Act.put, q1, q2, q3, z06, z07]
            rfl
           refine take_ (i := 8) (N := some 43) (v := ?_) (a' := ?_) #[true, true, true, true, true, true, true, true, true, true, false, false, false, false, false, false, false] rfl rfl (z1a HT_.out HW_.out (by kernel_rfl)) (fun _ _ _ h => h) (Or.inl ⟨by rfl, ?_⟩) hHeld ?_ ?_
           rotate_left
           ·rintro w' ⟨s0, s1, s2, s3, s4, s5, s6, s7, s8, s9, s10, s11, s12⟩
            go_simp
            with_reducible rfl
           rotate_left
           ·simp only [Act.put, q1, q2, q3, z06, z07]
            rfl
           refine z0d (i := 10) (N := some 45) (v := ?_) (a' := ?_) #[true, true, true, true, true, true, true, true, true, true, true, false, false, false, false, false, false] rfl rfl (z0e HT_.out (by kernel_rfl)) (fun _ _ _ h => h) (Or.inl ⟨by rfl, ?_⟩) ?_ ?_
           rotate_left
           ·intro w'
            go_simp
            with_reducible rfl
           rotate_left
           ·simp only [Act.put, q1, q2, q3, z06, z07]
            rfl
           refine z0d (i := 11) (N := some 46) (v := ?_) (a' := ?_) #[true, true, true, true, true, true, true, true, true, true, true, true, false, false, false, false, false] rfl rfl (z0e HT_.out (by kernel_rfl)) (fun _ _ _ h => h) (Or.inl ⟨by rfl, ?_⟩) ?_ ?_
           rotate_left
           ·intro w'
            go_simp
            with_reducible rfl
           rotate_left
           ·simp only [Act.put, q1, q2, q3, z06, z07]
            rfl
           refine take_ (i := 12) (N := some 47) (v := ?_) (a' := ?_) #[true, true, true, true, true, true, true, true, true, true, true, true, true, false, false, false, false] rfl rfl (z1a HT_.out HW_.out (by kernel_rfl)) (fun _ _ _ h => h) (Or.inl ⟨by rfl, ?_⟩) hHeld ?_ ?_
           rotate_left
           ·rintro w' ⟨s0, s1, s2, s3, s4, s5, s6, s7, s8, s9, s10, s11, s12⟩
            go_simp
            with_reducible rfl
           rotate_left
           ·simp only [Act.put, q1, q2, q3, z06, z07]
            rfl
           refine one_ (i := 13) (N := some 48) #[true, true, true, true, true, true, true, true, true, true, true, true, true, true, false, false, false] rfl rfl (z19 HT_.out (by kernel_rfl)) (by decide) (fun K hK => ?_)
           refine z13 Try.func53 (by kernel_rfl) rfl #[.string ((z15 l0_4 x4_1).f0)] (by rfl) rfl rfl (by (try simp only [List.map_toArray, List.map_cons, List.map_nil]); first | done | rfl | (simp only [List.length_drop, List.length_take]; rfl)) ?_
           with_reducible refine (z2k.calls ((z15 l0_4 x4_1).f0) t204 _ A22.out).mono ?_
           rintro e w27 ⟨rfl, hb⟩
           refine ⟨_, rfl, ?_⟩
           have n0_ := z01.mk (z0m (g := gb194) (o := .cells #[.int .i64 a0_0, .int .u64 a0_1, .slice A0_2 l0_2.length c0_2, .slice A0_3 l0_3.length c0_3, .slice (some ad202) l0_4.length c0_4, .string a0_5, .int .i64 a0_6, .int .i64 a0_7, .string a0_8] 34 (0, 0)) (by (with_reducible repeat (first | refine z0c ?_ _ | refine z09 ?_ | refine z0a ?_ _)); exact BK194.out) hb)
           have n1_ := z01.mk (z0i (by repeat (first | (with_reducible first | exact HB.out | apply z03 | apply z05 | apply z04 | refine z08 ?_ GE194.out) | exact HB.out)) hb)
           clear BK194
           clear HB
           have BK194 := n0_
           have HB := n1_
           clear n0_ n1_
           (try clear hb)
           (try clear hb2)
           (try clear hk)
           (try clear hi)
           refine hK.out _ _ ⟨(z00 BK194.out 0).trans rfl, (z00 BK194.out 1).trans rfl, (z00 BK194.out 2).trans rfl, (z00 BK194.out 3).trans rfl, (z00 BK194.out 4).trans rfl, (z00 BK194.out 5).trans rfl, (z00 BK194.out 6).trans rfl, (z00 BK194.out 7).trans rfl, (z00 BK194.out 8).trans rfl, ((HB.out.cell (World.block_lt_of_cell? w _ hw202_0)).trans hw202_0), ((HB.out.cell (World.block_lt_of_cell? w _ hw202_1)).trans hw202_1), ((HB.out.cell (World.block_lt_of_cell? w _ hw203_0)).trans hw203_0), ((HB.out.cell (World.block_lt_of_cell? w _ hw203_1)).trans hw203_1)⟩ (fun hHeld => ?_)
           clear hK K
           refine z0b (a' := ?_) ?_ ?_
           rotate_left
           ·show Act.put _ (some 48) _ = _
            simp only [Act.put, q1, q2, q3, z06, z07]
            rfl
           refine z0d (i := 14) (N := some 49) (v := ?_) (a' := ?_) #[true, true, true, true, true, true, true, true, true, true, true, true, true, true, true, false, false] rfl rfl (z0e HT_.out (by kernel_rfl)) (fun _ _ _ h => h) (Or.inl ⟨by rfl, ?_⟩) ?_ ?_
           rotate_left
           ·intro w'
            go_simp
            with_reducible rfl
           rotate_left
           ·simp only [Act.put, q1, q2, q3, z06, z07]
            rfl
           refine z0d (i := 15) (N := some 50) (v := ?_) (a' := ?_) #[true, true, true, true, true, true, true, true, true, true, true, true, true, true, true, true, false] rfl rfl (z0e HT_.out (by kernel_rfl)) (fun _ _ _ h => h) (Or.inl ⟨by rfl, ?_⟩) ?_ ?_
           rotate_left
           ·intro w'
            go_simp
            with_reducible rfl
           rotate_left
           ·simp only [Act.put, q1, q2, q3, z06, z07]
            rfl
           refine z0d (i := 16) (N := some 3) (v := ?_) (a' := ?_) #[true, true, true, true, true, true, true, true, true, true, true, true, true, true, true, true, true] rfl rfl (z0e HT_.out (by kernel_rfl)) (fun _ _ _ h => h) (Or.inl ⟨by rfl, ?_⟩) ?_ ?_
           rotate_left
           ·intro w'
            go_simp
            with_reducible rfl
           rotate_left
           ·simp only [Act.put, q1, q2, q3, z06, z07]
            rfl
           refine done_ (done_of HT_.out (by kernel_rfl)) ?_
           try go_wp2
           go_roundg k1
           case measure => have := HK1.out; omega
           case rel => exact ⟨(x3_1 ++ (((z15 l0_4 x4_1).f1) ++ t204)), (wrap64 (x4_1 + 1)), (by first | rfl | (simp; done) | (simp [*]; done)), (by first | rfl | (simp; done) | (simp [*]; done)), H', ⟨by have := HK1.out; omega⟩, ⟨by (with_reducible repeat (first | refine z0c ?_ _ | refine z09 ?_ | refine z0a ?_ _)); exact BK194.out⟩, ⟨by repeat (first | (with_reducible first | exact HB.out | apply z03 | apply z05 | apply z04 | refine z08 ?_ GE194.out) | exact HB.out)⟩⟩
          ·rw [if_neg c24] at H
           exact absurd H (by simp)
         ·rw [if_neg c23] at H
          exact absurd H (by simp)
        ·rw [if_neg c21] at H
         exact absurd H (by simp)
       ·rw [if_neg c20] at H
        have c20b0 : decide (x4_1 < (l0_4.length : Int)) = false := decide_eq_false c20
        clear c20
        replace H := Option.bind_eq_some_iff.mp H
        obtain ⟨t205, A280, H⟩ := H
        replace H : (if x3_1.size + t205.size ≤ 9223372036854775807 then ((z0j.f (IntKind.u64.wrap (a0_6))).bind fun t206 => (if (x3_1 ++ t205).size + t206.size ≤ 9223372036854775807 then ((z0j.f (IntKind.u64.wrap (a0_7))).bind fun t207 => (if ((x3_1 ++ t205) ++ t206).size + t207.size ≤ 9223372036854775807 then ((z2k.f a0_8).bind fun t208 => (if (((x3_1 ++ t205) ++ t206) ++ t207).size + t208.size ≤ 9223372036854775807 then ((z1z.f ((((x3_1 ++ t205) ++ t206) ++ t207) ++ t208)).bind fun t209 => (some t209)) else (none))) else (none))) else (none))) else (none)) = some r := H
        have A28 := z01.mk A280
        clear A280
        by_cases c29 : x3_1.size + t205.size ≤ 9223372036854775807
        ·rw [if_pos c29] at H
         have c29b0 := eq_true c29
         have c29b1 : decide (x3_1.size + t205.size ≤ 9223372036854775807) = true := decide_eq_true c29
         try have c29b2 : (9223372036854775807 < x3_1.size + t205.size) = False := eq_false (Nat.not_lt.2 c29)
         clear c29
         replace H := Option.bind_eq_some_iff.mp H
         obtain ⟨t206, A300, H⟩ := H
         replace H : (if (x3_1 ++ t205).size + t206.size ≤ 9223372036854775807 then ((z0j.f (IntKind.u64.wrap (a0_7))).bind fun t207 => (if ((x3_1 ++ t205) ++ t206).size + t207.size ≤ 9223372036854775807 then ((z2k.f a0_8).bind fun t208 => (if (((x3_1 ++ t205) ++ t206) ++ t207).size + t208.size ≤ 9223372036854775807 then ((z1z.f ((((x3_1 ++ t205) ++ t206) ++ t207) ++ t208)).bind fun t209 => (some t209)) else (none))) else (none))) else (none)) = some r := H
         have A30 := z01.mk A300
         clear A300
         by_cases c31 : (x3_1 ++ t205).size + t206.size ≤ 9223372036854775807
         ·rw [if_pos c31] at H
          have c31b0 := eq_true c31
          have c31z := c31
          simp only [ByteArray.size_append] at c31z
          have c31z2 := eq_false (Nat.not_lt.2 c31z)
          clear c31z
          have c31b1 : decide ((x3_1 ++ t205).size + t206.size ≤ 9223372036854775807) = true := decide_eq_true c31
          try have c31b2 : (9223372036854775807 < (x3_1 ++ t205).size + t206.size) = False := eq_false (Nat.not_lt.2 c31)
          clear c31
          replace H := Option.bind_eq_some_iff.mp H
          obtain ⟨t207, A320, H⟩ := H
          replace H : (if ((x3_1 ++ t205) ++ t206).size + t207.size ≤ 9223372036854775807 then ((z2k.f a0_8).bind fun t208 => (if (((x3_1 ++ t205) ++ t206) ++ t207).size + t208.size ≤ 9223372036854775807 then ((z1z.f ((((x3_1 ++ t205) ++ t206) ++ t207) ++ t208)).bind fun t209 => (some t209)) else (none))) else (none)) = some r := H
          have A32 := z01.mk A320
          clear A320
          by_cases c33 : ((x3_1 ++ t205) ++ t206).size + t207.size ≤ 9223372036854775807
          ·rw [if_pos c33] at H
           have c33b0 := eq_true c33
           have c33z := c33
           simp only [ByteArray.size_append] at c33z
           have c33z2 := eq_false (Nat.not_lt.2 c33z)
           clear c33z
           have c33b1 : decide (((x3_1 ++ t205) ++ t206).size + t207.size ≤ 9223372036854775807) = true := decide_eq_true c33
           try have c33b2 : (9223372036854775807 < ((x3_1 ++ t205) ++ t206).size + t207.size) = False := eq_false (Nat.not_lt.2 c33)
           clear c33
           replace H := Option.bind_eq_some_iff.mp H
           obtain ⟨t208, A340, H⟩ := H
           replace H : (if (((x3_1 ++ t205) ++ t206) ++ t207).size + t208.size ≤ 9223372036854775807 then ((z1z.f ((((x3_1 ++ t205) ++ t206) ++ t207) ++ t208)).bind fun t209 => (some t209)) else (none)) = some r := H
           have A34 := z01.mk A340
           clear A340
           by_cases c35 : (((x3_1 ++ t205) ++ t206) ++ t207).size + t208.size ≤ 9223372036854775807
           ·rw [if_pos c35] at H
            have c35b0 := eq_true c35
            have c35z := c35
            simp only [ByteArray.size_append] at c35z
            have c35z2 := eq_false (Nat.not_lt.2 c35z)
            clear c35z
            have c35b1 : decide ((((x3_1 ++ t205) ++ t206) ++ t207).size + t208.size ≤ 9223372036854775807) = true := decide_eq_true c35
            try have c35b2 : (9223372036854775807 < (((x3_1 ++ t205) ++ t206) ++ t207).size + t208.size) = False := eq_false (Nat.not_lt.2 c35)
            clear c35
            replace H := Option.bind_eq_some_iff.mp H
            obtain ⟨t209, A360, H⟩ := H
            replace H : (some t209) = some r := H
            have A36 := z01.mk A360
            clear A360
            obtain rfl := Option.some.inj H
            have hcz37_0 : wr.cell? ⟨gb194, 0, none⟩ = some (.int .i64 a0_0) := (z00 BK194.out 0).trans rfl
            have hcz37_1 : wr.cell? ⟨gb194, 1, none⟩ = some (.int .u64 a0_1) := (z00 BK194.out 1).trans rfl
            have hcz37_2 : wr.cell? ⟨gb194, 2, none⟩ = some (.slice A0_2 l0_2.length c0_2) := (z00 BK194.out 2).trans rfl
            have hcz37_3 : wr.cell? ⟨gb194, 3, none⟩ = some (.slice A0_3 l0_3.length c0_3) := (z00 BK194.out 3).trans rfl
            have hcz37_4 : wr.cell? ⟨gb194, 4, none⟩ = some (.slice A0_4 l0_4.length c0_4) := (z00 BK194.out 4).trans rfl
            have hcz37_5 : wr.cell? ⟨gb194, 5, none⟩ = some (.string a0_5) := (z00 BK194.out 5).trans rfl
            have hcz37_6 : wr.cell? ⟨gb194, 6, none⟩ = some (.int .i64 a0_6) := (z00 BK194.out 6).trans rfl
            have hcz37_7 : wr.cell? ⟨gb194, 7, none⟩ = some (.int .i64 a0_7) := (z00 BK194.out 7).trans rfl
            have hcz37_8 : wr.cell? ⟨gb194, 8, none⟩ = some (.string a0_8) := (z00 BK194.out 8).trans rfl
            have hfz37_0 := z02 BK194.out 0
            have hfz37_1 := z02 BK194.out 1
            have hfz37_2 := z02 BK194.out 2
            have hfz37_3 := z02 BK194.out 3
            have hfz37_4 := z02 BK194.out 4
            have hfz37_5 := z02 BK194.out 5
            have hfz37_6 := z02 BK194.out 6
            have hfz37_7 := z02 BK194.out 7
            have hfz37_8 := z02 BK194.out 8
            try go_wp2
            have n0_ := z01.mk (z09 BK194.out)
            have n1_ := z01.mk (z04 HB.out)
            clear BK194
            clear HB
            have BK194 := n0_
            have HB := n1_
            clear n0_ n1_
            refine start_ (n := 21) (S := fun w' => w'.cell? ⟨gb194, 0, none⟩ = some (.int .i64 a0_0) ∧ w'.cell? ⟨gb194, 1, none⟩ = some (.int .u64 a0_1) ∧ w'.cell? ⟨gb194, 2, none⟩ = some (.slice A0_2 l0_2.length c0_2) ∧ w'.cell? ⟨gb194, 3, none⟩ = some (.slice A0_3 l0_3.length c0_3) ∧ w'.cell? ⟨gb194, 4, none⟩ = some (.slice A0_4 l0_4.length c0_4) ∧ w'.cell? ⟨gb194, 5, none⟩ = some (.string a0_5) ∧ w'.cell? ⟨gb194, 6, none⟩ = some (.int .i64 a0_6) ∧ w'.cell? ⟨gb194, 7, none⟩ = some (.int .i64 a0_7) ∧ w'.cell? ⟨gb194, 8, none⟩ = some (.string a0_8)) (ds := []) #[false, false, false, false, false, false, false, false, false, false, false, false, false, false, false, false, false, false, false, false, false] (by kernel_rfl) rfl rfl ⟨(z00 BK194.out 0).trans rfl, (z00 BK194.out 1).trans rfl, (z00 BK194.out 2).trans rfl, (z00 BK194.out 3).trans rfl, (z00 BK194.out 4).trans rfl, (z00 BK194.out 5).trans rfl, (z00 BK194.out 6).trans rfl, (z00 BK194.out 7).trans rfl, (z00 BK194.out 8).trans rfl⟩ (fun hHeld => ?_); refine with_tabW z0t.tab6 z0t.bits6 (fun HT_ HW_ => ?_)
            generalize wr.drew = w38 at BK194 HB hHeld ⊢
            refine z0d (i := 0) (N := some 51) (v := ?_) (a' := ?_) #[true, false, false, false, false, false, false, false, false, false, false, false, false, false, false, false, false, false, false, false, false] rfl rfl (z0e HT_.out (by kernel_rfl)) (fun _ _ _ h => h) (Or.inl ⟨by rfl, ?_⟩) ?_ ?_
            rotate_left
            ·intro w'
             go_simp
             with_reducible rfl
            rotate_left
            ·simp only [Act.put, q1, q2, q3, z06, z07]
             rfl
            refine z0d (i := 1) (N := some 52) (v := ?_) (a' := ?_) #[true, true, false, false, false, false, false, false, false, false, false, false, false, false, false, false, false, false, false, false, false] rfl rfl (z0e HT_.out (by kernel_rfl)) (fun _ _ _ h => h) (Or.inl ⟨by rfl, ?_⟩) ?_ ?_
            rotate_left
            ·intro w'
             go_simp
             with_reducible rfl
            rotate_left
            ·simp only [Act.put, q1, q2, q3, z06, z07]
             rfl
            refine z0d (i := 5) (N := some 56) (v := ?_) (a' := ?_) #[true, true, false, false, false, true, false, false, false, false, false, false, false, false, false, false, false, false, false, false, false] rfl rfl (z0e HT_.out (by kernel_rfl)) (fun _ _ _ h => h) (Or.inl ⟨by rfl, ?_⟩) ?_ ?_
            rotate_left
            ·intro w'
             go_simp
             with_reducible rfl
            rotate_left
            ·simp only [Act.put, q1, q2, q3, z06, z07]
             rfl
            refine z0d (i := 10) (N := some 61) (v := ?_) (a' := ?_) #[true, true, false, false, false, true, false, false, false, false, true, false, false, false, false, false, false, false, false, false, false] rfl rfl (z0e HT_.out (by kernel_rfl)) (fun _ _ _ h => h) (Or.inl ⟨by rfl, ?_⟩) ?_ ?_
            rotate_left
            ·intro w'
             go_simp
             with_reducible rfl
            rotate_left
            ·simp only [Act.put, q1, q2, q3, z06, z07]
             rfl
            refine z0d (i := 15) (N := some 66) (v := ?_) (a' := ?_) #[true, true, false, false, false, true, false, false, false, false, true, false, false, false, false, true, false, false, false, false, false] rfl rfl (z0e HT_.out (by kernel_rfl)) (fun _ _ _ h => h) (Or.inl ⟨by rfl, ?_⟩) ?_ ?_
            rotate_left
            ·intro w'
             go_simp
             with_reducible rfl
            rotate_left
            ·simp only [Act.put, q1, q2, q3, z06, z07]
             rfl
            refine take_ (i := 2) (N := some 53) (v := ?_) (a' := ?_) #[true, true, true, false, false, true, false, false, false, false, true, false, false, false, false, true, false, false, false, false, false] rfl rfl (z1a HT_.out HW_.out (by kernel_rfl)) (fun _ _ _ h => h) (Or.inl ⟨by rfl, ?_⟩) hHeld ?_ ?_
            rotate_left
            ·rintro w' ⟨s0, s1, s2, s3, s4, s5, s6, s7, s8⟩
             go_simp
             with_reducible rfl
            rotate_left
            ·simp only [Act.put, q1, q2, q3, z06, z07]
             rfl
            refine take_ (i := 6) (N := some 57) (v := ?_) (a' := ?_) #[true, true, true, false, false, true, true, false, false, false, true, false, false, false, false, true, false, false, false, false, false] rfl rfl (z1a HT_.out HW_.out (by kernel_rfl)) (fun _ _ _ h => h) (Or.inl ⟨by rfl, ?_⟩) hHeld ?_ ?_
            rotate_left
            ·rintro w' ⟨s0, s1, s2, s3, s4, s5, s6, s7, s8⟩
             go_simp
             with_reducible rfl
            rotate_left
            ·simp only [Act.put, q1, q2, q3, z06, z07]
             rfl
            refine z0d (i := 7) (N := some 58) (v := ?_) (a' := ?_) #[true, true, true, false, false, true, true, true, false, false, true, false, false, false, false, true, false, false, false, false, false] rfl rfl (z0e HT_.out (by kernel_rfl)) (fun _ _ _ h => h) (Or.inl ⟨by rfl, ?_⟩) ?_ ?_
            rotate_left
            ·intro w'
             go_simp
             with_reducible rfl
            rotate_left
            ·simp only [Act.put, q1, q2, q3, z06, z07]
             rfl
            refine take_ (i := 11) (N := some 62) (v := ?_) (a' := ?_) #[true, true, true, false, false, true, true, true, false, false, true, true, false, false, false, true, false, false, false, false, false] rfl rfl (z1a HT_.out HW_.out (by kernel_rfl)) (fun _ _ _ h => h) (Or.inl ⟨by rfl, ?_⟩) hHeld ?_ ?_
            rotate_left
            ·rintro w' ⟨s0, s1, s2, s3, s4, s5, s6, s7, s8⟩
             go_simp
             with_reducible rfl
            rotate_left
            ·simp only [Act.put, q1, q2, q3, z06, z07]
             rfl
            refine z0d (i := 12) (N := some 63) (v := ?_) (a' := ?_) #[true, true, true, false, false, true, true, true, false, false, true, true, true, false, false, true, false, false, false, false, false] rfl rfl (z0e HT_.out (by kernel_rfl)) (fun _ _ _ h => h) (Or.inl ⟨by rfl, ?_⟩) ?_ ?_
            rotate_left
            ·intro w'
             go_simp
             with_reducible rfl
            rotate_left
            ·simp only [Act.put, q1, q2, q3, z06, z07]
             rfl
            refine take_ (i := 16) (N := some 67) (v := ?_) (a' := ?_) #[true, true, true, false, false, true, true, true, false, false, true, true, true, false, false, true, true, false, false, false, false] rfl rfl (z1a HT_.out HW_.out (by kernel_rfl)) (fun _ _ _ h => h) (Or.inl ⟨by rfl, ?_⟩) hHeld ?_ ?_
            rotate_left
            ·rintro w' ⟨s0, s1, s2, s3, s4, s5, s6, s7, s8⟩
             go_simp
             with_reducible rfl
            rotate_left
            ·simp only [Act.put, q1, q2, q3, z06, z07]
             rfl
            refine one_ (i := 3) (N := some 54) #[true, true, true, true, false, true, true, true, false, false, true, true, true, false, false, true, true, false, false, false, false] rfl rfl (z19 HT_.out (by kernel_rfl)) (by decide) (fun K hK => ?_)
            refine z13 Try.func53 (by kernel_rfl) rfl #[.string a0_5] (by rfl) rfl rfl (by (try simp only [List.map_toArray, List.map_cons, List.map_nil]); first | done | rfl | (simp only [List.length_drop, List.length_take]; rfl)) ?_
            with_reducible refine (z2k.calls a0_5 t205 _ A28.out).mono ?_
            rintro e w39 ⟨rfl, hb⟩
            refine ⟨_, rfl, ?_⟩
            have n0_ := z01.mk (z0m (g := gb194) (o := .cells #[.int .i64 a0_0, .int .u64 a0_1, .slice A0_2 l0_2.length c0_2, .slice A0_3 l0_3.length c0_3, .slice A0_4 l0_4.length c0_4, .string a0_5, .int .i64 a0_6, .int .i64 a0_7, .string a0_8] 34 (0, 0)) (by (with_reducible repeat (first | refine z0c ?_ _ | refine z09 ?_ | refine z0a ?_ _)); exact BK194.out) hb)
            have n1_ := z01.mk (z0i (by repeat (first | (with_reducible first | exact HB.out | apply z03 | apply z05 | apply z04 | refine z08 ?_ GE194.out) | exact HB.out)) hb)
            clear BK194
            clear HB
            have BK194 := n0_
            have HB := n1_
            clear n0_ n1_
            (try clear hb)
            (try clear hb2)
            (try clear hk)
            (try clear hi)
            refine hK.out _ _ ⟨(z00 BK194.out 0).trans rfl, (z00 BK194.out 1).trans rfl, (z00 BK194.out 2).trans rfl, (z00 BK194.out 3).trans rfl, (z00 BK194.out 4).trans rfl, (z00 BK194.out 5).trans rfl, (z00 BK194.out 6).trans rfl, (z00 BK194.out 7).trans rfl, (z00 BK194.out 8).trans rfl⟩ (fun hHeld => ?_)
            clear hK K
            refine z0b (a' := ?_) ?_ ?_
            rotate_left
            ·show Act.put _ (some 54) _ = _
             simp only [Act.put, q1, q2, q3, z06, z07]
             rfl
            refine z0d (i := 4) (N := some 55) (v := ?_) (a' := ?_) #[true, true, true, true, true, true, true, true, false, false, true, true, true, false, false, true, true, false, false, false, false] rfl rfl (z0e HT_.out (by kernel_rfl)) (fun _ _ _ h => h) (Or.inl ⟨by rfl, ?_⟩) ?_ ?_
            rotate_left
            ·intro w'
             go_simp
             with_reducible rfl
            rotate_left
            ·simp only [Act.put, q1, q2, q3, z06, z07]
             rfl
            refine one_ (i := 8) (N := some 59) #[true, true, true, true, true, true, true, true, true, false, true, true, true, false, false, true, true, false, false, false, false] rfl rfl (z19 HT_.out (by kernel_rfl)) (by decide) (fun K hK => ?_)
            refine z13 Try.func51 (by kernel_rfl) rfl #[.int .u64 (IntKind.u64.wrap (a0_6))] (by rfl) rfl rfl (by (try simp only [List.map_toArray, List.map_cons, List.map_nil]); first | done | rfl | (simp only [List.length_drop, List.length_take]; rfl)) ?_
            with_reducible refine (z0j.calls (IntKind.u64.wrap (a0_6)) t206 _ A30.out).mono ?_
            rintro e w40 ⟨rfl, hb⟩
            refine ⟨_, rfl, ?_⟩
            have n0_ := z01.mk (z0m (g := gb194) (o := .cells #[.int .i64 a0_0, .int .u64 a0_1, .slice A0_2 l0_2.length c0_2, .slice A0_3 l0_3.length c0_3, .slice A0_4 l0_4.length c0_4, .string a0_5, .int .i64 a0_6, .int .i64 a0_7, .string a0_8] 34 (0, 0)) (by (with_reducible repeat (first | refine z0c ?_ _ | refine z09 ?_ | refine z0a ?_ _)); exact BK194.out) hb)
            have n1_ := z01.mk (z0i (by repeat (first | (with_reducible first | exact HB.out | apply z03 | apply z05 | apply z04 | refine z08 ?_ GE194.out) | exact HB.out)) hb)
            clear BK194
            clear HB
            have BK194 := n0_
            have HB := n1_
            clear n0_ n1_
            (try clear hb)
            (try clear hb2)
            (try clear hk)
            (try clear hi)
            refine hK.out _ _ ⟨(z00 BK194.out 0).trans rfl, (z00 BK194.out 1).trans rfl, (z00 BK194.out 2).trans rfl, (z00 BK194.out 3).trans rfl, (z00 BK194.out 4).trans rfl, (z00 BK194.out 5).trans rfl, (z00 BK194.out 6).trans rfl, (z00 BK194.out 7).trans rfl, (z00 BK194.out 8).trans rfl⟩ (fun hHeld => ?_)
            clear hK K
            refine z0b (a' := ?_) ?_ ?_
            rotate_left
            ·show Act.put _ (some 59) _ = _
             simp only [Act.put, q1, q2, q3, z06, z07]
             rfl
            refine z0d (i := 9) (N := some 60) (v := ?_) (a' := ?_) #[true, true, true, true, true, true, true, true, true, true, true, true, true, false, false, true, true, false, false, false, false] rfl rfl (z0e HT_.out (by kernel_rfl)) (fun _ _ _ h => h) (Or.inl ⟨by rfl, ?_⟩) ?_ ?_
            rotate_left
            ·intro w'
             go_simp
             with_reducible rfl
            rotate_left
            ·simp only [Act.put, q1, q2, q3, z06, z07]
             rfl
            refine one_ (i := 13) (N := some 64) #[true, true, true, true, true, true, true, true, true, true, true, true, true, true, false, true, true, false, false, false, false] rfl rfl (z19 HT_.out (by kernel_rfl)) (by decide) (fun K hK => ?_)
            refine z13 Try.func51 (by kernel_rfl) rfl #[.int .u64 (IntKind.u64.wrap (a0_7))] (by rfl) rfl rfl (by (try simp only [List.map_toArray, List.map_cons, List.map_nil]); first | done | rfl | (simp only [List.length_drop, List.length_take]; rfl)) ?_
            with_reducible refine (z0j.calls (IntKind.u64.wrap (a0_7)) t207 _ A32.out).mono ?_
            rintro e w41 ⟨rfl, hb⟩
            refine ⟨_, rfl, ?_⟩
            have n0_ := z01.mk (z0m (g := gb194) (o := .cells #[.int .i64 a0_0, .int .u64 a0_1, .slice A0_2 l0_2.length c0_2, .slice A0_3 l0_3.length c0_3, .slice A0_4 l0_4.length c0_4, .string a0_5, .int .i64 a0_6, .int .i64 a0_7, .string a0_8] 34 (0, 0)) (by (with_reducible repeat (first | refine z0c ?_ _ | refine z09 ?_ | refine z0a ?_ _)); exact BK194.out) hb)
            have n1_ := z01.mk (z0i (by repeat (first | (with_reducible first | exact HB.out | apply z03 | apply z05 | apply z04 | refine z08 ?_ GE194.out) | exact HB.out)) hb)
            clear BK194
            clear HB
            have BK194 := n0_
            have HB := n1_
            clear n0_ n1_
            (try clear hb)
            (try clear hb2)
            (try clear hk)
            (try clear hi)
            refine hK.out _ _ ⟨(z00 BK194.out 0).trans rfl, (z00 BK194.out 1).trans rfl, (z00 BK194.out 2).trans rfl, (z00 BK194.out 3).trans rfl, (z00 BK194.out 4).trans rfl, (z00 BK194.out 5).trans rfl, (z00 BK194.out 6).trans rfl, (z00 BK194.out 7).trans rfl, (z00 BK194.out 8).trans rfl⟩ (fun hHeld => ?_)
            clear hK K
            refine z0b (a' := ?_) ?_ ?_
            rotate_left
            ·show Act.put _ (some 64) _ = _
             simp only [Act.put, q1, q2, q3, z06, z07]
             rfl
            refine z0d (i := 14) (N := some 65) (v := ?_) (a' := ?_) #[true, true, true, true, true, true, true, true, true, true, true, true, true, true, true, true, true, false, false, false, false] rfl rfl (z0e HT_.out (by kernel_rfl)) (fun _ _ _ h => h) (Or.inl ⟨by rfl, ?_⟩) ?_ ?_
            rotate_left
            ·intro w'
             go_simp
             with_reducible rfl
            rotate_left
            ·simp only [Act.put, q1, q2, q3, z06, z07]
             rfl
            refine one_ (i := 17) (N := some 68) #[true, true, true, true, true, true, true, true, true, true, true, true, true, true, true, true, true, true, false, false, false] rfl rfl (z19 HT_.out (by kernel_rfl)) (by decide) (fun K hK => ?_)
            refine z13 Try.func53 (by kernel_rfl) rfl #[.string a0_8] (by rfl) rfl rfl (by (try simp only [List.map_toArray, List.map_cons, List.map_nil]); first | done | rfl | (simp only [List.length_drop, List.length_take]; rfl)) ?_
            with_reducible refine (z2k.calls a0_8 t208 _ A34.out).mono ?_
            rintro e w42 ⟨rfl, hb⟩
            refine ⟨_, rfl, ?_⟩
            have n0_ := z01.mk (z0m (g := gb194) (o := .cells #[.int .i64 a0_0, .int .u64 a0_1, .slice A0_2 l0_2.length c0_2, .slice A0_3 l0_3.length c0_3, .slice A0_4 l0_4.length c0_4, .string a0_5, .int .i64 a0_6, .int .i64 a0_7, .string a0_8] 34 (0, 0)) (by (with_reducible repeat (first | refine z0c ?_ _ | refine z09 ?_ | refine z0a ?_ _)); exact BK194.out) hb)
            have n1_ := z01.mk (z0i (by repeat (first | (with_reducible first | exact HB.out | apply z03 | apply z05 | apply z04 | refine z08 ?_ GE194.out) | exact HB.out)) hb)
            clear BK194
            clear HB
            have BK194 := n0_
            have HB := n1_
            clear n0_ n1_
            (try clear hb)
            (try clear hb2)
            (try clear hk)
            (try clear hi)
            refine hK.out _ _ ⟨(z00 BK194.out 0).trans rfl, (z00 BK194.out 1).trans rfl, (z00 BK194.out 2).trans rfl, (z00 BK194.out 3).trans rfl, (z00 BK194.out 4).trans rfl, (z00 BK194.out 5).trans rfl, (z00 BK194.out 6).trans rfl, (z00 BK194.out 7).trans rfl, (z00 BK194.out 8).trans rfl⟩ (fun hHeld => ?_)
            clear hK K
            refine z0b (a' := ?_) ?_ ?_
            rotate_left
            ·show Act.put _ (some 68) _ = _
             simp only [Act.put, q1, q2, q3, z06, z07]
             rfl
            refine z0d (i := 18) (N := some 69) (v := ?_) (a' := ?_) #[true, true, true, true, true, true, true, true, true, true, true, true, true, true, true, true, true, true, true, false, false] rfl rfl (z0e HT_.out (by kernel_rfl)) (fun _ _ _ h => h) (Or.inl ⟨by rfl, ?_⟩) ?_ ?_
            rotate_left
            ·intro w'
             go_simp
             with_reducible rfl
            rotate_left
            ·simp only [Act.put, q1, q2, q3, z06, z07]
             rfl
            refine one_ (i := 19) (N := some 70) #[true, true, true, true, true, true, true, true, true, true, true, true, true, true, true, true, true, true, true, true, false] rfl rfl (z19 HT_.out (by kernel_rfl)) (by decide) (fun K hK => ?_)
            refine z13 Try.func54 (by kernel_rfl) rfl #[.string ((((x3_1 ++ t205) ++ t206) ++ t207) ++ t208)] (by rfl) rfl rfl (by (try simp only [List.map_toArray, List.map_cons, List.map_nil]); first | done | rfl | (simp only [List.length_drop, List.length_take]; rfl)) ?_
            with_reducible refine (z1z.calls ((((x3_1 ++ t205) ++ t206) ++ t207) ++ t208) t209 _ A36.out).mono ?_
            rintro e w43 ⟨rfl, hb⟩
            refine ⟨_, rfl, ?_⟩
            have n0_ := z01.mk (z0m (g := gb194) (o := .cells #[.int .i64 a0_0, .int .u64 a0_1, .slice A0_2 l0_2.length c0_2, .slice A0_3 l0_3.length c0_3, .slice A0_4 l0_4.length c0_4, .string a0_5, .int .i64 a0_6, .int .i64 a0_7, .string a0_8] 34 (0, 0)) (by (with_reducible repeat (first | refine z0c ?_ _ | refine z09 ?_ | refine z0a ?_ _)); exact BK194.out) hb)
            have n1_ := z01.mk (z0i (by repeat (first | (with_reducible first | exact HB.out | apply z03 | apply z05 | apply z04 | refine z08 ?_ GE194.out) | exact HB.out)) hb)
            clear BK194
            clear HB
            have BK194 := n0_
            have HB := n1_
            clear n0_ n1_
            (try clear hb)
            (try clear hb2)
            (try clear hk)
            (try clear hi)
            refine hK.out _ _ ⟨(z00 BK194.out 0).trans rfl, (z00 BK194.out 1).trans rfl, (z00 BK194.out 2).trans rfl, (z00 BK194.out 3).trans rfl, (z00 BK194.out 4).trans rfl, (z00 BK194.out 5).trans rfl, (z00 BK194.out 6).trans rfl, (z00 BK194.out 7).trans rfl, (z00 BK194.out 8).trans rfl⟩ (fun hHeld => ?_)
            clear hK K
            refine z0b (a' := ?_) ?_ ?_
            rotate_left
            ·show Act.put _ (some 70) _ = _
             simp only [Act.put, q1, q2, q3, z06, z07]
             rfl
            refine z0d (i := 20) (N := some 2) (v := ?_) (a' := ?_) #[true, true, true, true, true, true, true, true, true, true, true, true, true, true, true, true, true, true, true, true, true] rfl rfl (z0e HT_.out (by kernel_rfl)) (fun _ _ _ h => h) (Or.inl ⟨by rfl, ?_⟩) ?_ ?_
            rotate_left
            ·intro w'
             go_simp
             with_reducible rfl
            rotate_left
            ·simp only [Act.put, q1, q2, q3, z06, z07]
             rfl
            refine done_ (done_of HT_.out (by kernel_rfl)) ?_
            try go_wp2
            go_ret
            exact ⟨by first | rfl | (simp [z0n, z0o] <;> rfl) | (simp [*, z0n, z0o] <;> rfl), by repeat (first | (with_reducible first | exact HB.out | apply z03 | apply z05 | apply z04 | refine z08 ?_ GE194.out) | exact HB.out)⟩
           ·rw [if_neg c35] at H
            exact absurd H (by simp)
          ·rw [if_neg c33] at H
           exact absurd H (by simp)
         ·rw [if_neg c31] at H
          exact absurd H (by simp)
        ·rw [if_neg c29] at H
         exact absurd H (by simp)
    ·rw [if_neg c9] at H
     exact absurd H (by simp)
   ·rw [if_neg c7] at H
    exact absurd H (by simp)
  ·rw [if_neg c5] at H
   exact absurd H (by simp)
 ·rw [if_neg c3] at H
  exact absurd H (by simp)
end Go.Proofs.Ytcfdplmapdgfmaa.PF
