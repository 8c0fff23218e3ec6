import Derived.Test.YtcfdplmapdgfmaaYPGx0
import Derived.Test.YtcfdplmapdgfmaaYPGx1
namespace Go.Proofs.Ytcfdplmapdgfmaa.PG
open List renaming setIfInBounds_toArray → q1, set_cons_zero → q2, set_cons_succ → q3
open Go.RowKit Go.Proofs.YtcfdplmapdgfmaaW.PrintWords Go.Proofs.YtcfdplmapdgfmaaW.PrintLast Go.Proofs.YtcfdplmapdgfmaaW.PrintMore
attribute [local go_sem] z21 z22 z23 z25 z26 z27 z28 z29   -- for this text's walks alone
set_option linter.unusedVariables false
set_option linter.unusedSimpArgs false
def z0s.l0 : Nat → ByteArray → List (S91) → Int → Int → Int → Int → List ByteArray → List ByteArray → List (S91) → ByteArray → Int → Int → ByteArray → Option (ByteArray × Int)
 | 0, _, _, _, _, _, _, _, _, _, _, _, _, _ => none
 | k + 1, x5, x37, x38, x39, x132000, x132001, x132002, x132003, x132004, x132005, x132006, x132007, x132008 => if x39 < x38 then (if 0 ≤ x39 then (if x39 < (x37.length : Int) then ((z0k.f (IntKind.u64.wrap ((((z0v x37 x39).f0).size : Int)))).bind fun t142 => (if ((z0v x37 x39).f1).size + t142.size ≤ 9223372036854775807 then (if (((z0v x37 x39).f1) ++ t142).size + ((z0v x37 x39).f0).size ≤ 9223372036854775807 then (if x5.size + ((((z0v x37 x39).f1) ++ t142) ++ ((z0v x37 x39).f0)).size ≤ 9223372036854775807 then (z0s.l0 k (x5 ++ ((((z0v x37 x39).f1) ++ t142) ++ ((z0v x37 x39).f0))) x37 x38 (wrap64 (x39 + 1)) x132000 x132001 x132002 x132003 x132004 x132005 x132006 x132007 x132008) else (none)) else (none)) else (none))) else (none)) else (none)) else ((z0k.f (IntKind.u64.wrap ((x132005.size : Int)))).bind fun t143 => (if t143.size + x132005.size ≤ 9223372036854775807 then ((z0k.f (IntKind.u64.wrap (x132006))).bind fun t144 => (if (t143 ++ x132005).size + t144.size ≤ 9223372036854775807 then ((z0k.f (IntKind.u64.wrap (x132007))).bind fun t145 => (if ((t143 ++ x132005) ++ t144).size + t145.size ≤ 9223372036854775807 then ((z0k.f (IntKind.u64.wrap ((x132008.size : Int)))).bind fun t146 => (if (((t143 ++ x132005) ++ t144) ++ t145).size + t146.size ≤ 9223372036854775807 then (if ((((t143 ++ x132005) ++ t144) ++ t145) ++ t146).size + x132008.size ≤ 9223372036854775807 then (if x5.size + (((((t143 ++ x132005) ++ t144) ++ t145) ++ t146) ++ x132008).size ≤ 9223372036854775807 then ((z1y.f (x5 ++ (((((t143 ++ x132005) ++ t144) ++ t145) ++ t146) ++ x132008))).bind fun t147 => (some (t147, 0))) else (none)) else (none)) else (none))) else (none))) else (none))) else (none)))
def z0s.f (k : Nat) (a0_0 : Int) (a0_1 : Int) (l0_2 : List ByteArray) (l0_3 : List ByteArray) (l0_4 : List (S91)) (a0_5 : ByteArray) (a0_6 : Int) (a0_7 : Int) (a0_8 : ByteArray) : Option (ByteArray × Int) := (z2o.f a0_0 a0_1 l0_2 l0_3 l0_4 a0_5 a0_6 a0_7 a0_8).bind fun t132 => (if t132 = 0 then ((some (([(a0_0) % 256] : List Int) : List Int)).bind fun y133 => ((z0k.f a0_1).bind fun t136 => (if (strOfNums y133).size + t136.size ≤ 9223372036854775807 then ((z0z.f k l0_2).bind fun t137 => (if ((strOfNums y133) ++ t136).size + t137.size ≤ 9223372036854775807 then ((z0z.f k l0_3).bind fun t138 => (if (((strOfNums y133) ++ t136) ++ t137).size + t138.size ≤ 9223372036854775807 then ((z0k.f (IntKind.u64.wrap ((l0_4.length : Int)))).bind fun t139 => (if ((((strOfNums y133) ++ t136) ++ t137) ++ t138).size + t139.size ≤ 9223372036854775807 then (z0s.l0 k (((((strOfNums y133) ++ t136) ++ t137) ++ t138) ++ t139) l0_4 (l0_4.length : Int) 0 a0_0 a0_1 l0_2 l0_3 l0_4 a0_5 a0_6 a0_7 a0_8) else (none))) else (none))) else (none))) else (none)))) else (some ((⟨#[]⟩ : ByteArray), t132)))
theorem z0s.mono_l : ∀ k, (∀ y0 y1 y2 y3 y4 y5 y6 y7 y8 y9 y10 y11 y12, LeO (z0s.l0 k y0 y1 y2 y3 y4 y5 y6 y7 y8 y9 y10 y11 y12) (z0s.l0 (k + 1) y0 y1 y2 y3 y4 y5 y6 y7 y8 y9 y10 y11 y12))
 | 0 => fun _ _ _ _ _ _ _ _ _ _ _ _ _ r h => by simp [z0s.l0] at h
 | k + 1 => by
  have ih0 := z0s.mono_l k
  ·intro y0 y1 y2 y3 y4 y5 y6 y7 y8 y9 y10 y11 y12
   unfold z0s.l0
   repeat' first
   | (with_reducible exact ih0 _ _ _ _ _ _ _ _ _ _ _ _ _)
   | (with_reducible exact z0z.mono _ _)
   | (with_reducible exact LeO.refl _)
   | (with_reducible exact LeO.none _)
   | (with_reducible refine LeO.ite ?_ ?_)
   | (with_reducible refine LeO.bind ?_ (fun _ => ?_))
   | exact ih0 _ _ _ _ _ _ _ _ _ _ _ _ _
   | exact z0z.mono _ _
   | exact LeO.none _
   | refine LeO.ite ?_ ?_
   | refine LeO.bind ?_ (fun _ => ?_)
theorem z0s.mono : ∀ a0 a1 a2 a3 a4 a5 a6 a7 a8 k, LeO (z0s.f k a0 a1 a2 a3 a4 a5 a6 a7 a8) (z0s.f (k + 1) a0 a1 a2 a3 a4 a5 a6 a7 a8) := by
 intro a0 a1 a2 a3 a4 a5 a6 a7 a8 k
 have ih0 := z0s.mono_l k
 unfold z0s.f
 repeat' first
   | (with_reducible exact ih0 _ _ _ _ _ _ _ _ _ _ _ _ _)
   | (with_reducible exact z0z.mono _ _)
   | (with_reducible exact LeO.refl _)
   | (with_reducible exact LeO.none _)
   | (with_reducible refine LeO.ite ?_ ?_)
   | (with_reducible refine LeO.bind ?_ (fun _ => ?_))
   | exact ih0 _ _ _ _ _ _ _ _ _ _ _ _ _
   | exact z0z.mono _ _
   | exact LeO.none _
   | refine LeO.ite ?_ ?_
   | refine LeO.bind ?_ (fun _ => ?_)
def z0s.T4 : Bool × List (List Nat × List Nat) := (true, [([], []), ([0], [0]), ([1], [1]), ([2], [2]), ([3], [3]), ([], []), ([5], [5]), ([6], [6]), ([4, 7], [4, 7]), ([], []), ([9], [9]), ([10, 7], [10]), ([8, 11], [8, 11]), ([], []), ([13], [13]), ([14, 11], [14]), ([12, 15], [12, 15]), ([], []), ([17], [17]), ([18], [18]), ([19], [19]), ([20, 15], [20]), ([16, 21], [16, 21]), ([22, 21, 0, 1, 2, 3, 4, 5, 6, 7, 8, 9, 10, 11, 12, 13, 14, 15, 16, 17, 18, 19, 20, 21, 22], [22])])
def z0s.B4 : List Nat := [0, 1, 3, 7, 15, 0, 32, 96, 255, 0, 512, 1760, 4095, 0, 8192, 28384, 65535, 0, 131072, 393216, 917504, 2027232, 4194303, 8388607]
theorem z0s.tab4 : rtab .any (opsOf Try.f13 4) = z0s.T4 := by kernel_rfl
theorem z0s.bits4 : waitsOk z0s.T4.2 z0s.B4 = true := by kernel_rfl
def z0s.T8 : Bool × List (List Nat × List Nat) := (true, [([], []), ([], []), ([1], [1]), ([], []), ([3], [3]), ([4], [4]), ([5], [5]), ([6], [6]), ([2, 7], [2, 7]), ([], []), ([9], [9]), ([8, 10], [8, 10]), ([0, 11], [0, 11]), ([12, 7, 0, 1, 2, 3, 4, 5, 6, 7, 8, 9, 10, 11, 12], [0, 12])])
def z0s.B8 : List Nat := [0, 0, 2, 0, 8, 24, 56, 120, 254, 0, 512, 2046, 4095, 8191]
theorem z0s.tab8 : rtab .any (opsOf Try.f13 8) = z0s.T8 := by kernel_rfl
theorem z0s.bits8 : waitsOk z0s.T8.2 z0s.B8 = true := by kernel_rfl
def z0s.T10 : Bool × List (List Nat × List Nat) := (true, [([], []), ([], []), ([1], [1]), ([2], [2]), ([3], [3]), ([4], [4]), ([], []), ([6], [6]), ([5, 7], [5, 7]), ([], []), ([9], [9]), ([10], [10]), ([11, 5], [11]), ([8, 12], [8, 12]), ([], []), ([14], [14]), ([15], [15]), ([16, 12], [16]), ([13, 17], [13, 17]), ([], []), ([19], [19]), ([20], [20]), ([21], [21]), ([22, 17], [22]), ([18, 23], [18, 23]), ([], []), ([25], [25]), ([24, 26], [24, 26]), ([0, 27], [0, 27]), ([28, 23, 0, 1, 2, 3, 4, 5, 6, 7, 8, 9, 10, 11, 12, 13, 14, 15, 16, 17, 18, 19, 20, 21, 22, 23, 24, 25, 26, 27, 28], [0, 28])])
def z0s.B10 : List Nat := [0, 0, 2, 6, 14, 30, 0, 64, 254, 0, 512, 1536, 3646, 8190, 0, 16384, 49152, 122430, 262142, 0, 524288, 1572864, 3670016, 8117822, 16777214, 0, 33554432, 134217726, 268435455, 536870911]
theorem z0s.tab10 : rtab .any (opsOf Try.f13 10) = z0s.T10 := by kernel_rfl
theorem z0s.bits10 : waitsOk z0s.T10.2 z0s.B10 = true := by kernel_rfl
set_option maxHeartbeats 8000000 in
set_option maxRecDepth 100000 in
theorem z0s.calls (k : Nat) (a0_0 : Int) (a0_1 : Int) (A0_2 : Option Addr) (c0_2 : Nat) (l0_2 : List ByteArray) (A0_3 : Option Addr) (c0_3 : Nat) (l0_3 : List ByteArray) (A0_4 : Option Addr) (c0_4 : Nat) (l0_4 : List (S91)) (a0_5 : ByteArray) (a0_6 : Int) (a0_7 : Int) (a0_8 : ByteArray) (r1 : ByteArray) (r2 : Int) (w : World) (hr0_2 : Kd.C Kd.string w A0_2 l0_2.length l0_2) (hc0_2 : l0_2.length ≤ c0_2) (hr0_3 : Kd.C Kd.string w A0_3 l0_3.length l0_3) (hc0_3 : l0_3.length ≤ c0_3) (hr0_4 : Kd.C k91 w A0_4 l0_4.length l0_4) (hc0_4 : l0_4.length ≤ c0_4) (h : z0s.f k a0_0 a0_1 l0_2 l0_3 l0_4 a0_5 a0_6 a0_7 a0_8 = some (r1, r2)) :
  Calls Try.prog 13 #[.agg #[.int .i64 a0_0, .int .u64 a0_1, .slice A0_2 l0_2.length c0_2, .slice A0_3 l0_3.length c0_3, .slice A0_4 l0_4.length c0_4, .string a0_5, .int .i64 a0_6, .int .i64 a0_7, .string a0_8]] w fun e w' => e = .returned (.tuple #[.string r1, .int .i64 r2]) ∧ Below w.heap.size w w' := by
 have hu26 := Try.underlying26
 have hu91 := Try.underlying91
 have HR0_2 := z01.mk hr0_2
 have HC0_2 := z01.mk hc0_2
 clear hr0_2 hc0_2
 have HR0_3 := z01.mk hr0_3
 have HC0_3 := z01.mk hc0_3
 clear hr0_3 hc0_3
 have HR0_4 := z01.mk hr0_4
 have HC0_4 := z01.mk hc0_4
 clear hr0_4 hc0_4
 have HB := z01.mk (Below.refl w.heap.size w)
 have H : ((z2o.f a0_0 a0_1 l0_2 l0_3 l0_4 a0_5 a0_6 a0_7 a0_8).bind fun t132 => (if t132 = 0 then ((some (([(a0_0) % 256] : List Int) : List Int)).bind fun y133 => ((z0k.f a0_1).bind fun t136 => (if (strOfNums y133).size + t136.size ≤ 9223372036854775807 then ((z0z.f k l0_2).bind fun t137 => (if ((strOfNums y133) ++ t136).size + t137.size ≤ 9223372036854775807 then ((z0z.f k l0_3).bind fun t138 => (if (((strOfNums y133) ++ t136) ++ t137).size + t138.size ≤ 9223372036854775807 then ((z0k.f (IntKind.u64.wrap ((l0_4.length : Int)))).bind fun t139 => (if ((((strOfNums y133) ++ t136) ++ t137) ++ t138).size + t139.size ≤ 9223372036854775807 then (z0s.l0 k (((((strOfNums y133) ++ t136) ++ t137) ++ t138) ++ t139) l0_4 (l0_4.length : Int) 0 a0_0 a0_1 l0_2 l0_3 l0_4 a0_5 a0_6 a0_7 a0_8) else (none))) else (none))) else (none))) else (none)))) else (some ((⟨#[]⟩ : ByteArray), t132)))) = some (r1, r2) := h
 clear h
 replace H := Option.bind_eq_some_iff.mp H
 obtain ⟨t132, A20, H⟩ := H
 replace H : (if t132 = 0 then ((some (([(a0_0) % 256] : List Int) : List Int)).bind fun y133 => ((z0k.f a0_1).bind fun t136 => (if (strOfNums y133).size + t136.size ≤ 9223372036854775807 then ((z0z.f k l0_2).bind fun t137 => (if ((strOfNums y133) ++ t136).size + t137.size ≤ 9223372036854775807 then ((z0z.f k l0_3).bind fun t138 => (if (((strOfNums y133) ++ t136) ++ t137).size + t138.size ≤ 9223372036854775807 then ((z0k.f (IntKind.u64.wrap ((l0_4.length : Int)))).bind fun t139 => (if ((((strOfNums y133) ++ t136) ++ t137) ++ t138).size + t139.size ≤ 9223372036854775807 then (z0s.l0 k (((((strOfNums y133) ++ t136) ++ t137) ++ t138) ++ t139) l0_4 (l0_4.length : Int) 0 a0_0 a0_1 l0_2 l0_3 l0_4 a0_5 a0_6 a0_7 a0_8) else (none))) else (none))) else (none))) else (none)))) else (some ((⟨#[]⟩ : ByteArray), t132))) = some (r1, r2) := H
 have A2 := z01.mk A20
 clear A20
 by_cases c3 : t132 = 0
 ·rw [if_pos c3] at H
  have c3b0 : (t132 == 0) = true := beq_iff_eq.mpr c3
  have c3b1 : (t132 != 0) = false := bne_eq_false_iff_eq.mpr c3
  clear c3
  obtain ⟨y133, hy133⟩ : ∃ y_ : List Int, y_ = (([(a0_0) % 256] : List Int)) := ⟨_, rfl⟩
  replace H : ((z0k.f a0_1).bind fun t136 => (if (strOfNums y133).size + t136.size ≤ 9223372036854775807 then ((z0z.f k l0_2).bind fun t137 => (if ((strOfNums y133) ++ t136).size + t137.size ≤ 9223372036854775807 then ((z0z.f k l0_3).bind fun t138 => (if (((strOfNums y133) ++ t136) ++ t137).size + t138.size ≤ 9223372036854775807 then ((z0k.f (IntKind.u64.wrap ((l0_4.length : Int)))).bind fun t139 => (if ((((strOfNums y133) ++ t136) ++ t137) ++ t138).size + t139.size ≤ 9223372036854775807 then (z0s.l0 k (((((strOfNums y133) ++ t136) ++ t137) ++ t138) ++ t139) l0_4 (l0_4.length : Int) 0 a0_0 a0_1 l0_2 l0_3 l0_4 a0_5 a0_6 a0_7 a0_8) else (none))) else (none))) else (none))) else (none))) = some (r1, r2) := by first | (rw [hy133]; with_reducible exact H) | (have H2_ := (Option.bind_some _ _).symm.trans H; rw [hy133]; with_reducible exact H2_) | (have H2_ := (Option.bind_some _ _).symm.trans H; with_reducible exact H2_) | with_reducible exact H | (rw [hy133]; exact H) | exact H
  have Ny133 := z01.mk hy133
  clear hy133
  replace H := Option.bind_eq_some_iff.mp H
  obtain ⟨t136, A40, H⟩ := H
  replace H : (if (strOfNums y133).size + t136.size ≤ 9223372036854775807 then ((z0z.f k l0_2).bind fun t137 => (if ((strOfNums y133) ++ t136).size + t137.size ≤ 9223372036854775807 then ((z0z.f k l0_3).bind fun t138 => (if (((strOfNums y133) ++ t136) ++ t137).size + t138.size ≤ 9223372036854775807 then ((z0k.f (IntKind.u64.wrap ((l0_4.length : Int)))).bind fun t139 => (if ((((strOfNums y133) ++ t136) ++ t137) ++ t138).size + t139.size ≤ 9223372036854775807 then (z0s.l0 k (((((strOfNums y133) ++ t136) ++ t137) ++ t138) ++ t139) l0_4 (l0_4.length : Int) 0 a0_0 a0_1 l0_2 l0_3 l0_4 a0_5 a0_6 a0_7 a0_8) else (none))) else (none))) else (none))) else (none)) = some (r1, r2) := H
  have A4 := z01.mk A40
  clear A40
  by_cases c5 : (strOfNums y133).size + t136.size ≤ 9223372036854775807
  ·rw [if_pos c5] at H
   have c5b0 := eq_true c5
   have c5b1 : decide ((strOfNums y133).size + t136.size ≤ 9223372036854775807) = true := decide_eq_true c5
   try have c5b2 : (9223372036854775807 < (strOfNums y133).size + t136.size) = False := eq_false (Nat.not_lt.2 c5)
   clear c5
   replace H := Option.bind_eq_some_iff.mp H
   obtain ⟨t137, A60, H⟩ := H
   replace H : (if ((strOfNums y133) ++ t136).size + t137.size ≤ 9223372036854775807 then ((z0z.f k l0_3).bind fun t138 => (if (((strOfNums y133) ++ t136) ++ t137).size + t138.size ≤ 9223372036854775807 then ((z0k.f (IntKind.u64.wrap ((l0_4.length : Int)))).bind fun t139 => (if ((((strOfNums y133) ++ t136) ++ t137) ++ t138).size + t139.size ≤ 9223372036854775807 then (z0s.l0 k (((((strOfNums y133) ++ t136) ++ t137) ++ t138) ++ t139) l0_4 (l0_4.length : Int) 0 a0_0 a0_1 l0_2 l0_3 l0_4 a0_5 a0_6 a0_7 a0_8) else (none))) else (none))) else (none)) = some (r1, r2) := H
   have A6 := z01.mk A60
   clear A60
   by_cases c7 : ((strOfNums y133) ++ t136).size + t137.size ≤ 9223372036854775807
   ·rw [if_pos c7] at H
    have c7b0 := eq_true c7
    have c7z := c7
    simp only [ByteArray.size_append] at c7z
    have c7z2 := eq_false (Nat.not_lt.2 c7z)
    clear c7z
    have c7b1 : decide (((strOfNums y133) ++ t136).size + t137.size ≤ 9223372036854775807) = true := decide_eq_true c7
    try have c7b2 : (9223372036854775807 < ((strOfNums y133) ++ t136).size + t137.size) = False := eq_false (Nat.not_lt.2 c7)
    clear c7
    replace H := Option.bind_eq_some_iff.mp H
    obtain ⟨t138, A80, H⟩ := H
    replace H : (if (((strOfNums y133) ++ t136) ++ t137).size + t138.size ≤ 9223372036854775807 then ((z0k.f (IntKind.u64.wrap ((l0_4.length : Int)))).bind fun t139 => (if ((((strOfNums y133) ++ t136) ++ t137) ++ t138).size + t139.size ≤ 9223372036854775807 then (z0s.l0 k (((((strOfNums y133) ++ t136) ++ t137) ++ t138) ++ t139) l0_4 (l0_4.length : Int) 0 a0_0 a0_1 l0_2 l0_3 l0_4 a0_5 a0_6 a0_7 a0_8) else (none))) else (none)) = some (r1, r2) := H
    have A8 := z01.mk A80
    clear A80
    by_cases c9 : (((strOfNums y133) ++ t136) ++ t137).size + t138.size ≤ 9223372036854775807
    ·rw [if_pos c9] at H
     have c9b0 := eq_true c9
     have c9z := c9
     simp only [ByteArray.size_append] at c9z
     have c9z2 := eq_false (Nat.not_lt.2 c9z)
     clear c9z
     have c9b1 : decide ((((strOfNums y133) ++ t136) ++ t137).size + t138.size ≤ 9223372036854775807) = true := decide_eq_true c9
     try have c9b2 : (9223372036854775807 < (((strOfNums y133) ++ t136) ++ t137).size + t138.size) = False := eq_false (Nat.not_lt.2 c9)
     clear c9
     replace H := Option.bind_eq_some_iff.mp H
     obtain ⟨t139, A100, H⟩ := H
     replace H : (if ((((strOfNums y133) ++ t136) ++ t137) ++ t138).size + t139.size ≤ 9223372036854775807 then (z0s.l0 k (((((strOfNums y133) ++ t136) ++ t137) ++ t138) ++ t139) l0_4 (l0_4.length : Int) 0 a0_0 a0_1 l0_2 l0_3 l0_4 a0_5 a0_6 a0_7 a0_8) else (none)) = some (r1, r2) := H
     have A10 := z01.mk A100
     clear A100
     by_cases c11 : ((((strOfNums y133) ++ t136) ++ t137) ++ t138).size + t139.size ≤ 9223372036854775807
     ·rw [if_pos c11] at H
      have c11b0 := eq_true c11
      have c11z := c11
      simp only [ByteArray.size_append] at c11z
      have c11z2 := eq_false (Nat.not_lt.2 c11z)
      clear c11z
      have c11b1 : decide (((((strOfNums y133) ++ t136) ++ t137) ++ t138).size + t139.size ≤ 9223372036854775807) = true := decide_eq_true c11
      try have c11b2 : (9223372036854775807 < ((((strOfNums y133) ++ t136) ++ t137) ++ t138).size + t139.size) = False := eq_false (Nat.not_lt.2 c11)
      clear c11
      have H' := z01.mk H
      clear H
      go_enter Try.func13, Try.ntmps13
      try go_wp2_with (first | ((with_reducible refine gate_dst (N := 1) rfl ?_); refine box_event ?hg (N := 1) ?hd (cs := #[.int .i64 a0_0, .int .u64 a0_1, .slice A0_2 l0_2.length c0_2, .slice A0_3 l0_3.length c0_3, .slice A0_4 l0_4.length c0_4, .string a0_5, .int .i64 a0_6, .int .i64 a0_7, .string a0_8]) (t := 26) ?hr ?_; (case hd => rfl); (case hg => rfl); (case hr => first | (go_simp; done) | (go_simp; rfl)); intro gb131 hg w12 hbox hb; have n0_ := z01.mk (z0i (by repeat (first | (with_reducible first | exact HB.out | apply z03 | apply z05 | apply z04) | exact HB.out | exact Below.refl _ _)) hb); have n1_ := z01.mk (hbox); have n2_ := z01.mk ((by rw [hg]; exact (z18 (by repeat (first | (with_reducible first | exact HB.out | apply z03 | apply z05 | apply z04) | exact HB.out | exact Below.refl _ _))) : w.heap.size ≤ gb131)); have n3_ := z01.mk ((by rw [hg]; exact (z18 (by repeat (first | (with_reducible first | exact HB.out | apply z03 | apply z05 | apply z04) | exact HB.out | exact Below.refl _ _))) : w.heap.size ≤ gb131)); clear HB; have HB := n0_; have BK131 := n1_; have GW131 := n2_; have GE131 := n3_; clear n0_ n1_ n2_ n3_; clear hb hbox hg; have hcz13_0 : w12.cell? ⟨gb131, 0, none⟩ = some (.int .i64 a0_0) := (z00 BK131.out 0).trans rfl; have hcz13_1 : w12.cell? ⟨gb131, 1, none⟩ = some (.int .u64 a0_1) := (z00 BK131.out 1).trans rfl; have hcz13_2 : w12.cell? ⟨gb131, 2, none⟩ = some (.slice A0_2 l0_2.length c0_2) := (z00 BK131.out 2).trans rfl; have hcz13_3 : w12.cell? ⟨gb131, 3, none⟩ = some (.slice A0_3 l0_3.length c0_3) := (z00 BK131.out 3).trans rfl; have hcz13_4 : w12.cell? ⟨gb131, 4, none⟩ = some (.slice A0_4 l0_4.length c0_4) := (z00 BK131.out 4).trans rfl; have hcz13_5 : w12.cell? ⟨gb131, 5, none⟩ = some (.string a0_5) := (z00 BK131.out 5).trans rfl; have hcz13_6 : w12.cell? ⟨gb131, 6, none⟩ = some (.int .i64 a0_6) := (z00 BK131.out 6).trans rfl; have hcz13_7 : w12.cell? ⟨gb131, 7, none⟩ = some (.int .i64 a0_7) := (z00 BK131.out 7).trans rfl; have hcz13_8 : w12.cell? ⟨gb131, 8, none⟩ = some (.string a0_8) := (z00 BK131.out 8).trans rfl; have hfz13_0 := z02 BK131.out 0; have hfz13_1 := z02 BK131.out 1; have hfz13_2 := z02 BK131.out 2; have hfz13_3 := z02 BK131.out 3; have hfz13_4 := z02 BK131.out 4; have hfz13_5 := z02 BK131.out 5; have hfz13_6 := z02 BK131.out 6; have hfz13_7 := z02 BK131.out 7; have hfz13_8 := z02 BK131.out 8) | ((with_reducible refine z1f (f := 17) rfl ?_); refine z1e (some 9) rfl rfl Try.func17 (by kernel_rfl) rfl #[.agg #[.int .i64 a0_0, .int .u64 a0_1, .slice A0_2 l0_2.length c0_2, .slice A0_3 l0_3.length c0_3, .slice A0_4 l0_4.length c0_4, .string a0_5, .int .i64 a0_6, .int .i64 a0_7, .string a0_8]] rfl (by (try simp only [List.map_toArray, List.map_cons, List.map_nil]); first | done | rfl | (simp only [List.length_drop, List.length_take]; rfl)) ?_; (with_reducible refine (z2o.calls a0_0 a0_1 _ _ l0_2 _ _ l0_3 _ _ l0_4 a0_5 a0_6 a0_7 a0_8 t132 _ ?side1 ?side2 ?side3 ?side4 ?side5 ?side6 A2.out).mono ?_); (case side1 => repeat (first | exact (Kd.z12 HR0_2.out HB.out) | (with_reducible refine Kd.z1b ?_ _) | (with_reducible refine Kd.z1d ?_ _) | (with_reducible refine Kd.z1c ?_))); (case side2 => exact HC0_2.out); (case side3 => repeat (first | exact (Kd.z12 HR0_3.out HB.out) | (with_reducible refine Kd.z1b ?_ _) | (with_reducible refine Kd.z1d ?_ _) | (with_reducible refine Kd.z1c ?_))); (case side4 => exact HC0_3.out); (case side5 => repeat (first | exact (Kd.z12 HR0_4.out HB.out) | (with_reducible refine Kd.z1b ?_ _) | (with_reducible refine Kd.z1d ?_ _) | (with_reducible refine Kd.z1c ?_))); (case side6 => exact HC0_4.out); rintro e w14 ⟨rfl, hb⟩; refine ⟨_, rfl, ?_⟩; have n0_ := z01.mk (z0m (g := gb131) (o := .cells #[.int .i64 a0_0, .int .u64 a0_1, .slice A0_2 l0_2.length c0_2, .slice A0_3 l0_3.length c0_3, .slice A0_4 l0_4.length c0_4, .string a0_5, .int .i64 a0_6, .int .i64 a0_7, .string a0_8] 26 (0, 0)) (by (with_reducible repeat (first | refine z0c ?_ _ | refine z09 ?_ | refine z0a ?_ _)); exact BK131.out) hb); have n1_ := z01.mk (z0i (by repeat (first | (with_reducible first | exact HB.out | apply z03 | apply z05 | apply z04 | refine z08 ?_ GE131.out) | exact HB.out)) hb); clear BK131; clear HB; have BK131 := n0_; have HB := n1_; clear n0_ n1_; (try clear hb); (try clear hb2); (try clear hk); (try clear hi)))
      have n0_ := z01.mk (z09 BK131.out)
      have n1_ := z01.mk (z04 HB.out)
      clear BK131
      clear HB
      have BK131 := n0_
      have HB := n1_
      clear n0_ n1_
      refine start_ (n := 24) (S := fun w' => w'.cell? ⟨gb131, 0, none⟩ = some (.int .i64 a0_0) ∧ w'.cell? ⟨gb131, 1, none⟩ = some (.int .u64 a0_1) ∧ w'.cell? ⟨gb131, 2, none⟩ = some (.slice A0_2 l0_2.length c0_2) ∧ w'.cell? ⟨gb131, 3, none⟩ = some (.slice A0_3 l0_3.length c0_3) ∧ w'.cell? ⟨gb131, 4, none⟩ = some (.slice A0_4 l0_4.length c0_4) ∧ w'.cell? ⟨gb131, 5, none⟩ = some (.string a0_5) ∧ w'.cell? ⟨gb131, 6, none⟩ = some (.int .i64 a0_6) ∧ w'.cell? ⟨gb131, 7, none⟩ = some (.int .i64 a0_7) ∧ w'.cell? ⟨gb131, 8, none⟩ = some (.string a0_8)) (ds := []) #[false, false, false, false, false, false, false, false, false, false, false, false, false, false, false, false, false, false, false, false, false, false, false, false] (by kernel_rfl) rfl rfl ⟨(z00 BK131.out 0).trans rfl, (z00 BK131.out 1).trans rfl, (z00 BK131.out 2).trans rfl, (z00 BK131.out 3).trans rfl, (z00 BK131.out 4).trans rfl, (z00 BK131.out 5).trans rfl, (z00 BK131.out 6).trans rfl, (z00 BK131.out 7).trans rfl, (z00 BK131.out 8).trans rfl⟩ (fun hHeld => ?_); refine with_tabW z0s.tab4 z0s.bits4 (fun HT_ HW_ => ?_)
      generalize w14.drew = w15 at BK131 HB hHeld ⊢
      refine z0d (i := 0) (N := some 13) (v := ?_) (a' := ?_) #[true, false, false, false, false, false, false, false, false, false, false, false, false, false, false, false, false, false, false, false, false, false, false, false] rfl rfl (z0e HT_.out (by kernel_rfl)) (fun _ _ _ h => h) (Or.inl ⟨by rfl, ?_⟩) ?_ ?_
      rotate_left
      ·intro w'
       go_simp
       with_reducible rfl
      rotate_left
      ·simp only [Act.put, q1, q2, q3, z06, z07]
       rfl
      refine z0d (i := 5) (N := some 18) (v := ?_) (a' := ?_) #[true, false, false, false, false, true, false, false, false, false, false, false, false, false, false, false, false, false, false, false, false, false, false, false] rfl rfl (z0e HT_.out (by kernel_rfl)) (fun _ _ _ h => h) (Or.inl ⟨by rfl, ?_⟩) ?_ ?_
      rotate_left
      ·intro w'
       go_simp
       with_reducible rfl
      rotate_left
      ·simp only [Act.put, q1, q2, q3, z06, z07]
       rfl
      refine z0d (i := 9) (N := some 22) (v := ?_) (a' := ?_) #[true, false, false, false, false, true, false, false, false, true, false, false, false, false, false, false, false, false, false, false, false, false, false, false] rfl rfl (z0e HT_.out (by kernel_rfl)) (fun _ _ _ h => h) (Or.inl ⟨by rfl, ?_⟩) ?_ ?_
      rotate_left
      ·intro w'
       go_simp
       with_reducible rfl
      rotate_left
      ·simp only [Act.put, q1, q2, q3, z06, z07]
       rfl
      refine z0d (i := 13) (N := some 26) (v := ?_) (a' := ?_) #[true, false, false, false, false, true, false, false, false, true, false, false, false, true, false, false, false, false, false, false, false, false, false, false] rfl rfl (z0e HT_.out (by kernel_rfl)) (fun _ _ _ h => h) (Or.inl ⟨by rfl, ?_⟩) ?_ ?_
      rotate_left
      ·intro w'
       go_simp
       with_reducible rfl
      rotate_left
      ·simp only [Act.put, q1, q2, q3, z06, z07]
       rfl
      refine z0d (i := 17) (N := some 30) (v := ?_) (a' := ?_) #[true, false, false, false, false, true, false, false, false, true, false, false, false, true, false, false, false, true, false, false, false, false, false, false] rfl rfl (z0e HT_.out (by kernel_rfl)) (fun _ _ _ h => h) (Or.inl ⟨by rfl, ?_⟩) ?_ ?_
      rotate_left
      ·intro w'
       go_simp
       with_reducible rfl
      rotate_left
      ·simp only [Act.put, q1, q2, q3, z06, z07]
       rfl
      refine take_ (i := 1) (N := some 14) (v := ?_) (a' := ?_) #[true, true, false, false, false, true, false, false, false, true, false, false, false, true, false, false, false, true, false, false, false, false, false, false] rfl rfl (z1a HT_.out HW_.out (by kernel_rfl)) (fun _ _ _ h => h) (Or.inl ⟨by rfl, ?_⟩) hHeld ?_ ?_
      rotate_left
      ·rintro w' ⟨s0, s1, s2, s3, s4, s5, s6, s7, s8⟩
       go_simp
       with_reducible rfl
      rotate_left
      ·simp only [Act.put, q1, q2, q3, z06, z07]
       rfl
      refine z0d (i := 2) (N := some 15) (v := ?_) (a' := ?_) #[true, true, true, false, false, true, false, false, false, true, false, false, false, true, false, false, false, true, false, false, false, false, false, false] rfl rfl (z0e HT_.out (by kernel_rfl)) (fun _ _ _ h => h) (Or.inl ⟨by rfl, ?_⟩) ?_ ?_
      rotate_left
      ·intro w'
       go_simp
       with_reducible rfl
      rotate_left
      ·simp only [Act.put, q1, q2, q3, z06, z07]
       rfl
      refine take_ (i := 6) (N := some 19) (v := ?_) (a' := ?_) #[true, true, true, false, false, true, true, false, false, true, false, false, false, true, false, false, false, true, false, false, false, false, false, false] rfl rfl (z1a HT_.out HW_.out (by kernel_rfl)) (fun _ _ _ h => h) (Or.inl ⟨by rfl, ?_⟩) hHeld ?_ ?_
      rotate_left
      ·rintro w' ⟨s0, s1, s2, s3, s4, s5, s6, s7, s8⟩
       go_simp
       with_reducible rfl
      rotate_left
      ·simp only [Act.put, q1, q2, q3, z06, z07]
       rfl
      refine take_ (i := 10) (N := some 23) (v := ?_) (a' := ?_) #[true, true, true, false, false, true, true, false, false, true, true, false, false, true, false, false, false, true, false, false, false, false, false, false] rfl rfl (z1a HT_.out HW_.out (by kernel_rfl)) (fun _ _ _ h => h) (Or.inl ⟨by rfl, ?_⟩) hHeld ?_ ?_
      rotate_left
      ·rintro w' ⟨s0, s1, s2, s3, s4, s5, s6, s7, s8⟩
       go_simp
       with_reducible rfl
      rotate_left
      ·simp only [Act.put, q1, q2, q3, z06, z07]
       rfl
      refine take_ (i := 14) (N := some 27) (v := ?_) (a' := ?_) #[true, true, true, false, false, true, true, false, false, true, true, false, false, true, true, false, false, true, false, false, false, false, false, false] rfl rfl (z1a HT_.out HW_.out (by kernel_rfl)) (fun _ _ _ h => h) (Or.inl ⟨by rfl, ?_⟩) hHeld ?_ ?_
      rotate_left
      ·rintro w' ⟨s0, s1, s2, s3, s4, s5, s6, s7, s8⟩
       go_simp
       with_reducible rfl
      rotate_left
      ·simp only [Act.put, q1, q2, q3, z06, z07]
       rfl
      refine take_ (i := 18) (N := some 31) (v := ?_) (a' := ?_) #[true, true, true, false, false, true, true, false, false, true, true, false, false, true, true, false, false, true, true, false, false, false, false, false] rfl rfl (z1a HT_.out HW_.out (by kernel_rfl)) (fun _ _ _ h => h) (Or.inl ⟨by rfl, ?_⟩) hHeld ?_ ?_
      rotate_left
      ·rintro w' ⟨s0, s1, s2, s3, s4, s5, s6, s7, s8⟩
       go_simp
       with_reducible rfl
      rotate_left
      ·simp only [Act.put, q1, q2, q3, z06, z07]
       rfl
      refine z0d (i := 19) (N := some 32) (v := ?_) (a' := ?_) #[true, true, true, false, false, true, true, false, false, true, true, false, false, true, true, false, false, true, true, true, false, false, false, false] rfl rfl (z0e HT_.out (by kernel_rfl)) (fun _ _ _ h => h) (Or.inl ⟨by rfl, ?_⟩) ?_ ?_
      rotate_left
      ·intro w'
       go_simp
       with_reducible rfl
      rotate_left
      ·simp only [Act.put, q1, q2, q3, z06, z07]
       rfl
      refine z0d (i := 20) (N := some 33) (v := ?_) (a' := ?_) #[true, true, true, false, false, true, true, false, false, true, true, false, false, true, true, false, false, true, true, true, true, false, false, false] rfl rfl (z0e HT_.out (by kernel_rfl)) (fun _ _ _ h => h) (Or.inl ⟨by rfl, ?_⟩) ?_ ?_
      rotate_left
      ·intro w'
       go_simp
       with_reducible rfl
      rotate_left
      ·simp only [Act.put, q1, q2, q3, z06, z07]
       rfl
      refine join_ (σ := Value) 2 #[true, true, true, true, true, true, true, true, true, true, true, true, true, true, true, true, true, true, true, true, true, true, false, false] (fun s_ => [(16, s_), (17, .string (strOfNums y133)), (20, .string t136), (24, .string t137), (28, .string t138), (34, .string t139), (21, .string ((strOfNums y133) ++ t136)), (25, .string (((strOfNums y133) ++ t136) ++ t137)), (29, .string ((((strOfNums y133) ++ t136) ++ t137) ++ t138))]) (fun s_ w' => (w'.cell? ⟨gb131, 0, none⟩ = some (.int .i64 a0_0) ∧ w'.cell? ⟨gb131, 1, none⟩ = some (.int .u64 a0_1) ∧ w'.cell? ⟨gb131, 2, none⟩ = some (.slice A0_2 l0_2.length c0_2) ∧ w'.cell? ⟨gb131, 3, none⟩ = some (.slice A0_3 l0_3.length c0_3) ∧ w'.cell? ⟨gb131, 4, none⟩ = some (.slice A0_4 l0_4.length c0_4) ∧ w'.cell? ⟨gb131, 5, none⟩ = some (.string a0_5) ∧ w'.cell? ⟨gb131, 6, none⟩ = some (.int .i64 a0_6) ∧ w'.cell? ⟨gb131, 7, none⟩ = some (.int .i64 a0_7) ∧ w'.cell? ⟨gb131, 8, none⟩ = some (.string a0_8)) ∧ (Kd.R (Kd.int .u8) 5 w' w.heap.size (fun _ => True) s_ y133) ∧ (w'.heap[gb131]? = some (.cells #[.int .i64 a0_0, .int .u64 a0_1, .slice A0_2 l0_2.length c0_2, .slice A0_3 l0_3.length c0_3, .slice A0_4 l0_4.length c0_4, .string a0_5, .int .i64 a0_6, .int .i64 a0_7, .string a0_8] 26 (0, 0))) ∧ (Below w.heap.size w w')) ?_ ?_
      rotate_left
      ·intro hJ3_4_7_11_15_21
       refine join_ (σ := Value) 3 #[true, true, true, true, true, true, true, true, true, true, true, true, true, true, true, true, true, true, true, true, true, false, false, false] (fun s_ => [(16, s_), (17, .string (strOfNums y133)), (20, .string t136), (24, .string t137), (28, .string t138), (21, .string ((strOfNums y133) ++ t136)), (25, .string (((strOfNums y133) ++ t136) ++ t137)), (29, .string ((((strOfNums y133) ++ t136) ++ t137) ++ t138))]) (fun s_ w' => (w'.cell? ⟨gb131, 0, none⟩ = some (.int .i64 a0_0) ∧ w'.cell? ⟨gb131, 1, none⟩ = some (.int .u64 a0_1) ∧ w'.cell? ⟨gb131, 2, none⟩ = some (.slice A0_2 l0_2.length c0_2) ∧ w'.cell? ⟨gb131, 3, none⟩ = some (.slice A0_3 l0_3.length c0_3) ∧ w'.cell? ⟨gb131, 4, none⟩ = some (.slice A0_4 l0_4.length c0_4) ∧ w'.cell? ⟨gb131, 5, none⟩ = some (.string a0_5) ∧ w'.cell? ⟨gb131, 6, none⟩ = some (.int .i64 a0_6) ∧ w'.cell? ⟨gb131, 7, none⟩ = some (.int .i64 a0_7) ∧ w'.cell? ⟨gb131, 8, none⟩ = some (.string a0_8)) ∧ (Kd.R (Kd.int .u8) 5 w' w.heap.size (fun _ => True) s_ y133) ∧ (w'.heap[gb131]? = some (.cells #[.int .i64 a0_0, .int .u64 a0_1, .slice A0_2 l0_2.length c0_2, .slice A0_3 l0_3.length c0_3, .slice A0_4 l0_4.length c0_4, .string a0_5, .int .i64 a0_6, .int .i64 a0_7, .string a0_8] 26 (0, 0))) ∧ (Below w.heap.size w w')) ?_ ?_
       rotate_left
       ·intro hJ3_4_7_11_15
        refine join_ (σ := Value) 6 #[true, true, true, true, false, true, true, true, false, true, true, true, false, true, true, true, false, true, true, true, true, true, false, false] (fun s_ => [(16, s_), (20, .string t136), (24, .string t137), (28, .string t138), (34, .string t139)]) (fun s_ w' => (w'.cell? ⟨gb131, 0, none⟩ = some (.int .i64 a0_0) ∧ w'.cell? ⟨gb131, 1, none⟩ = some (.int .u64 a0_1) ∧ w'.cell? ⟨gb131, 2, none⟩ = some (.slice A0_2 l0_2.length c0_2) ∧ w'.cell? ⟨gb131, 3, none⟩ = some (.slice A0_3 l0_3.length c0_3) ∧ w'.cell? ⟨gb131, 4, none⟩ = some (.slice A0_4 l0_4.length c0_4) ∧ w'.cell? ⟨gb131, 5, none⟩ = some (.string a0_5) ∧ w'.cell? ⟨gb131, 6, none⟩ = some (.int .i64 a0_6) ∧ w'.cell? ⟨gb131, 7, none⟩ = some (.int .i64 a0_7) ∧ w'.cell? ⟨gb131, 8, none⟩ = some (.string a0_8)) ∧ (Kd.R (Kd.int .u8) 5 w' w.heap.size (fun _ => True) s_ y133) ∧ (w'.heap[gb131]? = some (.cells #[.int .i64 a0_0, .int .u64 a0_1, .slice A0_2 l0_2.length c0_2, .slice A0_3 l0_3.length c0_3, .slice A0_4 l0_4.length c0_4, .string a0_5, .int .i64 a0_6, .int .i64 a0_7, .string a0_8] 26 (0, 0))) ∧ (Below w.heap.size w w')) ?_ ?_
        rotate_left
        ·intro hJ3_7_11_15_21
         refine join_ (σ := Value) 5 #[true, true, true, true, true, true, true, true, true, true, true, true, true, true, true, false, false, true, true, true, true, false, false, false] (fun s_ => [(16, s_), (17, .string (strOfNums y133)), (20, .string t136), (24, .string t137), (21, .string ((strOfNums y133) ++ t136)), (25, .string (((strOfNums y133) ++ t136) ++ t137))]) (fun s_ w' => (w'.cell? ⟨gb131, 0, none⟩ = some (.int .i64 a0_0) ∧ w'.cell? ⟨gb131, 1, none⟩ = some (.int .u64 a0_1) ∧ w'.cell? ⟨gb131, 2, none⟩ = some (.slice A0_2 l0_2.length c0_2) ∧ w'.cell? ⟨gb131, 3, none⟩ = some (.slice A0_3 l0_3.length c0_3) ∧ w'.cell? ⟨gb131, 4, none⟩ = some (.slice A0_4 l0_4.length c0_4) ∧ w'.cell? ⟨gb131, 5, none⟩ = some (.string a0_5) ∧ w'.cell? ⟨gb131, 6, none⟩ = some (.int .i64 a0_6) ∧ w'.cell? ⟨gb131, 7, none⟩ = some (.int .i64 a0_7) ∧ w'.cell? ⟨gb131, 8, none⟩ = some (.string a0_8)) ∧ (Kd.R (Kd.int .u8) 5 w' w.heap.size (fun _ => True) s_ y133) ∧ (w'.heap[gb131]? = some (.cells #[.int .i64 a0_0, .int .u64 a0_1, .slice A0_2 l0_2.length c0_2, .slice A0_3 l0_3.length c0_3, .slice A0_4 l0_4.length c0_4, .string a0_5, .int .i64 a0_6, .int .i64 a0_7, .string a0_8] 26 (0, 0))) ∧ (Below w.heap.size w w')) ?_ ?_
         rotate_left
         ·intro hJ3_4_7_11
          refine join_ (σ := Value) 7 #[true, true, true, true, false, true, true, true, false, true, true, true, false, true, true, true, false, true, true, true, true, false, false, false] (fun s_ => [(16, s_), (20, .string t136), (24, .string t137), (28, .string t138)]) (fun s_ w' => (w'.cell? ⟨gb131, 0, none⟩ = some (.int .i64 a0_0) ∧ w'.cell? ⟨gb131, 1, none⟩ = some (.int .u64 a0_1) ∧ w'.cell? ⟨gb131, 2, none⟩ = some (.slice A0_2 l0_2.length c0_2) ∧ w'.cell? ⟨gb131, 3, none⟩ = some (.slice A0_3 l0_3.length c0_3) ∧ w'.cell? ⟨gb131, 4, none⟩ = some (.slice A0_4 l0_4.length c0_4) ∧ w'.cell? ⟨gb131, 5, none⟩ = some (.string a0_5) ∧ w'.cell? ⟨gb131, 6, none⟩ = some (.int .i64 a0_6) ∧ w'.cell? ⟨gb131, 7, none⟩ = some (.int .i64 a0_7) ∧ w'.cell? ⟨gb131, 8, none⟩ = some (.string a0_8)) ∧ (Kd.R (Kd.int .u8) 5 w' w.heap.size (fun _ => True) s_ y133) ∧ (w'.heap[gb131]? = some (.cells #[.int .i64 a0_0, .int .u64 a0_1, .slice A0_2 l0_2.length c0_2, .slice A0_3 l0_3.length c0_3, .slice A0_4 l0_4.length c0_4, .string a0_5, .int .i64 a0_6, .int .i64 a0_7, .string a0_8] 26 (0, 0))) ∧ (Below w.heap.size w w')) ?_ ?_
          rotate_left
          ·intro hJ3_7_11_15
           refine join_ (σ := Unit) 7 #[true, true, true, false, false, true, true, true, false, true, true, true, false, true, true, true, false, true, true, true, true, true, false, false] (fun s_ => [(20, .string t136), (24, .string t137), (28, .string t138), (34, .string t139)]) (fun s_ w' => (w'.cell? ⟨gb131, 0, none⟩ = some (.int .i64 a0_0) ∧ w'.cell? ⟨gb131, 1, none⟩ = some (.int .u64 a0_1) ∧ w'.cell? ⟨gb131, 2, none⟩ = some (.slice A0_2 l0_2.length c0_2) ∧ w'.cell? ⟨gb131, 3, none⟩ = some (.slice A0_3 l0_3.length c0_3) ∧ w'.cell? ⟨gb131, 4, none⟩ = some (.slice A0_4 l0_4.length c0_4) ∧ w'.cell? ⟨gb131, 5, none⟩ = some (.string a0_5) ∧ w'.cell? ⟨gb131, 6, none⟩ = some (.int .i64 a0_6) ∧ w'.cell? ⟨gb131, 7, none⟩ = some (.int .i64 a0_7) ∧ w'.cell? ⟨gb131, 8, none⟩ = some (.string a0_8)) ∧ (w'.heap[gb131]? = some (.cells #[.int .i64 a0_0, .int .u64 a0_1, .slice A0_2 l0_2.length c0_2, .slice A0_3 l0_3.length c0_3, .slice A0_4 l0_4.length c0_4, .string a0_5, .int .i64 a0_6, .int .i64 a0_7, .string a0_8] 26 (0, 0))) ∧ (Below w.heap.size w w')) ?_ ?_
           rotate_left
           ·intro hJ7_11_15_21
            refine join_ (σ := Value) 7 #[true, true, true, true, true, true, true, true, true, true, true, false, false, true, true, false, false, true, true, true, true, false, false, false] (fun s_ => [(16, s_), (17, .string (strOfNums y133)), (20, .string t136), (21, .string ((strOfNums y133) ++ t136))]) (fun s_ w' => (w'.cell? ⟨gb131, 0, none⟩ = some (.int .i64 a0_0) ∧ w'.cell? ⟨gb131, 1, none⟩ = some (.int .u64 a0_1) ∧ w'.cell? ⟨gb131, 2, none⟩ = some (.slice A0_2 l0_2.length c0_2) ∧ w'.cell? ⟨gb131, 3, none⟩ = some (.slice A0_3 l0_3.length c0_3) ∧ w'.cell? ⟨gb131, 4, none⟩ = some (.slice A0_4 l0_4.length c0_4) ∧ w'.cell? ⟨gb131, 5, none⟩ = some (.string a0_5) ∧ w'.cell? ⟨gb131, 6, none⟩ = some (.int .i64 a0_6) ∧ w'.cell? ⟨gb131, 7, none⟩ = some (.int .i64 a0_7) ∧ w'.cell? ⟨gb131, 8, none⟩ = some (.string a0_8)) ∧ (Kd.R (Kd.int .u8) 5 w' w.heap.size (fun _ => True) s_ y133) ∧ (w'.heap[gb131]? = some (.cells #[.int .i64 a0_0, .int .u64 a0_1, .slice A0_2 l0_2.length c0_2, .slice A0_3 l0_3.length c0_3, .slice A0_4 l0_4.length c0_4, .string a0_5, .int .i64 a0_6, .int .i64 a0_7, .string a0_8] 26 (0, 0))) ∧ (Below w.heap.size w w')) ?_ ?_
            rotate_left
            ·intro hJ3_4_7
             refine join_ (σ := Value) 8 #[true, true, true, true, false, true, true, true, false, true, true, true, false, true, true, false, false, true, true, true, true, false, false, false] (fun s_ => [(16, s_), (20, .string t136), (24, .string t137)]) (fun s_ w' => (w'.cell? ⟨gb131, 0, none⟩ = some (.int .i64 a0_0) ∧ w'.cell? ⟨gb131, 1, none⟩ = some (.int .u64 a0_1) ∧ w'.cell? ⟨gb131, 2, none⟩ = some (.slice A0_2 l0_2.length c0_2) ∧ w'.cell? ⟨gb131, 3, none⟩ = some (.slice A0_3 l0_3.length c0_3) ∧ w'.cell? ⟨gb131, 4, none⟩ = some (.slice A0_4 l0_4.length c0_4) ∧ w'.cell? ⟨gb131, 5, none⟩ = some (.string a0_5) ∧ w'.cell? ⟨gb131, 6, none⟩ = some (.int .i64 a0_6) ∧ w'.cell? ⟨gb131, 7, none⟩ = some (.int .i64 a0_7) ∧ w'.cell? ⟨gb131, 8, none⟩ = some (.string a0_8)) ∧ (Kd.R (Kd.int .u8) 5 w' w.heap.size (fun _ => True) s_ y133) ∧ (w'.heap[gb131]? = some (.cells #[.int .i64 a0_0, .int .u64 a0_1, .slice A0_2 l0_2.length c0_2, .slice A0_3 l0_3.length c0_3, .slice A0_4 l0_4.length c0_4, .string a0_5, .int .i64 a0_6, .int .i64 a0_7, .string a0_8] 26 (0, 0))) ∧ (Below w.heap.size w w')) ?_ ?_
             rotate_left
             ·intro hJ3_7_11
              refine join_ (σ := Unit) 8 #[true, true, true, false, false, true, true, true, false, true, true, true, false, true, true, true, false, true, true, true, true, false, false, false] (fun s_ => [(20, .string t136), (24, .string t137), (28, .string t138)]) (fun s_ w' => (w'.cell? ⟨gb131, 0, none⟩ = some (.int .i64 a0_0) ∧ w'.cell? ⟨gb131, 1, none⟩ = some (.int .u64 a0_1) ∧ w'.cell? ⟨gb131, 2, none⟩ = some (.slice A0_2 l0_2.length c0_2) ∧ w'.cell? ⟨gb131, 3, none⟩ = some (.slice A0_3 l0_3.length c0_3) ∧ w'.cell? ⟨gb131, 4, none⟩ = some (.slice A0_4 l0_4.length c0_4) ∧ w'.cell? ⟨gb131, 5, none⟩ = some (.string a0_5) ∧ w'.cell? ⟨gb131, 6, none⟩ = some (.int .i64 a0_6) ∧ w'.cell? ⟨gb131, 7, none⟩ = some (.int .i64 a0_7) ∧ w'.cell? ⟨gb131, 8, none⟩ = some (.string a0_8)) ∧ (w'.heap[gb131]? = some (.cells #[.int .i64 a0_0, .int .u64 a0_1, .slice A0_2 l0_2.length c0_2, .slice A0_3 l0_3.length c0_3, .slice A0_4 l0_4.length c0_4, .string a0_5, .int .i64 a0_6, .int .i64 a0_7, .string a0_8] 26 (0, 0))) ∧ (Below w.heap.size w w')) ?_ ?_
              rotate_left
              ·intro hJ7_11_15
               refine join_ (σ := Value) 9 #[true, true, true, true, true, true, true, false, false, true, true, false, false, true, true, false, false, true, true, true, true, false, false, false] (fun s_ => [(16, s_), (17, .string (strOfNums y133))]) (fun s_ w' => (w'.cell? ⟨gb131, 0, none⟩ = some (.int .i64 a0_0) ∧ w'.cell? ⟨gb131, 1, none⟩ = some (.int .u64 a0_1) ∧ w'.cell? ⟨gb131, 2, none⟩ = some (.slice A0_2 l0_2.length c0_2) ∧ w'.cell? ⟨gb131, 3, none⟩ = some (.slice A0_3 l0_3.length c0_3) ∧ w'.cell? ⟨gb131, 4, none⟩ = some (.slice A0_4 l0_4.length c0_4) ∧ w'.cell? ⟨gb131, 5, none⟩ = some (.string a0_5) ∧ w'.cell? ⟨gb131, 6, none⟩ = some (.int .i64 a0_6) ∧ w'.cell? ⟨gb131, 7, none⟩ = some (.int .i64 a0_7) ∧ w'.cell? ⟨gb131, 8, none⟩ = some (.string a0_8)) ∧ (Kd.R (Kd.int .u8) 5 w' w.heap.size (fun _ => True) s_ y133) ∧ (w'.heap[gb131]? = some (.cells #[.int .i64 a0_0, .int .u64 a0_1, .slice A0_2 l0_2.length c0_2, .slice A0_3 l0_3.length c0_3, .slice A0_4 l0_4.length c0_4, .string a0_5, .int .i64 a0_6, .int .i64 a0_7, .string a0_8] 26 (0, 0))) ∧ (Below w.heap.size w w')) ?_ ?_
               rotate_left
               ·intro hJ3_4
                refine join_ (σ := Value) 9 #[true, true, true, true, false, true, true, true, false, true, true, false, false, true, true, false, false, true, true, true, true, false, false, false] (fun s_ => [(16, s_), (20, .string t136)]) (fun s_ w' => (w'.cell? ⟨gb131, 0, none⟩ = some (.int .i64 a0_0) ∧ w'.cell? ⟨gb131, 1, none⟩ = some (.int .u64 a0_1) ∧ w'.cell? ⟨gb131, 2, none⟩ = some (.slice A0_2 l0_2.length c0_2) ∧ w'.cell? ⟨gb131, 3, none⟩ = some (.slice A0_3 l0_3.length c0_3) ∧ w'.cell? ⟨gb131, 4, none⟩ = some (.slice A0_4 l0_4.length c0_4) ∧ w'.cell? ⟨gb131, 5, none⟩ = some (.string a0_5) ∧ w'.cell? ⟨gb131, 6, none⟩ = some (.int .i64 a0_6) ∧ w'.cell? ⟨gb131, 7, none⟩ = some (.int .i64 a0_7) ∧ w'.cell? ⟨gb131, 8, none⟩ = some (.string a0_8)) ∧ (Kd.R (Kd.int .u8) 5 w' w.heap.size (fun _ => True) s_ y133) ∧ (w'.heap[gb131]? = some (.cells #[.int .i64 a0_0, .int .u64 a0_1, .slice A0_2 l0_2.length c0_2, .slice A0_3 l0_3.length c0_3, .slice A0_4 l0_4.length c0_4, .string a0_5, .int .i64 a0_6, .int .i64 a0_7, .string a0_8] 26 (0, 0))) ∧ (Below w.heap.size w w')) ?_ ?_
                rotate_left
                ·intro hJ3_7
                 refine join_ (σ := Unit) 9 #[true, true, true, false, false, true, true, true, false, true, true, true, false, true, true, false, false, true, true, true, true, false, false, false] (fun s_ => [(20, .string t136), (24, .string t137)]) (fun s_ w' => (w'.cell? ⟨gb131, 0, none⟩ = some (.int .i64 a0_0) ∧ w'.cell? ⟨gb131, 1, none⟩ = some (.int .u64 a0_1) ∧ w'.cell? ⟨gb131, 2, none⟩ = some (.slice A0_2 l0_2.length c0_2) ∧ w'.cell? ⟨gb131, 3, none⟩ = some (.slice A0_3 l0_3.length c0_3) ∧ w'.cell? ⟨gb131, 4, none⟩ = some (.slice A0_4 l0_4.length c0_4) ∧ w'.cell? ⟨gb131, 5, none⟩ = some (.string a0_5) ∧ w'.cell? ⟨gb131, 6, none⟩ = some (.int .i64 a0_6) ∧ w'.cell? ⟨gb131, 7, none⟩ = some (.int .i64 a0_7) ∧ w'.cell? ⟨gb131, 8, none⟩ = some (.string a0_8)) ∧ (w'.heap[gb131]? = some (.cells #[.int .i64 a0_0, .int .u64 a0_1, .slice A0_2 l0_2.length c0_2, .slice A0_3 l0_3.length c0_3, .slice A0_4 l0_4.length c0_4, .string a0_5, .int .i64 a0_6, .int .i64 a0_7, .string a0_8] 26 (0, 0))) ∧ (Below w.heap.size w w')) ?_ ?_
                 rotate_left
                 ·intro hJ7_11
                  refine join_ (σ := Value) 10 #[true, true, true, true, false, true, true, false, false, true, true, false, false, true, true, false, false, true, true, true, true, false, false, false] (fun s_ => [(16, s_)]) (fun s_ w' => (w'.cell? ⟨gb131, 0, none⟩ = some (.int .i64 a0_0) ∧ w'.cell? ⟨gb131, 1, none⟩ = some (.int .u64 a0_1) ∧ w'.cell? ⟨gb131, 2, none⟩ = some (.slice A0_2 l0_2.length c0_2) ∧ w'.cell? ⟨gb131, 3, none⟩ = some (.slice A0_3 l0_3.length c0_3) ∧ w'.cell? ⟨gb131, 4, none⟩ = some (.slice A0_4 l0_4.length c0_4) ∧ w'.cell? ⟨gb131, 5, none⟩ = some (.string a0_5) ∧ w'.cell? ⟨gb131, 6, none⟩ = some (.int .i64 a0_6) ∧ w'.cell? ⟨gb131, 7, none⟩ = some (.int .i64 a0_7) ∧ w'.cell? ⟨gb131, 8, none⟩ = some (.string a0_8)) ∧ (Kd.R (Kd.int .u8) 5 w' w.heap.size (fun _ => True) s_ y133) ∧ (w'.heap[gb131]? = some (.cells #[.int .i64 a0_0, .int .u64 a0_1, .slice A0_2 l0_2.length c0_2, .slice A0_3 l0_3.length c0_3, .slice A0_4 l0_4.length c0_4, .string a0_5, .int .i64 a0_6, .int .i64 a0_7, .string a0_8] 26 (0, 0))) ∧ (Below w.heap.size w w')) ?_ ?_
                  rotate_left
                  ·intro hJ3
                   refine join_ (σ := Unit) 10 #[true, true, true, false, false, true, true, true, false, true, true, false, false, true, true, false, false, true, true, true, true, false, false, false] (fun s_ => [(20, .string t136)]) (fun s_ w' => (w'.cell? ⟨gb131, 0, none⟩ = some (.int .i64 a0_0) ∧ w'.cell? ⟨gb131, 1, none⟩ = some (.int .u64 a0_1) ∧ w'.cell? ⟨gb131, 2, none⟩ = some (.slice A0_2 l0_2.length c0_2) ∧ w'.cell? ⟨gb131, 3, none⟩ = some (.slice A0_3 l0_3.length c0_3) ∧ w'.cell? ⟨gb131, 4, none⟩ = some (.slice A0_4 l0_4.length c0_4) ∧ w'.cell? ⟨gb131, 5, none⟩ = some (.string a0_5) ∧ w'.cell? ⟨gb131, 6, none⟩ = some (.int .i64 a0_6) ∧ w'.cell? ⟨gb131, 7, none⟩ = some (.int .i64 a0_7) ∧ w'.cell? ⟨gb131, 8, none⟩ = some (.string a0_8)) ∧ (w'.heap[gb131]? = some (.cells #[.int .i64 a0_0, .int .u64 a0_1, .slice A0_2 l0_2.length c0_2, .slice A0_3 l0_3.length c0_3, .slice A0_4 l0_4.length c0_4, .string a0_5, .int .i64 a0_6, .int .i64 a0_7, .string a0_8] 26 (0, 0))) ∧ (Below w.heap.size w w')) ?_ ?_
                   rotate_left
                   ·intro hJ7
                    refine two_ (i := 3) (j := 7) (Ni := some 16) (Nj := some 20) #[true, true, true, true, false, true, true, false, false, true, true, false, false, true, true, false, false, true, true, true, true, false, false, false] #[true, true, true, false, false, true, true, true, false, true, true, false, false, true, true, false, false, true, true, true, true, false, false, false] rfl rfl rfl rfl (two_of HT_.out (by kernel_rfl)) (by decide) (by decide) (fun K hK => ?_) (fun K hK => ?_)
                    ·skip
                     refine Kd.z2l (Kd.int .u8) _ 5 ?hg (N := 16) ?hd (xs := ([(a0_0) % 256] : List Int)) (inner := [.int .u8 ((a0_0) % 256)]) (ok := fun _ => True) (okp := fun _ => True) ?hr ?hp (fun _ hk => hk) trivial (Below.refl _ _) (Nat.le_refl _) (by simp) ?_; (case hd => rfl); (case hg => rfl); (case hr => first | (go_simp; done) | (go_simp; rfl)); (case hp => exact (Reps.one (show Kd.M (Kd.int .u8) _ _ _ ((a0_0) % 256) [.int .u8 ((a0_0) % 256)] from rfl) (Reps.none _ _)))
                     intro v134 w16 ho17 hb hg_ hnew_
                     clear hg_ hnew_
                     (first | rw [← Ny133.out] at ho17 | (simp only [Int.reduceToNat] at ho17; rw [← Ny133.out] at ho17))
                     have n0_ := z01.mk (Kd.z20 ho17 (z18 (by repeat (first | (with_reducible first | exact HB.out | apply z03 | apply z05 | apply z04 | refine z08 ?_ GE131.out) | exact HB.out))))
                     have n1_ := z01.mk (z0m (g := gb131) (o := .cells #[.int .i64 a0_0, .int .u64 a0_1, .slice A0_2 l0_2.length c0_2, .slice A0_3 l0_3.length c0_3, .slice A0_4 l0_4.length c0_4, .string a0_5, .int .i64 a0_6, .int .i64 a0_7, .string a0_8] 26 (0, 0)) (by (with_reducible repeat (first | refine z0c ?_ _ | refine z09 ?_ | refine z0a ?_ _)); exact BK131.out) hb)
                     have n2_ := z01.mk (z0i (by repeat (first | (with_reducible first | exact HB.out | apply z03 | apply z05 | apply z04 | refine z08 ?_ GE131.out) | exact HB.out)) hb)
                     clear BK131
                     clear HB
                     have HO135 := n0_
                     have BK131 := n1_
                     have HB := n2_
                     clear n0_ n1_ n2_
                     clear hb ho17
                     refine hK.out _ _ ⟨(z00 BK131.out 0).trans rfl, (z00 BK131.out 1).trans rfl, (z00 BK131.out 2).trans rfl, (z00 BK131.out 3).trans rfl, (z00 BK131.out 4).trans rfl, (z00 BK131.out 5).trans rfl, (z00 BK131.out 6).trans rfl, (z00 BK131.out 7).trans rfl, (z00 BK131.out 8).trans rfl⟩ (fun hHeld => ?_)
                     clear hK K
                     refine z0b (a' := ?_) ?_ ?_
                     rotate_left
                     ·show Act.put _ (some 16) _ = _
                      simp only [Act.put, q1, q2, q3, z06, z07]
                      rfl
                     exact z0b (by first | (simp only [putAll, Act.put, q1, q2, q3]; done) | (simp only [putAll, Act.put, q1, q2, q3]; rfl)) (hJ3 (v134) _ ⟨hHeld, (by (with_reducible repeat (first | apply Kd.z0p | apply Kd.z0r | apply Kd.z0q)); exact HO135.out), (by (with_reducible repeat (first | refine z0c ?_ _ | refine z09 ?_ | refine z0a ?_ _)); exact BK131.out), (by repeat (first | (with_reducible first | exact HB.out | apply z03 | apply z05 | apply z04 | refine z08 ?_ GE131.out) | exact HB.out))⟩)
                    ·skip
                     refine z13 Try.func40 (by kernel_rfl) rfl #[.int .u64 a0_1] (by rfl) rfl rfl (by (try simp only [List.map_toArray, List.map_cons, List.map_nil]); first | done | rfl | (simp only [List.length_drop, List.length_take]; rfl)) ?_
                     with_reducible refine (z0k.calls a0_1 t136 _ A4.out).mono ?_
                     rintro e w16 ⟨rfl, hb⟩
                     refine ⟨_, rfl, ?_⟩
                     have n0_ := z01.mk (z0m (g := gb131) (o := .cells #[.int .i64 a0_0, .int .u64 a0_1, .slice A0_2 l0_2.length c0_2, .slice A0_3 l0_3.length c0_3, .slice A0_4 l0_4.length c0_4, .string a0_5, .int .i64 a0_6, .int .i64 a0_7, .string a0_8] 26 (0, 0)) (by (with_reducible repeat (first | refine z0c ?_ _ | refine z09 ?_ | refine z0a ?_ _)); exact BK131.out) hb)
                     have n1_ := z01.mk (z0i (by repeat (first | (with_reducible first | exact HB.out | apply z03 | apply z05 | apply z04 | refine z08 ?_ GE131.out) | exact HB.out)) hb)
                     clear BK131
                     clear HB
                     have BK131 := n0_
                     have HB := n1_
                     clear n0_ n1_
                     (try clear hb)
                     (try clear hb2)
                     (try clear hk)
                     (try clear hi)
                     refine hK.out _ _ ⟨(z00 BK131.out 0).trans rfl, (z00 BK131.out 1).trans rfl, (z00 BK131.out 2).trans rfl, (z00 BK131.out 3).trans rfl, (z00 BK131.out 4).trans rfl, (z00 BK131.out 5).trans rfl, (z00 BK131.out 6).trans rfl, (z00 BK131.out 7).trans rfl, (z00 BK131.out 8).trans rfl⟩ (fun hHeld => ?_)
                     clear hK K
                     refine z0b (a' := ?_) ?_ ?_
                     rotate_left
                     ·show Act.put _ (some 20) _ = _
                      simp only [Act.put, q1, q2, q3, z06, z07]
                      rfl
                     exact z0b (by first | (simp only [putAll, Act.put, q1, q2, q3]; done) | (simp only [putAll, Act.put, q1, q2, q3]; rfl)) (hJ7 () _ ⟨hHeld, (by (with_reducible repeat (first | refine z0c ?_ _ | refine z09 ?_ | refine z0a ?_ _)); exact BK131.out), (by repeat (first | (with_reducible first | exact HB.out | apply z03 | apply z05 | apply z04 | refine z08 ?_ GE131.out) | exact HB.out))⟩)
                   ·skip
                    rintro _ w17 ⟨hS_, h0_, h1_⟩
                    have n0_ : z01 (w17.heap[gb131]? = some (.cells #[.int .i64 a0_0, .int .u64 a0_1, .slice A0_2 l0_2.length c0_2, .slice A0_3 l0_3.length c0_3, .slice A0_4 l0_4.length c0_4, .string a0_5, .int .i64 a0_6, .int .i64 a0_7, .string a0_8] 26 (0, 0))) := ⟨h0_⟩
                    have n1_ : z01 (Below w.heap.size w w17) := ⟨h1_⟩
                    clear BK131
                    clear HB
                    clear h0_ h1_
                    have BK131 := n0_
                    have HB := n1_
                    clear n0_ n1_
                    have hHeld : w17.cell? ⟨gb131, 0, none⟩ = some (.int .i64 a0_0) ∧ w17.cell? ⟨gb131, 1, none⟩ = some (.int .u64 a0_1) ∧ w17.cell? ⟨gb131, 2, none⟩ = some (.slice A0_2 l0_2.length c0_2) ∧ w17.cell? ⟨gb131, 3, none⟩ = some (.slice A0_3 l0_3.length c0_3) ∧ w17.cell? ⟨gb131, 4, none⟩ = some (.slice A0_4 l0_4.length c0_4) ∧ w17.cell? ⟨gb131, 5, none⟩ = some (.string a0_5) ∧ w17.cell? ⟨gb131, 6, none⟩ = some (.int .i64 a0_6) ∧ w17.cell? ⟨gb131, 7, none⟩ = some (.int .i64 a0_7) ∧ w17.cell? ⟨gb131, 8, none⟩ = some (.string a0_8) := hS_
                    refine z0b (a' := ?_) ?_ ?_
                    rotate_left
                    ·simp only [putAll, Act.put, q1, q2, q3]
                     rfl
                    refine two_ (i := 3) (j := 11) (Ni := some 16) (Nj := some 24) #[true, true, true, true, false, true, true, true, false, true, true, false, false, true, true, false, false, true, true, true, true, false, false, false] #[true, true, true, false, false, true, true, true, false, true, true, true, false, true, true, false, false, true, true, true, true, false, false, false] rfl rfl rfl rfl (two_of HT_.out (by kernel_rfl)) (by decide) (by decide) (fun K hK => ?_) (fun K hK => ?_)
                    ·skip
                     refine Kd.z2l (Kd.int .u8) _ 5 ?hg (N := 16) ?hd (xs := ([(a0_0) % 256] : List Int)) (inner := [.int .u8 ((a0_0) % 256)]) (ok := fun _ => True) (okp := fun _ => True) ?hr ?hp (fun _ hk => hk) trivial (Below.refl _ _) (Nat.le_refl _) (by simp) ?_; (case hd => rfl); (case hg => rfl); (case hr => first | (go_simp; done) | (go_simp; rfl)); (case hp => exact (Reps.one (show Kd.M (Kd.int .u8) _ _ _ ((a0_0) % 256) [.int .u8 ((a0_0) % 256)] from rfl) (Reps.none _ _)))
                     intro v134 w18 ho19 hb hg_ hnew_
                     clear hg_ hnew_
                     (first | rw [← Ny133.out] at ho19 | (simp only [Int.reduceToNat] at ho19; rw [← Ny133.out] at ho19))
                     have n0_ := z01.mk (Kd.z20 ho19 (z18 (by repeat (first | (with_reducible first | exact HB.out | apply z03 | apply z05 | apply z04 | refine z08 ?_ GE131.out) | exact HB.out))))
                     have n1_ := z01.mk (z0m (g := gb131) (o := .cells #[.int .i64 a0_0, .int .u64 a0_1, .slice A0_2 l0_2.length c0_2, .slice A0_3 l0_3.length c0_3, .slice A0_4 l0_4.length c0_4, .string a0_5, .int .i64 a0_6, .int .i64 a0_7, .string a0_8] 26 (0, 0)) (by (with_reducible repeat (first | refine z0c ?_ _ | refine z09 ?_ | refine z0a ?_ _)); exact BK131.out) hb)
                     have n2_ := z01.mk (z0i (by repeat (first | (with_reducible first | exact HB.out | apply z03 | apply z05 | apply z04 | refine z08 ?_ GE131.out) | exact HB.out)) hb)
                     clear BK131
                     clear HB
                     have HO135 := n0_
                     have BK131 := n1_
                     have HB := n2_
                     clear n0_ n1_ n2_
                     clear hb ho19
                     refine hK.out _ _ ⟨(z00 BK131.out 0).trans rfl, (z00 BK131.out 1).trans rfl, (z00 BK131.out 2).trans rfl, (z00 BK131.out 3).trans rfl, (z00 BK131.out 4).trans rfl, (z00 BK131.out 5).trans rfl, (z00 BK131.out 6).trans rfl, (z00 BK131.out 7).trans rfl, (z00 BK131.out 8).trans rfl⟩ (fun hHeld => ?_)
                     clear hK K
                     refine z0b (a' := ?_) ?_ ?_
                     rotate_left
                     ·show Act.put _ (some 16) _ = _
                      simp only [Act.put, q1, q2, q3, z06, z07]
                      rfl
                     exact z0b (by first | (simp only [putAll, Act.put, q1, q2, q3]; done) | (simp only [putAll, Act.put, q1, q2, q3]; rfl)) (hJ3_7 (v134) _ ⟨hHeld, (by (with_reducible repeat (first | apply Kd.z0p | apply Kd.z0r | apply Kd.z0q)); exact HO135.out), (by (with_reducible repeat (first | refine z0c ?_ _ | refine z09 ?_ | refine z0a ?_ _)); exact BK131.out), (by repeat (first | (with_reducible first | exact HB.out | apply z03 | apply z05 | apply z04 | refine z08 ?_ GE131.out) | exact HB.out))⟩)
                    ·skip
                     refine z13 Try.func41 (by kernel_rfl) rfl #[.slice A0_2 l0_2.length c0_2] (by rfl) rfl rfl (by (try simp only [List.map_toArray, List.map_cons, List.map_nil]); first | done | rfl | (simp only [List.length_drop, List.length_take]; rfl)) ?_
                     with_reducible refine (z0z.calls k _ _ l0_2 t137 _ ?side1 ?side2 A6.out).mono ?_
                     (case side1 => repeat (first | exact (Kd.z12 HR0_2.out HB.out) | (with_reducible refine Kd.z1b ?_ _) | (with_reducible refine Kd.z1d ?_ _) | (with_reducible refine Kd.z1c ?_)))
                     (case side2 => exact HC0_2.out)
                     rintro e w18 ⟨rfl, hb⟩
                     refine ⟨_, rfl, ?_⟩
                     have n0_ := z01.mk (z0m (g := gb131) (o := .cells #[.int .i64 a0_0, .int .u64 a0_1, .slice A0_2 l0_2.length c0_2, .slice A0_3 l0_3.length c0_3, .slice A0_4 l0_4.length c0_4, .string a0_5, .int .i64 a0_6, .int .i64 a0_7, .string a0_8] 26 (0, 0)) (by (with_reducible repeat (first | refine z0c ?_ _ | refine z09 ?_ | refine z0a ?_ _)); exact BK131.out) hb)
                     have n1_ := z01.mk (z0i (by repeat (first | (with_reducible first | exact HB.out | apply z03 | apply z05 | apply z04 | refine z08 ?_ GE131.out) | exact HB.out)) hb)
                     clear BK131
                     clear HB
                     have BK131 := n0_
                     have HB := n1_
                     clear n0_ n1_
                     (try clear hb)
                     (try clear hb2)
                     (try clear hk)
                     (try clear hi)
                     refine hK.out _ _ ⟨(z00 BK131.out 0).trans rfl, (z00 BK131.out 1).trans rfl, (z00 BK131.out 2).trans rfl, (z00 BK131.out 3).trans rfl, (z00 BK131.out 4).trans rfl, (z00 BK131.out 5).trans rfl, (z00 BK131.out 6).trans rfl, (z00 BK131.out 7).trans rfl, (z00 BK131.out 8).trans rfl⟩ (fun hHeld => ?_)
                     clear hK K
                     refine z0b (a' := ?_) ?_ ?_
                     rotate_left
                     ·show Act.put _ (some 24) _ = _
                      simp only [Act.put, q1, q2, q3, z06, z07]
                      rfl
                     exact z0b (by first | (simp only [putAll, Act.put, q1, q2, q3]; done) | (simp only [putAll, Act.put, q1, q2, q3]; rfl)) (hJ7_11 () _ ⟨hHeld, (by (with_reducible repeat (first | refine z0c ?_ _ | refine z09 ?_ | refine z0a ?_ _)); exact BK131.out), (by repeat (first | (with_reducible first | exact HB.out | apply z03 | apply z05 | apply z04 | refine z08 ?_ GE131.out) | exact HB.out))⟩)
                  ·skip
                   rintro v134 w18 ⟨hS_, h0_, h1_, h2_⟩
                   have n0_ : z01 (Kd.R (Kd.int .u8) 5 w18 w.heap.size (fun _ => True) v134 y133) := ⟨h0_⟩
                   have n1_ : z01 (w18.heap[gb131]? = some (.cells #[.int .i64 a0_0, .int .u64 a0_1, .slice A0_2 l0_2.length c0_2, .slice A0_3 l0_3.length c0_3, .slice A0_4 l0_4.length c0_4, .string a0_5, .int .i64 a0_6, .int .i64 a0_7, .string a0_8] 26 (0, 0))) := ⟨h1_⟩
                   have n2_ : z01 (Below w.heap.size w w18) := ⟨h2_⟩
                   clear BK131
                   clear HB
                   clear h0_ h1_ h2_
                   have HO135 := n0_
                   have BK131 := n1_
                   have HB := n2_
                   clear n0_ n1_ n2_
                   have hHeld : w18.cell? ⟨gb131, 0, none⟩ = some (.int .i64 a0_0) ∧ w18.cell? ⟨gb131, 1, none⟩ = some (.int .u64 a0_1) ∧ w18.cell? ⟨gb131, 2, none⟩ = some (.slice A0_2 l0_2.length c0_2) ∧ w18.cell? ⟨gb131, 3, none⟩ = some (.slice A0_3 l0_3.length c0_3) ∧ w18.cell? ⟨gb131, 4, none⟩ = some (.slice A0_4 l0_4.length c0_4) ∧ w18.cell? ⟨gb131, 5, none⟩ = some (.string a0_5) ∧ w18.cell? ⟨gb131, 6, none⟩ = some (.int .i64 a0_6) ∧ w18.cell? ⟨gb131, 7, none⟩ = some (.int .i64 a0_7) ∧ w18.cell? ⟨gb131, 8, none⟩ = some (.string a0_8) := hS_
                   refine z0b (a' := ?_) ?_ ?_
                   rotate_left
                   ·simp only [putAll, Act.put, q1, q2, q3]
                    rfl
                   refine two_ (i := 4) (j := 7) (Ni := some 17) (Nj := some 20) #[true, true, true, true, true, true, true, false, false, true, true, false, false, true, true, false, false, true, true, true, true, false, false, false] #[true, true, true, true, false, true, true, true, false, true, true, false, false, true, true, false, false, true, true, true, true, false, false, false] rfl rfl rfl rfl (two_of HT_.out (by kernel_rfl)) (by decide) (by decide) (fun K hK => ?_) (fun K hK => ?_)
                   ·skip
                    have hcv19 := z2e (P := Try.prog) Try.underlying46 Try.underlying5 Try.underlying9 (Kd.z2f HO135.out)
                    refine value_ (w1 := ?_) (v := ?_) (by rfl) rfl ?_ ?_
                    rotate_left 2
                    ·go_simp
                     constructor
                     ·rfl
                     ·rfl
                    clear hcv19
                    refine hK.out _ _ ⟨(z00 BK131.out 0).trans rfl, (z00 BK131.out 1).trans rfl, (z00 BK131.out 2).trans rfl, (z00 BK131.out 3).trans rfl, (z00 BK131.out 4).trans rfl, (z00 BK131.out 5).trans rfl, (z00 BK131.out 6).trans rfl, (z00 BK131.out 7).trans rfl, (z00 BK131.out 8).trans rfl⟩ (fun hHeld => ?_)
                    clear hK K
                    refine z0b (a' := ?_) ?_ ?_
                    rotate_left
                    ·show Act.put _ (some 17) _ = _
                     simp only [Act.put, q1, q2, q3, z06, z07]
                     rfl
                    exact z0b (by first | (simp only [putAll, Act.put, q1, q2, q3]; done) | (simp only [putAll, Act.put, q1, q2, q3]; rfl)) (hJ3_4 (v134) _ ⟨hHeld, (by (with_reducible repeat (first | apply Kd.z0p | apply Kd.z0r | apply Kd.z0q)); exact HO135.out), (by (with_reducible repeat (first | refine z0c ?_ _ | refine z09 ?_ | refine z0a ?_ _)); exact BK131.out), (by repeat (first | (with_reducible first | exact HB.out | apply z03 | apply z05 | apply z04 | refine z08 ?_ GE131.out) | exact HB.out))⟩)
                   ·skip
                    refine z13 Try.func40 (by kernel_rfl) rfl #[.int .u64 a0_1] (by rfl) rfl rfl (by (try simp only [List.map_toArray, List.map_cons, List.map_nil]); first | done | rfl | (simp only [List.length_drop, List.length_take]; rfl)) ?_
                    with_reducible refine (z0k.calls a0_1 t136 _ A4.out).mono ?_
                    rintro e w19 ⟨rfl, hb⟩
                    refine ⟨_, rfl, ?_⟩
                    have n0_ := z01.mk (Kd.z1p (by (with_reducible repeat (first | apply Kd.z0p | apply Kd.z0r | apply Kd.z0q)); exact HO135.out) hb)
                    have n1_ := z01.mk (z0m (g := gb131) (o := .cells #[.int .i64 a0_0, .int .u64 a0_1, .slice A0_2 l0_2.length c0_2, .slice A0_3 l0_3.length c0_3, .slice A0_4 l0_4.length c0_4, .string a0_5, .int .i64 a0_6, .int .i64 a0_7, .string a0_8] 26 (0, 0)) (by (with_reducible repeat (first | refine z0c ?_ _ | refine z09 ?_ | refine z0a ?_ _)); exact BK131.out) hb)
                    have n2_ := z01.mk (z0i (by repeat (first | (with_reducible first | exact HB.out | apply z03 | apply z05 | apply z04 | refine z08 ?_ GE131.out) | exact HB.out)) hb)
                    clear HO135
                    clear BK131
                    clear HB
                    have HO135 := n0_
                    have BK131 := n1_
                    have HB := n2_
                    clear n0_ n1_ n2_
                    (try clear hb)
                    (try clear hb2)
                    (try clear hk)
                    (try clear hi)
                    refine hK.out _ _ ⟨(z00 BK131.out 0).trans rfl, (z00 BK131.out 1).trans rfl, (z00 BK131.out 2).trans rfl, (z00 BK131.out 3).trans rfl, (z00 BK131.out 4).trans rfl, (z00 BK131.out 5).trans rfl, (z00 BK131.out 6).trans rfl, (z00 BK131.out 7).trans rfl, (z00 BK131.out 8).trans rfl⟩ (fun hHeld => ?_)
                    clear hK K
                    refine z0b (a' := ?_) ?_ ?_
                    rotate_left
                    ·show Act.put _ (some 20) _ = _
                     simp only [Act.put, q1, q2, q3, z06, z07]
                     rfl
                    exact z0b (by first | (simp only [putAll, Act.put, q1, q2, q3]; done) | (simp only [putAll, Act.put, q1, q2, q3]; rfl)) (hJ3_7 (v134) _ ⟨hHeld, (by (with_reducible repeat (first | apply Kd.z0p | apply Kd.z0r | apply Kd.z0q)); exact HO135.out), (by (with_reducible repeat (first | refine z0c ?_ _ | refine z09 ?_ | refine z0a ?_ _)); exact BK131.out), (by repeat (first | (with_reducible first | exact HB.out | apply z03 | apply z05 | apply z04 | refine z08 ?_ GE131.out) | exact HB.out))⟩)
                 ·skip
                  rintro _ w18 ⟨hS_, h0_, h1_⟩
                  have n0_ : z01 (w18.heap[gb131]? = some (.cells #[.int .i64 a0_0, .int .u64 a0_1, .slice A0_2 l0_2.length c0_2, .slice A0_3 l0_3.length c0_3, .slice A0_4 l0_4.length c0_4, .string a0_5, .int .i64 a0_6, .int .i64 a0_7, .string a0_8] 26 (0, 0))) := ⟨h0_⟩
                  have n1_ : z01 (Below w.heap.size w w18) := ⟨h1_⟩
                  clear BK131
                  clear HB
                  clear h0_ h1_
                  have BK131 := n0_
                  have HB := n1_
                  clear n0_ n1_
                  have hHeld : w18.cell? ⟨gb131, 0, none⟩ = some (.int .i64 a0_0) ∧ w18.cell? ⟨gb131, 1, none⟩ = some (.int .u64 a0_1) ∧ w18.cell? ⟨gb131, 2, none⟩ = some (.slice A0_2 l0_2.length c0_2) ∧ w18.cell? ⟨gb131, 3, none⟩ = some (.slice A0_3 l0_3.length c0_3) ∧ w18.cell? ⟨gb131, 4, none⟩ = some (.slice A0_4 l0_4.length c0_4) ∧ w18.cell? ⟨gb131, 5, none⟩ = some (.string a0_5) ∧ w18.cell? ⟨gb131, 6, none⟩ = some (.int .i64 a0_6) ∧ w18.cell? ⟨gb131, 7, none⟩ = some (.int .i64 a0_7) ∧ w18.cell? ⟨gb131, 8, none⟩ = some (.string a0_8) := hS_
                  refine z0b (a' := ?_) ?_ ?_
                  rotate_left
                  ·simp only [putAll, Act.put, q1, q2, q3]
                   rfl
                  refine two_ (i := 3) (j := 15) (Ni := some 16) (Nj := some 28) #[true, true, true, true, false, true, true, true, false, true, true, true, false, true, true, false, false, true, true, true, true, false, false, false] #[true, true, true, false, false, true, true, true, false, true, true, true, false, true, true, true, false, true, true, true, true, false, false, false] rfl rfl rfl rfl (two_of HT_.out (by kernel_rfl)) (by decide) (by decide) (fun K hK => ?_) (fun K hK => ?_)
                  ·skip
                   refine Kd.z2l (Kd.int .u8) _ 5 ?hg (N := 16) ?hd (xs := ([(a0_0) % 256] : List Int)) (inner := [.int .u8 ((a0_0) % 256)]) (ok := fun _ => True) (okp := fun _ => True) ?hr ?hp (fun _ hk => hk) trivial (Below.refl _ _) (Nat.le_refl _) (by simp) ?_; (case hd => rfl); (case hg => rfl); (case hr => first | (go_simp; done) | (go_simp; rfl)); (case hp => exact (Reps.one (show Kd.M (Kd.int .u8) _ _ _ ((a0_0) % 256) [.int .u8 ((a0_0) % 256)] from rfl) (Reps.none _ _)))
                   intro v134 w19 ho20 hb hg_ hnew_
                   clear hg_ hnew_
                   (first | rw [← Ny133.out] at ho20 | (simp only [Int.reduceToNat] at ho20; rw [← Ny133.out] at ho20))
                   have n0_ := z01.mk (Kd.z20 ho20 (z18 (by repeat (first | (with_reducible first | exact HB.out | apply z03 | apply z05 | apply z04 | refine z08 ?_ GE131.out) | exact HB.out))))
                   have n1_ := z01.mk (z0m (g := gb131) (o := .cells #[.int .i64 a0_0, .int .u64 a0_1, .slice A0_2 l0_2.length c0_2, .slice A0_3 l0_3.length c0_3, .slice A0_4 l0_4.length c0_4, .string a0_5, .int .i64 a0_6, .int .i64 a0_7, .string a0_8] 26 (0, 0)) (by (with_reducible repeat (first | refine z0c ?_ _ | refine z09 ?_ | refine z0a ?_ _)); exact BK131.out) hb)
                   have n2_ := z01.mk (z0i (by repeat (first | (with_reducible first | exact HB.out | apply z03 | apply z05 | apply z04 | refine z08 ?_ GE131.out) | exact HB.out)) hb)
                   clear BK131
                   clear HB
                   have HO135 := n0_
                   have BK131 := n1_
                   have HB := n2_
                   clear n0_ n1_ n2_
                   clear hb ho20
                   refine hK.out _ _ ⟨(z00 BK131.out 0).trans rfl, (z00 BK131.out 1).trans rfl, (z00 BK131.out 2).trans rfl, (z00 BK131.out 3).trans rfl, (z00 BK131.out 4).trans rfl, (z00 BK131.out 5).trans rfl, (z00 BK131.out 6).trans rfl, (z00 BK131.out 7).trans rfl, (z00 BK131.out 8).trans rfl⟩ (fun hHeld => ?_)
                   clear hK K
                   refine z0b (a' := ?_) ?_ ?_
                   rotate_left
                   ·show Act.put _ (some 16) _ = _
                    simp only [Act.put, q1, q2, q3, z06, z07]
                    rfl
                   exact z0b (by first | (simp only [putAll, Act.put, q1, q2, q3]; done) | (simp only [putAll, Act.put, q1, q2, q3]; rfl)) (hJ3_7_11 (v134) _ ⟨hHeld, (by (with_reducible repeat (first | apply Kd.z0p | apply Kd.z0r | apply Kd.z0q)); exact HO135.out), (by (with_reducible repeat (first | refine z0c ?_ _ | refine z09 ?_ | refine z0a ?_ _)); exact BK131.out), (by repeat (first | (with_reducible first | exact HB.out | apply z03 | apply z05 | apply z04 | refine z08 ?_ GE131.out) | exact HB.out))⟩)
                  ·skip
                   refine z13 Try.func41 (by kernel_rfl) rfl #[.slice A0_3 l0_3.length c0_3] (by rfl) rfl rfl (by (try simp only [List.map_toArray, List.map_cons, List.map_nil]); first | done | rfl | (simp only [List.length_drop, List.length_take]; rfl)) ?_
                   with_reducible refine (z0z.calls k _ _ l0_3 t138 _ ?side1 ?side2 A8.out).mono ?_
                   (case side1 => repeat (first | exact (Kd.z12 HR0_3.out HB.out) | (with_reducible refine Kd.z1b ?_ _) | (with_reducible refine Kd.z1d ?_ _) | (with_reducible refine Kd.z1c ?_)))
                   (case side2 => exact HC0_3.out)
                   rintro e w19 ⟨rfl, hb⟩
                   refine ⟨_, rfl, ?_⟩
                   have n0_ := z01.mk (z0m (g := gb131) (o := .cells #[.int .i64 a0_0, .int .u64 a0_1, .slice A0_2 l0_2.length c0_2, .slice A0_3 l0_3.length c0_3, .slice A0_4 l0_4.length c0_4, .string a0_5, .int .i64 a0_6, .int .i64 a0_7, .string a0_8] 26 (0, 0)) (by (with_reducible repeat (first | refine z0c ?_ _ | refine z09 ?_ | refine z0a ?_ _)); exact BK131.out) hb)
                   have n1_ := z01.mk (z0i (by repeat (first | (with_reducible first | exact HB.out | apply z03 | apply z05 | apply z04 | refine z08 ?_ GE131.out) | exact HB.out)) hb)
                   clear BK131
                   clear HB
                   have BK131 := n0_
                   have HB := n1_
                   clear n0_ n1_
                   (try clear hb)
                   (try clear hb2)
                   (try clear hk)
                   (try clear hi)
                   refine hK.out _ _ ⟨(z00 BK131.out 0).trans rfl, (z00 BK131.out 1).trans rfl, (z00 BK131.out 2).trans rfl, (z00 BK131.out 3).trans rfl, (z00 BK131.out 4).trans rfl, (z00 BK131.out 5).trans rfl, (z00 BK131.out 6).trans rfl, (z00 BK131.out 7).trans rfl, (z00 BK131.out 8).trans rfl⟩ (fun hHeld => ?_)
                   clear hK K
                   refine z0b (a' := ?_) ?_ ?_
                   rotate_left
                   ·show Act.put _ (some 28) _ = _
                    simp only [Act.put, q1, q2, q3, z06, z07]
                    rfl
                   exact z0b (by first | (simp only [putAll, Act.put, q1, q2, q3]; done) | (simp only [putAll, Act.put, q1, q2, q3]; rfl)) (hJ7_11_15 () _ ⟨hHeld, (by (with_reducible repeat (first | refine z0c ?_ _ | refine z09 ?_ | refine z0a ?_ _)); exact BK131.out), (by repeat (first | (with_reducible first | exact HB.out | apply z03 | apply z05 | apply z04 | refine z08 ?_ GE131.out) | exact HB.out))⟩)
                ·skip
                 rintro v134 w19 ⟨hS_, h0_, h1_, h2_⟩
                 have n0_ : z01 (Kd.R (Kd.int .u8) 5 w19 w.heap.size (fun _ => True) v134 y133) := ⟨h0_⟩
                 have n1_ : z01 (w19.heap[gb131]? = some (.cells #[.int .i64 a0_0, .int .u64 a0_1, .slice A0_2 l0_2.length c0_2, .slice A0_3 l0_3.length c0_3, .slice A0_4 l0_4.length c0_4, .string a0_5, .int .i64 a0_6, .int .i64 a0_7, .string a0_8] 26 (0, 0))) := ⟨h1_⟩
                 have n2_ : z01 (Below w.heap.size w w19) := ⟨h2_⟩
                 clear BK131
                 clear HB
                 clear h0_ h1_ h2_
                 have HO135 := n0_
                 have BK131 := n1_
                 have HB := n2_
                 clear n0_ n1_ n2_
                 have hHeld : w19.cell? ⟨gb131, 0, none⟩ = some (.int .i64 a0_0) ∧ w19.cell? ⟨gb131, 1, none⟩ = some (.int .u64 a0_1) ∧ w19.cell? ⟨gb131, 2, none⟩ = some (.slice A0_2 l0_2.length c0_2) ∧ w19.cell? ⟨gb131, 3, none⟩ = some (.slice A0_3 l0_3.length c0_3) ∧ w19.cell? ⟨gb131, 4, none⟩ = some (.slice A0_4 l0_4.length c0_4) ∧ w19.cell? ⟨gb131, 5, none⟩ = some (.string a0_5) ∧ w19.cell? ⟨gb131, 6, none⟩ = some (.int .i64 a0_6) ∧ w19.cell? ⟨gb131, 7, none⟩ = some (.int .i64 a0_7) ∧ w19.cell? ⟨gb131, 8, none⟩ = some (.string a0_8) := hS_
                 refine z0b (a' := ?_) ?_ ?_
                 rotate_left
                 ·simp only [putAll, Act.put, q1, q2, q3]
                  rfl
                 refine two_ (i := 4) (j := 11) (Ni := some 17) (Nj := some 24) #[true, true, true, true, true, true, true, true, false, true, true, false, false, true, true, false, false, true, true, true, true, false, false, false] #[true, true, true, true, false, true, true, true, false, true, true, true, false, true, true, false, false, true, true, true, true, false, false, false] rfl rfl rfl rfl (two_of HT_.out (by kernel_rfl)) (by decide) (by decide) (fun K hK => ?_) (fun K hK => ?_)
                 ·skip
                  have hcv20 := z2e (P := Try.prog) Try.underlying46 Try.underlying5 Try.underlying9 (Kd.z2f HO135.out)
                  refine value_ (w1 := ?_) (v := ?_) (by rfl) rfl ?_ ?_
                  rotate_left 2
                  ·go_simp
                   constructor
                   ·rfl
                   ·rfl
                  clear hcv20
                  refine hK.out _ _ ⟨(z00 BK131.out 0).trans rfl, (z00 BK131.out 1).trans rfl, (z00 BK131.out 2).trans rfl, (z00 BK131.out 3).trans rfl, (z00 BK131.out 4).trans rfl, (z00 BK131.out 5).trans rfl, (z00 BK131.out 6).trans rfl, (z00 BK131.out 7).trans rfl, (z00 BK131.out 8).trans rfl⟩ (fun hHeld => ?_)
                  clear hK K
                  refine z0b (a' := ?_) ?_ ?_
                  rotate_left
                  ·show Act.put _ (some 17) _ = _
                   simp only [Act.put, q1, q2, q3, z06, z07]
                   rfl
                  refine z0d (i := 8) (N := some 21) (v := ?_) (a' := ?_) #[true, true, true, true, true, true, true, true, true, true, true, false, false, true, true, false, false, true, true, true, true, false, false, false] rfl rfl (z0e HT_.out (by kernel_rfl)) (fun _ _ _ h => h) (Or.inl ⟨by rfl, ?_⟩) ?_ ?_
                  rotate_left
                  ·intro w'
                   go_simp
                   with_reducible rfl
                  rotate_left
                  ·simp only [Act.put, q1, q2, q3, z06, z07]
                   rfl
                  exact z0b (by first | (simp only [putAll, Act.put, q1, q2, q3]; done) | (simp only [putAll, Act.put, q1, q2, q3]; rfl)) (hJ3_4_7 (v134) _ ⟨hHeld, (by (with_reducible repeat (first | apply Kd.z0p | apply Kd.z0r | apply Kd.z0q)); exact HO135.out), (by (with_reducible repeat (first | refine z0c ?_ _ | refine z09 ?_ | refine z0a ?_ _)); exact BK131.out), (by repeat (first | (with_reducible first | exact HB.out | apply z03 | apply z05 | apply z04 | refine z08 ?_ GE131.out) | exact HB.out))⟩)
                 ·skip
                  refine z13 Try.func41 (by kernel_rfl) rfl #[.slice A0_2 l0_2.length c0_2] (by rfl) rfl rfl (by (try simp only [List.map_toArray, List.map_cons, List.map_nil]); first | done | rfl | (simp only [List.length_drop, List.length_take]; rfl)) ?_
                  with_reducible refine (z0z.calls k _ _ l0_2 t137 _ ?side1 ?side2 A6.out).mono ?_
                  (case side1 => repeat (first | exact (Kd.z12 HR0_2.out HB.out) | (with_reducible refine Kd.z1b ?_ _) | (with_reducible refine Kd.z1d ?_ _) | (with_reducible refine Kd.z1c ?_)))
                  (case side2 => exact HC0_2.out)
                  rintro e w20 ⟨rfl, hb⟩
                  refine ⟨_, rfl, ?_⟩
                  have n0_ := z01.mk (Kd.z1p (by (with_reducible repeat (first | apply Kd.z0p | apply Kd.z0r | apply Kd.z0q)); exact HO135.out) hb)
                  have n1_ := z01.mk (z0m (g := gb131) (o := .cells #[.int .i64 a0_0, .int .u64 a0_1, .slice A0_2 l0_2.length c0_2, .slice A0_3 l0_3.length c0_3, .slice A0_4 l0_4.length c0_4, .string a0_5, .int .i64 a0_6, .int .i64 a0_7, .string a0_8] 26 (0, 0)) (by (with_reducible repeat (first | refine z0c ?_ _ | refine z09 ?_ | refine z0a ?_ _)); exact BK131.out) hb)
                  have n2_ := z01.mk (z0i (by repeat (first | (with_reducible first | exact HB.out | apply z03 | apply z05 | apply z04 | refine z08 ?_ GE131.out) | exact HB.out)) hb)
                  clear HO135
                  clear BK131
                  clear HB
                  have HO135 := n0_
                  have BK131 := n1_
                  have HB := n2_
                  clear n0_ n1_ n2_
                  (try clear hb)
                  (try clear hb2)
                  (try clear hk)
                  (try clear hi)
                  refine hK.out _ _ ⟨(z00 BK131.out 0).trans rfl, (z00 BK131.out 1).trans rfl, (z00 BK131.out 2).trans rfl, (z00 BK131.out 3).trans rfl, (z00 BK131.out 4).trans rfl, (z00 BK131.out 5).trans rfl, (z00 BK131.out 6).trans rfl, (z00 BK131.out 7).trans rfl, (z00 BK131.out 8).trans rfl⟩ (fun hHeld => ?_)
                  clear hK K
                  refine z0b (a' := ?_) ?_ ?_
                  rotate_left
                  ·show Act.put _ (some 24) _ = _
                   simp only [Act.put, q1, q2, q3, z06, z07]
                   rfl
                  exact z0b (by first | (simp only [putAll, Act.put, q1, q2, q3]; done) | (simp only [putAll, Act.put, q1, q2, q3]; rfl)) (hJ3_7_11 (v134) _ ⟨hHeld, (by (with_reducible repeat (first | apply Kd.z0p | apply Kd.z0r | apply Kd.z0q)); exact HO135.out), (by (with_reducible repeat (first | refine z0c ?_ _ | refine z09 ?_ | refine z0a ?_ _)); exact BK131.out), (by repeat (first | (with_reducible first | exact HB.out | apply z03 | apply z05 | apply z04 | refine z08 ?_ GE131.out) | exact HB.out))⟩)
               ·skip
                rintro v134 w19 ⟨hS_, h0_, h1_, h2_⟩
                have n0_ : z01 (Kd.R (Kd.int .u8) 5 w19 w.heap.size (fun _ => True) v134 y133) := ⟨h0_⟩
                have n1_ : z01 (w19.heap[gb131]? = some (.cells #[.int .i64 a0_0, .int .u64 a0_1, .slice A0_2 l0_2.length c0_2, .slice A0_3 l0_3.length c0_3, .slice A0_4 l0_4.length c0_4, .string a0_5, .int .i64 a0_6, .int .i64 a0_7, .string a0_8] 26 (0, 0))) := ⟨h1_⟩
                have n2_ : z01 (Below w.heap.size w w19) := ⟨h2_⟩
                clear BK131
                clear HB
                clear h0_ h1_ h2_
                have HO135 := n0_
                have BK131 := n1_
                have HB := n2_
                clear n0_ n1_ n2_
                have hHeld : w19.cell? ⟨gb131, 0, none⟩ = some (.int .i64 a0_0) ∧ w19.cell? ⟨gb131, 1, none⟩ = some (.int .u64 a0_1) ∧ w19.cell? ⟨gb131, 2, none⟩ = some (.slice A0_2 l0_2.length c0_2) ∧ w19.cell? ⟨gb131, 3, none⟩ = some (.slice A0_3 l0_3.length c0_3) ∧ w19.cell? ⟨gb131, 4, none⟩ = some (.slice A0_4 l0_4.length c0_4) ∧ w19.cell? ⟨gb131, 5, none⟩ = some (.string a0_5) ∧ w19.cell? ⟨gb131, 6, none⟩ = some (.int .i64 a0_6) ∧ w19.cell? ⟨gb131, 7, none⟩ = some (.int .i64 a0_7) ∧ w19.cell? ⟨gb131, 8, none⟩ = some (.string a0_8) := hS_
                refine z0b (a' := ?_) ?_ ?_
                rotate_left
                ·simp only [putAll, Act.put, q1, q2, q3]
                 rfl
                refine one_ (i := 7) (N := some 20) #[true, true, true, true, true, true, true, true, false, true, true, false, false, true, true, false, false, true, true, true, true, false, false, false] rfl rfl (z19 HT_.out (by kernel_rfl)) (by decide) (fun K hK => ?_)
                refine z13 Try.func40 (by kernel_rfl) rfl #[.int .u64 a0_1] (by rfl) rfl rfl (by (try simp only [List.map_toArray, List.map_cons, List.map_nil]); first | done | rfl | (simp only [List.length_drop, List.length_take]; rfl)) ?_
                with_reducible refine (z0k.calls a0_1 t136 _ A4.out).mono ?_
                rintro e w20 ⟨rfl, hb⟩
                refine ⟨_, rfl, ?_⟩
                have n0_ := z01.mk (Kd.z1p (by (with_reducible repeat (first | apply Kd.z0p | apply Kd.z0r | apply Kd.z0q)); exact HO135.out) hb)
                have n1_ := z01.mk (z0m (g := gb131) (o := .cells #[.int .i64 a0_0, .int .u64 a0_1, .slice A0_2 l0_2.length c0_2, .slice A0_3 l0_3.length c0_3, .slice A0_4 l0_4.length c0_4, .string a0_5, .int .i64 a0_6, .int .i64 a0_7, .string a0_8] 26 (0, 0)) (by (with_reducible repeat (first | refine z0c ?_ _ | refine z09 ?_ | refine z0a ?_ _)); exact BK131.out) hb)
                have n2_ := z01.mk (z0i (by repeat (first | (with_reducible first | exact HB.out | apply z03 | apply z05 | apply z04 | refine z08 ?_ GE131.out) | exact HB.out)) hb)
                clear HO135
                clear BK131
                clear HB
                have HO135 := n0_
                have BK131 := n1_
                have HB := n2_
                clear n0_ n1_ n2_
                (try clear hb)
                (try clear hb2)
                (try clear hk)
                (try clear hi)
                refine hK.out _ _ ⟨(z00 BK131.out 0).trans rfl, (z00 BK131.out 1).trans rfl, (z00 BK131.out 2).trans rfl, (z00 BK131.out 3).trans rfl, (z00 BK131.out 4).trans rfl, (z00 BK131.out 5).trans rfl, (z00 BK131.out 6).trans rfl, (z00 BK131.out 7).trans rfl, (z00 BK131.out 8).trans rfl⟩ (fun hHeld => ?_)
                clear hK K
                refine z0b (a' := ?_) ?_ ?_
                rotate_left
                ·show Act.put _ (some 20) _ = _
                 simp only [Act.put, q1, q2, q3, z06, z07]
                 rfl
                refine z0d (i := 8) (N := some 21) (v := ?_) (a' := ?_) #[true, true, true, true, true, true, true, true, true, true, true, false, false, true, true, false, false, true, true, true, true, false, false, false] rfl rfl (z0e HT_.out (by kernel_rfl)) (fun _ _ _ h => h) (Or.inl ⟨by rfl, ?_⟩) ?_ ?_
                rotate_left
                ·intro w'
                 go_simp
                 with_reducible rfl
                rotate_left
                ·simp only [Act.put, q1, q2, q3, z06, z07]
                 rfl
                exact z0b (by first | (simp only [putAll, Act.put, q1, q2, q3]; done) | (simp only [putAll, Act.put, q1, q2, q3]; rfl)) (hJ3_4_7 (v134) _ ⟨hHeld, (by (with_reducible repeat (first | apply Kd.z0p | apply Kd.z0r | apply Kd.z0q)); exact HO135.out), (by (with_reducible repeat (first | refine z0c ?_ _ | refine z09 ?_ | refine z0a ?_ _)); exact BK131.out), (by repeat (first | (with_reducible first | exact HB.out | apply z03 | apply z05 | apply z04 | refine z08 ?_ GE131.out) | exact HB.out))⟩)
              ·skip
               rintro _ w19 ⟨hS_, h0_, h1_⟩
               have n0_ : z01 (w19.heap[gb131]? = some (.cells #[.int .i64 a0_0, .int .u64 a0_1, .slice A0_2 l0_2.length c0_2, .slice A0_3 l0_3.length c0_3, .slice A0_4 l0_4.length c0_4, .string a0_5, .int .i64 a0_6, .int .i64 a0_7, .string a0_8] 26 (0, 0))) := ⟨h0_⟩
               have n1_ : z01 (Below w.heap.size w w19) := ⟨h1_⟩
               clear BK131
               clear HB
               clear h0_ h1_
               have BK131 := n0_
               have HB := n1_
               clear n0_ n1_
               have hHeld : w19.cell? ⟨gb131, 0, none⟩ = some (.int .i64 a0_0) ∧ w19.cell? ⟨gb131, 1, none⟩ = some (.int .u64 a0_1) ∧ w19.cell? ⟨gb131, 2, none⟩ = some (.slice A0_2 l0_2.length c0_2) ∧ w19.cell? ⟨gb131, 3, none⟩ = some (.slice A0_3 l0_3.length c0_3) ∧ w19.cell? ⟨gb131, 4, none⟩ = some (.slice A0_4 l0_4.length c0_4) ∧ w19.cell? ⟨gb131, 5, none⟩ = some (.string a0_5) ∧ w19.cell? ⟨gb131, 6, none⟩ = some (.int .i64 a0_6) ∧ w19.cell? ⟨gb131, 7, none⟩ = some (.int .i64 a0_7) ∧ w19.cell? ⟨gb131, 8, none⟩ = some (.string a0_8) := hS_
               refine z0b (a' := ?_) ?_ ?_
               rotate_left
               ·simp only [putAll, Act.put, q1, q2, q3]
                rfl
               refine two_ (i := 3) (j := 21) (Ni := some 16) (Nj := some 34) #[true, true, true, true, false, true, true, true, false, true, true, true, false, true, true, true, false, true, true, true, true, false, false, false] #[true, true, true, false, false, true, true, true, false, true, true, true, false, true, true, true, false, true, true, true, true, true, false, false] rfl rfl rfl rfl (two_of HT_.out (by kernel_rfl)) (by decide) (by decide) (fun K hK => ?_) (fun K hK => ?_)
               ·skip
                refine Kd.z2l (Kd.int .u8) _ 5 ?hg (N := 16) ?hd (xs := ([(a0_0) % 256] : List Int)) (inner := [.int .u8 ((a0_0) % 256)]) (ok := fun _ => True) (okp := fun _ => True) ?hr ?hp (fun _ hk => hk) trivial (Below.refl _ _) (Nat.le_refl _) (by simp) ?_; (case hd => rfl); (case hg => rfl); (case hr => first | (go_simp; done) | (go_simp; rfl)); (case hp => exact (Reps.one (show Kd.M (Kd.int .u8) _ _ _ ((a0_0) % 256) [.int .u8 ((a0_0) % 256)] from rfl) (Reps.none _ _)))
                intro v134 w20 ho21 hb hg_ hnew_
                clear hg_ hnew_
                (first | rw [← Ny133.out] at ho21 | (simp only [Int.reduceToNat] at ho21; rw [← Ny133.out] at ho21))
                have n0_ := z01.mk (Kd.z20 ho21 (z18 (by repeat (first | (with_reducible first | exact HB.out | apply z03 | apply z05 | apply z04 | refine z08 ?_ GE131.out) | exact HB.out))))
                have n1_ := z01.mk (z0m (g := gb131) (o := .cells #[.int .i64 a0_0, .int .u64 a0_1, .slice A0_2 l0_2.length c0_2, .slice A0_3 l0_3.length c0_3, .slice A0_4 l0_4.length c0_4, .string a0_5, .int .i64 a0_6, .int .i64 a0_7, .string a0_8] 26 (0, 0)) (by (with_reducible repeat (first | refine z0c ?_ _ | refine z09 ?_ | refine z0a ?_ _)); exact BK131.out) hb)
                have n2_ := z01.mk (z0i (by repeat (first | (with_reducible first | exact HB.out | apply z03 | apply z05 | apply z04 | refine z08 ?_ GE131.out) | exact HB.out)) hb)
                clear BK131
                clear HB
                have HO135 := n0_
                have BK131 := n1_
                have HB := n2_
                clear n0_ n1_ n2_
                clear hb ho21
                refine hK.out _ _ ⟨(z00 BK131.out 0).trans rfl, (z00 BK131.out 1).trans rfl, (z00 BK131.out 2).trans rfl, (z00 BK131.out 3).trans rfl, (z00 BK131.out 4).trans rfl, (z00 BK131.out 5).trans rfl, (z00 BK131.out 6).trans rfl, (z00 BK131.out 7).trans rfl, (z00 BK131.out 8).trans rfl⟩ (fun hHeld => ?_)
                clear hK K
                refine z0b (a' := ?_) ?_ ?_
                rotate_left
                ·show Act.put _ (some 16) _ = _
                 simp only [Act.put, q1, q2, q3, z06, z07]
                 rfl
                exact z0b (by first | (simp only [putAll, Act.put, q1, q2, q3]; done) | (simp only [putAll, Act.put, q1, q2, q3]; rfl)) (hJ3_7_11_15 (v134) _ ⟨hHeld, (by (with_reducible repeat (first | apply Kd.z0p | apply Kd.z0r | apply Kd.z0q)); exact HO135.out), (by (with_reducible repeat (first | refine z0c ?_ _ | refine z09 ?_ | refine z0a ?_ _)); exact BK131.out), (by repeat (first | (with_reducible first | exact HB.out | apply z03 | apply z05 | apply z04 | refine z08 ?_ GE131.out) | exact HB.out))⟩)
               ·skip
                refine z13 Try.func40 (by kernel_rfl) rfl #[.int .u64 (IntKind.u64.wrap ((l0_4.length : Int)))] (by rfl) rfl rfl (by (try simp only [List.map_toArray, List.map_cons, List.map_nil]); first | done | rfl | (simp only [List.length_drop, List.length_take]; rfl)) ?_
                with_reducible refine (z0k.calls (IntKind.u64.wrap ((l0_4.length : Int))) t139 _ A10.out).mono ?_
                rintro e w20 ⟨rfl, hb⟩
                refine ⟨_, rfl, ?_⟩
                have n0_ := z01.mk (z0m (g := gb131) (o := .cells #[.int .i64 a0_0, .int .u64 a0_1, .slice A0_2 l0_2.length c0_2, .slice A0_3 l0_3.length c0_3, .slice A0_4 l0_4.length c0_4, .string a0_5, .int .i64 a0_6, .int .i64 a0_7, .string a0_8] 26 (0, 0)) (by (with_reducible repeat (first | refine z0c ?_ _ | refine z09 ?_ | refine z0a ?_ _)); exact BK131.out) hb)
                have n1_ := z01.mk (z0i (by repeat (first | (with_reducible first | exact HB.out | apply z03 | apply z05 | apply z04 | refine z08 ?_ GE131.out) | exact HB.out)) hb)
                clear BK131
                clear HB
                have BK131 := n0_
                have HB := n1_
                clear n0_ n1_
                (try clear hb)
                (try clear hb2)
                (try clear hk)
                (try clear hi)
                refine hK.out _ _ ⟨(z00 BK131.out 0).trans rfl, (z00 BK131.out 1).trans rfl, (z00 BK131.out 2).trans rfl, (z00 BK131.out 3).trans rfl, (z00 BK131.out 4).trans rfl, (z00 BK131.out 5).trans rfl, (z00 BK131.out 6).trans rfl, (z00 BK131.out 7).trans rfl, (z00 BK131.out 8).trans rfl⟩ (fun hHeld => ?_)
                clear hK K
                refine z0b (a' := ?_) ?_ ?_
                rotate_left
                ·show Act.put _ (some 34) _ = _
                 simp only [Act.put, q1, q2, q3, z06, z07]
                 rfl
                exact z0b (by first | (simp only [putAll, Act.put, q1, q2, q3]; done) | (simp only [putAll, Act.put, q1, q2, q3]; rfl)) (hJ7_11_15_21 () _ ⟨hHeld, (by (with_reducible repeat (first | refine z0c ?_ _ | refine z09 ?_ | refine z0a ?_ _)); exact BK131.out), (by repeat (first | (with_reducible first | exact HB.out | apply z03 | apply z05 | apply z04 | refine z08 ?_ GE131.out) | exact HB.out))⟩)
             ·skip
              rintro v134 w20 ⟨hS_, h0_, h1_, h2_⟩
              have n0_ : z01 (Kd.R (Kd.int .u8) 5 w20 w.heap.size (fun _ => True) v134 y133) := ⟨h0_⟩
              have n1_ : z01 (w20.heap[gb131]? = some (.cells #[.int .i64 a0_0, .int .u64 a0_1, .slice A0_2 l0_2.length c0_2, .slice A0_3 l0_3.length c0_3, .slice A0_4 l0_4.length c0_4, .string a0_5, .int .i64 a0_6, .int .i64 a0_7, .string a0_8] 26 (0, 0))) := ⟨h1_⟩
              have n2_ : z01 (Below w.heap.size w w20) := ⟨h2_⟩
              clear BK131
              clear HB
              clear h0_ h1_ h2_
              have HO135 := n0_
              have BK131 := n1_
              have HB := n2_
              clear n0_ n1_ n2_
              have hHeld : w20.cell? ⟨gb131, 0, none⟩ = some (.int .i64 a0_0) ∧ w20.cell? ⟨gb131, 1, none⟩ = some (.int .u64 a0_1) ∧ w20.cell? ⟨gb131, 2, none⟩ = some (.slice A0_2 l0_2.length c0_2) ∧ w20.cell? ⟨gb131, 3, none⟩ = some (.slice A0_3 l0_3.length c0_3) ∧ w20.cell? ⟨gb131, 4, none⟩ = some (.slice A0_4 l0_4.length c0_4) ∧ w20.cell? ⟨gb131, 5, none⟩ = some (.string a0_5) ∧ w20.cell? ⟨gb131, 6, none⟩ = some (.int .i64 a0_6) ∧ w20.cell? ⟨gb131, 7, none⟩ = some (.int .i64 a0_7) ∧ w20.cell? ⟨gb131, 8, none⟩ = some (.string a0_8) := hS_
              refine z0b (a' := ?_) ?_ ?_
              rotate_left
              ·simp only [putAll, Act.put, q1, q2, q3]
               rfl
              refine two_ (i := 4) (j := 15) (Ni := some 17) (Nj := some 28) #[true, true, true, true, true, true, true, true, false, true, true, true, false, true, true, false, false, true, true, true, true, false, false, false] #[true, true, true, true, false, true, true, true, false, true, true, true, false, true, true, true, false, true, true, true, true, false, false, false] rfl rfl rfl rfl (two_of HT_.out (by kernel_rfl)) (by decide) (by decide) (fun K hK => ?_) (fun K hK => ?_)
              ·skip
               have hcv21 := z2e (P := Try.prog) Try.underlying46 Try.underlying5 Try.underlying9 (Kd.z2f HO135.out)
               refine value_ (w1 := ?_) (v := ?_) (by rfl) rfl ?_ ?_
               rotate_left 2
               ·go_simp
                constructor
                ·rfl
                ·rfl
               clear hcv21
               refine hK.out _ _ ⟨(z00 BK131.out 0).trans rfl, (z00 BK131.out 1).trans rfl, (z00 BK131.out 2).trans rfl, (z00 BK131.out 3).trans rfl, (z00 BK131.out 4).trans rfl, (z00 BK131.out 5).trans rfl, (z00 BK131.out 6).trans rfl, (z00 BK131.out 7).trans rfl, (z00 BK131.out 8).trans rfl⟩ (fun hHeld => ?_)
               clear hK K
               refine z0b (a' := ?_) ?_ ?_
               rotate_left
               ·show Act.put _ (some 17) _ = _
                simp only [Act.put, q1, q2, q3, z06, z07]
                rfl
               refine z0d (i := 8) (N := some 21) (v := ?_) (a' := ?_) #[true, true, true, true, true, true, true, true, true, true, true, true, false, true, true, false, false, true, true, true, true, false, false, false] rfl rfl (z0e HT_.out (by kernel_rfl)) (fun _ _ _ h => h) (Or.inl ⟨by rfl, ?_⟩) ?_ ?_
               rotate_left
               ·intro w'
                go_simp
                with_reducible rfl
               rotate_left
               ·simp only [Act.put, q1, q2, q3, z06, z07]
                rfl
               refine z0d (i := 12) (N := some 25) (v := ?_) (a' := ?_) #[true, true, true, true, true, true, true, true, true, true, true, true, true, true, true, false, false, true, true, true, true, false, false, false] rfl rfl (z0e HT_.out (by kernel_rfl)) (fun _ _ _ h => h) (Or.inl ⟨by rfl, ?_⟩) ?_ ?_
               rotate_left
               ·intro w'
                go_simp
                with_reducible rfl
               rotate_left
               ·simp only [Act.put, q1, q2, q3, z06, z07]
                rfl
               exact z0b (by first | (simp only [putAll, Act.put, q1, q2, q3]; done) | (simp only [putAll, Act.put, q1, q2, q3]; rfl)) (hJ3_4_7_11 (v134) _ ⟨hHeld, (by (with_reducible repeat (first | apply Kd.z0p | apply Kd.z0r | apply Kd.z0q)); exact HO135.out), (by (with_reducible repeat (first | refine z0c ?_ _ | refine z09 ?_ | refine z0a ?_ _)); exact BK131.out), (by repeat (first | (with_reducible first | exact HB.out | apply z03 | apply z05 | apply z04 | refine z08 ?_ GE131.out) | exact HB.out))⟩)
              ·skip
               refine z13 Try.func41 (by kernel_rfl) rfl #[.slice A0_3 l0_3.length c0_3] (by rfl) rfl rfl (by (try simp only [List.map_toArray, List.map_cons, List.map_nil]); first | done | rfl | (simp only [List.length_drop, List.length_take]; rfl)) ?_
               with_reducible refine (z0z.calls k _ _ l0_3 t138 _ ?side1 ?side2 A8.out).mono ?_
               (case side1 => repeat (first | exact (Kd.z12 HR0_3.out HB.out) | (with_reducible refine Kd.z1b ?_ _) | (with_reducible refine Kd.z1d ?_ _) | (with_reducible refine Kd.z1c ?_)))
               (case side2 => exact HC0_3.out)
               rintro e w21 ⟨rfl, hb⟩
               refine ⟨_, rfl, ?_⟩
               have n0_ := z01.mk (Kd.z1p (by (with_reducible repeat (first | apply Kd.z0p | apply Kd.z0r | apply Kd.z0q)); exact HO135.out) hb)
               have n1_ := z01.mk (z0m (g := gb131) (o := .cells #[.int .i64 a0_0, .int .u64 a0_1, .slice A0_2 l0_2.length c0_2, .slice A0_3 l0_3.length c0_3, .slice A0_4 l0_4.length c0_4, .string a0_5, .int .i64 a0_6, .int .i64 a0_7, .string a0_8] 26 (0, 0)) (by (with_reducible repeat (first | refine z0c ?_ _ | refine z09 ?_ | refine z0a ?_ _)); exact BK131.out) hb)
               have n2_ := z01.mk (z0i (by repeat (first | (with_reducible first | exact HB.out | apply z03 | apply z05 | apply z04 | refine z08 ?_ GE131.out) | exact HB.out)) hb)
               clear HO135
               clear BK131
               clear HB
               have HO135 := n0_
               have BK131 := n1_
               have HB := n2_
               clear n0_ n1_ n2_
               (try clear hb)
               (try clear hb2)
               (try clear hk)
               (try clear hi)
               refine hK.out _ _ ⟨(z00 BK131.out 0).trans rfl, (z00 BK131.out 1).trans rfl, (z00 BK131.out 2).trans rfl, (z00 BK131.out 3).trans rfl, (z00 BK131.out 4).trans rfl, (z00 BK131.out 5).trans rfl, (z00 BK131.out 6).trans rfl, (z00 BK131.out 7).trans rfl, (z00 BK131.out 8).trans rfl⟩ (fun hHeld => ?_)
               clear hK K
               refine z0b (a' := ?_) ?_ ?_
               rotate_left
               ·show Act.put _ (some 28) _ = _
                simp only [Act.put, q1, q2, q3, z06, z07]
                rfl
               exact z0b (by first | (simp only [putAll, Act.put, q1, q2, q3]; done) | (simp only [putAll, Act.put, q1, q2, q3]; rfl)) (hJ3_7_11_15 (v134) _ ⟨hHeld, (by (with_reducible repeat (first | apply Kd.z0p | apply Kd.z0r | apply Kd.z0q)); exact HO135.out), (by (with_reducible repeat (first | refine z0c ?_ _ | refine z09 ?_ | refine z0a ?_ _)); exact BK131.out), (by repeat (first | (with_reducible first | exact HB.out | apply z03 | apply z05 | apply z04 | refine z08 ?_ GE131.out) | exact HB.out))⟩)
            ·skip
             rintro v134 w20 ⟨hS_, h0_, h1_, h2_⟩
             have n0_ : z01 (Kd.R (Kd.int .u8) 5 w20 w.heap.size (fun _ => True) v134 y133) := ⟨h0_⟩
             have n1_ : z01 (w20.heap[gb131]? = some (.cells #[.int .i64 a0_0, .int .u64 a0_1, .slice A0_2 l0_2.length c0_2, .slice A0_3 l0_3.length c0_3, .slice A0_4 l0_4.length c0_4, .string a0_5, .int .i64 a0_6, .int .i64 a0_7, .string a0_8] 26 (0, 0))) := ⟨h1_⟩
             have n2_ : z01 (Below w.heap.size w w20) := ⟨h2_⟩
             clear BK131
             clear HB
             clear h0_ h1_ h2_
             have HO135 := n0_
             have BK131 := n1_
             have HB := n2_
             clear n0_ n1_ n2_
             have hHeld : w20.cell? ⟨gb131, 0, none⟩ = some (.int .i64 a0_0) ∧ w20.cell? ⟨gb131, 1, none⟩ = some (.int .u64 a0_1) ∧ w20.cell? ⟨gb131, 2, none⟩ = some (.slice A0_2 l0_2.length c0_2) ∧ w20.cell? ⟨gb131, 3, none⟩ = some (.slice A0_3 l0_3.length c0_3) ∧ w20.cell? ⟨gb131, 4, none⟩ = some (.slice A0_4 l0_4.length c0_4) ∧ w20.cell? ⟨gb131, 5, none⟩ = some (.string a0_5) ∧ w20.cell? ⟨gb131, 6, none⟩ = some (.int .i64 a0_6) ∧ w20.cell? ⟨gb131, 7, none⟩ = some (.int .i64 a0_7) ∧ w20.cell? ⟨gb131, 8, none⟩ = some (.string a0_8) := hS_
             refine z0b (a' := ?_) ?_ ?_
             rotate_left
             ·simp only [putAll, Act.put, q1, q2, q3]
              rfl
             refine one_ (i := 11) (N := some 24) #[true, true, true, true, true, true, true, true, true, true, true, true, false, true, true, false, false, true, true, true, true, false, false, false] rfl rfl (z19 HT_.out (by kernel_rfl)) (by decide) (fun K hK => ?_)
             refine z13 Try.func41 (by kernel_rfl) rfl #[.slice A0_2 l0_2.length c0_2] (by rfl) rfl rfl (by (try simp only [List.map_toArray, List.map_cons, List.map_nil]); first | done | rfl | (simp only [List.length_drop, List.length_take]; rfl)) ?_
             with_reducible refine (z0z.calls k _ _ l0_2 t137 _ ?side1 ?side2 A6.out).mono ?_
             (case side1 => repeat (first | exact (Kd.z12 HR0_2.out HB.out) | (with_reducible refine Kd.z1b ?_ _) | (with_reducible refine Kd.z1d ?_ _) | (with_reducible refine Kd.z1c ?_)))
             (case side2 => exact HC0_2.out)
             rintro e w21 ⟨rfl, hb⟩
             refine ⟨_, rfl, ?_⟩
             have n0_ := z01.mk (Kd.z1p (by (with_reducible repeat (first | apply Kd.z0p | apply Kd.z0r | apply Kd.z0q)); exact HO135.out) hb)
             have n1_ := z01.mk (z0m (g := gb131) (o := .cells #[.int .i64 a0_0, .int .u64 a0_1, .slice A0_2 l0_2.length c0_2, .slice A0_3 l0_3.length c0_3, .slice A0_4 l0_4.length c0_4, .string a0_5, .int .i64 a0_6, .int .i64 a0_7, .string a0_8] 26 (0, 0)) (by (with_reducible repeat (first | refine z0c ?_ _ | refine z09 ?_ | refine z0a ?_ _)); exact BK131.out) hb)
             have n2_ := z01.mk (z0i (by repeat (first | (with_reducible first | exact HB.out | apply z03 | apply z05 | apply z04 | refine z08 ?_ GE131.out) | exact HB.out)) hb)
             clear HO135
             clear BK131
             clear HB
             have HO135 := n0_
             have BK131 := n1_
             have HB := n2_
             clear n0_ n1_ n2_
             (try clear hb)
             (try clear hb2)
             (try clear hk)
             (try clear hi)
             refine hK.out _ _ ⟨(z00 BK131.out 0).trans rfl, (z00 BK131.out 1).trans rfl, (z00 BK131.out 2).trans rfl, (z00 BK131.out 3).trans rfl, (z00 BK131.out 4).trans rfl, (z00 BK131.out 5).trans rfl, (z00 BK131.out 6).trans rfl, (z00 BK131.out 7).trans rfl, (z00 BK131.out 8).trans rfl⟩ (fun hHeld => ?_)
             clear hK K
             refine z0b (a' := ?_) ?_ ?_
             rotate_left
             ·show Act.put _ (some 24) _ = _
              simp only [Act.put, q1, q2, q3, z06, z07]
              rfl
             refine z0d (i := 12) (N := some 25) (v := ?_) (a' := ?_) #[true, true, true, true, true, true, true, true, true, true, true, true, true, true, true, false, false, true, true, true, true, false, false, false] rfl rfl (z0e HT_.out (by kernel_rfl)) (fun _ _ _ h => h) (Or.inl ⟨by rfl, ?_⟩) ?_ ?_
             rotate_left
             ·intro w'
              go_simp
              with_reducible rfl
             rotate_left
             ·simp only [Act.put, q1, q2, q3, z06, z07]
              rfl
             exact z0b (by first | (simp only [putAll, Act.put, q1, q2, q3]; done) | (simp only [putAll, Act.put, q1, q2, q3]; rfl)) (hJ3_4_7_11 (v134) _ ⟨hHeld, (by (with_reducible repeat (first | apply Kd.z0p | apply Kd.z0r | apply Kd.z0q)); exact HO135.out), (by (with_reducible repeat (first | refine z0c ?_ _ | refine z09 ?_ | refine z0a ?_ _)); exact BK131.out), (by repeat (first | (with_reducible first | exact HB.out | apply z03 | apply z05 | apply z04 | refine z08 ?_ GE131.out) | exact HB.out))⟩)
           ·skip
            rintro _ w20 ⟨hS_, h0_, h1_⟩
            have n0_ : z01 (w20.heap[gb131]? = some (.cells #[.int .i64 a0_0, .int .u64 a0_1, .slice A0_2 l0_2.length c0_2, .slice A0_3 l0_3.length c0_3, .slice A0_4 l0_4.length c0_4, .string a0_5, .int .i64 a0_6, .int .i64 a0_7, .string a0_8] 26 (0, 0))) := ⟨h0_⟩
            have n1_ : z01 (Below w.heap.size w w20) := ⟨h1_⟩
            clear BK131
            clear HB
            clear h0_ h1_
            have BK131 := n0_
            have HB := n1_
            clear n0_ n1_
            have hHeld : w20.cell? ⟨gb131, 0, none⟩ = some (.int .i64 a0_0) ∧ w20.cell? ⟨gb131, 1, none⟩ = some (.int .u64 a0_1) ∧ w20.cell? ⟨gb131, 2, none⟩ = some (.slice A0_2 l0_2.length c0_2) ∧ w20.cell? ⟨gb131, 3, none⟩ = some (.slice A0_3 l0_3.length c0_3) ∧ w20.cell? ⟨gb131, 4, none⟩ = some (.slice A0_4 l0_4.length c0_4) ∧ w20.cell? ⟨gb131, 5, none⟩ = some (.string a0_5) ∧ w20.cell? ⟨gb131, 6, none⟩ = some (.int .i64 a0_6) ∧ w20.cell? ⟨gb131, 7, none⟩ = some (.int .i64 a0_7) ∧ w20.cell? ⟨gb131, 8, none⟩ = some (.string a0_8) := hS_
            refine z0b (a' := ?_) ?_ ?_
            rotate_left
            ·simp only [putAll, Act.put, q1, q2, q3]
             rfl
            refine one_ (i := 3) (N := some 16) #[true, true, true, true, false, true, true, true, false, true, true, true, false, true, true, true, false, true, true, true, true, true, false, false] rfl rfl (z19 HT_.out (by kernel_rfl)) (by decide) (fun K hK => ?_)
            refine Kd.z2l (Kd.int .u8) _ 5 ?hg (N := 16) ?hd (xs := ([(a0_0) % 256] : List Int)) (inner := [.int .u8 ((a0_0) % 256)]) (ok := fun _ => True) (okp := fun _ => True) ?hr ?hp (fun _ hk => hk) trivial (Below.refl _ _) (Nat.le_refl _) (by simp) ?_; (case hd => rfl); (case hg => rfl); (case hr => first | (go_simp; done) | (go_simp; rfl)); (case hp => exact (Reps.one (show Kd.M (Kd.int .u8) _ _ _ ((a0_0) % 256) [.int .u8 ((a0_0) % 256)] from rfl) (Reps.none _ _)))
            intro v134 w21 ho22 hb hg_ hnew_
            clear hg_ hnew_
            (first | rw [← Ny133.out] at ho22 | (simp only [Int.reduceToNat] at ho22; rw [← Ny133.out] at ho22))
            have n0_ := z01.mk (Kd.z20 ho22 (z18 (by repeat (first | (with_reducible first | exact HB.out | apply z03 | apply z05 | apply z04 | refine z08 ?_ GE131.out) | exact HB.out))))
            have n1_ := z01.mk (z0m (g := gb131) (o := .cells #[.int .i64 a0_0, .int .u64 a0_1, .slice A0_2 l0_2.length c0_2, .slice A0_3 l0_3.length c0_3, .slice A0_4 l0_4.length c0_4, .string a0_5, .int .i64 a0_6, .int .i64 a0_7, .string a0_8] 26 (0, 0)) (by (with_reducible repeat (first | refine z0c ?_ _ | refine z09 ?_ | refine z0a ?_ _)); exact BK131.out) hb)
            have n2_ := z01.mk (z0i (by repeat (first | (with_reducible first | exact HB.out | apply z03 | apply z05 | apply z04 | refine z08 ?_ GE131.out) | exact HB.out)) hb)
            clear BK131
            clear HB
            have HO135 := n0_
            have BK131 := n1_
            have HB := n2_
            clear n0_ n1_ n2_
            clear hb ho22
            refine hK.out _ _ ⟨(z00 BK131.out 0).trans rfl, (z00 BK131.out 1).trans rfl, (z00 BK131.out 2).trans rfl, (z00 BK131.out 3).trans rfl, (z00 BK131.out 4).trans rfl, (z00 BK131.out 5).trans rfl, (z00 BK131.out 6).trans rfl, (z00 BK131.out 7).trans rfl, (z00 BK131.out 8).trans rfl⟩ (fun hHeld => ?_)
            clear hK K
            refine z0b (a' := ?_) ?_ ?_
            rotate_left
            ·show Act.put _ (some 16) _ = _
             simp only [Act.put, q1, q2, q3, z06, z07]
             rfl
            exact z0b (by first | (simp only [putAll, Act.put, q1, q2, q3]; done) | (simp only [putAll, Act.put, q1, q2, q3]; rfl)) (hJ3_7_11_15_21 (v134) _ ⟨hHeld, (by (with_reducible repeat (first | apply Kd.z0p | apply Kd.z0r | apply Kd.z0q)); exact HO135.out), (by (with_reducible repeat (first | refine z0c ?_ _ | refine z09 ?_ | refine z0a ?_ _)); exact BK131.out), (by repeat (first | (with_reducible first | exact HB.out | apply z03 | apply z05 | apply z04 | refine z08 ?_ GE131.out) | exact HB.out))⟩)
          ·skip
           rintro v134 w21 ⟨hS_, h0_, h1_, h2_⟩
           have n0_ : z01 (Kd.R (Kd.int .u8) 5 w21 w.heap.size (fun _ => True) v134 y133) := ⟨h0_⟩
           have n1_ : z01 (w21.heap[gb131]? = some (.cells #[.int .i64 a0_0, .int .u64 a0_1, .slice A0_2 l0_2.length c0_2, .slice A0_3 l0_3.length c0_3, .slice A0_4 l0_4.length c0_4, .string a0_5, .int .i64 a0_6, .int .i64 a0_7, .string a0_8] 26 (0, 0))) := ⟨h1_⟩
           have n2_ : z01 (Below w.heap.size w w21) := ⟨h2_⟩
           clear BK131
           clear HB
           clear h0_ h1_ h2_
           have HO135 := n0_
           have BK131 := n1_
           have HB := n2_
           clear n0_ n1_ n2_
           have hHeld : w21.cell? ⟨gb131, 0, none⟩ = some (.int .i64 a0_0) ∧ w21.cell? ⟨gb131, 1, none⟩ = some (.int .u64 a0_1) ∧ w21.cell? ⟨gb131, 2, none⟩ = some (.slice A0_2 l0_2.length c0_2) ∧ w21.cell? ⟨gb131, 3, none⟩ = some (.slice A0_3 l0_3.length c0_3) ∧ w21.cell? ⟨gb131, 4, none⟩ = some (.slice A0_4 l0_4.length c0_4) ∧ w21.cell? ⟨gb131, 5, none⟩ = some (.string a0_5) ∧ w21.cell? ⟨gb131, 6, none⟩ = some (.int .i64 a0_6) ∧ w21.cell? ⟨gb131, 7, none⟩ = some (.int .i64 a0_7) ∧ w21.cell? ⟨gb131, 8, none⟩ = some (.string a0_8) := hS_
           refine z0b (a' := ?_) ?_ ?_
           rotate_left
           ·simp only [putAll, Act.put, q1, q2, q3]
            rfl
           refine two_ (i := 4) (j := 21) (Ni := some 17) (Nj := some 34) #[true, true, true, true, true, true, true, true, false, true, true, true, false, true, true, true, false, true, true, true, true, false, false, false] #[true, true, true, true, false, true, true, true, false, true, true, true, false, true, true, true, false, true, true, true, true, true, false, false] rfl rfl rfl rfl (two_of HT_.out (by kernel_rfl)) (by decide) (by decide) (fun K hK => ?_) (fun K hK => ?_)
           ·skip
            have hcv22 := z2e (P := Try.prog) Try.underlying46 Try.underlying5 Try.underlying9 (Kd.z2f HO135.out)
            refine value_ (w1 := ?_) (v := ?_) (by rfl) rfl ?_ ?_
            rotate_left 2
            ·go_simp
             constructor
             ·rfl
             ·rfl
            clear hcv22
            refine hK.out _ _ ⟨(z00 BK131.out 0).trans rfl, (z00 BK131.out 1).trans rfl, (z00 BK131.out 2).trans rfl, (z00 BK131.out 3).trans rfl, (z00 BK131.out 4).trans rfl, (z00 BK131.out 5).trans rfl, (z00 BK131.out 6).trans rfl, (z00 BK131.out 7).trans rfl, (z00 BK131.out 8).trans rfl⟩ (fun hHeld => ?_)
            clear hK K
            refine z0b (a' := ?_) ?_ ?_
            rotate_left
            ·show Act.put _ (some 17) _ = _
             simp only [Act.put, q1, q2, q3, z06, z07]
             rfl
            refine z0d (i := 8) (N := some 21) (v := ?_) (a' := ?_) #[true, true, true, true, true, true, true, true, true, true, true, true, false, true, true, true, false, true, true, true, true, false, false, false] rfl rfl (z0e HT_.out (by kernel_rfl)) (fun _ _ _ h => h) (Or.inl ⟨by rfl, ?_⟩) ?_ ?_
            rotate_left
            ·intro w'
             go_simp
             with_reducible rfl
            rotate_left
            ·simp only [Act.put, q1, q2, q3, z06, z07]
             rfl
            refine z0d (i := 12) (N := some 25) (v := ?_) (a' := ?_) #[true, true, true, true, true, true, true, true, true, true, true, true, true, true, true, true, false, true, true, true, true, false, false, false] rfl rfl (z0e HT_.out (by kernel_rfl)) (fun _ _ _ h => h) (Or.inl ⟨by rfl, ?_⟩) ?_ ?_
            rotate_left
            ·intro w'
             go_simp
             with_reducible rfl
            rotate_left
            ·simp only [Act.put, q1, q2, q3, z06, z07]
             rfl
            refine z0d (i := 16) (N := some 29) (v := ?_) (a' := ?_) #[true, true, true, true, true, true, true, true, true, true, true, true, true, true, true, true, true, true, true, true, true, false, false, false] rfl rfl (z0e HT_.out (by kernel_rfl)) (fun _ _ _ h => h) (Or.inl ⟨by rfl, ?_⟩) ?_ ?_
            rotate_left
            ·intro w'
             go_simp
             with_reducible rfl
            rotate_left
            ·simp only [Act.put, q1, q2, q3, z06, z07]
             rfl
            exact z0b (by first | (simp only [putAll, Act.put, q1, q2, q3]; done) | (simp only [putAll, Act.put, q1, q2, q3]; rfl)) (hJ3_4_7_11_15 (v134) _ ⟨hHeld, (by (with_reducible repeat (first | apply Kd.z0p | apply Kd.z0r | apply Kd.z0q)); exact HO135.out), (by (with_reducible repeat (first | refine z0c ?_ _ | refine z09 ?_ | refine z0a ?_ _)); exact BK131.out), (by repeat (first | (with_reducible first | exact HB.out | apply z03 | apply z05 | apply z04 | refine z08 ?_ GE131.out) | exact HB.out))⟩)
           ·skip
            refine z13 Try.func40 (by kernel_rfl) rfl #[.int .u64 (IntKind.u64.wrap ((l0_4.length : Int)))] (by rfl) rfl rfl (by (try simp only [List.map_toArray, List.map_cons, List.map_nil]); first | done | rfl | (simp only [List.length_drop, List.length_take]; rfl)) ?_
            with_reducible refine (z0k.calls (IntKind.u64.wrap ((l0_4.length : Int))) t139 _ A10.out).mono ?_
            rintro e w22 ⟨rfl, hb⟩
            refine ⟨_, rfl, ?_⟩
            have n0_ := z01.mk (Kd.z1p (by (with_reducible repeat (first | apply Kd.z0p | apply Kd.z0r | apply Kd.z0q)); exact HO135.out) hb)
            have n1_ := z01.mk (z0m (g := gb131) (o := .cells #[.int .i64 a0_0, .int .u64 a0_1, .slice A0_2 l0_2.length c0_2, .slice A0_3 l0_3.length c0_3, .slice A0_4 l0_4.length c0_4, .string a0_5, .int .i64 a0_6, .int .i64 a0_7, .string a0_8] 26 (0, 0)) (by (with_reducible repeat (first | refine z0c ?_ _ | refine z09 ?_ | refine z0a ?_ _)); exact BK131.out) hb)
            have n2_ := z01.mk (z0i (by repeat (first | (with_reducible first | exact HB.out | apply z03 | apply z05 | apply z04 | refine z08 ?_ GE131.out) | exact HB.out)) hb)
            clear HO135
            clear BK131
            clear HB
            have HO135 := n0_
            have BK131 := n1_
            have HB := n2_
            clear n0_ n1_ n2_
            (try clear hb)
            (try clear hb2)
            (try clear hk)
            (try clear hi)
            refine hK.out _ _ ⟨(z00 BK131.out 0).trans rfl, (z00 BK131.out 1).trans rfl, (z00 BK131.out 2).trans rfl, (z00 BK131.out 3).trans rfl, (z00 BK131.out 4).trans rfl, (z00 BK131.out 5).trans rfl, (z00 BK131.out 6).trans rfl, (z00 BK131.out 7).trans rfl, (z00 BK131.out 8).trans rfl⟩ (fun hHeld => ?_)
            clear hK K
            refine z0b (a' := ?_) ?_ ?_
            rotate_left
            ·show Act.put _ (some 34) _ = _
             simp only [Act.put, q1, q2, q3, z06, z07]
             rfl
            exact z0b (by first | (simp only [putAll, Act.put, q1, q2, q3]; done) | (simp only [putAll, Act.put, q1, q2, q3]; rfl)) (hJ3_7_11_15_21 (v134) _ ⟨hHeld, (by (with_reducible repeat (first | apply Kd.z0p | apply Kd.z0r | apply Kd.z0q)); exact HO135.out), (by (with_reducible repeat (first | refine z0c ?_ _ | refine z09 ?_ | refine z0a ?_ _)); exact BK131.out), (by repeat (first | (with_reducible first | exact HB.out | apply z03 | apply z05 | apply z04 | refine z08 ?_ GE131.out) | exact HB.out))⟩)
         ·skip
          rintro v134 w21 ⟨hS_, h0_, h1_, h2_⟩
          have n0_ : z01 (Kd.R (Kd.int .u8) 5 w21 w.heap.size (fun _ => True) v134 y133) := ⟨h0_⟩
          have n1_ : z01 (w21.heap[gb131]? = some (.cells #[.int .i64 a0_0, .int .u64 a0_1, .slice A0_2 l0_2.length c0_2, .slice A0_3 l0_3.length c0_3, .slice A0_4 l0_4.length c0_4, .string a0_5, .int .i64 a0_6, .int .i64 a0_7, .string a0_8] 26 (0, 0))) := ⟨h1_⟩
          have n2_ : z01 (Below w.heap.size w w21) := ⟨h2_⟩
          clear BK131
          clear HB
          clear h0_ h1_ h2_
          have HO135 := n0_
          have BK131 := n1_
          have HB := n2_
          clear n0_ n1_ n2_
          have hHeld : w21.cell? ⟨gb131, 0, none⟩ = some (.int .i64 a0_0) ∧ w21.cell? ⟨gb131, 1, none⟩ = some (.int .u64 a0_1) ∧ w21.cell? ⟨gb131, 2, none⟩ = some (.slice A0_2 l0_2.length c0_2) ∧ w21.cell? ⟨gb131, 3, none⟩ = some (.slice A0_3 l0_3.length c0_3) ∧ w21.cell? ⟨gb131, 4, none⟩ = some (.slice A0_4 l0_4.length c0_4) ∧ w21.cell? ⟨gb131, 5, none⟩ = some (.string a0_5) ∧ w21.cell? ⟨gb131, 6, none⟩ = some (.int .i64 a0_6) ∧ w21.cell? ⟨gb131, 7, none⟩ = some (.int .i64 a0_7) ∧ w21.cell? ⟨gb131, 8, none⟩ = some (.string a0_8) := hS_
          refine z0b (a' := ?_) ?_ ?_
          rotate_left
          ·simp only [putAll, Act.put, q1, q2, q3]
           rfl
          refine one_ (i := 15) (N := some 28) #[true, true, true, true, true, true, true, true, true, true, true, true, true, true, true, true, false, true, true, true, true, false, false, false] rfl rfl (z19 HT_.out (by kernel_rfl)) (by decide) (fun K hK => ?_)
          refine z13 Try.func41 (by kernel_rfl) rfl #[.slice A0_3 l0_3.length c0_3] (by rfl) rfl rfl (by (try simp only [List.map_toArray, List.map_cons, List.map_nil]); first | done | rfl | (simp only [List.length_drop, List.length_take]; rfl)) ?_
          with_reducible refine (z0z.calls k _ _ l0_3 t138 _ ?side1 ?side2 A8.out).mono ?_
          (case side1 => repeat (first | exact (Kd.z12 HR0_3.out HB.out) | (with_reducible refine Kd.z1b ?_ _) | (with_reducible refine Kd.z1d ?_ _) | (with_reducible refine Kd.z1c ?_)))
          (case side2 => exact HC0_3.out)
          rintro e w22 ⟨rfl, hb⟩
          refine ⟨_, rfl, ?_⟩
          have n0_ := z01.mk (Kd.z1p (by (with_reducible repeat (first | apply Kd.z0p | apply Kd.z0r | apply Kd.z0q)); exact HO135.out) hb)
          have n1_ := z01.mk (z0m (g := gb131) (o := .cells #[.int .i64 a0_0, .int .u64 a0_1, .slice A0_2 l0_2.length c0_2, .slice A0_3 l0_3.length c0_3, .slice A0_4 l0_4.length c0_4, .string a0_5, .int .i64 a0_6, .int .i64 a0_7, .string a0_8] 26 (0, 0)) (by (with_reducible repeat (first | refine z0c ?_ _ | refine z09 ?_ | refine z0a ?_ _)); exact BK131.out) hb)
          have n2_ := z01.mk (z0i (by repeat (first | (with_reducible first | exact HB.out | apply z03 | apply z05 | apply z04 | refine z08 ?_ GE131.out) | exact HB.out)) hb)
          clear HO135
          clear BK131
          clear HB
          have HO135 := n0_
          have BK131 := n1_
          have HB := n2_
          clear n0_ n1_ n2_
          (try clear hb)
          (try clear hb2)
          (try clear hk)
          (try clear hi)
          refine hK.out _ _ ⟨(z00 BK131.out 0).trans rfl, (z00 BK131.out 1).trans rfl, (z00 BK131.out 2).trans rfl, (z00 BK131.out 3).trans rfl, (z00 BK131.out 4).trans rfl, (z00 BK131.out 5).trans rfl, (z00 BK131.out 6).trans rfl, (z00 BK131.out 7).trans rfl, (z00 BK131.out 8).trans rfl⟩ (fun hHeld => ?_)
          clear hK K
          refine z0b (a' := ?_) ?_ ?_
          rotate_left
          ·show Act.put _ (some 28) _ = _
           simp only [Act.put, q1, q2, q3, z06, z07]
           rfl
          refine z0d (i := 16) (N := some 29) (v := ?_) (a' := ?_) #[true, true, true, true, true, true, true, true, true, true, true, true, true, true, true, true, true, true, true, true, true, false, false, false] rfl rfl (z0e HT_.out (by kernel_rfl)) (fun _ _ _ h => h) (Or.inl ⟨by rfl, ?_⟩) ?_ ?_
          rotate_left
          ·intro w'
           go_simp
           with_reducible rfl
          rotate_left
          ·simp only [Act.put, q1, q2, q3, z06, z07]
           rfl
          exact z0b (by first | (simp only [putAll, Act.put, q1, q2, q3]; done) | (simp only [putAll, Act.put, q1, q2, q3]; rfl)) (hJ3_4_7_11_15 (v134) _ ⟨hHeld, (by (with_reducible repeat (first | apply Kd.z0p | apply Kd.z0r | apply Kd.z0q)); exact HO135.out), (by (with_reducible repeat (first | refine z0c ?_ _ | refine z09 ?_ | refine z0a ?_ _)); exact BK131.out), (by repeat (first | (with_reducible first | exact HB.out | apply z03 | apply z05 | apply z04 | refine z08 ?_ GE131.out) | exact HB.out))⟩)
        ·skip
         rintro v134 w22 ⟨hS_, h0_, h1_, h2_⟩
         have n0_ : z01 (Kd.R (Kd.int .u8) 5 w22 w.heap.size (fun _ => True) v134 y133) := ⟨h0_⟩
         have n1_ : z01 (w22.heap[gb131]? = some (.cells #[.int .i64 a0_0, .int .u64 a0_1, .slice A0_2 l0_2.length c0_2, .slice A0_3 l0_3.length c0_3, .slice A0_4 l0_4.length c0_4, .string a0_5, .int .i64 a0_6, .int .i64 a0_7, .string a0_8] 26 (0, 0))) := ⟨h1_⟩
         have n2_ : z01 (Below w.heap.size w w22) := ⟨h2_⟩
         clear BK131
         clear HB
         clear h0_ h1_ h2_
         have HO135 := n0_
         have BK131 := n1_
         have HB := n2_
         clear n0_ n1_ n2_
         have hHeld : w22.cell? ⟨gb131, 0, none⟩ = some (.int .i64 a0_0) ∧ w22.cell? ⟨gb131, 1, none⟩ = some (.int .u64 a0_1) ∧ w22.cell? ⟨gb131, 2, none⟩ = some (.slice A0_2 l0_2.length c0_2) ∧ w22.cell? ⟨gb131, 3, none⟩ = some (.slice A0_3 l0_3.length c0_3) ∧ w22.cell? ⟨gb131, 4, none⟩ = some (.slice A0_4 l0_4.length c0_4) ∧ w22.cell? ⟨gb131, 5, none⟩ = some (.string a0_5) ∧ w22.cell? ⟨gb131, 6, none⟩ = some (.int .i64 a0_6) ∧ w22.cell? ⟨gb131, 7, none⟩ = some (.int .i64 a0_7) ∧ w22.cell? ⟨gb131, 8, none⟩ = some (.string a0_8) := hS_
         refine z0b (a' := ?_) ?_ ?_
         rotate_left
         ·simp only [putAll, Act.put, q1, q2, q3]
          rfl
         refine one_ (i := 4) (N := some 17) #[true, true, true, true, true, true, true, true, false, true, true, true, false, true, true, true, false, true, true, true, true, true, false, false] rfl rfl (z19 HT_.out (by kernel_rfl)) (by decide) (fun K hK => ?_)
         have hcv23 := z2e (P := Try.prog) Try.underlying46 Try.underlying5 Try.underlying9 (Kd.z2f HO135.out)
         refine value_ (w1 := ?_) (v := ?_) (by rfl) rfl ?_ ?_
         rotate_left 2
         ·go_simp
          constructor
          ·rfl
          ·rfl
         clear hcv23
         refine hK.out _ _ ⟨(z00 BK131.out 0).trans rfl, (z00 BK131.out 1).trans rfl, (z00 BK131.out 2).trans rfl, (z00 BK131.out 3).trans rfl, (z00 BK131.out 4).trans rfl, (z00 BK131.out 5).trans rfl, (z00 BK131.out 6).trans rfl, (z00 BK131.out 7).trans rfl, (z00 BK131.out 8).trans rfl⟩ (fun hHeld => ?_)
         clear hK K
         refine z0b (a' := ?_) ?_ ?_
         rotate_left
         ·show Act.put _ (some 17) _ = _
          simp only [Act.put, q1, q2, q3, z06, z07]
          rfl
         refine z0d (i := 8) (N := some 21) (v := ?_) (a' := ?_) #[true, true, true, true, true, true, true, true, true, true, true, true, false, true, true, true, false, true, true, true, true, true, false, false] rfl rfl (z0e HT_.out (by kernel_rfl)) (fun _ _ _ h => h) (Or.inl ⟨by rfl, ?_⟩) ?_ ?_
         rotate_left
         ·intro w'
          go_simp
          with_reducible rfl
         rotate_left
         ·simp only [Act.put, q1, q2, q3, z06, z07]
          rfl
         refine z0d (i := 12) (N := some 25) (v := ?_) (a' := ?_) #[true, true, true, true, true, true, true, true, true, true, true, true, true, true, true, true, false, true, true, true, true, true, false, false] rfl rfl (z0e HT_.out (by kernel_rfl)) (fun _ _ _ h => h) (Or.inl ⟨by rfl, ?_⟩) ?_ ?_
         rotate_left
         ·intro w'
          go_simp
          with_reducible rfl
         rotate_left
         ·simp only [Act.put, q1, q2, q3, z06, z07]
          rfl
         refine z0d (i := 16) (N := some 29) (v := ?_) (a' := ?_) #[true, true, true, true, true, true, true, true, true, true, true, true, true, true, true, true, true, true, true, true, true, true, false, false] rfl rfl (z0e HT_.out (by kernel_rfl)) (fun _ _ _ h => h) (Or.inl ⟨by rfl, ?_⟩) ?_ ?_
         rotate_left
         ·intro w'
          go_simp
          with_reducible rfl
         rotate_left
         ·simp only [Act.put, q1, q2, q3, z06, z07]
          rfl
         exact z0b (by first | (simp only [putAll, Act.put, q1, q2, q3]; done) | (simp only [putAll, Act.put, q1, q2, q3]; rfl)) (hJ3_4_7_11_15_21 (v134) _ ⟨hHeld, (by (with_reducible repeat (first | apply Kd.z0p | apply Kd.z0r | apply Kd.z0q)); exact HO135.out), (by (with_reducible repeat (first | refine z0c ?_ _ | refine z09 ?_ | refine z0a ?_ _)); exact BK131.out), (by repeat (first | (with_reducible first | exact HB.out | apply z03 | apply z05 | apply z04 | refine z08 ?_ GE131.out) | exact HB.out))⟩)
       ·skip
        rintro v134 w22 ⟨hS_, h0_, h1_, h2_⟩
        have n0_ : z01 (Kd.R (Kd.int .u8) 5 w22 w.heap.size (fun _ => True) v134 y133) := ⟨h0_⟩
        have n1_ : z01 (w22.heap[gb131]? = some (.cells #[.int .i64 a0_0, .int .u64 a0_1, .slice A0_2 l0_2.length c0_2, .slice A0_3 l0_3.length c0_3, .slice A0_4 l0_4.length c0_4, .string a0_5, .int .i64 a0_6, .int .i64 a0_7, .string a0_8] 26 (0, 0))) := ⟨h1_⟩
        have n2_ : z01 (Below w.heap.size w w22) := ⟨h2_⟩
        clear BK131
        clear HB
        clear h0_ h1_ h2_
        have HO135 := n0_
        have BK131 := n1_
        have HB := n2_
        clear n0_ n1_ n2_
        have hHeld : w22.cell? ⟨gb131, 0, none⟩ = some (.int .i64 a0_0) ∧ w22.cell? ⟨gb131, 1, none⟩ = some (.int .u64 a0_1) ∧ w22.cell? ⟨gb131, 2, none⟩ = some (.slice A0_2 l0_2.length c0_2) ∧ w22.cell? ⟨gb131, 3, none⟩ = some (.slice A0_3 l0_3.length c0_3) ∧ w22.cell? ⟨gb131, 4, none⟩ = some (.slice A0_4 l0_4.length c0_4) ∧ w22.cell? ⟨gb131, 5, none⟩ = some (.string a0_5) ∧ w22.cell? ⟨gb131, 6, none⟩ = some (.int .i64 a0_6) ∧ w22.cell? ⟨gb131, 7, none⟩ = some (.int .i64 a0_7) ∧ w22.cell? ⟨gb131, 8, none⟩ = some (.string a0_8) := hS_
        refine z0b (a' := ?_) ?_ ?_
        rotate_left
        ·simp only [putAll, Act.put, q1, q2, q3]
         rfl
        refine one_ (i := 21) (N := some 34) #[true, true, true, true, true, true, true, true, true, true, true, true, true, true, true, true, true, true, true, true, true, true, false, false] rfl rfl (z19 HT_.out (by kernel_rfl)) (by decide) (fun K hK => ?_)
        refine z13 Try.func40 (by kernel_rfl) rfl #[.int .u64 (IntKind.u64.wrap ((l0_4.length : Int)))] (by rfl) rfl rfl (by (try simp only [List.map_toArray, List.map_cons, List.map_nil]); first | done | rfl | (simp only [List.length_drop, List.length_take]; rfl)) ?_
        with_reducible refine (z0k.calls (IntKind.u64.wrap ((l0_4.length : Int))) t139 _ A10.out).mono ?_
        rintro e w23 ⟨rfl, hb⟩
        refine ⟨_, rfl, ?_⟩
        have n0_ := z01.mk (Kd.z1p (by (with_reducible repeat (first | apply Kd.z0p | apply Kd.z0r | apply Kd.z0q)); exact HO135.out) hb)
        have n1_ := z01.mk (z0m (g := gb131) (o := .cells #[.int .i64 a0_0, .int .u64 a0_1, .slice A0_2 l0_2.length c0_2, .slice A0_3 l0_3.length c0_3, .slice A0_4 l0_4.length c0_4, .string a0_5, .int .i64 a0_6, .int .i64 a0_7, .string a0_8] 26 (0, 0)) (by (with_reducible repeat (first | refine z0c ?_ _ | refine z09 ?_ | refine z0a ?_ _)); exact BK131.out) hb)
        have n2_ := z01.mk (z0i (by repeat (first | (with_reducible first | exact HB.out | apply z03 | apply z05 | apply z04 | refine z08 ?_ GE131.out) | exact HB.out)) hb)
        clear HO135
        clear BK131
        clear HB
        have HO135 := n0_
        have BK131 := n1_
        have HB := n2_
        clear n0_ n1_ n2_
        (try clear hb)
        (try clear hb2)
        (try clear hk)
        (try clear hi)
        refine hK.out _ _ ⟨(z00 BK131.out 0).trans rfl, (z00 BK131.out 1).trans rfl, (z00 BK131.out 2).trans rfl, (z00 BK131.out 3).trans rfl, (z00 BK131.out 4).trans rfl, (z00 BK131.out 5).trans rfl, (z00 BK131.out 6).trans rfl, (z00 BK131.out 7).trans rfl, (z00 BK131.out 8).trans rfl⟩ (fun hHeld => ?_)
        clear hK K
        refine z0b (a' := ?_) ?_ ?_
        rotate_left
        ·show Act.put _ (some 34) _ = _
         simp only [Act.put, q1, q2, q3, z06, z07]
         rfl
        exact z0b (by first | (simp only [putAll, Act.put, q1, q2, q3]; done) | (simp only [putAll, Act.put, q1, q2, q3]; rfl)) (hJ3_4_7_11_15_21 (v134) _ ⟨hHeld, (by (with_reducible repeat (first | apply Kd.z0p | apply Kd.z0r | apply Kd.z0q)); exact HO135.out), (by (with_reducible repeat (first | refine z0c ?_ _ | refine z09 ?_ | refine z0a ?_ _)); exact BK131.out), (by repeat (first | (with_reducible first | exact HB.out | apply z03 | apply z05 | apply z04 | refine z08 ?_ GE131.out) | exact HB.out))⟩)
      rintro v134 w23 ⟨hS_, h0_, h1_, h2_⟩
      have n0_ : z01 (Kd.R (Kd.int .u8) 5 w23 w.heap.size (fun _ => True) v134 y133) := ⟨h0_⟩
      have n1_ : z01 (w23.heap[gb131]? = some (.cells #[.int .i64 a0_0, .int .u64 a0_1, .slice A0_2 l0_2.length c0_2, .slice A0_3 l0_3.length c0_3, .slice A0_4 l0_4.length c0_4, .string a0_5, .int .i64 a0_6, .int .i64 a0_7, .string a0_8] 26 (0, 0))) := ⟨h1_⟩
      have n2_ : z01 (Below w.heap.size w w23) := ⟨h2_⟩
      clear BK131
      clear HB
      clear h0_ h1_ h2_
      have HO135 := n0_
      have BK131 := n1_
      have HB := n2_
      clear n0_ n1_ n2_
      have hHeld : w23.cell? ⟨gb131, 0, none⟩ = some (.int .i64 a0_0) ∧ w23.cell? ⟨gb131, 1, none⟩ = some (.int .u64 a0_1) ∧ w23.cell? ⟨gb131, 2, none⟩ = some (.slice A0_2 l0_2.length c0_2) ∧ w23.cell? ⟨gb131, 3, none⟩ = some (.slice A0_3 l0_3.length c0_3) ∧ w23.cell? ⟨gb131, 4, none⟩ = some (.slice A0_4 l0_4.length c0_4) ∧ w23.cell? ⟨gb131, 5, none⟩ = some (.string a0_5) ∧ w23.cell? ⟨gb131, 6, none⟩ = some (.int .i64 a0_6) ∧ w23.cell? ⟨gb131, 7, none⟩ = some (.int .i64 a0_7) ∧ w23.cell? ⟨gb131, 8, none⟩ = some (.string a0_8) := hS_
      refine z0b (a' := ?_) ?_ ?_
      rotate_left
      ·simp only [putAll, Act.put, q1, q2, q3]
       rfl
      refine z0d (i := 22) (N := some 35) (v := ?_) (a' := ?_) #[true, true, true, true, true, true, true, true, true, true, true, true, true, true, true, true, true, true, true, true, true, true, true, false] rfl rfl (z0e HT_.out (by kernel_rfl)) (fun _ _ _ h => h) (Or.inl ⟨by rfl, ?_⟩) ?_ ?_
      rotate_left
      ·intro w'
       go_simp
       with_reducible rfl
      rotate_left
      ·simp only [Act.put, q1, q2, q3, z06, z07]
       rfl
      refine z0d (i := 23) (N := some 5) (v := ?_) (a' := ?_) #[true, true, true, true, true, true, true, true, true, true, true, true, true, true, true, true, true, true, true, true, true, true, true, true] rfl rfl (z0e HT_.out (by kernel_rfl)) (fun _ _ _ h => h) (Or.inl ⟨by rfl, ?_⟩) ?_ ?_
      rotate_left
      ·intro w'
       go_simp
       with_reducible rfl
      rotate_left
      ·simp only [Act.put, q1, q2, q3, z06, z07]
       rfl
      refine done_ (done_of HT_.out (by kernel_rfl)) ?_
      have hcz24_0 : w23.cell? ⟨gb131, 0, none⟩ = some (.int .i64 a0_0) := (z00 BK131.out 0).trans rfl
      have hcz24_1 : w23.cell? ⟨gb131, 1, none⟩ = some (.int .u64 a0_1) := (z00 BK131.out 1).trans rfl
      have hcz24_2 : w23.cell? ⟨gb131, 2, none⟩ = some (.slice A0_2 l0_2.length c0_2) := (z00 BK131.out 2).trans rfl
      have hcz24_3 : w23.cell? ⟨gb131, 3, none⟩ = some (.slice A0_3 l0_3.length c0_3) := (z00 BK131.out 3).trans rfl
      have hcz24_4 : w23.cell? ⟨gb131, 4, none⟩ = some (.slice A0_4 l0_4.length c0_4) := (z00 BK131.out 4).trans rfl
      have hcz24_5 : w23.cell? ⟨gb131, 5, none⟩ = some (.string a0_5) := (z00 BK131.out 5).trans rfl
      have hcz24_6 : w23.cell? ⟨gb131, 6, none⟩ = some (.int .i64 a0_6) := (z00 BK131.out 6).trans rfl
      have hcz24_7 : w23.cell? ⟨gb131, 7, none⟩ = some (.int .i64 a0_7) := (z00 BK131.out 7).trans rfl
      have hcz24_8 : w23.cell? ⟨gb131, 8, none⟩ = some (.string a0_8) := (z00 BK131.out 8).trans rfl
      have hfz24_0 := z02 BK131.out 0
      have hfz24_1 := z02 BK131.out 1
      have hfz24_2 := z02 BK131.out 2
      have hfz24_3 := z02 BK131.out 3
      have hfz24_4 := z02 BK131.out 4
      have hfz24_5 := z02 BK131.out 5
      have hfz24_6 := z02 BK131.out 6
      have hfz24_7 := z02 BK131.out 7
      have hfz24_8 := z02 BK131.out 8
      try go_wp2
      go_loopg [5, 39] k (fun kq v5 v39 w' => ∃ (x5_1 : ByteArray) (z0u : Int), v5 = .string x5_1 ∧ v39 = .int .i64 z0u ∧ z01 (z0s.l0 kq x5_1 l0_4 (l0_4.length : Int) z0u a0_0 a0_1 l0_2 l0_3 l0_4 a0_5 a0_6 a0_7 a0_8 = some (r1, r2)) ∧ z01 (kq ≤ k) ∧ z01 (w'.heap[gb131]? = some (.cells #[.int .i64 a0_0, .int .u64 a0_1, (.slice A0_2 l0_2.length c0_2), (.slice A0_3 l0_3.length c0_3), (.slice A0_4 l0_4.length c0_4), .string a0_5, .int .i64 a0_6, .int .i64 a0_7, .string a0_8] 26 (0, 0))) ∧ z01 (Below w.heap.size w w'))
      case atStart => exact ⟨(((((strOfNums y133) ++ t136) ++ t137) ++ t138) ++ t139), (0), (by first | rfl | (simp; done) | (simp [*]; done)), (by first | rfl | (simp; done) | (simp [*]; done)), H', ⟨Nat.le_refl _⟩, ⟨by (with_reducible repeat (first | refine z0c ?_ _ | refine z09 ?_ | refine z0a ?_ _)); exact BK131.out⟩, ⟨by repeat (first | (with_reducible first | exact HB.out | apply z03 | apply z05 | apply z04 | refine z08 ?_ GE131.out) | exact HB.out)⟩⟩
      case round =>
       clear H'
       try clear p2
       try clear hcv2
       try clear c4
       try clear hcv21
       try clear hcv22
       try clear hcv23
       try clear hcz24_0
       try clear hcz24_1
       try clear hcz24_2
       try clear hcz24_3
       try clear hcz24_4
       try clear hcz24_5
       try clear hcz24_6
       try clear hcz24_7
       try clear hcz24_8
       try clear hfz24_0
       try clear hfz24_1
       try clear hfz24_2
       try clear hfz24_3
       try clear hfz24_4
       try clear hfz24_5
       try clear hfz24_6
       try clear hfz24_7
       try clear hfz24_8
       obtain ⟨x5_1, z0u, rfl, rfl, HA, HK1, BK131, HB⟩ := hrel
       cases gk with
       | zero => exact absurd HA.out (by simp [z0s.l0])
       | succ k1 =>
        have H := HA.out
        clear HA
        simp only [z0s.l0] at H
        by_cases c25 : z0u < (l0_4.length : Int)
        ·rw [if_pos c25] at H
         have c25b0 : decide (z0u < (l0_4.length : Int)) = true := decide_eq_true c25
         clear c25
         by_cases c26 : 0 ≤ z0u
         ·rw [if_pos c26] at H
          have c26b0 : decide (0 ≤ z0u) = true := decide_eq_true c26
          clear c26
          by_cases c27 : z0u < (l0_4.length : Int)
          ·rw [if_pos c27] at H
           have c27b0 : decide (z0u < (l0_4.length : Int)) = true := decide_eq_true c27
           clear c27
           replace H := Option.bind_eq_some_iff.mp H
           obtain ⟨t142, A280, H⟩ := H
           replace H : (if ((z0v l0_4 z0u).f1).size + t142.size ≤ 9223372036854775807 then (if (((z0v l0_4 z0u).f1) ++ t142).size + ((z0v l0_4 z0u).f0).size ≤ 9223372036854775807 then (if x5_1.size + ((((z0v l0_4 z0u).f1) ++ t142) ++ ((z0v l0_4 z0u).f0)).size ≤ 9223372036854775807 then (z0s.l0 k1 (x5_1 ++ ((((z0v l0_4 z0u).f1) ++ t142) ++ ((z0v l0_4 z0u).f0))) l0_4 (l0_4.length : Int) (wrap64 (z0u + 1)) a0_0 a0_1 l0_2 l0_3 l0_4 a0_5 a0_6 a0_7 a0_8) else (none)) else (none)) else (none)) = some (r1, r2) := H
           have A28 := z01.mk A280
           clear A280
           by_cases c29 : ((z0v l0_4 z0u).f1).size + t142.size ≤ 9223372036854775807
           ·rw [if_pos c29] at H
            have c29b0 := eq_true c29
            have c29b1 : decide (((z0v l0_4 z0u).f1).size + t142.size ≤ 9223372036854775807) = true := decide_eq_true c29
            try have c29b2 : (9223372036854775807 < ((z0v l0_4 z0u).f1).size + t142.size) = False := eq_false (Nat.not_lt.2 c29)
            clear c29
            by_cases c30 : (((z0v l0_4 z0u).f1) ++ t142).size + ((z0v l0_4 z0u).f0).size ≤ 9223372036854775807
            ·rw [if_pos c30] at H
             have c30b0 := eq_true c30
             have c30z := c30
             simp only [ByteArray.size_append] at c30z
             have c30z2 := eq_false (Nat.not_lt.2 c30z)
             clear c30z
             have c30b1 : decide ((((z0v l0_4 z0u).f1) ++ t142).size + ((z0v l0_4 z0u).f0).size ≤ 9223372036854775807) = true := decide_eq_true c30
             try have c30b2 : (9223372036854775807 < (((z0v l0_4 z0u).f1) ++ t142).size + ((z0v l0_4 z0u).f0).size) = False := eq_false (Nat.not_lt.2 c30)
             clear c30
             by_cases c31 : x5_1.size + ((((z0v l0_4 z0u).f1) ++ t142) ++ ((z0v l0_4 z0u).f0)).size ≤ 9223372036854775807
             ·rw [if_pos c31] at H
              have c31b0 := eq_true c31
              have c31z := c31
              simp only [ByteArray.size_append] at c31z
              have c31z2 := eq_false (Nat.not_lt.2 c31z)
              clear c31z
              have c31b1 : decide (x5_1.size + ((((z0v l0_4 z0u).f1) ++ t142) ++ ((z0v l0_4 z0u).f0)).size ≤ 9223372036854775807) = true := decide_eq_true c31
              try have c31b2 : (9223372036854775807 < x5_1.size + ((((z0v l0_4 z0u).f1) ++ t142) ++ ((z0v l0_4 z0u).f0)).size) = False := eq_false (Nat.not_lt.2 c31)
              clear c31
              have H' := z01.mk H
              clear H
              have p140 : 0 ≤ (z0u : Int) := of_decide_eq_true (by first | (with_reducible assumption) | assumption)
              have q140 : z0u < (l0_4.length : Int) := of_decide_eq_true (by first | (with_reducible assumption) | assumption)
              obtain ⟨ad140, e140, hx140_0, hx140_1⟩ := at_T91 HR0_4.out z0u p140 q140
              cases e140
              replace hx140_0 := (HB.out.cell (World.block_lt_of_cell? w _ hx140_0)).trans hx140_0
              replace hx140_1 := (HB.out.cell (World.block_lt_of_cell? w _ hx140_1)).trans hx140_1
              replace p140 := eq_true p140
              replace q140 := eq_true q140
              try go_wp2_with (first | ((with_reducible refine gate_dst (N := 7) rfl ?_); refine box_event ?hg (N := 7) ?hd (cs := #[.string (⟨#[]⟩ : ByteArray), .string (⟨#[]⟩ : ByteArray)]) (t := 91) ?hr ?_; (case hd => rfl); (case hg => rfl); (case hr => first | (go_simp; done) | (go_simp; rfl)); intro gb141 hg w32 hbox hb; have n0_ := z01.mk (z0m (g := gb131) (o := .cells #[.int .i64 a0_0, .int .u64 a0_1, .slice A0_2 l0_2.length c0_2, .slice A0_3 l0_3.length c0_3, .slice (some ad140) l0_4.length c0_4, .string a0_5, .int .i64 a0_6, .int .i64 a0_7, .string a0_8] 26 (0, 0)) (by (with_reducible repeat (first | refine z0c ?_ _ | refine z09 ?_ | refine z0a ?_ _)); exact BK131.out) hb); have n1_ := z01.mk (z0i (by repeat (first | (with_reducible first | exact HB.out | apply z03 | apply z05 | apply z04 | refine z08 ?_ GE131.out) | exact HB.out)) hb); have n2_ := z01.mk (hbox); have n3_ := z01.mk ((by rw [hg]; exact (z18 (by repeat (first | (with_reducible first | exact HB.out | apply z03 | apply z05 | apply z04 | refine z08 ?_ GE131.out) | exact HB.out))) : w.heap.size ≤ gb141)); have n4_ := z01.mk ((by rw [hg]; exact (z18 (by repeat (first | (with_reducible first | exact HB.out | apply z03 | apply z05 | apply z04 | refine z08 ?_ GE131.out) | exact HB.out))) : w.heap.size ≤ gb141)); have n5_ := z01.mk ((by rw [hg]; exact Nat.ne_of_lt (blk_lt (g := gb131) (o := .cells #[.int .i64 a0_0, .int .u64 a0_1, .slice A0_2 l0_2.length c0_2, .slice A0_3 l0_3.length c0_3, .slice (some ad140) l0_4.length c0_4, .string a0_5, .int .i64 a0_6, .int .i64 a0_7, .string a0_8] 26 (0, 0)) (by (with_reducible repeat (first | refine z0c ?_ _ | refine z09 ?_ | refine z0a ?_ _)); exact BK131.out)) : gb131 ≠ gb141)); have n6_ := z01.mk ((by rw [hg]; exact Nat.ne_of_gt (blk_lt (g := gb131) (o := .cells #[.int .i64 a0_0, .int .u64 a0_1, .slice A0_2 l0_2.length c0_2, .slice A0_3 l0_3.length c0_3, .slice (some ad140) l0_4.length c0_4, .string a0_5, .int .i64 a0_6, .int .i64 a0_7, .string a0_8] 26 (0, 0)) (by (with_reducible repeat (first | refine z0c ?_ _ | refine z09 ?_ | refine z0a ?_ _)); exact BK131.out)) : gb141 ≠ gb131)); clear BK131; clear HB; have BK131 := n0_; have HB := n1_; have BK141 := n2_; have GW141 := n3_; have GE141 := n4_; have NB131_141 := n5_; have NB141_131 := n6_; clear n0_ n1_ n2_ n3_ n4_ n5_ n6_; clear hb hbox hg; have hnb33 := NB141_131.out; have hnc33 := NB131_141.out; have hcz34_0 : w32.cell? ⟨gb141, 0, none⟩ = some (.string (⟨#[]⟩ : ByteArray)) := (z00 BK141.out 0).trans rfl; have hcz34_1 : w32.cell? ⟨gb141, 1, none⟩ = some (.string (⟨#[]⟩ : ByteArray)) := (z00 BK141.out 1).trans rfl; have hfz34_0 := z02 BK141.out 0; have hfz34_1 := z02 BK141.out 1))
              have n0_ : z01 (((w32.setCell ⟨gb141, 0, none⟩ (.string ((z0v l0_4 z0u).f0))).setCell ⟨gb141, 1, none⟩ (.string ((z0v l0_4 z0u).f1))).heap[gb131]? = some (.cells #[.int .i64 a0_0, .int .u64 a0_1, .slice A0_2 l0_2.length c0_2, .slice A0_3 l0_3.length c0_3, .slice (some ad140) l0_4.length c0_4, .string a0_5, .int .i64 a0_6, .int .i64 a0_7, .string a0_8] 26 (0, 0))) := ⟨by (with_reducible repeat (first | refine z0c ?_ _ | refine z09 ?_ | refine z0a ?_ _)); refine blk_far ?_ NB131_141.out _; (with_reducible repeat (first | refine z0c ?_ _ | refine z09 ?_ | refine z0a ?_ _)); refine blk_far ?_ NB131_141.out _; (with_reducible repeat (first | refine z0c ?_ _ | refine z09 ?_ | refine z0a ?_ _)); exact BK131.out⟩
              have n1_ : z01 (((w32.setCell ⟨gb141, 0, none⟩ (.string ((z0v l0_4 z0u).f0))).setCell ⟨gb141, 1, none⟩ (.string ((z0v l0_4 z0u).f1))).heap[gb141]? = some (.cells #[.string ((z0v l0_4 z0u).f0), .string ((z0v l0_4 z0u).f1)] 91 (0, 0))) := ⟨by (with_reducible repeat (first | refine z0c ?_ _ | refine z09 ?_ | refine z0a ?_ _)); refine blk_put (cs := #[.string ((z0v l0_4 z0u).f0), .string (⟨#[]⟩ : ByteArray)]) ?_ 1 _ rfl; (with_reducible repeat (first | refine z0c ?_ _ | refine z09 ?_ | refine z0a ?_ _)); refine blk_put (cs := #[.string (⟨#[]⟩ : ByteArray), .string (⟨#[]⟩ : ByteArray)]) ?_ 0 _ rfl; (with_reducible repeat (first | refine z0c ?_ _ | refine z09 ?_ | refine z0a ?_ _)); exact BK141.out⟩
              have n2_ : z01 (Below w.heap.size w ((w32.setCell ⟨gb141, 0, none⟩ (.string ((z0v l0_4 z0u).f0))).setCell ⟨gb141, 1, none⟩ (.string ((z0v l0_4 z0u).f1)))) := ⟨by repeat (first | (with_reducible first | exact HB.out | apply z03 | apply z05 | apply z04 | refine z08 ?_ GE131.out | refine z08 ?_ GE141.out) | exact HB.out)⟩
              (try clear BK131)
              (try clear BK141)
              (try clear HB)
              generalize ((w32.setCell ⟨gb141, 0, none⟩ (.string ((z0v l0_4 z0u).f0))).setCell ⟨gb141, 1, none⟩ (.string ((z0v l0_4 z0u).f1))) = w35 at n0_ n1_ n2_ ⊢
              have BK131 := n0_
              have BK141 := n1_
              have HB := n2_
              clear n0_ n1_ n2_
              have n0_ := z01.mk (z09 BK131.out)
              have n1_ := z01.mk (z09 BK141.out)
              have n2_ := z01.mk (z04 HB.out)
              clear BK131
              clear BK141
              clear HB
              have BK131 := n0_
              have BK141 := n1_
              have HB := n2_
              clear n0_ n1_ n2_
              refine start_ (n := 14) (S := fun w' => w'.cell? ⟨gb141, 0, none⟩ = some (.string ((z0v l0_4 z0u).f0)) ∧ w'.cell? ⟨gb141, 1, none⟩ = some (.string ((z0v l0_4 z0u).f1))) (ds := []) #[false, false, false, false, false, false, false, false, false, false, false, false, false, false] (by kernel_rfl) rfl rfl ⟨(z00 BK141.out 0).trans rfl, (z00 BK141.out 1).trans rfl⟩ (fun hHeld => ?_); refine with_tabW z0s.tab8 z0s.bits8 (fun HT_ HW_ => ?_)
              generalize w35.drew = w36 at BK131 BK141 HB hHeld ⊢
              refine z0d (i := 0) (N := some 43) (v := ?_) (a' := ?_) #[true, false, false, false, false, false, false, false, false, false, false, false, false, false] rfl rfl (z0e HT_.out (by kernel_rfl)) (fun _ _ _ h => h) (Or.inl ⟨by rfl, ?_⟩) ?_ ?_
              rotate_left
              ·intro w'
               go_simp
               with_reducible rfl
              rotate_left
              ·simp only [Act.put, q1, q2, q3, z06, z07]
               rfl
              refine z0d (i := 1) (N := some 44) (v := ?_) (a' := ?_) #[true, true, false, false, false, false, false, false, false, false, false, false, false, false] rfl rfl (z0e HT_.out (by kernel_rfl)) (fun _ _ _ h => h) (Or.inl ⟨by rfl, ?_⟩) ?_ ?_
              rotate_left
              ·intro w'
               go_simp
               with_reducible rfl
              rotate_left
              ·simp only [Act.put, q1, q2, q3, z06, z07]
               rfl
              refine z0d (i := 3) (N := some 46) (v := ?_) (a' := ?_) #[true, true, false, true, false, false, false, false, false, false, false, false, false, false] rfl rfl (z0e HT_.out (by kernel_rfl)) (fun _ _ _ h => h) (Or.inl ⟨by rfl, ?_⟩) ?_ ?_
              rotate_left
              ·intro w'
               go_simp
               with_reducible rfl
              rotate_left
              ·simp only [Act.put, q1, q2, q3, z06, z07]
               rfl
              refine z0d (i := 9) (N := some 52) (v := ?_) (a' := ?_) #[true, true, false, true, false, false, false, false, false, true, false, false, false, false] rfl rfl (z0e HT_.out (by kernel_rfl)) (fun _ _ _ h => h) (Or.inl ⟨by rfl, ?_⟩) ?_ ?_
              rotate_left
              ·intro w'
               go_simp
               with_reducible rfl
              rotate_left
              ·simp only [Act.put, q1, q2, q3, z06, z07]
               rfl
              refine take_ (i := 2) (N := some 45) (v := ?_) (a' := ?_) #[true, true, true, true, false, false, false, false, false, true, false, false, false, false] rfl rfl (z1a HT_.out HW_.out (by kernel_rfl)) (fun _ _ _ h => h) (Or.inl ⟨by rfl, ?_⟩) hHeld ?_ ?_
              rotate_left
              ·rintro w' ⟨s0, s1⟩
               go_simp
               with_reducible rfl
              rotate_left
              ·simp only [Act.put, q1, q2, q3, z06, z07]
               rfl
              refine take_ (i := 4) (N := some 47) (v := ?_) (a' := ?_) #[true, true, true, true, true, false, false, false, false, true, false, false, false, false] rfl rfl (z1a HT_.out HW_.out (by kernel_rfl)) (fun _ _ _ h => h) (Or.inl ⟨by rfl, ?_⟩) hHeld ?_ ?_
              rotate_left
              ·rintro w' ⟨s0, s1⟩
               go_simp
               with_reducible rfl
              rotate_left
              ·simp only [Act.put, q1, q2, q3, z06, z07]
               rfl
              refine z0d (i := 5) (N := some 48) (v := ?_) (a' := ?_) #[true, true, true, true, true, true, false, false, false, true, false, false, false, false] rfl rfl (z0e HT_.out (by kernel_rfl)) (fun _ _ _ h => h) (Or.inl ⟨by rfl, ?_⟩) ?_ ?_
              rotate_left
              ·intro w'
               go_simp
               with_reducible rfl
              rotate_left
              ·simp only [Act.put, q1, q2, q3, z06, z07]
               rfl
              refine z0d (i := 6) (N := some 49) (v := ?_) (a' := ?_) #[true, true, true, true, true, true, true, false, false, true, false, false, false, false] rfl rfl (z0e HT_.out (by kernel_rfl)) (fun _ _ _ h => h) (Or.inl ⟨by rfl, ?_⟩) ?_ ?_
              rotate_left
              ·intro w'
               go_simp
               with_reducible rfl
              rotate_left
              ·simp only [Act.put, q1, q2, q3, z06, z07]
               rfl
              refine take_ (i := 10) (N := some 53) (v := ?_) (a' := ?_) #[true, true, true, true, true, true, true, false, false, true, true, false, false, false] rfl rfl (z1a HT_.out HW_.out (by kernel_rfl)) (fun _ _ _ h => h) (Or.inl ⟨by rfl, ?_⟩) hHeld ?_ ?_
              rotate_left
              ·rintro w' ⟨s0, s1⟩
               go_simp
               with_reducible rfl
              rotate_left
              ·simp only [Act.put, q1, q2, q3, z06, z07]
               rfl
              refine one_ (i := 7) (N := some 50) #[true, true, true, true, true, true, true, true, false, true, true, false, false, false] rfl rfl (z19 HT_.out (by kernel_rfl)) (by decide) (fun K hK => ?_)
              refine z13 Try.func40 (by kernel_rfl) rfl #[.int .u64 (IntKind.u64.wrap ((((z0v l0_4 z0u).f0).size : Int)))] (by rfl) rfl rfl (by (try simp only [List.map_toArray, List.map_cons, List.map_nil]); first | done | rfl | (simp only [List.length_drop, List.length_take]; rfl)) ?_
              with_reducible refine (z0k.calls (IntKind.u64.wrap ((((z0v l0_4 z0u).f0).size : Int))) t142 _ A28.out).mono ?_
              rintro e w37 ⟨rfl, hb⟩
              refine ⟨_, rfl, ?_⟩
              have n0_ := z01.mk (z0m (g := gb131) (o := .cells #[.int .i64 a0_0, .int .u64 a0_1, .slice A0_2 l0_2.length c0_2, .slice A0_3 l0_3.length c0_3, .slice (some ad140) l0_4.length c0_4, .string a0_5, .int .i64 a0_6, .int .i64 a0_7, .string a0_8] 26 (0, 0)) (by (with_reducible repeat (first | refine z0c ?_ _ | refine z09 ?_ | refine z0a ?_ _)); exact BK131.out) hb)
              have n1_ := z01.mk (z0m (g := gb141) (o := .cells #[.string ((z0v l0_4 z0u).f0), .string ((z0v l0_4 z0u).f1)] 91 (0, 0)) (by (with_reducible repeat (first | refine z0c ?_ _ | refine z09 ?_ | refine z0a ?_ _)); exact BK141.out) hb)
              have n2_ := z01.mk (z0i (by repeat (first | (with_reducible first | exact HB.out | apply z03 | apply z05 | apply z04 | refine z08 ?_ GE131.out | refine z08 ?_ GE141.out) | exact HB.out)) hb)
              clear BK131
              clear BK141
              clear HB
              have BK131 := n0_
              have BK141 := n1_
              have HB := n2_
              clear n0_ n1_ n2_
              (try clear hb)
              (try clear hb2)
              (try clear hk)
              (try clear hi)
              refine hK.out _ _ ⟨(z00 BK141.out 0).trans rfl, (z00 BK141.out 1).trans rfl⟩ (fun hHeld => ?_)
              clear hK K
              refine z0b (a' := ?_) ?_ ?_
              rotate_left
              ·show Act.put _ (some 50) _ = _
               simp only [Act.put, q1, q2, q3, z06, z07]
               rfl
              refine z0d (i := 8) (N := some 51) (v := ?_) (a' := ?_) #[true, true, true, true, true, true, true, true, true, true, true, false, false, false] rfl rfl (z0e HT_.out (by kernel_rfl)) (fun _ _ _ h => h) (Or.inl ⟨by rfl, ?_⟩) ?_ ?_
              rotate_left
              ·intro w'
               go_simp
               with_reducible rfl
              rotate_left
              ·simp only [Act.put, q1, q2, q3, z06, z07]
               rfl
              refine z0d (i := 11) (N := some 54) (v := ?_) (a' := ?_) #[true, true, true, true, true, true, true, true, true, true, true, true, false, false] rfl rfl (z0e HT_.out (by kernel_rfl)) (fun _ _ _ h => h) (Or.inl ⟨by rfl, ?_⟩) ?_ ?_
              rotate_left
              ·intro w'
               go_simp
               with_reducible rfl
              rotate_left
              ·simp only [Act.put, q1, q2, q3, z06, z07]
               rfl
              refine z0d (i := 12) (N := some 55) (v := ?_) (a' := ?_) #[true, true, true, true, true, true, true, true, true, true, true, true, true, false] rfl rfl (z0e HT_.out (by kernel_rfl)) (fun _ _ _ h => h) (Or.inl ⟨by rfl, ?_⟩) ?_ ?_
              rotate_left
              ·intro w'
               go_simp
               with_reducible rfl
              rotate_left
              ·simp only [Act.put, q1, q2, q3, z06, z07]
               rfl
              refine z0d (i := 13) (N := some 5) (v := ?_) (a' := ?_) #[true, true, true, true, true, true, true, true, true, true, true, true, true, true] rfl rfl (z0e HT_.out (by kernel_rfl)) (fun _ _ _ h => h) (Or.inl ⟨by rfl, ?_⟩) ?_ ?_
              rotate_left
              ·intro w'
               go_simp
               with_reducible rfl
              rotate_left
              ·simp only [Act.put, q1, q2, q3, z06, z07]
               rfl
              refine done_ (done_of HT_.out (by kernel_rfl)) ?_
              try go_wp2
              go_roundg k1
              case measure => have := HK1.out; omega
              case rel => exact ⟨(x5_1 ++ ((((z0v l0_4 z0u).f1) ++ t142) ++ ((z0v l0_4 z0u).f0))), (wrap64 (z0u + 1)), (by first | rfl | (simp; done) | (simp [*]; done)), (by first | rfl | (simp; done) | (simp [*]; done)), H', ⟨by have := HK1.out; omega⟩, ⟨by (with_reducible repeat (first | refine z0c ?_ _ | refine z09 ?_ | refine z0a ?_ _)); exact BK131.out⟩, ⟨by repeat (first | (with_reducible first | exact HB.out | apply z03 | apply z05 | apply z04 | refine z08 ?_ GE131.out | refine z08 ?_ GE141.out) | exact HB.out)⟩⟩
             ·rw [if_neg c31] at H
              exact absurd H (by simp)
            ·rw [if_neg c30] at H
             exact absurd H (by simp)
           ·rw [if_neg c29] at H
            exact absurd H (by simp)
          ·rw [if_neg c27] at H
           exact absurd H (by simp)
         ·rw [if_neg c26] at H
          exact absurd H (by simp)
        ·rw [if_neg c25] at H
         have c25b0 : decide (z0u < (l0_4.length : Int)) = false := decide_eq_false c25
         clear c25
         replace H := Option.bind_eq_some_iff.mp H
         obtain ⟨t143, A380, H⟩ := H
         replace H : (if t143.size + a0_5.size ≤ 9223372036854775807 then ((z0k.f (IntKind.u64.wrap (a0_6))).bind fun t144 => (if (t143 ++ a0_5).size + t144.size ≤ 9223372036854775807 then ((z0k.f (IntKind.u64.wrap (a0_7))).bind fun t145 => (if ((t143 ++ a0_5) ++ t144).size + t145.size ≤ 9223372036854775807 then ((z0k.f (IntKind.u64.wrap ((a0_8.size : Int)))).bind fun t146 => (if (((t143 ++ a0_5) ++ t144) ++ t145).size + t146.size ≤ 9223372036854775807 then (if ((((t143 ++ a0_5) ++ t144) ++ t145) ++ t146).size + a0_8.size ≤ 9223372036854775807 then (if x5_1.size + (((((t143 ++ a0_5) ++ t144) ++ t145) ++ t146) ++ a0_8).size ≤ 9223372036854775807 then ((z1y.f (x5_1 ++ (((((t143 ++ a0_5) ++ t144) ++ t145) ++ t146) ++ a0_8))).bind fun t147 => (some (t147, 0))) else (none)) else (none)) else (none))) else (none))) else (none))) else (none)) = some (r1, r2) := H
         have A38 := z01.mk A380
         clear A380
         by_cases c39 : t143.size + a0_5.size ≤ 9223372036854775807
         ·rw [if_pos c39] at H
          have c39b0 := eq_true c39
          have c39b1 : decide (t143.size + a0_5.size ≤ 9223372036854775807) = true := decide_eq_true c39
          try have c39b2 : (9223372036854775807 < t143.size + a0_5.size) = False := eq_false (Nat.not_lt.2 c39)
          clear c39
          replace H := Option.bind_eq_some_iff.mp H
          obtain ⟨t144, A400, H⟩ := H
          replace H : (if (t143 ++ a0_5).size + t144.size ≤ 9223372036854775807 then ((z0k.f (IntKind.u64.wrap (a0_7))).bind fun t145 => (if ((t143 ++ a0_5) ++ t144).size + t145.size ≤ 9223372036854775807 then ((z0k.f (IntKind.u64.wrap ((a0_8.size : Int)))).bind fun t146 => (if (((t143 ++ a0_5) ++ t144) ++ t145).size + t146.size ≤ 9223372036854775807 then (if ((((t143 ++ a0_5) ++ t144) ++ t145) ++ t146).size + a0_8.size ≤ 9223372036854775807 then (if x5_1.size + (((((t143 ++ a0_5) ++ t144) ++ t145) ++ t146) ++ a0_8).size ≤ 9223372036854775807 then ((z1y.f (x5_1 ++ (((((t143 ++ a0_5) ++ t144) ++ t145) ++ t146) ++ a0_8))).bind fun t147 => (some (t147, 0))) else (none)) else (none)) else (none))) else (none))) else (none)) = some (r1, r2) := H
          have A40 := z01.mk A400
          clear A400
          by_cases c41 : (t143 ++ a0_5).size + t144.size ≤ 9223372036854775807
          ·rw [if_pos c41] at H
           have c41b0 := eq_true c41
           have c41z := c41
           simp only [ByteArray.size_append] at c41z
           have c41z2 := eq_false (Nat.not_lt.2 c41z)
           clear c41z
           have c41b1 : decide ((t143 ++ a0_5).size + t144.size ≤ 9223372036854775807) = true := decide_eq_true c41
           try have c41b2 : (9223372036854775807 < (t143 ++ a0_5).size + t144.size) = False := eq_false (Nat.not_lt.2 c41)
           clear c41
           replace H := Option.bind_eq_some_iff.mp H
           obtain ⟨t145, A420, H⟩ := H
           replace H : (if ((t143 ++ a0_5) ++ t144).size + t145.size ≤ 9223372036854775807 then ((z0k.f (IntKind.u64.wrap ((a0_8.size : Int)))).bind fun t146 => (if (((t143 ++ a0_5) ++ t144) ++ t145).size + t146.size ≤ 9223372036854775807 then (if ((((t143 ++ a0_5) ++ t144) ++ t145) ++ t146).size + a0_8.size ≤ 9223372036854775807 then (if x5_1.size + (((((t143 ++ a0_5) ++ t144) ++ t145) ++ t146) ++ a0_8).size ≤ 9223372036854775807 then ((z1y.f (x5_1 ++ (((((t143 ++ a0_5) ++ t144) ++ t145) ++ t146) ++ a0_8))).bind fun t147 => (some (t147, 0))) else (none)) else (none)) else (none))) else (none)) = some (r1, r2) := H
           have A42 := z01.mk A420
           clear A420
           by_cases c43 : ((t143 ++ a0_5) ++ t144).size + t145.size ≤ 9223372036854775807
           ·rw [if_pos c43] at H
            have c43b0 := eq_true c43
            have c43z := c43
            simp only [ByteArray.size_append] at c43z
            have c43z2 := eq_false (Nat.not_lt.2 c43z)
            clear c43z
            have c43b1 : decide (((t143 ++ a0_5) ++ t144).size + t145.size ≤ 9223372036854775807) = true := decide_eq_true c43
            try have c43b2 : (9223372036854775807 < ((t143 ++ a0_5) ++ t144).size + t145.size) = False := eq_false (Nat.not_lt.2 c43)
            clear c43
            replace H := Option.bind_eq_some_iff.mp H
            obtain ⟨t146, A440, H⟩ := H
            replace H : (if (((t143 ++ a0_5) ++ t144) ++ t145).size + t146.size ≤ 9223372036854775807 then (if ((((t143 ++ a0_5) ++ t144) ++ t145) ++ t146).size + a0_8.size ≤ 9223372036854775807 then (if x5_1.size + (((((t143 ++ a0_5) ++ t144) ++ t145) ++ t146) ++ a0_8).size ≤ 9223372036854775807 then ((z1y.f (x5_1 ++ (((((t143 ++ a0_5) ++ t144) ++ t145) ++ t146) ++ a0_8))).bind fun t147 => (some (t147, 0))) else (none)) else (none)) else (none)) = some (r1, r2) := H
            have A44 := z01.mk A440
            clear A440
            by_cases c45 : (((t143 ++ a0_5) ++ t144) ++ t145).size + t146.size ≤ 9223372036854775807
            ·rw [if_pos c45] at H
             have c45b0 := eq_true c45
             have c45z := c45
             simp only [ByteArray.size_append] at c45z
             have c45z2 := eq_false (Nat.not_lt.2 c45z)
             clear c45z
             have c45b1 : decide ((((t143 ++ a0_5) ++ t144) ++ t145).size + t146.size ≤ 9223372036854775807) = true := decide_eq_true c45
             try have c45b2 : (9223372036854775807 < (((t143 ++ a0_5) ++ t144) ++ t145).size + t146.size) = False := eq_false (Nat.not_lt.2 c45)
             clear c45
             by_cases c46 : ((((t143 ++ a0_5) ++ t144) ++ t145) ++ t146).size + a0_8.size ≤ 9223372036854775807
             ·rw [if_pos c46] at H
              have c46b0 := eq_true c46
              have c46z := c46
              simp only [ByteArray.size_append] at c46z
              have c46z2 := eq_false (Nat.not_lt.2 c46z)
              clear c46z
              have c46b1 : decide (((((t143 ++ a0_5) ++ t144) ++ t145) ++ t146).size + a0_8.size ≤ 9223372036854775807) = true := decide_eq_true c46
              try have c46b2 : (9223372036854775807 < ((((t143 ++ a0_5) ++ t144) ++ t145) ++ t146).size + a0_8.size) = False := eq_false (Nat.not_lt.2 c46)
              clear c46
              by_cases c47 : x5_1.size + (((((t143 ++ a0_5) ++ t144) ++ t145) ++ t146) ++ a0_8).size ≤ 9223372036854775807
              ·rw [if_pos c47] at H
               have c47b0 := eq_true c47
               have c47z := c47
               simp only [ByteArray.size_append] at c47z
               have c47z2 := eq_false (Nat.not_lt.2 c47z)
               clear c47z
               have c47b1 : decide (x5_1.size + (((((t143 ++ a0_5) ++ t144) ++ t145) ++ t146) ++ a0_8).size ≤ 9223372036854775807) = true := decide_eq_true c47
               try have c47b2 : (9223372036854775807 < x5_1.size + (((((t143 ++ a0_5) ++ t144) ++ t145) ++ t146) ++ a0_8).size) = False := eq_false (Nat.not_lt.2 c47)
               clear c47
               replace H := Option.bind_eq_some_iff.mp H
               obtain ⟨t147, A480, H⟩ := H
               replace H : (some (t147, 0)) = some (r1, r2) := H
               have A48 := z01.mk A480
               clear A480
               simp only [Option.some.injEq, Prod.mk.injEq] at H
               try rw [c5b1] at H
               try rw [c7b1] at H
               try rw [c9b1] at H
               try rw [c11b1] at H
               try rw [c25b0] at H
               try rw [c39b1] at H
               try rw [c41b1] at H
               try rw [c43b1] at H
               try rw [c45b1] at H
               try rw [c46b1] at H
               try rw [c47b1] at H
               obtain ⟨rfl, rfl⟩ := H
               try go_wp2
               have n0_ := z01.mk (z09 BK131.out)
               have n1_ := z01.mk (z04 HB.out)
               clear BK131
               clear HB
               have BK131 := n0_
               have HB := n1_
               clear n0_ n1_
               refine start_ (n := 30) (S := fun w' => w'.cell? ⟨gb131, 0, none⟩ = some (.int .i64 a0_0) ∧ w'.cell? ⟨gb131, 1, none⟩ = some (.int .u64 a0_1) ∧ w'.cell? ⟨gb131, 2, none⟩ = some (.slice A0_2 l0_2.length c0_2) ∧ w'.cell? ⟨gb131, 3, none⟩ = some (.slice A0_3 l0_3.length c0_3) ∧ w'.cell? ⟨gb131, 4, none⟩ = some (.slice A0_4 l0_4.length c0_4) ∧ w'.cell? ⟨gb131, 5, none⟩ = some (.string a0_5) ∧ w'.cell? ⟨gb131, 6, none⟩ = some (.int .i64 a0_6) ∧ w'.cell? ⟨gb131, 7, none⟩ = some (.int .i64 a0_7) ∧ w'.cell? ⟨gb131, 8, none⟩ = some (.string a0_8)) (ds := []) #[false, false, false, false, false, false, false, false, false, false, false, false, false, false, false, false, false, false, false, false, false, false, false, false, false, false, false, false, false, false] (by kernel_rfl) rfl rfl ⟨(z00 BK131.out 0).trans rfl, (z00 BK131.out 1).trans rfl, (z00 BK131.out 2).trans rfl, (z00 BK131.out 3).trans rfl, (z00 BK131.out 4).trans rfl, (z00 BK131.out 5).trans rfl, (z00 BK131.out 6).trans rfl, (z00 BK131.out 7).trans rfl, (z00 BK131.out 8).trans rfl⟩ (fun hHeld => ?_); refine with_tabW z0s.tab10 z0s.bits10 (fun HT_ HW_ => ?_)
               generalize wr.drew = w49 at BK131 HB hHeld ⊢
               refine z0d (i := 0) (N := some 57) (v := ?_) (a' := ?_) #[true, false, false, false, false, false, false, false, false, false, false, false, false, false, false, false, false, false, false, false, false, false, false, false, false, false, false, false, false, false] rfl rfl (z0e HT_.out (by kernel_rfl)) (fun _ _ _ h => h) (Or.inl ⟨by rfl, ?_⟩) ?_ ?_
               rotate_left
               ·intro w'
                go_simp
                with_reducible rfl
               rotate_left
               ·simp only [Act.put, q1, q2, q3, z06, z07]
                rfl
               refine z0d (i := 1) (N := some 58) (v := ?_) (a' := ?_) #[true, true, false, false, false, false, false, false, false, false, false, false, false, false, false, false, false, false, false, false, false, false, false, false, false, false, false, false, false, false] rfl rfl (z0e HT_.out (by kernel_rfl)) (fun _ _ _ h => h) (Or.inl ⟨by rfl, ?_⟩) ?_ ?_
               rotate_left
               ·intro w'
                go_simp
                with_reducible rfl
               rotate_left
               ·simp only [Act.put, q1, q2, q3, z06, z07]
                rfl
               refine z0d (i := 6) (N := some 63) (v := ?_) (a' := ?_) #[true, true, false, false, false, false, true, false, false, false, false, false, false, false, false, false, false, false, false, false, false, false, false, false, false, false, false, false, false, false] rfl rfl (z0e HT_.out (by kernel_rfl)) (fun _ _ _ h => h) (Or.inl ⟨by rfl, ?_⟩) ?_ ?_
               rotate_left
               ·intro w'
                go_simp
                with_reducible rfl
               rotate_left
               ·simp only [Act.put, q1, q2, q3, z06, z07]
                rfl
               refine z0d (i := 9) (N := some 66) (v := ?_) (a' := ?_) #[true, true, false, false, false, false, true, false, false, true, false, false, false, false, false, false, false, false, false, false, false, false, false, false, false, false, false, false, false, false] rfl rfl (z0e HT_.out (by kernel_rfl)) (fun _ _ _ h => h) (Or.inl ⟨by rfl, ?_⟩) ?_ ?_
               rotate_left
               ·intro w'
                go_simp
                with_reducible rfl
               rotate_left
               ·simp only [Act.put, q1, q2, q3, z06, z07]
                rfl
               refine z0d (i := 14) (N := some 71) (v := ?_) (a' := ?_) #[true, true, false, false, false, false, true, false, false, true, false, false, false, false, true, false, false, false, false, false, false, false, false, false, false, false, false, false, false, false] rfl rfl (z0e HT_.out (by kernel_rfl)) (fun _ _ _ h => h) (Or.inl ⟨by rfl, ?_⟩) ?_ ?_
               rotate_left
               ·intro w'
                go_simp
                with_reducible rfl
               rotate_left
               ·simp only [Act.put, q1, q2, q3, z06, z07]
                rfl
               refine z0d (i := 19) (N := some 76) (v := ?_) (a' := ?_) #[true, true, false, false, false, false, true, false, false, true, false, false, false, false, true, false, false, false, false, true, false, false, false, false, false, false, false, false, false, false] rfl rfl (z0e HT_.out (by kernel_rfl)) (fun _ _ _ h => h) (Or.inl ⟨by rfl, ?_⟩) ?_ ?_
               rotate_left
               ·intro w'
                go_simp
                with_reducible rfl
               rotate_left
               ·simp only [Act.put, q1, q2, q3, z06, z07]
                rfl
               refine z0d (i := 25) (N := some 82) (v := ?_) (a' := ?_) #[true, true, false, false, false, false, true, false, false, true, false, false, false, false, true, false, false, false, false, true, false, false, false, false, false, true, false, false, false, false] rfl rfl (z0e HT_.out (by kernel_rfl)) (fun _ _ _ h => h) (Or.inl ⟨by rfl, ?_⟩) ?_ ?_
               rotate_left
               ·intro w'
                go_simp
                with_reducible rfl
               rotate_left
               ·simp only [Act.put, q1, q2, q3, z06, z07]
                rfl
               refine take_ (i := 2) (N := some 59) (v := ?_) (a' := ?_) #[true, true, true, false, false, false, true, false, false, true, false, false, false, false, true, false, false, false, false, true, false, false, false, false, false, true, false, false, false, false] rfl rfl (z1a HT_.out HW_.out (by kernel_rfl)) (fun _ _ _ h => h) (Or.inl ⟨by rfl, ?_⟩) hHeld ?_ ?_
               rotate_left
               ·rintro w' ⟨s0, s1, s2, s3, s4, s5, s6, s7, s8⟩
                go_simp
                with_reducible rfl
               rotate_left
               ·simp only [Act.put, q1, q2, q3, z06, z07]
                rfl
               refine z0d (i := 3) (N := some 60) (v := ?_) (a' := ?_) #[true, true, true, true, false, false, true, false, false, true, false, false, false, false, true, false, false, false, false, true, false, false, false, false, false, true, false, false, false, false] rfl rfl (z0e HT_.out (by kernel_rfl)) (fun _ _ _ h => h) (Or.inl ⟨by rfl, ?_⟩) ?_ ?_
               rotate_left
               ·intro w'
                go_simp
                with_reducible rfl
               rotate_left
               ·simp only [Act.put, q1, q2, q3, z06, z07]
                rfl
               refine z0d (i := 4) (N := some 61) (v := ?_) (a' := ?_) #[true, true, true, true, true, false, true, false, false, true, false, false, false, false, true, false, false, false, false, true, false, false, false, false, false, true, false, false, false, false] rfl rfl (z0e HT_.out (by kernel_rfl)) (fun _ _ _ h => h) (Or.inl ⟨by rfl, ?_⟩) ?_ ?_
               rotate_left
               ·intro w'
                go_simp
                with_reducible rfl
               rotate_left
               ·simp only [Act.put, q1, q2, q3, z06, z07]
                rfl
               refine take_ (i := 7) (N := some 64) (v := ?_) (a' := ?_) #[true, true, true, true, true, false, true, true, false, true, false, false, false, false, true, false, false, false, false, true, false, false, false, false, false, true, false, false, false, false] rfl rfl (z1a HT_.out HW_.out (by kernel_rfl)) (fun _ _ _ h => h) (Or.inl ⟨by rfl, ?_⟩) hHeld ?_ ?_
               rotate_left
               ·rintro w' ⟨s0, s1, s2, s3, s4, s5, s6, s7, s8⟩
                go_simp
                with_reducible rfl
               rotate_left
               ·simp only [Act.put, q1, q2, q3, z06, z07]
                rfl
               refine take_ (i := 10) (N := some 67) (v := ?_) (a' := ?_) #[true, true, true, true, true, false, true, true, false, true, true, false, false, false, true, false, false, false, false, true, false, false, false, false, false, true, false, false, false, false] rfl rfl (z1a HT_.out HW_.out (by kernel_rfl)) (fun _ _ _ h => h) (Or.inl ⟨by rfl, ?_⟩) hHeld ?_ ?_
               rotate_left
               ·rintro w' ⟨s0, s1, s2, s3, s4, s5, s6, s7, s8⟩
                go_simp
                with_reducible rfl
               rotate_left
               ·simp only [Act.put, q1, q2, q3, z06, z07]
                rfl
               refine z0d (i := 11) (N := some 68) (v := ?_) (a' := ?_) #[true, true, true, true, true, false, true, true, false, true, true, true, false, false, true, false, false, false, false, true, false, false, false, false, false, true, false, false, false, false] rfl rfl (z0e HT_.out (by kernel_rfl)) (fun _ _ _ h => h) (Or.inl ⟨by rfl, ?_⟩) ?_ ?_
               rotate_left
               ·intro w'
                go_simp
                with_reducible rfl
               rotate_left
               ·simp only [Act.put, q1, q2, q3, z06, z07]
                rfl
               refine take_ (i := 15) (N := some 72) (v := ?_) (a' := ?_) #[true, true, true, true, true, false, true, true, false, true, true, true, false, false, true, true, false, false, false, true, false, false, false, false, false, true, false, false, false, false] rfl rfl (z1a HT_.out HW_.out (by kernel_rfl)) (fun _ _ _ h => h) (Or.inl ⟨by rfl, ?_⟩) hHeld ?_ ?_
               rotate_left
               ·rintro w' ⟨s0, s1, s2, s3, s4, s5, s6, s7, s8⟩
                go_simp
                with_reducible rfl
               rotate_left
               ·simp only [Act.put, q1, q2, q3, z06, z07]
                rfl
               refine z0d (i := 16) (N := some 73) (v := ?_) (a' := ?_) #[true, true, true, true, true, false, true, true, false, true, true, true, false, false, true, true, true, false, false, true, false, false, false, false, false, true, false, false, false, false] rfl rfl (z0e HT_.out (by kernel_rfl)) (fun _ _ _ h => h) (Or.inl ⟨by rfl, ?_⟩) ?_ ?_
               rotate_left
               ·intro w'
                go_simp
                with_reducible rfl
               rotate_left
               ·simp only [Act.put, q1, q2, q3, z06, z07]
                rfl
               refine take_ (i := 20) (N := some 77) (v := ?_) (a' := ?_) #[true, true, true, true, true, false, true, true, false, true, true, true, false, false, true, true, true, false, false, true, true, false, false, false, false, true, false, false, false, false] rfl rfl (z1a HT_.out HW_.out (by kernel_rfl)) (fun _ _ _ h => h) (Or.inl ⟨by rfl, ?_⟩) hHeld ?_ ?_
               rotate_left
               ·rintro w' ⟨s0, s1, s2, s3, s4, s5, s6, s7, s8⟩
                go_simp
                with_reducible rfl
               rotate_left
               ·simp only [Act.put, q1, q2, q3, z06, z07]
                rfl
               refine z0d (i := 21) (N := some 78) (v := ?_) (a' := ?_) #[true, true, true, true, true, false, true, true, false, true, true, true, false, false, true, true, true, false, false, true, true, true, false, false, false, true, false, false, false, false] rfl rfl (z0e HT_.out (by kernel_rfl)) (fun _ _ _ h => h) (Or.inl ⟨by rfl, ?_⟩) ?_ ?_
               rotate_left
               ·intro w'
                go_simp
                with_reducible rfl
               rotate_left
               ·simp only [Act.put, q1, q2, q3, z06, z07]
                rfl
               refine z0d (i := 22) (N := some 79) (v := ?_) (a' := ?_) #[true, true, true, true, true, false, true, true, false, true, true, true, false, false, true, true, true, false, false, true, true, true, true, false, false, true, false, false, false, false] rfl rfl (z0e HT_.out (by kernel_rfl)) (fun _ _ _ h => h) (Or.inl ⟨by rfl, ?_⟩) ?_ ?_
               rotate_left
               ·intro w'
                go_simp
                with_reducible rfl
               rotate_left
               ·simp only [Act.put, q1, q2, q3, z06, z07]
                rfl
               refine take_ (i := 26) (N := some 83) (v := ?_) (a' := ?_) #[true, true, true, true, true, false, true, true, false, true, true, true, false, false, true, true, true, false, false, true, true, true, true, false, false, true, true, false, false, false] rfl rfl (z1a HT_.out HW_.out (by kernel_rfl)) (fun _ _ _ h => h) (Or.inl ⟨by rfl, ?_⟩) hHeld ?_ ?_
               rotate_left
               ·rintro w' ⟨s0, s1, s2, s3, s4, s5, s6, s7, s8⟩
                go_simp
                with_reducible rfl
               rotate_left
               ·simp only [Act.put, q1, q2, q3, z06, z07]
                rfl
               refine one_ (i := 5) (N := some 62) #[true, true, true, true, true, true, true, true, false, true, true, true, false, false, true, true, true, false, false, true, true, true, true, false, false, true, true, false, false, false] rfl rfl (z19 HT_.out (by kernel_rfl)) (by decide) (fun K hK => ?_)
               refine z13 Try.func40 (by kernel_rfl) rfl #[.int .u64 (IntKind.u64.wrap ((a0_5.size : Int)))] (by rfl) rfl rfl (by (try simp only [List.map_toArray, List.map_cons, List.map_nil]); first | done | rfl | (simp only [List.length_drop, List.length_take]; rfl)) ?_
               with_reducible refine (z0k.calls (IntKind.u64.wrap ((a0_5.size : Int))) t143 _ A38.out).mono ?_
               rintro e w50 ⟨rfl, hb⟩
               refine ⟨_, rfl, ?_⟩
               have n0_ := z01.mk (z0m (g := gb131) (o := .cells #[.int .i64 a0_0, .int .u64 a0_1, .slice A0_2 l0_2.length c0_2, .slice A0_3 l0_3.length c0_3, .slice A0_4 l0_4.length c0_4, .string a0_5, .int .i64 a0_6, .int .i64 a0_7, .string a0_8] 26 (0, 0)) (by (with_reducible repeat (first | refine z0c ?_ _ | refine z09 ?_ | refine z0a ?_ _)); exact BK131.out) hb)
               have n1_ := z01.mk (z0i (by repeat (first | (with_reducible first | exact HB.out | apply z03 | apply z05 | apply z04 | refine z08 ?_ GE131.out) | exact HB.out)) hb)
               clear BK131
               clear HB
               have BK131 := n0_
               have HB := n1_
               clear n0_ n1_
               (try clear hb)
               (try clear hb2)
               (try clear hk)
               (try clear hi)
               refine hK.out _ _ ⟨(z00 BK131.out 0).trans rfl, (z00 BK131.out 1).trans rfl, (z00 BK131.out 2).trans rfl, (z00 BK131.out 3).trans rfl, (z00 BK131.out 4).trans rfl, (z00 BK131.out 5).trans rfl, (z00 BK131.out 6).trans rfl, (z00 BK131.out 7).trans rfl, (z00 BK131.out 8).trans rfl⟩ (fun hHeld => ?_)
               clear hK K
               refine z0b (a' := ?_) ?_ ?_
               rotate_left
               ·show Act.put _ (some 62) _ = _
                simp only [Act.put, q1, q2, q3, z06, z07]
                rfl
               refine z0d (i := 8) (N := some 65) (v := ?_) (a' := ?_) #[true, true, true, true, true, true, true, true, true, true, true, true, false, false, true, true, true, false, false, true, true, true, true, false, false, true, true, false, false, false] rfl rfl (z0e HT_.out (by kernel_rfl)) (fun _ _ _ h => h) (Or.inl ⟨by rfl, ?_⟩) ?_ ?_
               rotate_left
               ·intro w'
                go_simp
                with_reducible rfl
               rotate_left
               ·simp only [Act.put, q1, q2, q3, z06, z07]
                rfl
               refine one_ (i := 12) (N := some 69) #[true, true, true, true, true, true, true, true, true, true, true, true, true, false, true, true, true, false, false, true, true, true, true, false, false, true, true, false, false, false] rfl rfl (z19 HT_.out (by kernel_rfl)) (by decide) (fun K hK => ?_)
               refine z13 Try.func40 (by kernel_rfl) rfl #[.int .u64 (IntKind.u64.wrap (a0_6))] (by rfl) rfl rfl (by (try simp only [List.map_toArray, List.map_cons, List.map_nil]); first | done | rfl | (simp only [List.length_drop, List.length_take]; rfl)) ?_
               with_reducible refine (z0k.calls (IntKind.u64.wrap (a0_6)) t144 _ A40.out).mono ?_
               rintro e w51 ⟨rfl, hb⟩
               refine ⟨_, rfl, ?_⟩
               have n0_ := z01.mk (z0m (g := gb131) (o := .cells #[.int .i64 a0_0, .int .u64 a0_1, .slice A0_2 l0_2.length c0_2, .slice A0_3 l0_3.length c0_3, .slice A0_4 l0_4.length c0_4, .string a0_5, .int .i64 a0_6, .int .i64 a0_7, .string a0_8] 26 (0, 0)) (by (with_reducible repeat (first | refine z0c ?_ _ | refine z09 ?_ | refine z0a ?_ _)); exact BK131.out) hb)
               have n1_ := z01.mk (z0i (by repeat (first | (with_reducible first | exact HB.out | apply z03 | apply z05 | apply z04 | refine z08 ?_ GE131.out) | exact HB.out)) hb)
               clear BK131
               clear HB
               have BK131 := n0_
               have HB := n1_
               clear n0_ n1_
               (try clear hb)
               (try clear hb2)
               (try clear hk)
               (try clear hi)
               refine hK.out _ _ ⟨(z00 BK131.out 0).trans rfl, (z00 BK131.out 1).trans rfl, (z00 BK131.out 2).trans rfl, (z00 BK131.out 3).trans rfl, (z00 BK131.out 4).trans rfl, (z00 BK131.out 5).trans rfl, (z00 BK131.out 6).trans rfl, (z00 BK131.out 7).trans rfl, (z00 BK131.out 8).trans rfl⟩ (fun hHeld => ?_)
               clear hK K
               refine z0b (a' := ?_) ?_ ?_
               rotate_left
               ·show Act.put _ (some 69) _ = _
                simp only [Act.put, q1, q2, q3, z06, z07]
                rfl
               refine z0d (i := 13) (N := some 70) (v := ?_) (a' := ?_) #[true, true, true, true, true, true, true, true, true, true, true, true, true, true, true, true, true, false, false, true, true, true, true, false, false, true, true, false, false, false] rfl rfl (z0e HT_.out (by kernel_rfl)) (fun _ _ _ h => h) (Or.inl ⟨by rfl, ?_⟩) ?_ ?_
               rotate_left
               ·intro w'
                go_simp
                with_reducible rfl
               rotate_left
               ·simp only [Act.put, q1, q2, q3, z06, z07]
                rfl
               refine one_ (i := 17) (N := some 74) #[true, true, true, true, true, true, true, true, true, true, true, true, true, true, true, true, true, true, false, true, true, true, true, false, false, true, true, false, false, false] rfl rfl (z19 HT_.out (by kernel_rfl)) (by decide) (fun K hK => ?_)
               refine z13 Try.func40 (by kernel_rfl) rfl #[.int .u64 (IntKind.u64.wrap (a0_7))] (by rfl) rfl rfl (by (try simp only [List.map_toArray, List.map_cons, List.map_nil]); first | done | rfl | (simp only [List.length_drop, List.length_take]; rfl)) ?_
               with_reducible refine (z0k.calls (IntKind.u64.wrap (a0_7)) t145 _ A42.out).mono ?_
               rintro e w52 ⟨rfl, hb⟩
               refine ⟨_, rfl, ?_⟩
               have n0_ := z01.mk (z0m (g := gb131) (o := .cells #[.int .i64 a0_0, .int .u64 a0_1, .slice A0_2 l0_2.length c0_2, .slice A0_3 l0_3.length c0_3, .slice A0_4 l0_4.length c0_4, .string a0_5, .int .i64 a0_6, .int .i64 a0_7, .string a0_8] 26 (0, 0)) (by (with_reducible repeat (first | refine z0c ?_ _ | refine z09 ?_ | refine z0a ?_ _)); exact BK131.out) hb)
               have n1_ := z01.mk (z0i (by repeat (first | (with_reducible first | exact HB.out | apply z03 | apply z05 | apply z04 | refine z08 ?_ GE131.out) | exact HB.out)) hb)
               clear BK131
               clear HB
               have BK131 := n0_
               have HB := n1_
               clear n0_ n1_
               (try clear hb)
               (try clear hb2)
               (try clear hk)
               (try clear hi)
               refine hK.out _ _ ⟨(z00 BK131.out 0).trans rfl, (z00 BK131.out 1).trans rfl, (z00 BK131.out 2).trans rfl, (z00 BK131.out 3).trans rfl, (z00 BK131.out 4).trans rfl, (z00 BK131.out 5).trans rfl, (z00 BK131.out 6).trans rfl, (z00 BK131.out 7).trans rfl, (z00 BK131.out 8).trans rfl⟩ (fun hHeld => ?_)
               clear hK K
               refine z0b (a' := ?_) ?_ ?_
               rotate_left
               ·show Act.put _ (some 74) _ = _
                simp only [Act.put, q1, q2, q3, z06, z07]
                rfl
               refine z0d (i := 18) (N := some 75) (v := ?_) (a' := ?_) #[true, true, true, true, true, true, true, true, true, true, true, true, true, true, true, true, true, true, true, true, true, true, true, false, false, true, true, false, false, false] rfl rfl (z0e HT_.out (by kernel_rfl)) (fun _ _ _ h => h) (Or.inl ⟨by rfl, ?_⟩) ?_ ?_
               rotate_left
               ·intro w'
                go_simp
                with_reducible rfl
               rotate_left
               ·simp only [Act.put, q1, q2, q3, z06, z07]
                rfl
               refine one_ (i := 23) (N := some 80) #[true, true, true, true, true, true, true, true, true, true, true, true, true, true, true, true, true, true, true, true, true, true, true, true, false, true, true, false, false, false] rfl rfl (z19 HT_.out (by kernel_rfl)) (by decide) (fun K hK => ?_)
               refine z13 Try.func40 (by kernel_rfl) rfl #[.int .u64 (IntKind.u64.wrap ((a0_8.size : Int)))] (by rfl) rfl rfl (by (try simp only [List.map_toArray, List.map_cons, List.map_nil]); first | done | rfl | (simp only [List.length_drop, List.length_take]; rfl)) ?_
               with_reducible refine (z0k.calls (IntKind.u64.wrap ((a0_8.size : Int))) t146 _ A44.out).mono ?_
               rintro e w53 ⟨rfl, hb⟩
               refine ⟨_, rfl, ?_⟩
               have n0_ := z01.mk (z0m (g := gb131) (o := .cells #[.int .i64 a0_0, .int .u64 a0_1, .slice A0_2 l0_2.length c0_2, .slice A0_3 l0_3.length c0_3, .slice A0_4 l0_4.length c0_4, .string a0_5, .int .i64 a0_6, .int .i64 a0_7, .string a0_8] 26 (0, 0)) (by (with_reducible repeat (first | refine z0c ?_ _ | refine z09 ?_ | refine z0a ?_ _)); exact BK131.out) hb)
               have n1_ := z01.mk (z0i (by repeat (first | (with_reducible first | exact HB.out | apply z03 | apply z05 | apply z04 | refine z08 ?_ GE131.out) | exact HB.out)) hb)
               clear BK131
               clear HB
               have BK131 := n0_
               have HB := n1_
               clear n0_ n1_
               (try clear hb)
               (try clear hb2)
               (try clear hk)
               (try clear hi)
               refine hK.out _ _ ⟨(z00 BK131.out 0).trans rfl, (z00 BK131.out 1).trans rfl, (z00 BK131.out 2).trans rfl, (z00 BK131.out 3).trans rfl, (z00 BK131.out 4).trans rfl, (z00 BK131.out 5).trans rfl, (z00 BK131.out 6).trans rfl, (z00 BK131.out 7).trans rfl, (z00 BK131.out 8).trans rfl⟩ (fun hHeld => ?_)
               clear hK K
               refine z0b (a' := ?_) ?_ ?_
               rotate_left
               ·show Act.put _ (some 80) _ = _
                simp only [Act.put, q1, q2, q3, z06, z07]
                rfl
               refine z0d (i := 24) (N := some 81) (v := ?_) (a' := ?_) #[true, true, true, true, true, true, true, true, true, true, true, true, true, true, true, true, true, true, true, true, true, true, true, true, true, true, true, false, false, false] rfl rfl (z0e HT_.out (by kernel_rfl)) (fun _ _ _ h => h) (Or.inl ⟨by rfl, ?_⟩) ?_ ?_
               rotate_left
               ·intro w'
                go_simp
                with_reducible rfl
               rotate_left
               ·simp only [Act.put, q1, q2, q3, z06, z07]
                rfl
               refine z0d (i := 27) (N := some 84) (v := ?_) (a' := ?_) #[true, true, true, true, true, true, true, true, true, true, true, true, true, true, true, true, true, true, true, true, true, true, true, true, true, true, true, true, false, false] rfl rfl (z0e HT_.out (by kernel_rfl)) (fun _ _ _ h => h) (Or.inl ⟨by rfl, ?_⟩) ?_ ?_
               rotate_left
               ·intro w'
                go_simp
                with_reducible rfl
               rotate_left
               ·simp only [Act.put, q1, q2, q3, z06, z07]
                rfl
               refine z0d (i := 28) (N := some 85) (v := ?_) (a' := ?_) #[true, true, true, true, true, true, true, true, true, true, true, true, true, true, true, true, true, true, true, true, true, true, true, true, true, true, true, true, true, false] rfl rfl (z0e HT_.out (by kernel_rfl)) (fun _ _ _ h => h) (Or.inl ⟨by rfl, ?_⟩) ?_ ?_
               rotate_left
               ·intro w'
                go_simp
                with_reducible rfl
               rotate_left
               ·simp only [Act.put, q1, q2, q3, z06, z07]
                rfl
               refine z0d (i := 29) (N := some 5) (v := ?_) (a' := ?_) #[true, true, true, true, true, true, true, true, true, true, true, true, true, true, true, true, true, true, true, true, true, true, true, true, true, true, true, true, true, true] rfl rfl (z0e HT_.out (by kernel_rfl)) (fun _ _ _ h => h) (Or.inl ⟨by rfl, ?_⟩) ?_ ?_
               rotate_left
               ·intro w'
                go_simp
                with_reducible rfl
               rotate_left
               ·simp only [Act.put, q1, q2, q3, z06, z07]
                rfl
               refine done_ (done_of HT_.out (by kernel_rfl)) ?_
               try go_wp2_with (first | ((with_reducible refine z1f (f := 42) rfl ?_); refine z1e (some 87) rfl rfl Try.func42 (by kernel_rfl) rfl #[.string (x5_1 ++ (((((t143 ++ a0_5) ++ t144) ++ t145) ++ t146) ++ a0_8))] rfl (by (try simp only [List.map_toArray, List.map_cons, List.map_nil]); first | done | rfl | (simp only [List.length_drop, List.length_take]; rfl)) ?_; (with_reducible refine (z1y.calls (x5_1 ++ (((((t143 ++ a0_5) ++ t144) ++ t145) ++ t146) ++ a0_8)) t147 _ A48.out).mono ?_); rintro e w54 ⟨rfl, hb⟩; refine ⟨_, rfl, ?_⟩; have n0_ := z01.mk (z0m (g := gb131) (o := .cells #[.int .i64 a0_0, .int .u64 a0_1, .slice A0_2 l0_2.length c0_2, .slice A0_3 l0_3.length c0_3, .slice A0_4 l0_4.length c0_4, .string a0_5, .int .i64 a0_6, .int .i64 a0_7, .string a0_8] 26 (0, 0)) (by (with_reducible repeat (first | refine z0c ?_ _ | refine z09 ?_ | refine z0a ?_ _)); exact BK131.out) hb); have n1_ := z01.mk (z0i (by repeat (first | (with_reducible first | exact HB.out | apply z03 | apply z05 | apply z04 | refine z08 ?_ GE131.out) | exact HB.out)) hb); clear BK131; clear HB; have BK131 := n0_; have HB := n1_; clear n0_ n1_; (try clear hb); (try clear hb2); (try clear hk); (try clear hi)))
               go_ret2
               exact ⟨by first | rfl | (simp [z0n, z0o] <;> rfl) | (simp [*, z0n, z0o] <;> rfl), by repeat (first | (with_reducible first | exact HB.out | apply z03 | apply z05 | apply z04 | refine z08 ?_ GE131.out) | exact HB.out)⟩
              ·rw [if_neg c47] at H
               exact absurd H (by simp)
             ·rw [if_neg c46] at H
              exact absurd H (by simp)
            ·rw [if_neg c45] at H
             exact absurd H (by simp)
           ·rw [if_neg c43] at H
            exact absurd H (by simp)
          ·rw [if_neg c41] at H
           exact absurd H (by simp)
         ·rw [if_neg c39] at H
          exact absurd H (by simp)
     ·rw [if_neg c11] at H
      exact absurd H (by simp)
    ·rw [if_neg c9] at H
     exact absurd H (by simp)
   ·rw [if_neg c7] at H
    exact absurd H (by simp)
  ·rw [if_neg c5] at H
   exact absurd H (by simp)
 ·rw [if_neg c3] at H
  have c3b0 : (t132 == 0) = false := beq_eq_false_iff_ne.mpr c3
  have c3b1 : (t132 != 0) = true := bne_iff_ne.mpr c3
  simp only [Option.some.injEq, Prod.mk.injEq] at H
  obtain ⟨rfl, rfl⟩ := H
  go_enter Try.func13, Try.ntmps13
  go_wp2_with (first | ((with_reducible refine gate_dst (N := 1) rfl ?_); refine box_event ?hg (N := 1) ?hd (cs := #[.int .i64 a0_0, .int .u64 a0_1, .slice A0_2 l0_2.length c0_2, .slice A0_3 l0_3.length c0_3, .slice A0_4 l0_4.length c0_4, .string a0_5, .int .i64 a0_6, .int .i64 a0_7, .string a0_8]) (t := 26) ?hr ?_; (case hd => rfl); (case hg => rfl); (case hr => first | (go_simp; done) | (go_simp; rfl)); intro gb131 hg w55 hbox hb; have n0_ := z01.mk (z0i (by repeat (first | (with_reducible first | exact HB.out | apply z03 | apply z05 | apply z04) | exact HB.out | exact Below.refl _ _)) hb); have n1_ := z01.mk (hbox); have n2_ := z01.mk ((by rw [hg]; exact (z18 (by repeat (first | (with_reducible first | exact HB.out | apply z03 | apply z05 | apply z04) | exact HB.out | exact Below.refl _ _))) : w.heap.size ≤ gb131)); have n3_ := z01.mk ((by rw [hg]; exact (z18 (by repeat (first | (with_reducible first | exact HB.out | apply z03 | apply z05 | apply z04) | exact HB.out | exact Below.refl _ _))) : w.heap.size ≤ gb131)); clear HB; have HB := n0_; have BK131 := n1_; have GW131 := n2_; have GE131 := n3_; clear n0_ n1_ n2_ n3_; clear hb hbox hg; have hcz56_0 : w55.cell? ⟨gb131, 0, none⟩ = some (.int .i64 a0_0) := (z00 BK131.out 0).trans rfl; have hcz56_1 : w55.cell? ⟨gb131, 1, none⟩ = some (.int .u64 a0_1) := (z00 BK131.out 1).trans rfl; have hcz56_2 : w55.cell? ⟨gb131, 2, none⟩ = some (.slice A0_2 l0_2.length c0_2) := (z00 BK131.out 2).trans rfl; have hcz56_3 : w55.cell? ⟨gb131, 3, none⟩ = some (.slice A0_3 l0_3.length c0_3) := (z00 BK131.out 3).trans rfl; have hcz56_4 : w55.cell? ⟨gb131, 4, none⟩ = some (.slice A0_4 l0_4.length c0_4) := (z00 BK131.out 4).trans rfl; have hcz56_5 : w55.cell? ⟨gb131, 5, none⟩ = some (.string a0_5) := (z00 BK131.out 5).trans rfl; have hcz56_6 : w55.cell? ⟨gb131, 6, none⟩ = some (.int .i64 a0_6) := (z00 BK131.out 6).trans rfl; have hcz56_7 : w55.cell? ⟨gb131, 7, none⟩ = some (.int .i64 a0_7) := (z00 BK131.out 7).trans rfl; have hcz56_8 : w55.cell? ⟨gb131, 8, none⟩ = some (.string a0_8) := (z00 BK131.out 8).trans rfl; have hfz56_0 := z02 BK131.out 0; have hfz56_1 := z02 BK131.out 1; have hfz56_2 := z02 BK131.out 2; have hfz56_3 := z02 BK131.out 3; have hfz56_4 := z02 BK131.out 4; have hfz56_5 := z02 BK131.out 5; have hfz56_6 := z02 BK131.out 6; have hfz56_7 := z02 BK131.out 7; have hfz56_8 := z02 BK131.out 8) | ((with_reducible refine z1f (f := 17) rfl ?_); refine z1e (some 9) rfl rfl Try.func17 (by kernel_rfl) rfl #[.agg #[.int .i64 a0_0, .int .u64 a0_1, .slice A0_2 l0_2.length c0_2, .slice A0_3 l0_3.length c0_3, .slice A0_4 l0_4.length c0_4, .string a0_5, .int .i64 a0_6, .int .i64 a0_7, .string a0_8]] rfl (by (try simp only [List.map_toArray, List.map_cons, List.map_nil]); first | done | rfl | (simp only [List.length_drop, List.length_take]; rfl)) ?_; (with_reducible refine (z2o.calls a0_0 a0_1 _ _ l0_2 _ _ l0_3 _ _ l0_4 a0_5 a0_6 a0_7 a0_8 t132 _ ?side1 ?side2 ?side3 ?side4 ?side5 ?side6 A2.out).mono ?_); (case side1 => repeat (first | exact (Kd.z12 HR0_2.out HB.out) | (with_reducible refine Kd.z1b ?_ _) | (with_reducible refine Kd.z1d ?_ _) | (with_reducible refine Kd.z1c ?_))); (case side2 => exact HC0_2.out); (case side3 => repeat (first | exact (Kd.z12 HR0_3.out HB.out) | (with_reducible refine Kd.z1b ?_ _) | (with_reducible refine Kd.z1d ?_ _) | (with_reducible refine Kd.z1c ?_))); (case side4 => exact HC0_3.out); (case side5 => repeat (first | exact (Kd.z12 HR0_4.out HB.out) | (with_reducible refine Kd.z1b ?_ _) | (with_reducible refine Kd.z1d ?_ _) | (with_reducible refine Kd.z1c ?_))); (case side6 => exact HC0_4.out); rintro e w57 ⟨rfl, hb⟩; refine ⟨_, rfl, ?_⟩; have n0_ := z01.mk (z0m (g := gb131) (o := .cells #[.int .i64 a0_0, .int .u64 a0_1, .slice A0_2 l0_2.length c0_2, .slice A0_3 l0_3.length c0_3, .slice A0_4 l0_4.length c0_4, .string a0_5, .int .i64 a0_6, .int .i64 a0_7, .string a0_8] 26 (0, 0)) (by (with_reducible repeat (first | refine z0c ?_ _ | refine z09 ?_ | refine z0a ?_ _)); exact BK131.out) hb); have n1_ := z01.mk (z0i (by repeat (first | (with_reducible first | exact HB.out | apply z03 | apply z05 | apply z04 | refine z08 ?_ GE131.out) | exact HB.out)) hb); clear BK131; clear HB; have BK131 := n0_; have HB := n1_; clear n0_ n1_; (try clear hb); (try clear hb2); (try clear hk); (try clear hi)))
  go_ret2
  exact ⟨by first | rfl | (simp [z0n, z0o] <;> rfl) | (simp [*, z0n, z0o] <;> rfl), by repeat (first | (with_reducible first | exact HB.out | apply z03 | apply z05 | apply z04 | refine z08 ?_ GE131.out) | exact HB.out)⟩
end Go.Proofs.Ytcfdplmapdgfmaa.PG
