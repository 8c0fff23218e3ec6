/- The law's own small call. -/
import Derived.Test.YtjgbodgcbagbnaaPureApply
import Derived.Test.YtjgbodgcbagbnaaMakeC
set_option linter.unusedVariables false
set_option linter.unusedSimpArgs false
namespace Go.Proofs.Ytjgbodgcbagbnaa.Mine
open Go.RowKit Go.Proofs.YtjgbodgcbagbnaaW.PrintWords

theorem num_small (n : Nat) (h : n < 128) : num n = [n] := by
  rw [num, Nat.div_eq_of_lt h, rest_zero, Nat.mod_eq_of_lt h]; rfl
def awB : ByteArray := ⟨#[48, 49, 50, 51, 52, 53, 54, 55, 56, 57, 97, 98, 99, 100, 101, 102, 88, 89, 90]⟩
theorem aw_make : makeD (bs awB) (bs (awB ++ ⟨#[33]⟩)) = [19, 20, 37, 0, 0, 33] := by
  have hf : blkF (bs awB) ((bs awB).length / 16) (((bs (awB ++ ⟨#[33]⟩)).drop 0).take 16) = some 0 := by decide +kernel
  have e1 := mkD_some (blkF (bs awB) ((bs awB).length / 16)) (bs awB) (bs (awB ++ ⟨#[33]⟩)) 0 0 0 19 (by decide +kernel) hf (by decide +kernel)
  have e2 := mkD_end (blkF (bs awB) ((bs awB).length / 16)) (bs awB) (bs (awB ++ ⟨#[33]⟩)) 19 19 (by decide +kernel)
  rw [makeD, e1, Nat.zero_add, e2, show (bs awB).length = 19 from by decide +kernel, show (bs (awB ++ ⟨#[33]⟩)).length = 20 from by decide +kernel, show (bs (awB ++ ⟨#[33]⟩)).drop 19 = [33] from by decide +kernel,
    repB, num_small 19 (by decide), num_small 20 (by decide), num_small (2 * (19 - 1) + 1) (by decide), num_small 0 (by decide), insB_pos [33] (by decide), show 2 * ([33].length - 1) = 0 from rfl, num_small 0 (by decide)]
  rfl
set_option maxRecDepth 100000 in
theorem deltaAwake_calls (w : World) :
    Calls Try.prog 25 #[] w fun e w' => e = .returned (.bool true) ∧ Below w.heap.size w w' := by
  have hm := make_calls awB (awB ++ ⟨#[33]⟩)
  have ha := apply_ok 3000 (by decide) awB (awB ++ ⟨#[33]⟩) 100 (by decide) (by decide) (by decide) (by decide)
  rw [aw_make] at ha
  have hap := fun w => apply_calls 3000 awB (sb [19, 20, 37, 0, 0, 33]) 100 _ _ w ha
  rw [aw_make] at hm
  have HM := Lib.hid hm
  have HA := Lib.hid hap
  clear hm ha hap
  go_enter Try.func25, Try.ntmps25
  go_wp2_with fail
  refine (HM.out _ (by decide) (by decide)).mono ?_
  rintro e w1 ⟨rfl, hb1⟩
  have HB1 := Lib.hid hb1
  clear hb1
  go_wp2_with fail
  refine (HA.out _).mono ?_
  rintro e w2 ⟨rfl, hb2⟩
  have HB2 := Lib.hid hb2
  clear hb2
  go_wp2_with fail
  go_ret
  refine ⟨congrArg (fun x => Ending.returned (.bool x)) (show (((sb [19, 20, 37, 0, 0, 33]).size : Int) == 6) = true from by decide), HB1.out.trans (HB2.out.mono HB1.out.size)⟩
end Go.Proofs.Ytjgbodgcbagbnaa.Mine
