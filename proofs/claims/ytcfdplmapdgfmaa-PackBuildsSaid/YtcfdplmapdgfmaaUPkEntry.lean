import Derived.Test.YtcfdplmapdgfmaaULzA
import Derived.Test.YtcfdplmapdgfmaaUCPure
set_option linter.unusedVariables false
set_option linter.unusedSimpArgs false
namespace Go.Proofs.Ytcfdplmapdgfmaa.Mine
open Go.RowKit Go.Proofs.YtcfdplmapdgfmaaW.PrintWords
structure ItemP where
 base : ByteArray
 data : ByteArray
 pos : Int
def itemB (base data : ByteArray) : List Nat := (if base.size = 0 then [119] else 109 :: bs base) ++ num (pressP (bs data)).length ++ pressP (bs data)
def badBase (base : ByteArray) : Bool := base.size != 0 && base.size != 32
theorem conv_u8 (W : World) (g n : Nat) (h : W.cell? ⟨g, 0, none⟩ = some (.int .u8 (n : Int))) : (convert 46 9 (.slice (some ⟨g, 0, none⟩) 1 1)).run Try.prog W = .ok (.string (sb [n])) W := by
 have := run_convert_bytes_arg (P := Try.prog) W 46 5 Try.underlying46 Try.underlying5 g 0 1 1 [(n : Int)] rfl (fun i hi => by
  have : i = 0 := by omega
  subst this; exact h) 9 Try.underlying9
 rw [this]
 congr 2
theorem conv_new (W : World) (n : Nat) : (convert 46 9 (.slice (some ⟨W.heap.size, 0, none⟩) 1 1)).run Try.prog (W.alloc (.cells #[.int .u8 (n : Int)] 5)) = .ok (.string (sb [n])) (W.alloc (.cells #[.int .u8 (n : Int)] 5)) :=
 conv_u8 _ _ n ((z0a (w := W.alloc (.cells #[.int .u8 (n : Int)] 5)) (z0d W _) 0).trans rfl)
set_option maxRecDepth 100000 in
set_option maxHeartbeats 4000000 in
theorem entry_calls (base data : ByteArray) (pos : Int) (w : World) (hd : data.size ≤ 1048576) (hl : (sb (pressP (bs data))).size ≤ 1000000000) :
  Calls Try.prog 61 #[.agg #[.string base, .string data, .int .i64 pos]] w fun e w' => e = .returned (.tuple #[.string (if badBase base then ⟨#[]⟩ else sb (itemB base data)), .int .i64 (if badBase base then 1 else 0)]) ∧ Below w.heap.size w w' := by
 go_enter Try.func61, Try.ntmps61
 go_wp2_with fail
 refine (press_calls data _ hd).mono ?_
 rintro e1 w1 ⟨rfl, hb1⟩
 have hblk := z0r (z0d w (.cells #[.string base, .string data, .int .i64 pos] 60)) hb1
 have hbel : Below w.heap.size w w1 := z07 (z03 (Below.refl _ _) _) hb1
 have hcv := conv_new w1 119
 rw [show ((119 : Nat) : Int) = 119 from rfl] at hcv
 have c0 : w1.cell? ⟨w.heap.size, 0, none⟩ = some (.string base) := (z0a hblk 0).trans rfl
 have c0' : (w1.alloc (.cells #[.int .u8 119] 5)).cell? ⟨w.heap.size, 0, none⟩ = some (.string base) := pw_cell_below (z03 (Below.refl _ _) _) c0
 have HB := Lib.hid hbel
 clear hb1 hblk hbel
 obtain ⟨p, hp⟩ : ∃ p, p = sb (pressP (bs data)) := ⟨_, rfl⟩
 rw [← hp] at hl ⊢
 have HL := Lib.hid hl
 clear hl
 have HP := Lib.hid hp
 clear hp
 have hps : p.size < 18446744073709551616 := by
  have := HL.out; omega
 have hwr : IntKind.u64.wrap (p.size : Int) = (p.size : Int) := by rw [IntKind.wrap_u64]; omega
 by_cases he : base = ⟨#[]⟩
 ·subst he
  have hnl : (sb (num p.size)).size ≤ 10 := by rw [z04]; exact z0f p.size hps
  have h119 : (sb [119]).size = 1 := by rw [z04]; rfl
  have hs1 : ¬ (9223372036854775807 < (sb [119]).size + (sb (num p.size)).size) := by omega
  have hs2 : ¬ (9223372036854775807 < (sb [119]).size + (sb (num p.size)).size + p.size) := by have := HL.out; omega
  have hit : sb [119] ++ sb (num p.size) ++ p = sb (itemB ⟨#[]⟩ data) := by
   rw [itemB, if_pos (show (⟨#[]⟩ : ByteArray).size = 0 from rfl), z0m, z0m, HP.out, z04]
  clear hnl h119
  go_wp2_with fail
  refine (num_calls p.size _ hps).mono ?_
  rintro e2 w2 ⟨rfl, hb2⟩
  have HB2 := Lib.hid (z07 (z03 HB.out (.cells #[.int .u8 119] 5)) hb2)
  clear hb2
  go_wp2_with fail
  go_ret2
  exact ⟨rfl, HB2.out⟩
 ·have hz : base.size ≠ 0 := fun h => he (ByteArray.ext (Array.eq_empty_of_size_eq_zero h))
  have hne : (!base.toList.isEmpty) = true := by
   rw [Bool.not_eq_true', List.isEmpty_eq_false_iff]
   intro h
   rw [toL] at h
   exact hz (by rw [← z01, bs, h]; rfl)
  by_cases h32 : base.size = 32
  ·have hbad : badBase base = false := by simp [badBase, h32]
   have h32b : ((base.size : Int) != 32) = false := by rw [h32]; rfl
   have hcv2 := conv_new (w1.alloc (.cells #[.int .u8 119] 5)) 109
   rw [show ((109 : Nat) : Int) = 109 from rfl, show (w1.alloc (.cells #[.int .u8 119] 5)).heap.size = w1.heap.size + 1 from by simp] at hcv2
   have c0'' : ((w1.alloc (.cells #[.int .u8 119] 5)).alloc (.cells #[.int .u8 109] 5)).cell? ⟨w.heap.size, 0, none⟩ = some (.string base) := pw_cell_below (z03 (Below.refl _ _) _) c0'
   have hnl : (sb (num p.size)).size ≤ 10 := by rw [z04]; exact z0f p.size hps
   have h109 : (sb [109]).size = 1 := by rw [z04]; rfl
   have hs0 : ¬ (9223372036854775807 < (sb [109]).size + base.size) := by omega
   have hs1 : ¬ (9223372036854775807 < (sb [109]).size + base.size + (sb (num p.size)).size) := by omega
   have hs2 : ¬ (9223372036854775807 < (sb [109]).size + base.size + (sb (num p.size)).size + p.size) := by have := HL.out; omega
   clear hnl h109 h32
   have hit : sb [109] ++ base ++ sb (num p.size) ++ p = sb (itemB base data) := by
    rw [itemB, if_neg hz, z0m, z0m, HP.out, z04, show (109 :: bs base) = [109] ++ bs base from rfl, z0m, sb_bs]
   go_wp2_with fail
   refine (num_calls p.size _ hps).mono ?_
   rintro e2 w2 ⟨rfl, hb2⟩
   have HB2 := Lib.hid (z07 (z03 (z03 HB.out (.cells #[.int .u8 119] 5)) (.cells #[.int .u8 109] 5)) hb2)
   clear hb2
   go_wp2_with fail
   all_goals (go_ret2; exact ⟨rfl, HB2.out⟩)
  ·have hbad : badBase base = true := by simp [badBase, hz, h32]
   have h32b : ((base.size : Int) != 32) = true := by simp; omega
   go_wp2_with fail
   all_goals first | (exfalso; exact he (by assumption)) | (go_ret2; exact ⟨rfl, z03 HB.out _⟩)
end Go.Proofs.Ytcfdplmapdgfmaa.Mine
