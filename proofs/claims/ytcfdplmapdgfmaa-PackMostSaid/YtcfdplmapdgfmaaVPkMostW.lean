import Derived.Test.YtcfdplmapdgfmaaVPkAw
import Derived.OwnWalk
import Derived.Laws.BitsLemmas
set_option linter.unusedVariables false
set_option linter.unusedSimpArgs false
namespace Go.Proofs.Ytcfdplmapdgfmaa.Mine
open Go.RowKit Go.Proofs.YtcfdplmapdgfmaaW.PrintWords
theorem and3 (n : Int) : bits .and .i64 n 3 = n % 4 := by
 have h3 : (BitVec.ofInt 64 3).toNat = 2 ^ 2 - 1 := by decide
 have key : (BitVec.ofInt 64 n &&& BitVec.ofInt 64 3).toNat = (n % ((2 ^ 64 : Nat) : Int)).toNat % 2 ^ 2 := by
  rw [BitVec.toNat_and, BitVec.toNat_ofInt, h3, Nat.and_two_pow_sub_one_eq_mod]
 show IntKind.i64.wrap ((BitVec.ofInt 64 n &&& BitVec.ofInt 64 3).toNat : Nat) = n % 4
 rw [key, IntKind.wrap_i64]
 omega
theorem build_much (A : Option Addr) (n c : Nat) (w : World) (hn : 2048 < n) :
  Calls Try.prog 23 #[.slice A n c] w fun e w' => e = .returned (.tuple #[.string ⟨#[]⟩, .int .i64 3]) ∧ Below w.heap.size w w' := by
 have hb : decide ((n : Int) > 2048) = true := by simp; omega
 go_enter Try.func23, Try.ntmps23
 go_wp2_with fail
 go_ret2
 exact ⟨rfl, Below.refl _ _⟩
def zX : ItemP := ⟨⟨#[]⟩, ⟨#[]⟩, 0⟩
theorem item_info : ∃ i, Try.prog.info? 60 = some i ∧ i.zero = some (.agg #[.string ⟨#[]⟩, .string ⟨#[]⟩, .int .i64 0]) ∧ i.size = 3 ∧ i.bytes = 40 := by
 have h := info_item
 obtain ⟨i, hi, hz⟩ := Option.map_eq_some_iff.1 h
 simp only [Prod.mk.injEq] at hz
 exact ⟨i, hi, hz.1, hz.2.1, hz.2.2⟩
theorem itemC_made {w : World} {g base k : Nat} (h : w.ownsRow base 60 3 (.slice (some ⟨g, 0, none⟩) k k) k (madeCells (Value.agg #[.string ⟨#[]⟩, .string ⟨#[]⟩, .int .i64 0]).cells (k * 3)).toList) : Kd.C itemK w (some ⟨g, 0, none⟩) k (List.replicate k zX) := by
 have hl : (List.replicate k zX).length = k := List.length_replicate
 have hr : Kd.R itemK 60 w base (fun _ => True) (.slice (some ⟨g, 0, none⟩) k k) (List.replicate k zX) :=
  ⟨fun _ _ => trivial, _, by rw [hl]; exact h, Kd.reps_made (size := 3) rfl (by decide) (item_M w _ _ zX) k⟩
 have := (Kd.R_reads' hr).2.2
 rwa [hl] at this
set_option maxRecDepth 100000 in
set_option maxHeartbeats 2000000 in
theorem packMost_calls (n : Int) (w : World) :
  Calls Try.prog 7 #[.int .i64 n] w fun e w' => e = .returned (.bool true) ∧ Below w.heap.size w w' := by
 obtain ⟨j, hj, hj2⟩ : ∃ j : Nat, bits .and .i64 n 3 = (j : Int) ∧ j ≤ 3 := ⟨(n % 4).toNat, by rw [and3]; omega, by omega⟩
 obtain ⟨k, hk⟩ : ∃ k : Nat, k = 2046 + j := ⟨_, rfl⟩
 have hkz : (2046 : Int) + (j : Int) = (k : Int) := by omega
 have hk1 : 2046 ≤ k := by omega
 have hk2 : k ≤ 2049 := by omega
 obtain ⟨inf, i1, i2, i3, i4⟩ := item_info
 have HI := Lib.hid (And.intro i1 (And.intro i2 (And.intro i3 i4)))
 clear i1 i2 i3 i4 hk
 go_enter Try.func7, Try.ntmps7
 go_wp2_with (at_make; refine wpList_make_full _ rfl _ _ 48 rfl w.heap.size 60 inf (.agg #[.string ⟨#[]⟩, .string ⟨#[]⟩, .int .i64 0]) 3 Try.underlying48 HI.out.1 HI.out.2.1 HI.out.2.2.1 .i64 .i64 _ _ k rfl rfl rfl rfl (by rw [HI.out.2.2.2]; omega) (by unfold maxLen; omega) (Nat.le_refl _) ?_; intro w1 hown hg1; have HC := Lib.hid (itemC_made hown); have HB1 := Lib.hid hg1; clear hown hg1)
 have HW1 := Lib.hid ((Below.refl w.heap.size w).grown HB1.out (Nat.le_refl _) (fun k e => by cases e))
 clear HB1 HI
 by_cases hbig : 2048 < k
 ·have hbb : decide ((k : Int) > 2048) = true := by simp; omega
  refine (build_much _ k k _ hbig).mono ?_
  rintro e w2 ⟨rfl, hb2⟩
  have HW2 := Lib.hid (HW1.out.trans (hb2.mono HW1.out.size))
  clear hb2 HW1
  go_wp2_with fail
  refine (pkAwake_calls _).mono ?_
  rintro e w5 ⟨rfl, hb5⟩
  have HW5 := Lib.hid (HW2.out.trans (hb5.mono HW2.out.size))
  clear hb5
  go_wp2_with fail
  go_ret
  exact ⟨rfl, HW5.out⟩
 ·have hbb : decide ((k : Int) > 2048) = false := by simp; omega
  have hrl : (List.replicate k zX).length = k := List.length_replicate
  have hrx : ∀ x ∈ List.replicate k zX, x = zX := fun x hx => (List.mem_replicate.1 hx).2
  have hnb : ∀ x ∈ List.replicate k zX, badBase x.base = false := fun x hx => by rw [hrx x hx]; decide
  have hany : ((List.replicate k zX).any fun x => badBase x.base) = false := by
   rw [List.any_eq_false]; intro x hx; rw [hnb x hx]; simp
  have hd : ∀ x ∈ List.replicate k zX, x.data.size ≤ 1048576 := fun x hx => by rw [hrx x hx]; decide
  have hlen : (packB (List.replicate k zX)).length ≤ 4194272 := by
   have := packB_len (List.replicate k zX) 101 (by rw [hrl]; omega) (fun x hx => by rw [hrx x hx]; exact itemB_len _ _ (by decide) (by decide))
   rw [hrl] at this; omega
  have hsd : sumD (List.replicate k zX) ≤ 16777216 := by
   rw [sumD, List.map_replicate, List.sum_replicate_nat]
   show k * 0 ≤ _
   omega
  have hbc := build_calls (List.replicate k zX) _ k w1 (by rw [hrl]; exact HC.out) (by rw [hrl]; omega) (by rw [hrl]; omega) hd hlen
  have hsc := fun w => scan_calls (List.replicate k zX) w hnb (by rw [hrl]; omega) hd hlen hsd
  rw [hany] at hbc
  rw [hrl] at hbc hsc
  obtain ⟨P, hP⟩ : ∃ P, P = sb (packB (List.replicate k zX) ++ sha (packB (List.replicate k zX))) := ⟨_, rfl⟩
  rw [← hP] at hbc hsc
  simp only [Bool.false_eq_true, if_false] at hbc
  have HS := Lib.hid hsc
  clear hP hsc hsd hlen hd hany hnb hrx
  refine hbc.mono ?_
  rintro e w2 ⟨rfl, hb2⟩
  have HW2 := Lib.hid (HW1.out.trans (hb2.mono HW1.out.size))
  clear hb2 hbc hrl
  go_wp2_with fail
  refine (HS.out _).mono ?_
  rintro e w3 ⟨A, c, rfl, _, hb3⟩
  have HW3 := Lib.hid (HW2.out.trans (hb3.mono HW2.out.size))
  clear hb3
  go_wp2_with fail
  refine (pkAwake_calls _).mono ?_
  rintro e w5 ⟨rfl, hb5⟩
  have HW5 := Lib.hid (HW3.out.trans (hb5.mono HW3.out.size))
  clear hb5
  have hkk : ((k : Int) == (k : Int)) = true := by simp
  go_wp2_with fail
  go_ret
  exact ⟨rfl, HW5.out⟩
end Go.Proofs.Ytcfdplmapdgfmaa.Mine
