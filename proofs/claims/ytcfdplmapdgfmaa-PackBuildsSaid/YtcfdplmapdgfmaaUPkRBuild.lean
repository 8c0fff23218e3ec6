import Derived.Test.YtcfdplmapdgfmaaUPkRScan
import Derived.Test.YtcfdplmapdgfmaaUPurePress
import Derived.Test.YtcfdplmapdgfmaaUPkAw
set_option linter.unusedVariables false
set_option linter.unusedSimpArgs false
namespace Go.Proofs.Ytcfdplmapdgfmaa.Mine
open Go.RowKit Go.Proofs.YtcfdplmapdgfmaaW.PrintWords
theorem rPut_calls (base data : ByteArray) (pos : Int) (w : World) (hb : base.size ≤ 40) (hd : data.size ≤ 2000) :
  Calls Try.prog 64 #[.agg #[.string base, .string data, .int .i64 pos]] w fun e w' => e = .returned (.string (sb (itemB base data))) ∧ Below w.heap.size w w' := by
 have hpr := fun w => PU.z08.calls _ data _ w (refPress_is data hd _ (Nat.le_refl _))
 have hl := press_len (bs data) (by rw [z01]; omega) (bs_lt _)
 rw [z01] at hl
 obtain ⟨p, hp⟩ : ∃ p, p = sb (pressP (bs data)) := ⟨_, rfl⟩
 rw [← hp] at hpr
 have hps : p.size ≤ 80050 := by rw [hp, z04]; omega
 have hwr : IntKind.u64.wrap (p.size : Int) = (p.size : Int) := u64x _ (by omega)
 have hnum := fun w => refnum_calls p.size w (by omega)
 have hnl : (sb (num p.size)).size ≤ 10 := by rw [z04]; exact z0f p.size (by omega)
 have hit : sb (itemB base data) = (if base.size = 0 then ⟨#[119]⟩ else ⟨#[109]⟩ ++ base) ++ sb (num p.size) ++ p := by
  rw [itemB, z0m, z0m, hp, z04]
  split
  ·rfl
  ·rw [show (109 :: bs base) = [109] ++ bs base from rfl, z0m, sb_bs]; rfl
 have HIT := Lib.hid hit
 obtain ⟨N, hN⟩ : ∃ N, N = sb (num p.size) := ⟨_, rfl⟩
 rw [← hN] at hnum hnl
 obtain ⟨R, hR⟩ : ∃ R, R = sb (itemB base data) := ⟨_, rfl⟩
 rw [← hR]
 have HR := Lib.hid hR
 have HN := Lib.hid hN
 have s119 : (ByteArray.mk #[119]).size = 1 := rfl
 have s109 : (ByteArray.mk #[109]).size = 1 := rfl
 have y1 : ¬ (9223372036854775807 < (ByteArray.mk #[119]).size + N.size) := by omega
 have y2 : ¬ (9223372036854775807 < (ByteArray.mk #[119]).size + N.size + p.size) := by omega
 have y3 : ¬ (9223372036854775807 < (ByteArray.mk #[109]).size + base.size) := by omega
 have y4 : ¬ (9223372036854775807 < (ByteArray.mk #[109]).size + base.size + N.size) := by omega
 have y5 : ¬ (9223372036854775807 < (ByteArray.mk #[109]).size + base.size + N.size + p.size) := by omega
 clear hp hl hit hR hN s119 s109 hnl hps
 by_cases hz : base.size = 0
 ·have hE : base.toList.isEmpty = true := by
   have : base = ⟨#[]⟩ := ByteArray.ext (Array.eq_empty_of_size_eq_zero hz)
   rw [this, toL]; rfl
  go_enter Try.func64, Try.ntmps64
  go_wp2_with fail
  refine (hpr _).mono ?_
  rintro e w1 ⟨rfl, hb1⟩
  have hblk : w1.heap[w.heap.size]? = some (.cells #[.string base, .string data, .int .i64 pos] 61 (0, 0)) := z0r (z0d w _) hb1
  have HB1 := Lib.hid (z07 (z03 (Below.refl _ _) _) hb1)
  have c0 : w1.cell? ⟨w.heap.size, 0, none⟩ = some (.string base) := (z0a hblk 0).trans rfl
  clear hb1 hblk
  go_wp2_with fail
  refine (hnum _).mono ?_
  rintro e w2 ⟨rfl, hb2⟩
  have HB2 := Lib.hid (z07 HB1.out hb2)
  clear hb2
  go_wp2_with fail
  go_ret
  refine ⟨?_, HB2.out⟩
  rw [HR.out, HIT.out, if_pos hz, ← HN.out]; rfl
 ·have hE : base.toList.isEmpty = false := by
   rw [List.isEmpty_eq_false_iff]
   intro h
   rw [toL] at h
   exact hz (by rw [← z01, bs, h]; rfl)
  go_enter Try.func64, Try.ntmps64
  go_wp2_with fail
  refine (hpr _).mono ?_
  rintro e w1 ⟨rfl, hb1⟩
  have hblk : w1.heap[w.heap.size]? = some (.cells #[.string base, .string data, .int .i64 pos] 61 (0, 0)) := z0r (z0d w _) hb1
  have HB1 := Lib.hid (z07 (z03 (Below.refl _ _) _) hb1)
  have c0 : w1.cell? ⟨w.heap.size, 0, none⟩ = some (.string base) := (z0a hblk 0).trans rfl
  clear hb1 hblk
  go_wp2_with fail
  refine (hnum _).mono ?_
  rintro e w2 ⟨rfl, hb2⟩
  have HB2 := Lib.hid (z07 HB1.out hb2)
  clear hb2
  go_wp2_with fail
  go_ret
  refine ⟨?_, HB2.out⟩
  rw [HR.out, HIT.out, if_neg hz, ← HN.out]; rfl
set_option maxRecDepth 100000 in
set_option maxHeartbeats 4000000 in
theorem rbuild_calls (l : List ItemP) (A : Option Addr) (c : Nat) (w : World) (hC : Kd.C itemK w A l.length l) (hn : l.length ≤ 2048) (hbs : ∀ x ∈ l, x.base.size ≤ 40) (hd : ∀ x ∈ l, x.data.size ≤ 2000) (hl : (packB l).length ≤ 4194272) :
  Calls Try.prog 24 #[.slice A l.length c] w fun e w' => e = .returned (.tuple #[.string (if l.any (fun x => badBase x.base) then ⟨#[]⟩ else sb (packB l ++ sha (packB l))), .int .i64 (if l.any (fun x => badBase x.base) then 1 else 0)]) ∧ Below w.heap.size w w' := by
 obtain ⟨R1, hR1⟩ : ∃ x, x = (if l.any (fun x => badBase x.base) then ⟨#[]⟩ else sb (packB l ++ sha (packB l))) := ⟨_, rfl⟩
 obtain ⟨R2, hR2⟩ : ∃ x : Int, x = (if l.any (fun x => badBase x.base) then 1 else 0) := ⟨_, rfl⟩
 rw [← hR1, ← hR2]
 have HR1 := Lib.hid hR1
 have HR2 := Lib.hid hR2
 clear hR1 hR2
 have hnb : decide ((l.length : Int) > 2048) = false := by simp; omega
 have hwn : IntKind.u64.wrap (l.length : Int) = (l.length : Int) := u64x _ (by omega)
 have hnl : (sb (num l.length)).size ≤ 10 := by rw [z04]; exact z0f l.length (by omega)
 have hs1 : ¬ (9223372036854775807 < (ByteArray.mk #[112, 111, 108, 108, 97, 114, 100, 32, 112, 97, 99, 107, 10]).size + (sb (num l.length)).size) := by
  rw [show (ByteArray.mk #[112, 111, 108, 108, 97, 114, 100, 32, 112, 97, 99, 107, 10]).size = 13 from rfl]; omega
 have hpk : ByteArray.mk #[112, 111, 108, 108, 97, 114, 100, 32, 112, 97, 99, 107, 10] ++ sb (num l.length) = sb (packHead l.length) := by
  rw [packHead, z0m]; rfl
 have HPK := Lib.hid hpk
 have HC := Lib.hid hC
 have HD := Lib.hid hd
 have HBS := Lib.hid hbs
 have HL := Lib.hid hl
 clear hnl hC hd hl hpk hbs
 go_enter Try.func24, Try.ntmps24
 go_wp2_with (go_at_call 63; refine (title_calls _).mono ?_; rintro e w' ⟨rfl, hw'⟩; rw [hw']; clear hw')
 refine (refnum_calls l.length _ (by omega)).mono ?_
 rintro e w1 ⟨rfl, hb1⟩
 have HB1 := Lib.hid hb1
 clear hb1
 go_wp2_with fail
 rw [HPK.out]
 go_loopg [4, 5] l.length (fun gg s4 s5 wr => ∃ (j : Nat), j ≤ l.length ∧ gg = l.length - j ∧ s5 = .int .i64 j ∧ s4 = .string (sb (packHead l.length ++ flatB (l.take j))) ∧
   Hid (∀ x ∈ l.take j, badBase x.base = false) ∧ Hid (Below w.heap.size w wr))
 case atStart =>
  exact ⟨0, Nat.zero_le _, by omega, by go_num, by rw [List.take_zero, show flatB [] = [] from rfl, List.append_nil], fun x hx => by simp at hx, HB1.out⟩
 case round =>
  obtain ⟨j, hj, hgk, rfl, rfl, HOK, HB⟩ := hrel
  have HG := Lib.hid hgk
  clear hgk
  by_cases hlt : j < l.length
  ·have hltb : decide ((j : Int) < (l.length : Int)) = true := by simp; omega
   have hCr := Kd.z0t HC.out HB.out
   obtain ⟨x, rfl, k0, k1, k2⟩ := itemC_at hCr j hlt
   clear hCr
   have hmem : l[j] ∈ l := List.getElem_mem hlt
   have hD1 := HD.out _ hmem
   have hB1 := HBS.out _ hmem
   have hbit : (itemB l[j].base l[j].data).length + (packHead l.length ++ flatB (l.take j)).length ≤ (packB l).length := by
    have h1 := flatB_split l j
    rw [z1a, h1, flatB_drop l j hlt]
    simp only [List.length_append]; omega
   have hnext : sb (packHead l.length ++ flatB (l.take j)) ++ sb (itemB l[j].base l[j].data) = sb (packHead l.length ++ flatB (l.take (j + 1))) := by
    rw [← z0m, List.append_assoc, show flatB (l.take (j + 1)) = flatB (l.take j) ++ itemB l[j].base l[j].data from flat_take l j hlt]
   have hput := fun w => rPut_calls l[j].base l[j].data l[j].pos w hB1 hD1
   obtain ⟨I, hI⟩ : ∃ I, I = sb (itemB l[j].base l[j].data) := ⟨_, rfl⟩
   obtain ⟨O, hO⟩ : ∃ O, O = sb (packHead l.length ++ flatB (l.take j)) := ⟨_, rfl⟩
   rw [← hI] at hput hnext
   rw [← hO] at hnext ⊢
   have hle : O.size + I.size ≤ 4194272 := by have := HL.out; rw [hI, hO, z04, z04]; omega
   have hs2 : ¬ (9223372036854775807 < O.size + I.size) := by omega
   have hs3 : ¬ (4194272 < O.size + I.size) := by omega
   have hs4 : decide (((O ++ I).size : Int) > 4194272) = false := by rw [ByteArray.size_append]; simp; omega
   obtain ⟨B0, hB0⟩ : ∃ B, B = l[j].base := ⟨_, rfl⟩
   obtain ⟨D0, hD0⟩ : ∃ B, B = l[j].data := ⟨_, rfl⟩
   rw [← hB0] at k0 hput
   rw [← hD0] at k1 hput hD1
   have hgd : ¬ (1048576 < D0.size) := by omega
   have HN := Lib.hid hnext
   have HB0 := Lib.hid hB0
   clear hmem hnext hI hO hle hB1 hbit hD1 hB0 hD0
   by_cases hz : B0.size = 0
   ·have hE : B0.toList.isEmpty = true := by
     have : B0 = ⟨#[]⟩ := ByteArray.ext (Array.eq_empty_of_size_eq_zero hz)
     rw [this, toL]; rfl
    have hbad : badBase l[j].base = false := by rw [← HB0.out]; simp [badBase, hz]
    clear hz
    go_wp2_with fail
    refine (hput _).mono ?_
    rintro e w3 ⟨rfl, hb3⟩
    have HB3 := Lib.hid (HB.out.trans (hb3.mono HB.out.size))
    clear hb3
    go_wp2_with fail
    go_roundg (l.length - (j + 1))
    case measure => have := HG.out; omega
    case rel =>
     refine ⟨j + 1, by omega, rfl, by go_num, by rw [HN.out], ?_, HB3.out⟩
     unfold Hid
     intro y hy
     rw [List.take_succ_eq_append_getElem hlt, List.mem_append, List.mem_singleton] at hy
     rcases hy with hy | rfl
     ·exact HOK.out y hy
     ·exact hbad
   ·have hE : B0.toList.isEmpty = false := by
     rw [List.isEmpty_eq_false_iff]
     intro h
     rw [toL] at h
     exact hz (by rw [← z01, bs, h]; rfl)
    by_cases h32 : B0.size = 32
    ·have hbad : badBase l[j].base = false := by rw [← HB0.out]; simp [badBase, h32]
     have h32b : ((B0.size : Int) != 32) = false := by rw [h32]; rfl
     clear h32 hz
     go_wp2_with fail
     refine (hput _).mono ?_
     rintro e w3 ⟨rfl, hb3⟩
     have HB3 := Lib.hid (HB.out.trans (hb3.mono HB.out.size))
     clear hb3
     go_wp2_with fail
     go_roundg (l.length - (j + 1))
     case measure => have := HG.out; omega
     case rel =>
      refine ⟨j + 1, by omega, rfl, by go_num, by rw [HN.out], ?_, HB3.out⟩
      unfold Hid
      intro y hy
      rw [List.take_succ_eq_append_getElem hlt, List.mem_append, List.mem_singleton] at hy
      rcases hy with hy | rfl
      ·exact HOK.out y hy
      ·exact hbad
    ·have hbad : badBase l[j].base = true := by rw [← HB0.out]; simp [badBase, hz, h32]
     have hany : (l.any fun x => badBase x.base) = true := List.any_eq_true.2 ⟨l[j], List.getElem_mem hlt, hbad⟩
     have h32b : ((B0.size : Int) != 32) = true := by simp; omega
     clear h32 hz
     go_wp2_with fail
     go_ret2
     refine ⟨?_, HB.out⟩
     rw [HR1.out, HR2.out, if_pos hany, if_pos hany]; rfl
  ·obtain rfl : j = l.length := by omega
   have hltb : decide ((l.length : Int) < (l.length : Int)) = false := by simp
   have hany : (l.any fun x => badBase x.base) = false := by
    rw [List.any_eq_false]
    intro y hy
    have := HOK.out y (by rw [List.take_length]; exact hy)
    simp [this]
   have hO : sb (packHead l.length ++ flatB (l.take l.length)) = sb (packB l) := by rw [List.take_length, z1a]
   rw [hO]
   obtain ⟨S, hS⟩ : ∃ S, S = sb (packB l) := ⟨_, rfl⟩
   have hlt2 := packB_lt l (fun x hx => by have := HD.out x hx; omega)
   have hSs : S.size ≤ 4194272 := by rw [hS, z04]; exact HL.out
   have hof := fun w => refsum_calls S w (by omega)
   obtain ⟨T, hT⟩ : ∃ T, T = sb (refSum (bs S)) := ⟨_, rfl⟩
   rw [← hT] at hof
   have hTs : T.size = 32 := by rw [hT, ← sha_ref, z04, sha_length]
   have hss : ¬ (9223372036854775807 < S.size + T.size) := by omega
   have hlast : S ++ T = sb (packB l ++ sha (packB l)) := by rw [z0m, ← hS, hT, hS, bs_sb _ hlt2, sha_ref]
   have HLS := Lib.hid hlast
   rw [← hS]
   clear hlt2 hS hT hlast HOK hTs hO
   go_wp2_with fail
   refine (hof _).mono ?_
   rintro e w3 ⟨rfl, hb3⟩
   have HB3 := Lib.hid (HB.out.trans (hb3.mono HB.out.size))
   clear hb3
   go_wp2_with fail
   go_ret2
   refine ⟨?_, HB3.out⟩
   rw [HR1.out, HR2.out, hany, ← HLS.out]; rfl
end Go.Proofs.Ytcfdplmapdgfmaa.Mine
