import Derived.Test.YtcfdplmapdgfmaaQIxNew
import Derived.Test.YtcfdplmapdgfmaaQIxNum
import Derived.Test.YtcfdplmapdgfmaaQPkRGet
import Derived.Test.YtcfdplmapdgfmaaQIxAw
set_option linter.unusedVariables false
set_option linter.unusedSimpArgs false
namespace Go.Proofs.Ytcfdplmapdgfmaa.Mine
open List renaming setIfInBounds_toArray → q1, set_cons_zero → q2, set_cons_succ → q3
open Go.RowKit Go.Proofs.YtcfdplmapdgfmaaW.PrintWords
def ixHead (pack : ByteArray) : List Nat := [112, 111, 108, 108, 97, 114, 100, 32, 105, 110, 100, 101, 120, 10] ++ bs pack
def fansB (S : List SpotP) (m : Nat) : List Nat := ((List.range m).map fun b => fourB (fanN S (b + 1))).flatten
def rowsB (S : List SpotP) : List Nat := (S.map fun x => bs x.id ++ fourB x.pos.toNat).flatten
def encI (pack : ByteArray) (S : List SpotP) : List Nat := ixHead pack ++ fansB S 256 ++ rowsB S
theorem fansB_step (S : List SpotP) (m : Nat) : fansB S (m + 1) = fansB S m ++ fourB (fanN S (m + 1)) := by
 rw [fansB, fansB, List.range_succ, List.map_append, List.flatten_append]; simp
theorem fansB_len (S : List SpotP) (m : Nat) : (fansB S m).length = 4 * m := by
 induction m with
 | zero => rfl
 | succ m ih => rw [fansB_step, List.length_append, ih, z0l]; omega
theorem rowsB_step (S : List SpotP) (j : Nat) (hj : j < S.length) : rowsB (S.take (j + 1)) = rowsB (S.take j) ++ (bs S[j].id ++ fourB S[j].pos.toNat) := by
 rw [rowsB, rowsB, List.take_succ_eq_append_getElem hj, List.map_append, List.flatten_append]; simp
theorem rowsB_len (S : List SpotP) (hg : ∀ x ∈ S, goodS x) : (rowsB S).length = 36 * S.length := by
 induction S with
 | nil => rfl
 | cons x S ih =>
  have h1 := (hg x (List.mem_cons_self ..)).1
  have h2 := ih fun y hy => hg y (List.mem_cons_of_mem _ hy)
  rw [show rowsB (x :: S) = (bs x.id ++ fourB x.pos.toNat) ++ rowsB S from rfl, List.length_append, List.length_append, z05, z0l, h1, h2, List.length_cons]; omega
theorem fansB_lt (S : List SpotP) (m : Nat) : ∀ c ∈ fansB S m, c < 256 := by
 intro c hc
 obtain ⟨y, hy, hcy⟩ := List.mem_flatten.1 hc
 obtain ⟨b, _, rfl⟩ := List.mem_map.1 hy
 exact fourB_lt _ c hcy
theorem rowsB_lt (S : List SpotP) : ∀ c ∈ rowsB S, c < 256 := by
 intro c hc
 obtain ⟨y, hy, hcy⟩ := List.mem_flatten.1 hc
 obtain ⟨b, _, rfl⟩ := List.mem_map.1 hy
 exact lt_app (bs_lt _) (fourB_lt _) c hcy
theorem ixHead_lt (pack : ByteArray) : ∀ c ∈ ixHead pack, c < 256 := lt_app (by intro c hc; simp at hc; omega) (bs_lt _)
theorem encI_lt (pack : ByteArray) (S : List SpotP) : ∀ c ∈ encI pack S, c < 256 := lt_app (lt_app (ixHead_lt _) (fansB_lt _ _)) (rowsB_lt _)
theorem encI_len (pack : ByteArray) (S : List SpotP) (hp : pack.size = 32) (hg : ∀ x ∈ S, goodS x) : (encI pack S).length = 1070 + 36 * S.length := by
 rw [encI, List.length_append, List.length_append, fansB_len, rowsB_len S hg, ixHead, List.length_append, z05, hp]; simp
set_option maxRecDepth 100000 in
set_option maxHeartbeats 1000000 in
theorem rencode_calls (pack : ByteArray) (S : List SpotP) (A : Option Addr) (c : Nat) (w : World) (hC : Kd.C spotK w A S.length S) (hl : S.length ≤ 2048) (hp : pack.size = 32) (hg : ∀ x ∈ S, goodS x) :
  Calls Try.prog 34 #[.string pack, .slice A S.length c] w fun e w' => e = .returned (.string (sb (encI pack S ++ sha (encI pack S)))) ∧ Below w.heap.size w w' := by
 have hs1 : ¬ (9223372036854775807 < (ByteArray.mk #[112, 111, 108, 108, 97, 114, 100, 32, 105, 110, 100, 101, 120, 10]).size + pack.size) := by
  rw [show (ByteArray.mk #[112, 111, 108, 108, 97, 114, 100, 32, 105, 110, 100, 101, 120, 10]).size = 14 from rfl]; omega
 have hpk : ByteArray.mk #[112, 111, 108, 108, 97, 114, 100, 32, 105, 110, 100, 101, 120, 10] ++ pack = sb (ixHead pack ++ fansB S 0) := by
  rw [show fansB S 0 = [] from rfl, List.append_nil, ixHead, z0b, sb_bs]; rfl
 have HPK := Lib.hid hpk
 have HC := Lib.hid hC
 have HGD := Lib.hid hg
 have hhl : (ixHead pack).length = 46 := by rw [ixHead, List.length_append, z05, hp]; rfl
 have HHL := Lib.hid hhl
 have HLT := Lib.hid (encI_lt pack S)
 have HLE := Lib.hid (encI_len pack S hp hg)
 clear hC hg hpk hhl hp
 obtain ⟨R, hR⟩ : ∃ R, R = sb (encI pack S ++ sha (encI pack S)) := ⟨_, rfl⟩
 rw [← hR]
 have HRR := Lib.hid hR
 clear hR
 go_enter Try.func34, Try.ntmps34
 go_wp2_with fail
 rw [HPK.out]
 go_loopg [5, 6] 256 (fun gg s5 s6 wr => ∃ b : Nat, b ≤ 256 ∧ gg = 256 - b ∧ s6 = .int .i64 b ∧ s5 = .string (sb (ixHead pack ++ fansB S b)) ∧ Hid (Below w.heap.size w wr))
 case atStart =>
  exact ⟨0, by omega, rfl, by go_num, rfl, Below.refl _ _⟩
 case round =>
  obtain ⟨b, hb, hgk, rfl, rfl, HB⟩ := hrel
  have HG := Lib.hid hgk
  clear hgk
  by_cases hlt : b < 256
  ·have hltb : decide ((b : Int) < 256) = true := by simp; omega
   obtain ⟨O, hO⟩ : ∃ O, O = sb (ixHead pack ++ fansB S b) := ⟨_, rfl⟩
   rw [← hO]
   have hOs : O.size ≤ 2000 := by rw [hO, z09, List.length_append, fansB_len, HHL.out]; omega
   have HO := Lib.hid hO
   clear hO
   go_wp2_with fail
   obtain ⟨W0, rfl⟩ : ∃ W, W = wr := ⟨_, rfl⟩
   go_loopg [7, 8] S.length (fun gg s7 s8 wq => ∃ i : Nat, i ≤ S.length ∧ gg = S.length - i ∧ s8 = .int .i64 i ∧ s7 = .int .i64 (fanN (S.take i) (b + 1)) ∧ Hid (W0 = wq))
   case atStart =>
    exact ⟨0, Nat.zero_le _, by omega, by go_num, by rw [List.take_zero]; rfl, rfl⟩
   case round =>
    obtain ⟨i, hi, hgi, rfl, rfl, HW⟩ := hrel
    have HGI := Lib.hid hgi
    clear hgi
    have hW := HW.out
    subst hW
    by_cases hil : i < S.length
    ·have hilb : decide ((i : Int) < (S.length : Int)) = true := by simp; omega
     obtain ⟨x, rfl, k0, k1⟩ := spotC_at (Kd.z07 HC.out HB.out) i hil
     obtain ⟨y, hy⟩ : ∃ y, y = S[i] := ⟨_, rfl⟩
     rw [← hy] at k0 k1
     have hyz : y.id.size = 32 := by rw [hy]; exact (HGD.out _ (List.getElem_mem hil)).1
     have hix := z0e y.id 0 ((fb y : Nat) : Int) 0 rfl (by omega) rfl
     have hfb : fb y < 256 := by unfold fb; exact bsD_lt _ _
     have hstep := fan_step (S.take i) y (b + 1)
     have htk : S.take (i + 1) = S.take i ++ [y] := by rw [List.take_succ_eq_append_getElem hil, hy]
     obtain ⟨m, hm⟩ : ∃ m, m = fanN (S.take i) (b + 1) := ⟨_, rfl⟩
     rw [← hm] at hstep ⊢
     have hm2 : m ≤ 2048 := by rw [hm]; have := fan_le (S.take i) (b + 1); rw [List.length_take] at this; omega
     obtain ⟨f, hf⟩ : ∃ f, f = fb y := ⟨_, rfl⟩
     rw [← hf] at hix hfb hstep
     have HST := Lib.hid (And.intro hstep htk)
     clear hy hyz hstep htk hm hf k1
     by_cases hfb2 : f ≤ b
     ·have hle : decide ((f : Int) ≤ (b : Int)) = true := by simp; omega
      have hwm : IntKind.i64.wrap ((m : Int) + 1) = (m : Int) + 1 := by rw [IntKind.wrap_i64]; omega
      go_wp2_with fail
      go_roundg (S.length - (i + 1))
      case measure => have := HGI.out; omega
      case rel =>
       refine ⟨i + 1, by omega, rfl, by go_num, ?_, rfl⟩
       rw [HST.out.2, HST.out.1, if_pos (by omega)]; go_num
     ·have hle : decide ((f : Int) ≤ (b : Int)) = false := by simp; omega
      go_wp2_with fail
      go_roundg (S.length - (i + 1))
      case measure => have := HGI.out; omega
      case rel =>
       refine ⟨i + 1, by omega, rfl, by go_num, ?_, rfl⟩
       rw [HST.out.2, HST.out.1, if_neg (by omega)]; rfl
    ·obtain rfl : i = S.length := by omega
     have hilb : decide ((S.length : Int) < (S.length : Int)) = false := by simp
     rw [List.take_length]
     obtain ⟨m, hm⟩ : ∃ m, m = fanN S (b + 1) := ⟨_, rfl⟩
     rw [← hm]
     have hm2 : m ≤ 2048 := by rw [hm]; have := fan_le S (b + 1); omega
     have hf4 := fun w => four_calls m w (by omega)
     obtain ⟨F, hF⟩ : ∃ F, F = sb (fourB m) := ⟨_, rfl⟩
     rw [← hF] at hf4
     have hFs : F.size = 4 := by rw [hF, z09, z0l]
     have hs2 : ¬ (9223372036854775807 < O.size + F.size) := by omega
     have hnx : O ++ F = sb (ixHead pack ++ fansB S (b + 1)) := by rw [HO.out, hF, ← z0b, fansB_step, hm, List.append_assoc]
     have HNX := Lib.hid hnx
     clear hm hF hFs hnx
     go_wp2_with fail
     refine (hf4 _).mono ?_
     rintro e w3 ⟨rfl, hb3⟩
     have HB3 := Lib.hid (HB.out.trans (hb3.mono HB.out.size))
     clear hb3
     go_wp2_with fail
     go_roundg (256 - (b + 1))
     case measure => have := HG.out; omega
     case rel =>
      exact ⟨b + 1, by omega, rfl, by go_num, by rw [HNX.out], HB3.out⟩
  ·obtain rfl : b = 256 := by omega
   go_wp2_with fail
   have h0 : sb (ixHead pack ++ fansB S 256) = sb (ixHead pack ++ fansB S 256 ++ rowsB (S.take 0)) := by rw [List.take_zero, show rowsB [] = [] from rfl, List.append_nil]
   rw [h0]
   clear h0
   obtain ⟨W0, rfl⟩ : ∃ W, W = wr := ⟨_, rfl⟩
   go_loopg [5, 9] S.length (fun gg s5 s9 wq => ∃ i : Nat, i ≤ S.length ∧ gg = S.length - i ∧ s9 = .int .i64 i ∧ s5 = .string (sb (ixHead pack ++ fansB S 256 ++ rowsB (S.take i))) ∧ Hid (Below w.heap.size w wq))
   case atStart =>
    exact ⟨0, Nat.zero_le _, by omega, by go_num, rfl, HB.out⟩
   case round =>
    obtain ⟨i, hi, hgi, rfl, rfl, HBQ⟩ := hrel
    have HGI := Lib.hid hgi
    clear hgi
    by_cases hil : i < S.length
    ·have hilb : decide ((i : Int) < (S.length : Int)) = true := by simp; omega
     obtain ⟨x, rfl, k0, k1⟩ := spotC_at (Kd.z07 HC.out HBQ.out) i hil
     have hgy := HGD.out _ (List.getElem_mem hil)
     have hstep := rowsB_step S i hil
     obtain ⟨y, hy⟩ : ∃ y, y = S[i] := ⟨_, rfl⟩
     rw [← hy] at k0 k1 hgy hstep
     obtain ⟨n, hn⟩ : ∃ n, n = y.pos.toNat := ⟨_, rfl⟩
     have hn2 : y.pos = (n : Int) := by have := hgy.2.1; omega
     have hn3 : n ≤ 4194304 := by have := hgy.2.2; omega
     rw [hn2] at k1
     rw [← hn] at hstep
     have hf4 := fun w => four_calls n w (by omega)
     obtain ⟨F, hF⟩ : ∃ F, F = sb (fourB n) := ⟨_, rfl⟩
     rw [← hF] at hf4
     obtain ⟨O, hO⟩ : ∃ O, O = sb (ixHead pack ++ fansB S 256 ++ rowsB (S.take i)) := ⟨_, rfl⟩
     have hOs : O.size ≤ 80000 := by
      rw [hO, z09, List.length_append, List.length_append, fansB_len, HHL.out, rowsB_len _ (fun z hz => HGD.out z (List.mem_of_mem_take hz)), List.length_take]; omega
     have hnx : O ++ (y.id ++ F) = sb (ixHead pack ++ fansB S 256 ++ rowsB (S.take (i + 1))) := by
      rw [hO, hF, hstep, ← List.append_assoc, z0b (ixHead pack ++ fansB S 256 ++ rowsB (S.take i)), z0b (bs y.id), sb_bs]
     have HNX := Lib.hid hnx
     have hFs : F.size = 4 := by rw [hF, z09, z0l]
     have y1 : ¬ (y.id.size + F.size > 9223372036854775807) := by have := hgy.1; omega
     have y2 : ¬ (O.size + (y.id ++ F).size > 9223372036854775807) := by have := hgy.1; rw [ByteArray.size_append]; omega
     have y3 : ¬ (O.size + (y.id.size + F.size) > 9223372036854775807) := by have := hgy.1; omega
     rw [← hO]
     have HK := Lib.hid (And.intro k0 k1)
     have q1 : (i : Int) < (S.length : Int) := by omega
     clear hO hF hn hn2 hstep hgy hy hnx hFs
     go_wp2_with fail
     go_region_held3 (fun w' => w'.cell? (x.add (i * 2)) = some (.string y.id) ∧ w'.cell? ⟨(x.add (i * 2)).block, (x.add (i * 2)).off + 1, none⟩ = some (.int .i64 (n : Int)))
      (first | exact ⟨z00 HP8.out HK.out.1, z00 HP8.out HK.out.2⟩ | exact ⟨z00 (z03 (Below.refl _ _)) HK.out.1, z00 (z03 (Below.refl _ _)) HK.out.2⟩)
      (first | (go_at_call 77; refine (hf4 _).mono ?_; rintro e w5 ⟨rfl, hb5⟩; have HP8 := Lib.hid (show Below wr.heap.size wr w5 from ⟨hb5.os, hb5.tape, hb5.output, hb5.size, hb5.block⟩); clear hb5))
     all_goals go_wp2_with fail
     all_goals (
      go_roundg (S.length - (i + 1))
      case measure => have := HGI.out; omega
      case rel =>
       exact ⟨i + 1, by omega, rfl, by go_num, by rw [← HNX.out], HBQ.out.trans (HP8.out.mono HBQ.out.size)⟩)
    ·obtain rfl : i = S.length := by omega
     have hilb : decide ((S.length : Int) < (S.length : Int)) = false := by simp
     rw [List.take_length, show ixHead pack ++ fansB S 256 ++ rowsB S = encI pack S from rfl]
     obtain ⟨E, hE⟩ : ∃ E, E = sb (encI pack S) := ⟨_, rfl⟩
     rw [← hE]
     have hEs : E.size ≤ 80000 := by rw [hE, z09, HLE.out]; omega
     have hof := fun w => refsum_calls E w (by omega)
     obtain ⟨T, hT⟩ : ∃ T, T = sb (refSum (bs E)) := ⟨_, rfl⟩
     rw [← hT] at hof
     have hTs : T.size = 32 := by rw [hT, ← sha_ref, z09, sha_length]
     have hss : ¬ (9223372036854775807 < E.size + T.size) := by omega
     have hlast : R = E ++ T := by rw [HRR.out, z0b, ← hE, hT, hE, bs_sb _ HLT.out, sha_ref]
     have HLS := Lib.hid hlast
     clear hE hT hlast hTs
     go_wp2_with fail
     refine (hof _).mono ?_
     rintro e w3 ⟨rfl, hb3⟩
     have HB3 := Lib.hid (HBQ.out.trans (hb3.mono HBQ.out.size))
     clear hb3
     go_wp2_with fail
     go_ret
     exact ⟨by rw [HLS.out]; rfl, HB3.out⟩
end Go.Proofs.Ytcfdplmapdgfmaa.Mine
