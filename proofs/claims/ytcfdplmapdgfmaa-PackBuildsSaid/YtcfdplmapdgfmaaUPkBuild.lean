import Derived.Test.YtcfdplmapdgfmaaUPkEntry
import Derived.Test.YtcfdplmapdgfmaaUSmB
import Derived.Test.YtcfdplmapdgfmaaULzB
set_option linter.unusedVariables false
set_option linter.unusedSimpArgs false
namespace Go.Proofs.Ytcfdplmapdgfmaa.Mine
open Go.RowKit Go.Proofs.YtcfdplmapdgfmaaW.PrintWords
def itemK : Kd ItemP := Kd.iso (Kd.pair Kd.string (Kd.pair Kd.string (Kd.int .i64))) (fun x => (x.base, x.data, x.pos))
def packHead (n : Nat) : List Nat := [112, 111, 108, 108, 97, 114, 100, 32, 112, 97, 99, 107, 10] ++ num n
def packB (l : List ItemP) : List Nat := packHead l.length ++ (l.map fun x => itemB x.base x.data).flatten
theorem flat_take (l : List ItemP) (j : Nat) (hj : j < l.length) : ((l.take (j + 1)).map fun x => itemB x.base x.data).flatten = ((l.take j).map fun x => itemB x.base x.data).flatten ++ itemB l[j].base l[j].data := by
 rw [List.take_succ_eq_append_getElem hj, List.map_append, List.flatten_append]; simp
theorem add_at (x : Addr) (m n : Nat) (h : n ≠ 0) : x.add (m + n) = ⟨(x.add m).block, (x.add m).off + n, none⟩ := by
 unfold Addr.add
 by_cases hm : m = 0
 ·subst hm; simp [h]
 ·simp [h, hm, Nat.add_assoc]
theorem itemC_at {w : World} {A : Option Addr} {l : List ItemP} (h : Kd.C itemK w A l.length l) (j : Nat) (hj : j < l.length) : ∃ x, A = some x ∧ w.cell? (x.add (j * 3)) = some (.string l[j].base) ∧ w.cell? ⟨(x.add (j * 3)).block, (x.add (j * 3)).off + 1, none⟩ = some (.string l[j].data) ∧ w.cell? ⟨(x.add (j * 3)).block, (x.add (j * 3)).off + 2, none⟩ = some (.int .i64 l[j].pos) := by
 obtain ⟨ad, c, hA, hl, hK, hc⟩ := Kd.C_get h ⟨ByteArray.empty, ByteArray.empty, 0⟩ (j : Int) (Int.natCast_nonneg _) (by omega)
 refine ⟨ad, hA, ?_⟩
 obtain ⟨c0, c1, rfl, hK0, c2, c3, rfl, hK1, hK2⟩ := hK
 have k0 : c0 = [Value.string (l.getD (j : Int).toNat ⟨ByteArray.empty, ByteArray.empty, 0⟩).base] := hK0
 have k1 : c2 = [Value.string (l.getD (j : Int).toNat ⟨ByteArray.empty, ByteArray.empty, 0⟩).data] := hK1
 have k2 : c3 = [Value.int .i64 (l.getD (j : Int).toNat ⟨ByteArray.empty, ByteArray.empty, 0⟩).pos] := hK2
 subst k0 k1 k2
 have h0 := hc 0 _ rfl
 have h1 := hc 1 _ rfl
 have h2 := hc 2 _ rfl
 simp only [List.getD_eq_getElem?_getD, Int.toNat_natCast, List.getElem?_eq_getElem hj, Option.getD_some] at h0 h1 h2
 have e : itemK.sz = 3 := rfl
 rw [e, add_at _ _ _ (by decide)] at h1 h2
 exact ⟨h0, h1, h2⟩
theorem flat_le (l : List ItemP) (j : Nat) : ((l.take j).map fun x => itemB x.base x.data).flatten.length ≤ (l.map fun x => itemB x.base x.data).flatten.length := by
 have h : (l.map fun x => itemB x.base x.data).flatten = ((l.take j).map fun x => itemB x.base x.data).flatten ++ ((l.drop j).map fun x => itemB x.base x.data).flatten := by
  rw [← List.flatten_append, ← List.map_append, List.take_append_drop]
 rw [h, List.length_append]; omega
theorem eat_len8 : ∀ (k : Nat) (v p : List Nat), p.length ≤ k → v.length = 8 → (eat v p).1.length = 8 := by
 intro k
 induction k with
 | zero => intro v p hk hv; rw [eat_end v p (by omega)]; exact hv
 | succ k ih =>
  intro v p hk hv
  by_cases h : 64 ≤ p.length
  ·rw [eat_step v p h]; exact ih _ _ (by rw [List.length_drop]; omega) (stir_length _ _)
  ·rw [eat_end v p (by omega)]; exact hv
theorem sha_length (l : List Nat) : (sha l).length = 32 := by
 rw [sha_eq, z1i, eat_len8 _ _ _ (Nat.le_refl _) rfl]
theorem MBuf.shape {B : Nat} {l : List Nat} {v : Value} {w : World} (h : MBuf B l v w) : ∃ A c, v = .slice A l.length c := by
 rcases h.own with ⟨rfl, rfl⟩ | ⟨g, cap, cur, fz, rfl, _⟩
 ·exact ⟨none, 0, rfl⟩
 ·exact ⟨_, _, rfl⟩
theorem pressP_lt (s : List Nat) (hs : s.length ≤ 1048576) (hl : ∀ c ∈ s, c < 256) : ∀ c ∈ pressP s, c < 256 := by
 rw [pressP]
 exact z0c (z0i _) ((mkP_steps s _ 0 0 rfl (Nat.le_refl _) (Nat.zero_le _)).fits hs hl).2.1
theorem itemB_lt (b d : ByteArray) (hd : d.size ≤ 1048576) : ∀ c ∈ itemB b d, c < 256 := by
 rw [itemB]
 refine z0c (z0c ?_ (z0i _)) (pressP_lt _ (by rw [z01]; exact hd) (bs_lt _))
 split
 ·intro c hc; simp at hc; omega
 ·intro c hc
  rcases List.mem_cons.1 hc with rfl | h
  ·omega
  ·exact bs_lt _ c h
set_option maxRecDepth 100000 in
set_option maxHeartbeats 4000000 in
theorem build_calls (l : List ItemP) (A : Option Addr) (c : Nat) (w : World) (hC : Kd.C itemK w A l.length l) (hc : l.length ≤ c) (hn : l.length ≤ 2048) (hd : ∀ x ∈ l, x.data.size ≤ 1048576) (hl : (packB l).length ≤ 4194272) :
  Calls Try.prog 23 #[.slice A l.length c] w fun e w' => e = .returned (.tuple #[.string (if l.any (fun x => badBase x.base) then ⟨#[]⟩ else sb (packB l ++ sha (packB l))), .int .i64 (if l.any (fun x => badBase x.base) then 1 else 0)]) ∧ Below w.heap.size w w' := by
 obtain ⟨R1, hR1⟩ : ∃ x, x = (if l.any (fun x => badBase x.base) then ⟨#[]⟩ else sb (packB l ++ sha (packB l))) := ⟨_, rfl⟩
 obtain ⟨R2, hR2⟩ : ∃ x : Int, x = (if l.any (fun x => badBase x.base) then 1 else 0) := ⟨_, rfl⟩
 rw [← hR1, ← hR2]
 have HR1 := Lib.hid hR1
 have HR2 := Lib.hid hR2
 clear hR1 hR2
 have hnb : decide ((l.length : Int) > 2048) = false := by simp; omega
 have hnl : (sb (num l.length)).size ≤ 10 := by rw [z04]; exact z0f l.length (by omega)
 have hs1 : ¬ (9223372036854775807 < (ByteArray.mk #[112, 111, 108, 108, 97, 114, 100, 32, 112, 97, 99, 107, 10]).size + (sb (num l.length)).size) := by
  rw [show (ByteArray.mk #[112, 111, 108, 108, 97, 114, 100, 32, 112, 97, 99, 107, 10]).size = 13 from rfl]; omega
 have HNL := Lib.hid hnl
 clear hnl
 go_enter Try.func23, Try.ntmps23
 go_wp2_with fail
 refine (num_calls l.length _ (by omega)).mono ?_
 rintro e w1 ⟨rfl, hb1⟩
 obtain ⟨v2, w2, hcv, hM2, hb2⟩ := conv_M w1 (ByteArray.mk #[112, 111, 108, 108, 97, 114, 100, 32, 112, 97, 99, 107, 10] ++ sb (num l.length)) (by rw [ByteArray.size_append]; omega)
 have hpk : bs (ByteArray.mk #[112, 111, 108, 108, 97, 114, 100, 32, 112, 97, 99, 107, 10] ++ sb (num l.length)) = packHead l.length := by
  rw [bs_append, bs_sb _ (z0i _)]; rfl
 rw [hpk] at hM2
 have HB2 := Lib.hid (hb1.trans (hb2.mono hb1.size))
 have HM2 := Lib.hid hM2
 have HC := Lib.hid hC
 have HD := Lib.hid hd
 have HL := Lib.hid hl
 have HX := Lib.hid hc
 have HW1 := Lib.hid hb1.size
 clear hb1 hb2 hM2 hC hd hl hc hpk
 go_wp2_with fail
 go_loopg [4, 20] l.length (fun gg s4 s20 wr => ∃ (j : Nat), j ≤ l.length ∧ gg = l.length - j ∧ s20 = .int .i64 j ∧
   Hid (∀ x ∈ l.take j, badBase x.base = false) ∧ Hid (MBuf w1.heap.size (packHead l.length ++ ((l.take j).map fun x => itemB x.base x.data).flatten) s4 wr) ∧ Hid (Below w.heap.size w wr))
 case atStart =>
  exact ⟨0, Nat.zero_le _, by omega, by go_num, fun x hx => by simp at hx, by unfold Hid; simpa using HM2.out, HB2.out⟩
 case round =>
  obtain ⟨j, hj, hgk, rfl, HOK, HM, HB⟩ := hrel
  have HG := Lib.hid hgk
  clear hgk
  by_cases hlt : j < l.length
  ·have hltb : decide ((j : Int) < (l.length : Int)) = true := by simp; omega
   have hCr := Kd.z0t HC.out HB.out
   obtain ⟨x, rfl, k0, k1, k2⟩ := itemC_at hCr j hlt
   clear hCr
   obtain ⟨A4, c4, rfl⟩ := HM.out.shape
   have hmem : l[j] ∈ l := List.getElem_mem hlt
   have hD1 := HD.out _ hmem
   have hpl : (pressP (bs l[j].data)).length ≤ (packB l).length := by
    have h1 := flat_le l (j + 1)
    rw [flat_take l j hlt, List.length_append] at h1
    have h2 : (pressP (bs l[j].data)).length ≤ (itemB l[j].base l[j].data).length := by
     rw [itemB, List.length_append]; omega
    rw [packB, List.length_append]; omega
   have hD2 : (sb (pressP (bs l[j].data))).size ≤ 1000000000 := by rw [z04]; have := HL.out; omega
   have HM' := Lib.hid HM.out
   clear HM hmem hpl
   obtain ⟨O, hO⟩ : ∃ O, O = packHead l.length ++ ((l.take j).map fun x => itemB x.base x.data).flatten := ⟨_, rfl⟩
   rw [← hO] at HM' ⊢
   have hsum : O.length + (itemB l[j].base l[j].data).length ≤ (packB l).length := by
    have h1 := flat_le l (j + 1)
    rw [flat_take l j hlt, List.length_append] at h1
    rw [hO, packB, List.length_append, List.length_append]; omega
   have HO := Lib.hid hO
   clear hO
   go_wp2_with fail
   refine (entry_calls l[j].base l[j].data l[j].pos _ hD1 hD2).mono ?_
   rintro e w3 ⟨rfl, hb3⟩
   have hb3' : Below wr.heap.size wr w3 := z07 (z03 (Below.refl _ _) _) hb3
   have HB3 := Lib.hid (HB.out.trans (hb3'.mono HB.out.size))
   have HM3 := Lib.hid (HM'.out.below hb3')
   clear hb3 hb3' HM' HB k0 k1 k2
   by_cases hbad : badBase l[j].base = true
   ·have hany : (l.any fun x => badBase x.base) = true := List.any_eq_true.2 ⟨l[j], List.getElem_mem hlt, hbad⟩
    rw [hbad]
    simp only [if_true]
    go_wp2_with fail
    go_ret2
    refine ⟨?_, HB3.out⟩
    rw [HR1.out, HR2.out, if_pos hany, if_pos hany]; rfl
   ·have hbad' : badBase l[j].base = false := by simpa using hbad
    rw [hbad']
    simp only [Bool.false_eq_true, if_false]
    obtain ⟨I, hI⟩ : ∃ I, I = sb (itemB l[j].base l[j].data) := ⟨_, rfl⟩
    rw [← hI]
    have hIs : I.size = (itemB l[j].base l[j].data).length := by rw [hI, z04]
    have hle : O.length + I.size ≤ 4194272 := by have := HL.out; omega
    have hw : IntKind.i64.wrap ((O.length : Int) + (I.size : Int)) = ((O.length + I.size : Nat) : Int) := by rw [IntKind.wrap_i64]; omega
    have hgt : decide (((O.length + I.size : Nat) : Int) > 4194272) = false := by simp; omega
    have HI := Lib.hid hI
    clear hI hIs hsum
    go_wp2_with (at_builtin; refine wpList_append_strM rfl _ _ rfl w1.heap.size O (.slice A4 O.length c4) rfl HM3.out I rfl (by omega) ?_; intro v8 w8 hb8 hg8 hk8; have HB8 := Lib.hid (And.intro hb8 hg8); clear hb8 hg8 hk8)
    go_roundg (l.length - (j + 1))
    case measure => have := HG.out; omega
    case rel =>
     refine ⟨j + 1, by omega, rfl, by go_num, ?_, ?_, ?_⟩
     ·unfold Hid
      intro y hy
      rw [List.take_succ_eq_append_getElem hlt, List.mem_append, List.mem_singleton] at hy
      rcases hy with hy | rfl
      ·exact HOK.out y hy
      ·exact hbad'
     ·unfold Hid
      have h8 := HB8.out.1
      rw [HI.out, bs_sb _ (itemB_lt _ _ hD1), HO.out, List.append_assoc, ← flat_take l j hlt] at h8
      exact h8
     ·exact HB3.out.grown HB8.out.2 HB3.out.size fun k e => Nat.le_trans HW1.out (HM3.out.lt k e).1
  ·obtain rfl : j = l.length := by omega
   have hltb : decide ((l.length : Int) < (l.length : Int)) = false := by simp
   have hany : (l.any fun x => badBase x.base) = false := by
    rw [List.any_eq_false]
    intro y hy
    have := HOK.out y (by rw [List.take_length]; exact hy)
    simp [this]
   have hm := HM.out
   rw [List.take_length, show packHead l.length ++ (l.map fun x => itemB x.base x.data).flatten = packB l from rfl] at hm
   have HMM := Lib.hid hm
   have hcs := hm.string
   have hlt2 : ∀ c ∈ packB l, c < 256 := by
    rw [packB, packHead]
    refine z0c (z0c (by intro c hc; simp at hc; omega) (z0i _)) ?_
    intro c hc
    obtain ⟨y, hy, hcy⟩ := List.mem_flatten.1 hc
    obtain ⟨z, hz, rfl⟩ := List.mem_map.1 hy
    exact itemB_lt _ _ (HD.out z hz) c hcy
   obtain ⟨S, hS⟩ : ∃ S, S = sb (packB l) := ⟨_, rfl⟩
   have hSs : S.size ≤ 4194272 := by rw [hS, z04]; exact HL.out
   have hof := of_calls S
   obtain ⟨T, hT⟩ : ∃ T, T = sb (sha (bs S)) := ⟨_, rfl⟩
   rw [← hT] at hof
   have hTs : T.size = 32 := by rw [hT, z04, sha_length]
   rw [← hS] at hcs
   have hss : ¬ (S.size + T.size > 9223372036854775807) := by omega
   have hlast : S ++ T = sb (packB l ++ sha (packB l)) := by rw [z0m, ← hS, hT, hS, bs_sb _ hlt2]
   have HLS := Lib.hid (And.intro hS hlast)
   clear hm HM hlt2 hS hT hlast HOK hTs
   go_wp2_with fail
   go_region_held3 (fun w' => (convert 46 9 u4).run Try.prog w' = .ok (.string S) w') (first | (have hh := HP8.out; have h2 := (HMM.out.below hh).string; rw [← HLS.out.1] at h2; exact h2) | (have h2 := (HMM.out.below (z0v (Below.refl _ _))).string; rw [← HLS.out.1] at h2; exact h2)) (first
     | (go_at_call 62; refine (hof _ (by omega)).mono ?_; rintro e w5 ⟨rfl, hb5⟩; have HP8 := Lib.hid (show Below wr.heap.size wr w5 from ⟨hb5.os, hb5.tape, hb5.output, hb5.size, hb5.block⟩); clear hb5))
   go_wp2_with fail
   go_ret2
   refine ⟨?_, HB.out.trans (HP8.out.mono HB.out.size)⟩
   rw [HR1.out, HR2.out, hany, HLS.out.2]; rfl
end Go.Proofs.Ytcfdplmapdgfmaa.Mine
