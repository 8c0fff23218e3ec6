import Derived.Test.YtcfdplmapdgfmaaUPkItem
set_option linter.unusedVariables false
set_option linter.unusedSimpArgs false
namespace Go.Proofs.Ytcfdplmapdgfmaa.Mine
open Go.RowKit Go.Proofs.YtcfdplmapdgfmaaW.PrintWords
def flatB (l : List ItemP) : List Nat := (l.map fun x => itemB x.base x.data).flatten
def sumD (l : List ItemP) : Nat := (l.map fun x => x.data.size).sum
def posAt (l : List ItemP) (j : Nat) : Nat := (packHead l.length ++ flatB (l.take j)).length
def scanP (l : List ItemP) : List ItemP := l.mapIdx fun j x => ⟨x.base, x.data, (posAt l j : Nat)⟩
theorem z1a (l : List ItemP) : packB l = packHead l.length ++ flatB l := rfl
theorem z1h (l : List ItemP) : (scanP l).length = l.length := by rw [scanP, List.length_mapIdx]
theorem scanP_take (l : List ItemP) (j : Nat) (hj : j < l.length) : (scanP l).take (j + 1) = (scanP l).take j ++ [⟨l[j].base, l[j].data, (posAt l j : Nat)⟩] := by
 rw [List.take_succ_eq_append_getElem (by rw [z1h]; exact hj)]
 congr 1
 simp [scanP]
theorem flatB_drop (l : List ItemP) (j : Nat) (hj : j < l.length) : flatB (l.drop j) = itemB l[j].base l[j].data ++ flatB (l.drop (j + 1)) := by
 rw [flatB, flatB, List.drop_eq_getElem_cons hj, List.map_cons, List.flatten_cons]
theorem flatB_split (l : List ItemP) (j : Nat) : flatB l = flatB (l.take j) ++ flatB (l.drop j) := by
 rw [flatB, flatB, flatB, ← List.flatten_append, ← List.map_append, List.take_append_drop]
theorem flatB_lt (l : List ItemP) (hd : ∀ x ∈ l, x.data.size ≤ 1048576) : ∀ c ∈ flatB l, c < 256 := by
 intro c hc
 obtain ⟨y, hy, hcy⟩ := List.mem_flatten.1 hc
 obtain ⟨z, hz, rfl⟩ := List.mem_map.1 hy
 exact itemB_lt _ _ (hd z hz) c hcy
theorem packHead_lt (n : Nat) : ∀ c ∈ packHead n, c < 256 := by
 rw [packHead]
 exact z0c (by intro c hc; simp at hc; omega) (z0i _)
theorem packB_lt (l : List ItemP) (hd : ∀ x ∈ l, x.data.size ≤ 1048576) : ∀ c ∈ packB l, c < 256 := by
 rw [z1a]
 exact z0c (packHead_lt _) (flatB_lt l hd)
theorem sumD_take (l : List ItemP) (j : Nat) (hj : j < l.length) : sumD (l.take (j + 1)) = sumD (l.take j) + l[j].data.size := by
 rw [sumD, sumD, List.take_succ_eq_append_getElem hj, List.map_append, List.sum_append]; simp
theorem sumD_le (l : List ItemP) (j : Nat) : sumD (l.take j) ≤ sumD l := by
 have h : sumD l = sumD (l.take j) + sumD (l.drop j) := by
  rw [sumD, sumD, sumD, ← List.sum_append, ← List.map_append, List.take_append_drop]
 omega
theorem info_item : (Try.prog.info? 60).map (fun i => (i.zero, i.size, i.bytes)) = some (some (.agg #[.string ⟨#[]⟩, .string ⟨#[]⟩, .int .i64 0]), itemK.sz, 40) := by kernel_rfl
theorem item_M (w : World) (b : Nat) (ok : Nat → Prop) (x : ItemP) : itemK.M w b ok x [.string x.base, .string x.data, .int .i64 x.pos] :=
 ⟨[.string x.base], [.string x.data, .int .i64 x.pos], rfl, rfl, [.string x.data], [.int .i64 x.pos], rfl, rfl, rfl⟩
set_option maxRecDepth 100000 in
set_option maxHeartbeats 4000000 in
theorem scan_calls (l : List ItemP) (w : World) (hnb : ∀ x ∈ l, badBase x.base = false) (hn : l.length ≤ 2048) (hd : ∀ x ∈ l, x.data.size ≤ 1048576) (hl : (packB l).length ≤ 4194272) (hs : sumD l ≤ 16777216) :
  Calls Try.prog 26 #[.string (sb (packB l ++ sha (packB l)))] w fun e w' => ∃ A c, e = .returned (.tuple #[.slice A l.length c, .int .i64 0]) ∧ Kd.C itemK w' A l.length (scanP l) ∧ Below w.heap.size w w' := by
 have hplt := packB_lt l hd
 have hsc := pkSum_calls (packB l)
 obtain ⟨P, hP⟩ : ∃ P, P = sb (packB l ++ sha (packB l)) := ⟨_, rfl⟩
 obtain ⟨S, hS⟩ : ∃ P, P = sb (packB l) := ⟨_, rfl⟩
 obtain ⟨U, hU⟩ : ∃ P, P = sb (num l.length ++ flatB l) := ⟨_, rfl⟩
 obtain ⟨R, hR⟩ : ∃ P, P = sb (flatB l) := ⟨_, rfl⟩
 have hnl := z0f l.length (by omega)
 have hPs : P.size = S.size + 32 := by rw [hP, hS, z04, z04, List.length_append, sha_length]
 have hSl : S.size ≤ 4194272 := by rw [hS, z04]; exact hl
 have hpb : packB l = [112, 111, 108, 108, 97, 114, 100, 32, 112, 97, 99, 107, 10] ++ (num l.length ++ flatB l) := by rw [z1a, packHead, List.append_assoc]
 have hSs : S.size = 13 + U.size := by rw [hS, hU, z04, z04, hpb, List.length_append]; rfl
 have hUs : U.size = (num l.length).length + (flatB l).length := by rw [hU, z04, List.length_append]
 have hw1 : IntKind.i64.wrap ((P.size : Int) - 32) = (S.size : Int) := by rw [IntKind.wrap_i64]; omega
 have h1 := z0y P S.size (S.size : Int) .i64 rfl (by omega)
 have e1 : P.extract 0 S.size = S := by rw [hP, hS, z04]; exact z11 _ _
 rw [e1] at h1
 have h13 : ¬ (S.size < 13) := by omega
 have h2 := z0y S 13 13 .i64 rfl (by omega)
 have e2 : S.extract 0 13 = ⟨#[112, 111, 108, 108, 97, 114, 100, 32, 112, 97, 99, 107, 10]⟩ := by rw [hS, hpb]; exact z11 [112, 111, 108, 108, 97, 114, 100, 32, 112, 97, 99, 107, 10] _
 rw [e2] at h2
 have h3 := z0x S 13 13 .i64 rfl (by omega)
 have e3 : S.extract 13 S.size = U := by rw [hS, hpb, hU]; exact z0l [112, 111, 108, 108, 97, 114, 100, 32, 112, 97, 99, 107, 10] _
 rw [e3] at h3
 have hpre : S = sb (packHead l.length ++ flatB l) := by rw [hS, z1a]
 have hhl : (packHead l.length).length = 13 + (num l.length).length := by rw [packHead, List.length_append]; rfl
 have h4 := z0x S (13 + (num l.length).length) (13 + ((num l.length).length : Int)) .i64 (by omega) (by omega)
 have e4 : S.extract (13 + (num l.length).length) S.size = R := by rw [← hhl, hpre, hR]; exact z0l _ _
 rw [e4] at h4
 have hun := unnum_calls U
 rw [hU, bs_sb _ (z0c (z0i _) (flatB_lt l hd)), unnum_num _ (by omega), ← hU] at hun
 obtain ⟨K, hK⟩ : ∃ K, K = (num l.length).length := ⟨_, rfl⟩
 rw [← hK] at hun h4
 have hw2 : IntKind.i64.wrap (13 + (K : Int)) = 13 + (K : Int) := by rw [IntKind.wrap_i64]; omega
 have hn48 : ¬ (2048 < l.length) := by omega
 have hUle : U.size ≤ 140737488351232 := by omega
 have HUle := Lib.hid hUle
 have hsc' := fun w => hsc w hplt hl
 rw [← hP] at hsc' ⊢
 have HD := Lib.hid hd
 have HNB := Lib.hid hnb
 have HL := Lib.hid hl
 have HSD := Lib.hid hs
 have HS := Lib.hid hS
 have HR := Lib.hid hR
 clear hUle hK hpre hhl hUs hSs hpb hSl hPs hnl hplt hsc e1 e2 e3 e4 hS hU hR hP hd hnb hl hs
 go_enter Try.func26, Try.ntmps26
 go_wp2_with fail
 refine (hsc' _).mono ?_
 rintro e w1 ⟨rfl, hb1⟩
 have HB1 := Lib.hid hb1
 clear hb1
 go_wp2_with fail
 refine (hun _ HUle.out).mono ?_
 rintro e w2 ⟨rfl, hb2⟩
 have HB2 := Lib.hid (z07 HB1.out hb2)
 clear hb2
 go_wp2_with fail
 go_loopg [10, 11, 12, 54] l.length (fun gg s10 s11 s12 s54 wr => ∃ (j : Nat), j ≤ l.length ∧ gg = l.length - j ∧ s10 = .string (sb (flatB (l.drop j))) ∧ s12 = .int .i64 (sumD (l.take j)) ∧ s54 = .int .u64 j ∧
   Hid (Kd.R itemK 60 wr w.heap.size (fun _ => True) s11 ((scanP l).take j)) ∧ Hid (Below w.heap.size w wr))
 case atStart =>
  exact ⟨0, Nat.zero_le _, by omega, by rw [HR.out, List.drop_zero], by rw [List.take_zero]; rfl, by go_num, by rw [List.take_zero]; exact Kd.R_nil _ _ _ _ _, HB2.out⟩
 case round =>
  obtain ⟨j, hj, hgk, rfl, rfl, rfl, HRR, HB⟩ := hrel
  have HG := Lib.hid hgk
  clear hgk
  by_cases hlt : j < l.length
  ·have hltb : decide ((j : Int) < (l.length : Int)) = true := by simp; omega
   have hmem : l[j] ∈ l := List.getElem_mem hlt
   have hD1 := HD.out _ hmem
   have hcut := flatB_split l j
   have hlenP : (packB l).length = posAt l j + (flatB (l.drop j)).length := by rw [z1a, hcut, posAt, List.length_append, List.length_append, List.length_append]; omega
   have hdrop := flatB_drop l j hlt
   have hdl : (flatB (l.drop j)).length = (itemB l[j].base l[j].data).length + (flatB (l.drop (j + 1))).length := by rw [hdrop, List.length_append]
   have hpl : (pressP (bs l[j].data)).length ≤ (itemB l[j].base l[j].data).length := by rw [itemB, List.length_append]; omega
   have hitem := fun w => item_calls l[j].base l[j].data (flatB (l.drop (j + 1))) w (HNB.out _ hmem) hD1 (flatB_lt _ fun x hx => HD.out x (List.mem_of_mem_drop hx)) (by have := HL.out; omega) (by have := HL.out; omega)
   rw [← hdrop] at hitem
   obtain ⟨T0, hT0⟩ : ∃ T, T = sb (flatB (l.drop j)) := ⟨_, rfl⟩
   obtain ⟨T1, hT1⟩ : ∃ T, T = sb (flatB (l.drop (j + 1))) := ⟨_, rfl⟩
   rw [← hT0, ← hT1] at hitem
   rw [← hT0]
   have hw3 : IntKind.i64.wrap ((S.size : Int) - (T0.size : Int)) = (posAt l j : Int) := by
    have e1 : S.size = (packB l).length := by rw [HS.out, z04]
    have e2 : T0.size = (flatB (l.drop j)).length := by rw [hT0, z04]
    have := HL.out
    rw [IntKind.wrap_i64]; omega
   have hst := sumD_take l j hlt
   have hsl := sumD_le l (j + 1)
   have hw4 : IntKind.i64.wrap ((sumD (l.take j) : Int) + (l[j].data.size : Int)) = (sumD (l.take (j + 1)) : Int) := by
    have := HSD.out
    rw [IntKind.wrap_i64]; omega
   have hgt : ¬ (16777216 < sumD (l.take (j + 1))) := by have := HSD.out; omega
   have htk := scanP_take l j hlt
   obtain ⟨X, hX⟩ : ∃ X, X = (scanP l).take j := ⟨_, rfl⟩
   rw [← hX] at HRR htk
   have hXl : X.length = j := by rw [hX, List.length_take, z1h]; omega
   obtain ⟨v1, c11, hs11, _⟩ := Kd.R_reads HRR.out
   rw [hs11] at HRR ⊢
   have HT1 := Lib.hid (And.intro hT1 htk)
   have hle : (X.length + 1) * 40 ≤ 140737488355328 := by omega
   have HLE := Lib.hid hle
   clear hle hXl hX hmem hcut hlenP hdrop hdl hpl hT0 hT1 hst hsl htk hs11
   go_wp2_with fail
   refine (hitem _).mono ?_
   rintro e w3 ⟨rfl, hb3⟩
   have HR3 := Lib.hid (Kd.R_below HRR.out hb3)
   have HB3 := Lib.hid (HB.out.trans (hb3.mono HB.out.size))
   clear hb3 HRR HB
   have hB4 := z03 HB3.out (.cells #[.string l[j].base, .string l[j].data, .int .i64 (posAt l j : Int)] 60)
   have hR4 := Kd.z0q HR3.out (.cells #[.string l[j].base, .string l[j].data, .int .i64 (posAt l j : Int)] 60)
   have HB4 := Lib.hid hB4
   have HR4 := Lib.hid hR4
   clear hB4 hR4
   go_wp2_with (at_builtin; refine Kd.R_append itemK (w0 := w) (W := w3.alloc (.cells #[.string l[j].base, .string l[j].data, .int .i64 (posAt l j : Int)] 60)) w.heap.size (by rfl) (.tmp 78) (.tmp 80) 48 60 (.agg #[.string ⟨#[]⟩, .string ⟨#[]⟩, .int .i64 0]) 40 rfl Try.underlying48 info_item rfl (by decide) (by omega) (.slice v1 X.length c11) X ⟨l[j].base, l[j].data, (posAt l j : Nat)⟩ [.string l[j].base, .string l[j].data, .int .i64 (posAt l j : Int)] (fun _ => True) (fun _ => False) rfl (by simp [Act.eval]) (item_M _ _ _ _) (fun _ hk => hk.elim) (fun _ _ => trivial) HR4.out HB4.out HB4.out.size HLE.out ?_; intro v5 w5 hr5 hb5 hg5 hat5; have H5 := Lib.hid (And.intro hr5 hb5); clear hr5 hb5 hg5 hat5)
   go_roundg (l.length - (j + 1))
   case measure => have := HG.out; omega
   case rel =>
    refine ⟨j + 1, by omega, rfl, by rw [HT1.out.1], rfl, by go_num, ?_, H5.out.2⟩
    unfold Hid
    rw [HT1.out.2]
    exact H5.out.1
  ·obtain rfl : j = l.length := by omega
   have hltb : decide ((l.length : Int) < (l.length : Int)) = false := by simp
   have hnil : sb (flatB (l.drop l.length)) = ⟨#[]⟩ := by rw [List.drop_length]; rfl
   have hR := HRR.out
   rw [List.take_of_length_le (by rw [z1h]; exact Nat.le_refl _)] at hR
   obtain ⟨v1, c11, hs11, _, hC⟩ := Kd.R_reads hR
   rw [z1h] at hs11 hC
   rw [hs11, hnil]
   have HC := Lib.hid hC
   clear hR hC hs11 hnil
   go_wp2_with fail
   go_ret2
   exact ⟨_, _, rfl, HC.out, HB.out⟩
end Go.Proofs.Ytcfdplmapdgfmaa.Mine
