import Derived.Test.YtcfdplmapdgfmaaUPkRSp
import Derived.Test.YtcfdplmapdgfmaaUPkScan
import Derived.Test.YtcfdplmapdgfmaaUSmC
set_option linter.unusedVariables false
set_option linter.unusedSimpArgs false
namespace Go.Proofs.Ytcfdplmapdgfmaa.Mine
open Go.RowKit Go.Proofs.YtcfdplmapdgfmaaW.PrintWords
theorem rspread_calls (s : ByteArray) (w : World) (hs : s.size ≤ 1048576) :
  Calls Try.prog 93 #[.string (sb (pressP (bs s))), .int .i64 1048576] w fun e w' => e = .returned (.tuple #[.string s, .int .i64 0]) ∧ Below w.heap.size w w' :=
 rspread_ok s _ (mkP (bs s) 0 0) w hs (by rw [pressP, z01]) (mkP_steps (bs s) _ 0 0 rfl (Nat.le_refl _) (Nat.zero_le _))
theorem sha_ref (l : List Nat) : sha l = refSum l := sha_eq l
set_option maxRecDepth 100000 in
set_option maxHeartbeats 4000000 in
theorem rSum_calls (B : List Nat) (w : World) (hB : ∀ c ∈ B, c < 256) (hl : B.length ≤ 4194272) :
  Calls Try.prog 68 #[.string (sb (B ++ sha B))] w fun e w' => e = .returned (.tuple #[.string (sb (sha B)), .int .i64 0]) ∧ Below w.heap.size w w' := by
 obtain ⟨S, hS⟩ : ∃ S, S = sb (B ++ sha B) := ⟨_, rfl⟩
 have hSs : S.size = B.length + 32 := by rw [hS, z04, List.length_append, sha_length]
 have h1 : S.extract 0 B.length = sb B := by rw [hS]; exact z11 _ _
 have h2 : S.extract B.length S.size = sb (sha B) := by rw [hS]; exact z0l _ _
 rw [← hS]
 have hn1 : decide ((S.size : Int) > 4194304) = false := by simp; omega
 have hn2 : decide ((S.size : Int) < 32) = false := by simp; omega
 have hw : IntKind.i64.wrap ((S.size : Int) - 32) = (B.length : Int) := by rw [IntKind.wrap_i64]; omega
 have hs1 := z0y S B.length (B.length : Int) .i64 rfl (by omega)
 have hs2 := slice_from S B.length (by omega)
 rw [h1] at hs1
 rw [h2] at hs2
 have hof := refsum_calls (sb B)
 rw [bs_sb _ hB, ← sha_ref] at hof
 have hsz : (sb B).size ≤ 70368744177664 := by rw [z04]; omega
 have HSz := Lib.hid hsz
 have HSs := Lib.hid hSs
 clear hsz hSs hS h1 h2
 obtain ⟨U, hU⟩ : ∃ U, U = sb B := ⟨_, rfl⟩
 obtain ⟨T, hT⟩ : ∃ T, T = sb (sha B) := ⟨_, rfl⟩
 rw [← hU] at hs1 hof HSz
 rw [← hT] at hs2 hof ⊢
 clear hU hT
 go_enter Try.func68, Try.ntmps68
 go_wp2_with fail
 go_region_held3 (fun _ => True) (trivial) (first
  | (go_at_call 37; refine (hof _ HSz.out).mono ?_; rintro e w5 ⟨rfl, hb5⟩; have HP8 := Lib.hid (show Below w.heap.size w w5 from ⟨hb5.os, hb5.tape, hb5.output, hb5.size, hb5.block⟩); clear hb5))
 go_wp2_with fail
 go_ret2
 exact ⟨rfl, HP8.out⟩
theorem ritem_size : (Try.prog.info? 61).map (·.size) = some 3 := by kernel_rfl
set_option maxRecDepth 100000 in
set_option maxHeartbeats 4000000 in
theorem rget_whole (data : ByteArray) (rest : List Nat) (w : World) (hd : data.size ≤ 1048576) (hr : ∀ c ∈ rest, c < 256) (hl : rest.length ≤ 4194304) (hp : (pressP (bs data)).length ≤ 4194304) :
  Calls Try.prog 70 #[.string (sb (itemB ⟨#[]⟩ data ++ rest))] w fun e w' => e = .returned (.tuple #[.agg #[.string ⟨#[]⟩, .string data, .int .i64 0], .string (sb rest), .int .i64 0]) ∧ Below w.heap.size w w' := by
 obtain ⟨p, hpp⟩ : ∃ p, p = pressP (bs data) := ⟨_, rfl⟩
 have hplt : ∀ c ∈ p, c < 256 := by rw [hpp]; exact pressP_lt _ (by rw [z01]; exact hd) (bs_lt _)
 have hi : itemB ⟨#[]⟩ data ++ rest = [119] ++ (num p.length ++ (p ++ rest)) := by
  rw [itemB, if_pos (show (⟨#[]⟩ : ByteArray).size = 0 from rfl), ← hpp]; simp
 rw [hi]
 obtain ⟨S, hS⟩ : ∃ S, S = sb ([119] ++ (num p.length ++ (p ++ rest))) := ⟨_, rfl⟩
 obtain ⟨R, hR⟩ : ∃ R, R = sb (num p.length ++ (p ++ rest)) := ⟨_, rfl⟩
 obtain ⟨Q, hQ⟩ : ∃ Q, Q = sb (p ++ rest) := ⟨_, rfl⟩
 obtain ⟨P, hP⟩ : ∃ P, P = sb p := ⟨_, rfl⟩
 obtain ⟨T, hT⟩ : ∃ T, T = sb rest := ⟨_, rfl⟩
 have hnl := z0f p.length (by rw [hpp]; omega)
 have hSs : S.size = R.size + 1 := by rw [hS, hR, z04, z04, List.length_append]; show 1 + _ = _; omega
 have hRs : R.size = (num p.length).length + Q.size := by rw [hR, hQ, z04, z04, List.length_append]
 have hQs : Q.size = p.length + rest.length := by rw [hQ, z04, List.length_append]
 have hne : S.toList.isEmpty = false := by
  rw [List.isEmpty_eq_false_iff]
  intro h
  rw [toL] at h
  have : S.size = 0 := by rw [← z01, bs, h]; rfl
  omega
 have h0 := index_runz S 0 119 0 rfl (by omega) (by rw [hS, bs_sb _ (z0c (by intro c hc; simp at hc; omega) (z0c (z0i _) (z0c hplt hr)))]; rfl)
 have h1 := z0x S 1 1 .i64 rfl (by omega)
 have e1 : S.extract 1 S.size = R := by rw [hS, hR]; exact z0l [119] _
 rw [e1] at h1
 have h2 := slice_from R (num p.length).length (by omega)
 have e2 : R.extract (num p.length).length R.size = Q := by rw [hR, hQ]; exact z0l _ _
 rw [e2] at h2
 have h3 := z0x Q p.length (p.length : Int) .u64 rfl (by omega)
 have e3 : Q.extract p.length Q.size = T := by rw [hQ, hT]; exact z0l _ _
 rw [e3] at h3
 have h4 := z0y Q p.length (p.length : Int) .u64 rfl (by omega)
 have e4 : Q.extract 0 p.length = P := by rw [hQ, hP]; exact z11 _ _
 rw [e4] at h4
 rw [← hS, ← hT]
 have hun := fun w => (PN.z0g.calls 11 R _ _ _ w (refUnnum R 11 (Nat.le_refl _))).mono fun e w' (h : _ ∧ _) => And.intro h.1 h.2.below
 rw [hR, bs_sb _ (z0c (z0i _) (z0c hplt hr)), unnum_num _ (by rw [hpp]; omega), ← hR] at hun
 have hps := fun w => rspread_calls data w hd
 rw [← hpp, ← hP] at hps
 have hRle : R.size ≤ 140737488351232 := by rw [hpp] at hQs; omega
 have HRle := Lib.hid hRle
 obtain ⟨L, hL⟩ : ∃ L, L = p.length := ⟨_, rfl⟩
 obtain ⟨K, hK⟩ : ∃ K, K = (num p.length).length := ⟨_, rfl⟩
 rw [← hL] at hun h3 h4 h2
 rw [← hL] at hK
 rw [← hK] at hun h2
 have hwq : IntKind.u64.wrap (Q.size : Int) = (Q.size : Int) := u64x _ (by rw [hpp] at hQs; omega)
 have hgt : ¬ (Q.size < L) := by omega
 clear hSs hRs hQs e1 e2 e3 e4 hS hR hQ hP hT hRle hnl hi hplt hr hl hp hL hK hpp
 go_enter Try.func70, Try.ntmps70
 go_wp2_with fail
 go_region
 go_wp2_with fail
 refine (hun _).mono ?_
 rintro e w1 ⟨rfl, hb1⟩
 have hbr : w1.heap[w.heap.size]? = some (.cells #[.string ⟨#[]⟩, .string ⟨#[]⟩, .int .i64 0] 61 (0, 0)) := z0r (z0w (z12 (z0d w _) _)) hb1
 have hbx : w1.heap[w.heap.size + 1]? = some (.cells #[.string ⟨#[]⟩, .string ⟨#[]⟩, .int .i64 0] 61 (0, 0)) := z0r (z0w (by simpa using z0d (w.alloc (.cells #[.string ⟨#[]⟩, .string ⟨#[]⟩, .int .i64 0] 61)) (.cells #[.string ⟨#[]⟩, .string ⟨#[]⟩, .int .i64 0] 61))) hb1
 have hB1 : Below w.heap.size w w1 := z07 (z0v (z03 (z03 (Below.refl _ _) _) _)) hb1
 have HB1 := Lib.hid (And.intro hbr (And.intro hbx hB1))
 clear hb1 hbr hbx hB1
 go_wp2_with fail
 refine (hps _).mono ?_
 rintro e w2 ⟨rfl, hb2⟩
 have hbr := z0r HB1.out.1 hb2
 have hbx := z0r HB1.out.2.1 hb2
 have HB2 := Lib.hid (z07 HB1.out.2.2 hb2)
 obtain ⟨W3, hW3⟩ : ∃ W, W = w2.setCell ⟨w.heap.size + 1, 1, none⟩ (.string data) := ⟨_, rfl⟩
 have hcx : W3.heap[w.heap.size + 1]? = some (.cells #[.string ⟨#[]⟩, .string data, .int .i64 0] 61 (0, 0)) := by rw [hW3]; exact z0u hbx 1 (.string data) rfl
 have hcr : W3.heap[w.heap.size]? = some (.cells #[.string ⟨#[]⟩, .string ⟨#[]⟩, .int .i64 0] 61 (0, 0)) := by rw [hW3]; exact blk_far hbr (p := ⟨w.heap.size + 1, 1, none⟩) (by simp) (.string data)
 have f0 : w2.frozen? ⟨w.heap.size + 1, 1, none⟩ = false := z0b hbx 1
 have c0 : w2.cell? ⟨w.heap.size + 1, 1, none⟩ = some (.string ⟨#[]⟩) := (z0a hbx 1).trans rfl
 have x0 : W3.cell? ⟨w.heap.size + 1, 0, none⟩ = some (.string ⟨#[]⟩) := (z0a hcx 0).trans rfl
 have x1 : W3.cell? ⟨w.heap.size + 1, 1, none⟩ = some (.string data) := (z0a hcx 1).trans rfl
 have x2 : W3.cell? ⟨w.heap.size + 1, 2, none⟩ = some (.int .i64 0) := (z0a hcx 2).trans rfl
 have r0 : W3.cell? ⟨w.heap.size, 0, none⟩ = some (.string ⟨#[]⟩) := (z0a hcr 0).trans rfl
 have r1 : W3.cell? ⟨w.heap.size, 1, none⟩ = some (.string ⟨#[]⟩) := (z0a hcr 1).trans rfl
 have r2 : W3.cell? ⟨w.heap.size, 2, none⟩ = some (.int .i64 0) := (z0a hcr 2).trans rfl
 have g0 : W3.frozen? ⟨w.heap.size, 0, none⟩ = false := z0b hcr 0
 have g1 : W3.frozen? ⟨w.heap.size, 1, none⟩ = false := z0b hcr 1
 have g2 : W3.frozen? ⟨w.heap.size, 2, none⟩ = false := z0b hcr 2
 have HX3 := Lib.hid (And.intro hcx (And.intro hcr (And.intro hbx hbr)))
 clear hcx hcr hbx hbr hb2
 go_upto_region 19 with fail
 rw [← hW3]
 have HW3 := Lib.hid hW3
 clear hW3 f0 c0
 go_region
 go_wp2_with fail
 have B3 : Below w.heap.size w W3 := by rw [HW3.out]; exact HB2.out.setCell (by simp) _
 have k1 : (W3.setCell ⟨w.heap.size, 0, none⟩ (.string ⟨#[]⟩)).heap[w.heap.size]? = some (.cells #[.string ⟨#[]⟩, .string ⟨#[]⟩, .int .i64 0] 61 (0, 0)) := z0u HX3.out.2.1 0 (.string ⟨#[]⟩) rfl
 have k2 : ((W3.setCell ⟨w.heap.size, 0, none⟩ (.string ⟨#[]⟩)).setCell ⟨w.heap.size, 1, none⟩ (.string data)).heap[w.heap.size]? = some (.cells #[.string ⟨#[]⟩, .string data, .int .i64 0] 61 (0, 0)) := z0u k1 1 (.string data) rfl
 have k3 : (((W3.setCell ⟨w.heap.size, 0, none⟩ (.string ⟨#[]⟩)).setCell ⟨w.heap.size, 1, none⟩ (.string data)).setCell ⟨w.heap.size, 2, none⟩ (.int .i64 0)).heap[w.heap.size]? = some (.cells #[.string ⟨#[]⟩, .string data, .int .i64 0] 61 (0, 0)) := z0u k2 2 (.int .i64 0) rfl
 have B4 := z0v (((B3.setCell (p := ⟨w.heap.size, 0, none⟩) (Nat.le_refl _) (.string ⟨#[]⟩)).setCell (p := ⟨w.heap.size, 1, none⟩) (Nat.le_refl _) (.string data)).setCell (p := ⟨w.heap.size, 2, none⟩) (Nat.le_refl _) (.int .i64 0))
 have k4 := z0w k3
 obtain ⟨W4, hW4⟩ : ∃ W, W = (((W3.setCell ⟨w.heap.size, 0, none⟩ (.string ⟨#[]⟩)).setCell ⟨w.heap.size, 1, none⟩ (.string data)).setCell ⟨w.heap.size, 2, none⟩ (.int .i64 0)).drew := ⟨_, rfl⟩
 rw [← hW4] at k4 B4 ⊢
 refine bodyPost_ret (results_ctt rfl _ _ w.heap.size 61 _ (0, 0) _ rfl k4 Try.underlying61 rfl (ritem_size.trans rfl)) rfl ?_
 exact ⟨rfl, B4⟩
set_option maxRecDepth 100000 in
set_option maxHeartbeats 4000000 in
theorem rget_made (base data : ByteArray) (rest : List Nat) (w : World) (hb : base.size = 32) (hd : data.size ≤ 1048576) (hr : ∀ c ∈ rest, c < 256) (hl : rest.length ≤ 4194304) (hp : (pressP (bs data)).length ≤ 4194304) :
  Calls Try.prog 70 #[.string (sb (itemB base data ++ rest))] w fun e w' => e = .returned (.tuple #[.agg #[.string base, .string data, .int .i64 0], .string (sb rest), .int .i64 0]) ∧ Below w.heap.size w w' := by
 obtain ⟨p, hpp⟩ : ∃ p, p = pressP (bs data) := ⟨_, rfl⟩
 have hplt : ∀ c ∈ p, c < 256 := by rw [hpp]; exact pressP_lt _ (by rw [z01]; exact hd) (bs_lt _)
 have hi : itemB base data ++ rest = [109] ++ (bs base ++ (num p.length ++ (p ++ rest))) := by
  rw [itemB, if_neg (by omega), ← hpp]; simp
 rw [hi]
 obtain ⟨S, hS⟩ : ∃ S, S = sb ([109] ++ (bs base ++ (num p.length ++ (p ++ rest)))) := ⟨_, rfl⟩
 obtain ⟨R0, hR0⟩ : ∃ R, R = sb (bs base ++ (num p.length ++ (p ++ rest))) := ⟨_, rfl⟩
 obtain ⟨R, hR⟩ : ∃ R, R = sb (num p.length ++ (p ++ rest)) := ⟨_, rfl⟩
 obtain ⟨Q, hQ⟩ : ∃ Q, Q = sb (p ++ rest) := ⟨_, rfl⟩
 obtain ⟨P, hP⟩ : ∃ P, P = sb p := ⟨_, rfl⟩
 obtain ⟨T, hT⟩ : ∃ T, T = sb rest := ⟨_, rfl⟩
 have hnl := z0f p.length (by rw [hpp]; omega)
 have hSs : S.size = R0.size + 1 := by rw [hS, hR0, z04, z04, List.length_append]; show 1 + _ = _; omega
 have hR0s : R0.size = R.size + 32 := by rw [hR0, hR, z04, z04, List.length_append, z01, hb]; omega
 have hRs : R.size = (num p.length).length + Q.size := by rw [hR, hQ, z04, z04, List.length_append]
 have hQs : Q.size = p.length + rest.length := by rw [hQ, z04, List.length_append]
 have hne : S.toList.isEmpty = false := by
  rw [List.isEmpty_eq_false_iff]
  intro h
  rw [toL] at h
  have : S.size = 0 := by rw [← z01, bs, h]; rfl
  omega
 have h0 := index_runz S 0 109 0 rfl (by omega) (by rw [hS, bs_sb _ (z0c (by intro c hc; simp at hc; omega) (z0c (bs_lt _) (z0c (z0i _) (z0c hplt hr))))]; rfl)
 have h1 := z0x S 1 1 .i64 rfl (by omega)
 have e1 : S.extract 1 S.size = R0 := by rw [hS, hR0]; exact z0l [109] _
 rw [e1] at h1
 have hl32 : (bs base).length = 32 := by rw [z01, hb]
 have h5 := z0x R0 32 32 .i64 rfl (by omega)
 have e5 : R0.extract 32 R0.size = R := by rw [hR0, hR, ← hl32]; exact z0l _ _
 rw [e5] at h5
 have h6 := z0y R0 32 32 .i64 rfl (by omega)
 have e6 : R0.extract 0 32 = base := by rw [hR0, ← hl32, z11, sb_bs]
 rw [e6] at h6
 have hlt32 : decide ((R0.size : Int) < 32) = false := by simp; omega
 have h2 := slice_from R (num p.length).length (by omega)
 have e2 : R.extract (num p.length).length R.size = Q := by rw [hR, hQ]; exact z0l _ _
 rw [e2] at h2
 have h3 := z0x Q p.length (p.length : Int) .u64 rfl (by omega)
 have e3 : Q.extract p.length Q.size = T := by rw [hQ, hT]; exact z0l _ _
 rw [e3] at h3
 have h4 := z0y Q p.length (p.length : Int) .u64 rfl (by omega)
 have e4 : Q.extract 0 p.length = P := by rw [hQ, hP]; exact z11 _ _
 rw [e4] at h4
 rw [← hS, ← hT]
 have hun := fun w => (PN.z0g.calls 11 R _ _ _ w (refUnnum R 11 (Nat.le_refl _))).mono fun e w' (h : _ ∧ _) => And.intro h.1 h.2.below
 rw [hR, bs_sb _ (z0c (z0i _) (z0c hplt hr)), unnum_num _ (by rw [hpp]; omega), ← hR] at hun
 have hps := fun w => rspread_calls data w hd
 rw [← hpp, ← hP] at hps
 have hRle : R.size ≤ 140737488351232 := by rw [hpp] at hQs; omega
 have HRle := Lib.hid hRle
 obtain ⟨L, hL⟩ : ∃ L, L = p.length := ⟨_, rfl⟩
 obtain ⟨K, hK⟩ : ∃ K, K = (num p.length).length := ⟨_, rfl⟩
 rw [← hL] at hun h3 h4 h2
 rw [← hL] at hK
 rw [← hK] at hun h2
 have hwq : IntKind.u64.wrap (Q.size : Int) = (Q.size : Int) := u64x _ (by rw [hpp] at hQs; omega)
 have hgt : ¬ (Q.size < L) := by omega
 clear e5 e6 hR0s hl32 hR0 hb
 clear hSs hRs hQs e1 e2 e3 e4 hS hR hQ hP hT hRle hnl hi hplt hr hl hp hL hK hpp
 go_enter Try.func70, Try.ntmps70
 go_wp2_with fail
 go_region
 go_wp2_with fail
 obtain ⟨V1, hV1⟩ : ∃ W, W = ((w.alloc (.cells #[.string ⟨#[]⟩, .string ⟨#[]⟩, .int .i64 0] 61)).alloc (.cells #[.string ⟨#[]⟩, .string ⟨#[]⟩, .int .i64 0] 61)).drew := ⟨_, rfl⟩
 have vr : V1.heap[w.heap.size]? = some (.cells #[.string ⟨#[]⟩, .string ⟨#[]⟩, .int .i64 0] 61 (0, 0)) := by rw [hV1]; exact z0w (z12 (z0d w _) _)
 have vx : V1.heap[w.heap.size + 1]? = some (.cells #[.string ⟨#[]⟩, .string ⟨#[]⟩, .int .i64 0] 61 (0, 0)) := by rw [hV1]; exact z0w (by simpa using z0d (w.alloc (.cells #[.string ⟨#[]⟩, .string ⟨#[]⟩, .int .i64 0] 61)) (.cells #[.string ⟨#[]⟩, .string ⟨#[]⟩, .int .i64 0] 61))
 have vB : Below w.heap.size w V1 := by rw [hV1]; exact z0v (z03 (z03 (Below.refl _ _) _) _)
 rw [← hV1]
 have HV := Lib.hid (And.intro vr (And.intro vx vB))
 have f0 : V1.frozen? ⟨w.heap.size + 1, 0, none⟩ = false := z0b vx 0
 have c0 : V1.cell? ⟨w.heap.size + 1, 0, none⟩ = some (.string ⟨#[]⟩) := (z0a vx 0).trans rfl
 clear hV1 vr vx vB
 go_region
 go_wp2_with fail
 clear f0 c0
 refine (hun _).mono ?_
 rintro e w1 ⟨rfl, hb1⟩
 have hbr : w1.heap[w.heap.size]? = some (.cells #[.string ⟨#[]⟩, .string ⟨#[]⟩, .int .i64 0] 61 (0, 0)) := z0r (z0w (blk_far HV.out.1 (p := ⟨w.heap.size + 1, 0, none⟩) (by simp) (.string base))) hb1
 have hbx : w1.heap[w.heap.size + 1]? = some (.cells #[.string base, .string ⟨#[]⟩, .int .i64 0] 61 (0, 0)) := z0r (z0w (z0u HV.out.2.1 0 (.string base) rfl)) hb1
 have hB1 : Below w.heap.size w w1 := z07 (z0v (HV.out.2.2.setCell (p := ⟨w.heap.size + 1, 0, none⟩) (by simp) (.string base))) hb1
 have HB1 := Lib.hid (And.intro hbr (And.intro hbx hB1))
 clear hb1 hbr hbx hB1
 go_wp2_with fail
 refine (hps _).mono ?_
 rintro e w2 ⟨rfl, hb2⟩
 have hbr := z0r HB1.out.1 hb2
 have hbx := z0r HB1.out.2.1 hb2
 have HB2 := Lib.hid (z07 HB1.out.2.2 hb2)
 obtain ⟨W3, hW3⟩ : ∃ W, W = w2.setCell ⟨w.heap.size + 1, 1, none⟩ (.string data) := ⟨_, rfl⟩
 have hcx : W3.heap[w.heap.size + 1]? = some (.cells #[.string base, .string data, .int .i64 0] 61 (0, 0)) := by rw [hW3]; exact z0u hbx 1 (.string data) rfl
 have hcr : W3.heap[w.heap.size]? = some (.cells #[.string ⟨#[]⟩, .string ⟨#[]⟩, .int .i64 0] 61 (0, 0)) := by rw [hW3]; exact blk_far hbr (p := ⟨w.heap.size + 1, 1, none⟩) (by simp) (.string data)
 have f0 : w2.frozen? ⟨w.heap.size + 1, 1, none⟩ = false := z0b hbx 1
 have c0 : w2.cell? ⟨w.heap.size + 1, 1, none⟩ = some (.string ⟨#[]⟩) := (z0a hbx 1).trans rfl
 have x0 : W3.cell? ⟨w.heap.size + 1, 0, none⟩ = some (.string base) := (z0a hcx 0).trans rfl
 have x1 : W3.cell? ⟨w.heap.size + 1, 1, none⟩ = some (.string data) := (z0a hcx 1).trans rfl
 have x2 : W3.cell? ⟨w.heap.size + 1, 2, none⟩ = some (.int .i64 0) := (z0a hcx 2).trans rfl
 have r0 : W3.cell? ⟨w.heap.size, 0, none⟩ = some (.string ⟨#[]⟩) := (z0a hcr 0).trans rfl
 have r1 : W3.cell? ⟨w.heap.size, 1, none⟩ = some (.string ⟨#[]⟩) := (z0a hcr 1).trans rfl
 have r2 : W3.cell? ⟨w.heap.size, 2, none⟩ = some (.int .i64 0) := (z0a hcr 2).trans rfl
 have g0 : W3.frozen? ⟨w.heap.size, 0, none⟩ = false := z0b hcr 0
 have g1 : W3.frozen? ⟨w.heap.size, 1, none⟩ = false := z0b hcr 1
 have g2 : W3.frozen? ⟨w.heap.size, 2, none⟩ = false := z0b hcr 2
 have HX3 := Lib.hid (And.intro hcx (And.intro hcr (And.intro hbx hbr)))
 clear hcx hcr hbx hbr hb2
 go_upto_region 19 with fail
 rw [← hW3]
 have HW3 := Lib.hid hW3
 clear hW3 f0 c0
 go_region
 go_wp2_with fail
 have B3 : Below w.heap.size w W3 := by rw [HW3.out]; exact HB2.out.setCell (by simp) _
 have k1 : (W3.setCell ⟨w.heap.size, 0, none⟩ (.string base)).heap[w.heap.size]? = some (.cells #[.string base, .string ⟨#[]⟩, .int .i64 0] 61 (0, 0)) := z0u HX3.out.2.1 0 (.string base) rfl
 have k2 : ((W3.setCell ⟨w.heap.size, 0, none⟩ (.string base)).setCell ⟨w.heap.size, 1, none⟩ (.string data)).heap[w.heap.size]? = some (.cells #[.string base, .string data, .int .i64 0] 61 (0, 0)) := z0u k1 1 (.string data) rfl
 have k3 : (((W3.setCell ⟨w.heap.size, 0, none⟩ (.string base)).setCell ⟨w.heap.size, 1, none⟩ (.string data)).setCell ⟨w.heap.size, 2, none⟩ (.int .i64 0)).heap[w.heap.size]? = some (.cells #[.string base, .string data, .int .i64 0] 61 (0, 0)) := z0u k2 2 (.int .i64 0) rfl
 have B4 := z0v (((B3.setCell (p := ⟨w.heap.size, 0, none⟩) (Nat.le_refl _) (.string base)).setCell (p := ⟨w.heap.size, 1, none⟩) (Nat.le_refl _) (.string data)).setCell (p := ⟨w.heap.size, 2, none⟩) (Nat.le_refl _) (.int .i64 0))
 have k4 := z0w k3
 obtain ⟨W4, hW4⟩ : ∃ W, W = (((W3.setCell ⟨w.heap.size, 0, none⟩ (.string base)).setCell ⟨w.heap.size, 1, none⟩ (.string data)).setCell ⟨w.heap.size, 2, none⟩ (.int .i64 0)).drew := ⟨_, rfl⟩
 rw [← hW4] at k4 B4 ⊢
 refine bodyPost_ret (results_ctt rfl _ _ w.heap.size 61 _ (0, 0) _ rfl k4 Try.underlying61 rfl (ritem_size.trans rfl)) rfl ?_
 exact ⟨rfl, B4⟩
theorem rget_calls (base data : ByteArray) (rest : List Nat) (w : World) (hb : badBase base = false) (hd : data.size ≤ 1048576) (hr : ∀ c ∈ rest, c < 256) (hl : rest.length ≤ 4194304) (hp : (pressP (bs data)).length ≤ 4194304) :
  Calls Try.prog 70 #[.string (sb (itemB base data ++ rest))] w fun e w' => e = .returned (.tuple #[.agg #[.string base, .string data, .int .i64 0], .string (sb rest), .int .i64 0]) ∧ Below w.heap.size w w' := by
 by_cases h0 : base.size = 0
 ·have : base = ⟨#[]⟩ := ByteArray.ext (Array.eq_empty_of_size_eq_zero h0)
  subst this
  exact rget_whole data rest w hd hr hl hp
 ·have h32 : base.size = 32 := by simpa [badBase, h0] using hb
  exact rget_made base data rest w h32 hd hr hl hp
end Go.Proofs.Ytcfdplmapdgfmaa.Mine
