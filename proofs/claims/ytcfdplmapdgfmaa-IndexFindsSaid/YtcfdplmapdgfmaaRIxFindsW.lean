import Derived.Test.YtcfdplmapdgfmaaRIxLoad
set_option linter.unusedVariables false
set_option linter.unusedSimpArgs false
namespace Go.Proofs.Ytcfdplmapdgfmaa.Mine
open List renaming setIfInBounds_toArray → q1, set_cons_zero → q2, set_cons_succ → q3
open Go.RowKit Go.Proofs.YtcfdplmapdgfmaaW.PrintWords
theorem strict_inj {S : List SpotP} (hs : Strict S) {x y : SpotP} (hx : x ∈ S) (hy : y ∈ S) (h : x.id = y.id) : x = y := by
 obtain ⟨i, hi, rfl⟩ := List.getElem_of_mem hx
 obtain ⟨j, hj, rfl⟩ := List.getElem_of_mem hy
 have hp := List.pairwise_iff_getElem.1 hs
 rcases Nat.lt_trichotomy i j with hij | hij | hij
 ·have := hp i j hi hj hij
  rw [h, (z0c _ _).2 rfl] at this; exact absurd this (by decide)
 ·subst hij; rfl
 ·have := hp j i hj hi hij
  rw [h, (z0c _ _).2 rfl] at this; exact absurd this (by decide)
def SeenI (L : List SpotP) (id : ByteArray) (b : Bool) (pl : Int) : Prop := (b = true ∧ ∃ x ∈ L, x.id = id ∧ pl = x.pos) ∨ (b = false ∧ pl = 0 ∧ ∀ x ∈ L, x.id ≠ id)
theorem SeenI.hit {L : List SpotP} {id : ByteArray} {y : SpotP} (h : y.id = id) : SeenI (L ++ [y]) id true y.pos := .inl ⟨rfl, y, by simp, h, rfl⟩
theorem SeenI.miss {L : List SpotP} {id : ByteArray} {y : SpotP} {b : Bool} {pl : Int} (hs : SeenI L id b pl) (h : y.id ≠ id) : SeenI (L ++ [y]) id b pl := by
 rcases hs with ⟨hb, x, hx, he⟩ | ⟨hb, hp, hn⟩
 ·exact .inl ⟨hb, x, List.mem_append_left _ hx, he⟩
 ·refine .inr ⟨hb, hp, fun x hx => ?_⟩
  rcases List.mem_append.1 hx with hx | hx
  ·exact hn x hx
  ·rw [List.mem_singleton] at hx; rw [hx]; exact h
set_option maxRecDepth 100000 in
set_option maxHeartbeats 1000000 in
theorem indexFinds_calls (l : List SpotP) (A : Option Addr) (c : Nat) (id : ByteArray) (w : World) (hC : Kd.C spotK w A l.length l) (hl : l.length ≤ 9223372036854775807) :
  Calls Try.prog 10 #[.slice A l.length c, .string id] w fun e w' => e = .returned (.bool true) ∧ Below w.heap.size w w' := by
 have hct := cut11_calls l A c w hC hl
 obtain ⟨k, hk⟩ : ∃ k, k = l.take 30 := ⟨_, rfl⟩
 have hk30 : k.length ≤ 30 := by rw [hk, List.length_take]; omega
 rw [← hk] at hct
 have HK := Lib.hid hk30
 have hrs := fun w => refsum_calls ⟨#[]⟩ w (by decide)
 have hP32 : (sb (refSum (bs ⟨#[]⟩))).size = 32 := by rw [← sha_ref, z0a, sha_length]
 obtain ⟨P, hP⟩ : ∃ P, P = sb (refSum (bs ⟨#[]⟩)) := ⟨_, rfl⟩
 rw [← hP] at hrs hP32
 have HP := Lib.hid hP32
 clear hk hC hl hk30 hP hP32
 go_enter Try.func10, Try.ntmps10
 go_wp2_with fail
 refine hct.mono ?_
 rintro e w1 ⟨A1, c1, A2, c2, rfl, hc1, hc2, hb1⟩
 have H1 := Lib.hid (And.intro hc1 (And.intro hc2 hb1))
 clear hc1 hc2 hb1 hct
 go_wp2_with fail
 refine (hrs _).mono ?_
 rintro e w1a ⟨rfl, hb1⟩
 have H1a := Lib.hid (And.intro (Kd.z05 H1.out.1 hb1) (And.intro (Kd.z05 H1.out.2.1 hb1) (H1.out.2.2.trans (hb1.mono H1.out.2.2.size))))
 clear hb1
 go_wp2_with fail
 refine (ixNew_calls P k A1 c1 w1a H1a.out.1 (by have := HK.out; omega) HP.out).mono ?_
 rintro e w2 ⟨hb2, hor⟩
 have H2 := Lib.hid (And.intro (Kd.z05 H1a.out.2.1 hb2) (H1a.out.2.2.trans (hb2.mono H1a.out.2.2.size)))
 clear hb2
 rcases hor with ⟨rfl, hno⟩ | ⟨g, S, rfl, hp, hst, hgd, hix⟩
 ·have HNO := Lib.hid hno
  clear hno
  go_wp2_with fail
  refine (hrs _).mono ?_
  rintro e w2a ⟨rfl, hb2⟩
  have H2a := Lib.hid (And.intro (Kd.z05 H2.out.1 hb2) (H2.out.2.trans (hb2.mono H2.out.2.size)))
  clear hb2
  go_wp2_with fail
  refine (rsort_calls P k A2 c2 w2a H2a.out.1 (by have := HK.out; omega) HP.out).mono ?_
  rintro e w3 ⟨hb3, (⟨rfl, _⟩ | ⟨A3, c3, S3, rfl, hp3, hst3, hgd3, _⟩)⟩
  ·have H3 := Lib.hid (H2a.out.2.trans (hb3.mono H2a.out.2.size))
   clear hb3
   go_wp2_with fail
   refine (ixAwake_calls _).mono ?_
   rintro e w4 ⟨rfl, hb4⟩
   have H4 := Lib.hid (H3.out.trans (hb4.mono H3.out.size))
   clear hb4
   go_wp2_with fail
   refine (ixAwake_calls _).mono ?_
   rintro e w5 ⟨rfl, hb5⟩
   have H5 := Lib.hid (H4.out.trans (hb5.mono H4.out.size))
   clear hb5
   go_wp2_with fail
   go_ret
   exact ⟨rfl, H5.out⟩
  ·exact absurd (okP_of hp3 hst3 hgd3) HNO.out
 ·have HX2 := Lib.hid hix
  have HS := Lib.hid (And.intro hp (And.intro hst hgd))
  clear hp hst hgd hix
  go_wp2_with fail
  refine (hrs _).mono ?_
  rintro e w2a ⟨rfl, hb2⟩
  have H2a := Lib.hid (And.intro (Kd.z05 H2.out.1 hb2) (And.intro (H2.out.2.trans (hb2.mono H2.out.2.size)) (HX2.out.below hb2)))
  clear hb2 hrs
  go_wp2_with fail
  refine (rsort_calls P k A2 c2 w2a H2a.out.1 (by have := HK.out; omega) HP.out).mono ?_
  rintro e w3 ⟨hb3, (⟨rfl, hno⟩ | ⟨A3, c3, S3, rfl, hp3, hst3, hgd3, hc3⟩)⟩
  ·exact absurd (okP_of HS.out.1 HS.out.2.1 HS.out.2.2) hno
  ·obtain rfl : S = S3 := strict_unique (HS.out.1.trans hp3.symm) HS.out.2.1 hst3
   have hSl : S.length ≤ 30 := by rw [HS.out.1.length_eq]; exact HK.out
   have hSg : ∀ x ∈ S, goodS x := fun x hx => HS.out.2.2 x (HS.out.1.mem_iff.1 hx)
   have H3 := Lib.hid (And.intro hc3 (And.intro (H2a.out.2.1.trans (hb3.mono H2a.out.2.1.size)) (H2a.out.2.2.below hb3)))
   have HSG := Lib.hid (And.intro hSg (And.intro hSl HS.out.2.1))
   clear hb3 hp3 hst3 hgd3 hc3 hSg hSl
   go_wp2_with fail
   refine (ixAwake_calls _).mono ?_
   rintro e w4 ⟨rfl, hb4⟩
   have H4 := Lib.hid (And.intro (Kd.z05 H3.out.1 hb4) (And.intro (H3.out.2.1.trans (hb4.mono H3.out.2.1.size)) (H3.out.2.2.below hb4)))
   clear hb4
   go_wp2_with fail
   have hgood := good_enc P S HP.out HSG.out.1 HSG.out.2.2
   have hen := fun w (h : IxV w g P S) => enc_calls P S g w h (by have := HSG.out.2.1; omega) HP.out HSG.out.1
   obtain ⟨R, hR⟩ : ∃ R, R = sb (encI P S ++ sha (encI P S)) := ⟨_, rfl⟩
   rw [← hR] at hen hgood
   have HGO := Lib.hid hgood
   clear hR hgood
   refine (hen _ H4.out.2.2).mono ?_
   rintro e w5 ⟨rfl, hb5⟩
   have H5 := Lib.hid (And.intro (Kd.z05 H4.out.1 hb5) (And.intro (H4.out.2.1.trans (hb5.mono H4.out.2.1.size)) (H4.out.2.2.below hb5)))
   clear hb5 hen
   go_wp2_with fail
   refine (load_calls R w5 (by have := HGO.out.1; have := HSG.out.2.1; omega)).mono ?_
   rintro e w6 ⟨hb6, (⟨m, rfl, hbad⟩ | ⟨g2, S2, rfl, hg2, hx2⟩)⟩
   ·exact (hbad.no HGO.out.2.2).elim
   obtain rfl : S2 = S := hg2.one HGO.out.2.2
   rw [HGO.out.2.1] at hx2
   have H6 := Lib.hid (And.intro (Kd.z05 H5.out.1 hb6) (And.intro (H5.out.2.1.trans (hb6.mono H5.out.2.1.size)) (And.intro (H5.out.2.2.below hb6) hx2)))
   clear hb6 hg2 hx2
   go_wp2_with fail
   go_loopg [13, 14, 15] S2.length (fun gg s13 s14 s15 wr => ∃ (j : Nat) (b : Bool) (pl : Int), j ≤ S2.length ∧ gg = S2.length - j ∧ s15 = .int .i64 j ∧ s13 = .bool b ∧ s14 = .int .i64 pl ∧ Hid (SeenI (S2.take j) id b pl) ∧ Hid (Below w6.heap.size w6 wr))
   case atStart =>
    exact ⟨0, false, 0, Nat.zero_le _, by omega, by go_num, rfl, rfl, .inr ⟨rfl, rfl, by simp⟩, Below.refl _ _⟩
   case round =>
    obtain ⟨j, b, pl, hj, hgk, rfl, rfl, rfl, HSE, HB⟩ := hrel
    have HG := Lib.hid hgk
    clear hgk
    have hs30 := HSG.out.2.1
    by_cases hlt : j < S2.length
    ·have hltb : decide ((j : Int) < (S2.length : Int)) = true := by simp; omega
     obtain ⟨x1, rfl, a0, a1⟩ := spotC_at (Kd.z05 H6.out.1 HB.out) j hlt
     obtain ⟨y, hy⟩ : ∃ y, y = S2[j] := ⟨_, rfl⟩
     have hym : y ∈ S2 := by rw [hy]; exact List.getElem_mem hlt
     rw [← hy] at a0 a1
     have HY := Lib.hid (And.intro hy hym)
     have q1 : (j : Int) < (S2.length : Int) := by omega
     clear hy hym
     go_wp2_with fail
     refine (ixFind_calls S2 P y.id g wr (H6.out.2.2.1.below HB.out) HSG.out.2.2 HSG.out.1 (by omega)).mono ?_
     rintro e w7 ⟨hb7, (⟨z, hz, hzi, rfl⟩ | ⟨hno, _⟩)⟩
     case inr => exact absurd rfl (hno y HY.out.2)
     obtain rfl : z = y := strict_inj HSG.out.2.2 hz HY.out.2 hzi
     have H7 := Lib.hid (And.intro (HB.out.trans (hb7.mono HB.out.size)) (And.intro (z00 hb7 a0) (z00 hb7 a1)))
     have b0 := z00 hb7 a0
     clear hb7 hz hzi a0 a1
     go_wp2_with fail
     clear b0
     refine (ixFind_calls S2 P z.id g2 w7 (H6.out.2.2.2.below H7.out.1) HSG.out.2.2 HSG.out.1 (by omega)).mono ?_
     rintro e w8 ⟨hb8, (⟨z2, hz2, hzi2, rfl⟩ | ⟨hno, _⟩)⟩
     case inr => exact absurd rfl (hno z HY.out.2)
     obtain rfl : z2 = z := strict_inj HSG.out.2.2 hz2 HY.out.2 hzi2
     have H8 := Lib.hid (H7.out.1.trans (hb8.mono H7.out.1.size))
     have a0 := z00 hb8 H7.out.2.1
     have a1 := z00 hb8 H7.out.2.2
     clear hb8 hz2 hzi2
     by_cases hid : z2.id = id
     ·have he : (z2.id.toList == id.toList) = true := by rw [hid]; exact beq_self_eq_true _
      have he1 : z2.id.toList = id.toList := by rw [hid]
      have HID := Lib.hid hid
      clear hid
      go_wp2_with fail
      go_roundg (S2.length - (j + 1))
      case measure => have := HG.out; omega
      case rel =>
       refine ⟨j + 1, true, z2.pos, by omega, rfl, by go_num, rfl, rfl, ?_, H8.out⟩
       unfold Hid
       rw [List.take_succ_eq_append_getElem hlt, ← HY.out.1]
       exact SeenI.hit HID.out
     ·have he : (z2.id.toList == id.toList) = false := neq_toL hid
      have he1 : ¬ (z2.id.toList = id.toList) := fun e => hid (by rw [toL, toL] at e; exact ByteArray.ext (Array.ext' e))
      have HID := Lib.hid hid
      clear hid
      go_wp2_with fail
      go_roundg (S2.length - (j + 1))
      case measure => have := HG.out; omega
      case rel =>
       refine ⟨j + 1, b, pl, by omega, rfl, by go_num, rfl, rfl, ?_, H8.out⟩
       unfold Hid
       rw [List.take_succ_eq_append_getElem hlt, ← HY.out.1]
       exact HSE.out.miss HID.out
    ·obtain rfl : j = S2.length := by omega
     have hltb : decide ((S2.length : Int) < (S2.length : Int)) = false := by simp
     have hse := HSE.out
     rw [List.take_length] at hse
     have HSE2 := Lib.hid hse
     clear hse
     go_wp2_with fail
     refine (ixFind_calls S2 P id g2 wr (H6.out.2.2.2.below HB.out) HSG.out.2.2 HSG.out.1 (by omega)).mono ?_
     rintro e w7 ⟨hb7, (⟨z, hz, hzi, rfl⟩ | ⟨hno, rfl⟩)⟩
     ·have H7 := Lib.hid (H6.out.2.1.trans ((HB.out.trans (hb7.mono HB.out.size)).mono H6.out.2.1.size))
      have hse := HSE2.out
      rcases hse with ⟨rfl, x, hx, hxi, rfl⟩ | ⟨_, _, hn⟩
      ·obtain rfl : x = z := strict_inj HSG.out.2.2 hx hz (hxi.trans hzi.symm)
       clear hb7 hz hx hxi hzi
       go_wp2_with fail
       go_ret
       exact ⟨rfl, H7.out⟩
      ·exact absurd hzi (hn z hz)
     ·have H7 := Lib.hid (H6.out.2.1.trans ((HB.out.trans (hb7.mono HB.out.size)).mono H6.out.2.1.size))
      have hse := HSE2.out
      rcases hse with ⟨_, x, hx, hxi, _⟩ | ⟨rfl, rfl, _⟩
      ·exact absurd hxi (hno x hx)
      ·clear hb7 hno
       go_wp2_with fail
       go_ret
       exact ⟨rfl, H7.out⟩
end Go.Proofs.Ytcfdplmapdgfmaa.Mine
