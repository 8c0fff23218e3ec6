import Derived.Test.YtcfdplmapdgfmaaQIxRLoad
set_option linter.unusedVariables false
set_option linter.unusedSimpArgs false
namespace Go.Proofs.Ytcfdplmapdgfmaa.Mine
open Go.RowKit Go.Proofs.YtcfdplmapdgfmaaW.PrintWords
theorem GoodL.few {s : ByteArray} {S : List SpotP} (h : GoodL s S) (hz : s.size ≤ 5000) : S.length ≤ 2048 := by
 rw [h.perm.length_eq, rowsL, z0h]; omega
theorem GoodL.goods {s : ByteArray} {S : List SpotP} (h : GoodL s S) : ∀ x ∈ S, goodS x := fun x hx => h.good x (h.perm.mem_iff.1 hx)
theorem GoodL.pack {s : ByteArray} {S : List SpotP} (h : GoodL s S) : (s.extract 14 46).size = 32 := by
 have := h.len
 rw [ByteArray.size_extract]; omega
set_option maxRecDepth 100000 in
set_option maxHeartbeats 1000000 in
theorem indexLoads_calls (s : ByteArray) (right : Bool) (w : World) :
  Calls Try.prog 11 #[.string s, .bool right] w fun e w' => e = .returned (.bool true) ∧ Below w.heap.size w w' := by
 obtain ⟨u, hu⟩ : ∃ u, u = s.extract 0 (min s.size 4000) := ⟨_, rfl⟩
 have huz : u.size ≤ 4000 := by rw [hu, ByteArray.size_extract]; omega
 have hus : ¬ s.size > 4000 → s = u := fun h => by rw [hu, Nat.min_eq_left (by omega)]; exact ByteArray.extract_zero_size.symm
 have hux : s.size > 4000 → ∀ W : World, (Instr.slice 9 (.string s) none (some (.int .i64 4000)) none).run Try.prog W = .ok (.string u) W := fun h => by
  rw [hu, Nat.min_eq_right (by omega)]
  exact slice_to s 4000 4000 .i64 rfl (by omega)
 have hrs := fun w => refsum_calls u w (by omega)
 have hTz : (sb (refSum (bs u))).size = 32 := by rw [← sha_ref, z09, sha_length]
 obtain ⟨T, hT⟩ : ∃ T, T = sb (refSum (bs u)) := ⟨_, rfl⟩
 rw [← hT] at hrs hTz
 have hadd : ¬ (u.size + T.size > 9223372036854775807) := by omega
 have hadd2 : ¬ (9223372036854775807 < u.size + T.size) := by omega
 have hvz : (u ++ T).size ≤ 5000 := by rw [ByteArray.size_append]; omega
 obtain ⟨v, hv⟩ : ∃ v, v = u ++ T := ⟨_, rfl⟩
 rw [← hv] at hvz
 have HV := Lib.hid hvz
 have HU := Lib.hid (show u.size ≤ 5000 by omega)
 have HVV := Lib.hid hv
 clear hu huz hTz hT hv hvz
 by_cases hbig : s.size > 4000
 ·have hd : decide ((s.size : Int) > 4000) = true := by simp; omega
  have x1 := hux hbig
  clear hux hus hbig
  cases right
  ·obtain ⟨v, rfl⟩ : ∃ v, v = u := ⟨_, rfl⟩
   clear hadd hadd2 hrs HV HVV
   have HV := HU
   have HB1 := Lib.hid (Below.refl w.heap.size w)
   go_enter Try.func11, Try.ntmps11
   go_wp2_with fail
   refine (load_calls v _ HV.out).mono ?_
   rintro e w2 ⟨hb2, (⟨k, rfl, hbad⟩ | ⟨g, S, rfl, hg, hx⟩)⟩
   ·have H2 := Lib.hid (HB1.out.trans (hb2.mono HB1.out.size))
    have HBD := Lib.hid hbad
    clear hb2 hbad
    go_wp2_with fail
    refine (z0i v w2 HV.out).mono ?_
    rintro e w3 ⟨hb3, (⟨m, rfl, hbad⟩ | ⟨A3, c3, S, rfl, hg⟩)⟩
    case inr => exact (HBD.out.no hg).elim
    obtain rfl : k = m := HBD.out.one hbad
    have H3 := Lib.hid (H2.out.trans (hb3.mono H2.out.size))
    clear hb3
    rcases hbad.pos with rfl | rfl | rfl
    all_goals (
     clear hbad
     go_wp2_with fail
     refine (z0g _).mono ?_
     rintro e w4 ⟨rfl, hb4⟩
     have H4 := Lib.hid (H3.out.trans (hb4.mono H3.out.size))
     clear hb4
     go_wp2_with fail
     go_ret
     exact ⟨rfl, H4.out⟩)
   ·have H2 := Lib.hid (And.intro (HB1.out.trans (hb2.mono HB1.out.size)) hx)
    have HGD := Lib.hid hg
    clear hb2 hx hg
    go_wp2_with fail
    refine (z0i v w2 HV.out).mono ?_
    rintro e w3 ⟨hb3, (⟨m, rfl, hbad⟩ | ⟨A3, c3, S3, rfl, hg⟩)⟩
    ·exact (hbad.no HGD.out).elim
    obtain rfl : S3 = S := hg.one HGD.out
    have H3 := Lib.hid (And.intro (H2.out.1.trans (hb3.mono H2.out.1.size)) (H2.out.2.below hb3))
    clear hb3 hg
    go_wp2_with fail
    refine (z0g _).mono ?_
    rintro e w4 ⟨rfl, hb4⟩
    have H4 := Lib.hid (And.intro (H3.out.1.trans (hb4.mono H3.out.1.size)) (H3.out.2.below hb4))
    clear hb4
    obtain ⟨P, hP⟩ : ∃ P, P = v.extract 14 46 := ⟨_, rfl⟩
    have hpk := fun w (h : IxV w g P S3) => pack_calls S3 P g w h
    have hal := fun w (h : IxV w g P S3) => all_calls S3 P g w h (HGD.out.few HV.out)
    have hen := fun w (h : IxV w g P S3) => enc_calls P S3 g w h (HGD.out.few HV.out) (by rw [hP]; exact HGD.out.pack) HGD.out.goods
    have he := HGD.out.enc
    rw [← hP] at he
    rw [he] at hen
    have HI := Lib.hid (show IxV w4 g P S3 by rw [hP]; exact H4.out.2)
    have HPP := Lib.hid hP
    have hq1 : (P.toList == P.toList) = true := beq_self_eq_true _
    have hq2 : (v.toList == v.toList) = true := beq_self_eq_true _
    have hq3 : ((S3.length : Int) == (S3.length : Int)) = true := beq_self_eq_true _
    clear he
    rw [← hP]
    clear hP
    go_wp2_with fail
    refine (hpk _ HI.out).mono ?_
    rintro e w5 ⟨rfl, rfl⟩
    go_wp2_with fail
    refine (hal _ HI.out).mono ?_
    rintro e w6 ⟨A6, c6, rfl, _, hb6⟩
    have H6 := Lib.hid (And.intro (H4.out.1.trans (hb6.mono H4.out.1.size)) (HI.out.below hb6))
    clear hb6
    go_wp2_with fail
    refine (hen _ H6.out.2).mono ?_
    rintro e w7 ⟨rfl, hb7⟩
    have H7 := Lib.hid (H6.out.1.trans (hb7.mono H6.out.1.size))
    clear hb7
    go_wp2_with fail
    go_ret
    exact ⟨rfl, H7.out⟩
  ·go_enter Try.func11, Try.ntmps11
   go_wp2_with fail
   refine (hrs _).mono ?_
   rintro e w1 ⟨rfl, hb1⟩
   have HB1 := Lib.hid hb1
   clear hb1 hrs
   go_wp2_with fail
   rw [← HVV.out]
   clear HVV
   refine (load_calls v _ HV.out).mono ?_
   rintro e w2 ⟨hb2, (⟨k, rfl, hbad⟩ | ⟨g, S, rfl, hg, hx⟩)⟩
   ·have H2 := Lib.hid (HB1.out.trans (hb2.mono HB1.out.size))
    have HBD := Lib.hid hbad
    clear hb2 hbad
    go_wp2_with fail
    refine (z0i v w2 HV.out).mono ?_
    rintro e w3 ⟨hb3, (⟨m, rfl, hbad⟩ | ⟨A3, c3, S, rfl, hg⟩)⟩
    case inr => exact (HBD.out.no hg).elim
    obtain rfl : k = m := HBD.out.one hbad
    have H3 := Lib.hid (H2.out.trans (hb3.mono H2.out.size))
    clear hb3
    rcases hbad.pos with rfl | rfl | rfl
    all_goals (
     clear hbad
     go_wp2_with fail
     refine (z0g _).mono ?_
     rintro e w4 ⟨rfl, hb4⟩
     have H4 := Lib.hid (H3.out.trans (hb4.mono H3.out.size))
     clear hb4
     go_wp2_with fail
     go_ret
     exact ⟨rfl, H4.out⟩)
   ·have H2 := Lib.hid (And.intro (HB1.out.trans (hb2.mono HB1.out.size)) hx)
    have HGD := Lib.hid hg
    clear hb2 hx hg
    go_wp2_with fail
    refine (z0i v w2 HV.out).mono ?_
    rintro e w3 ⟨hb3, (⟨m, rfl, hbad⟩ | ⟨A3, c3, S3, rfl, hg⟩)⟩
    ·exact (hbad.no HGD.out).elim
    obtain rfl : S3 = S := hg.one HGD.out
    have H3 := Lib.hid (And.intro (H2.out.1.trans (hb3.mono H2.out.1.size)) (H2.out.2.below hb3))
    clear hb3 hg
    go_wp2_with fail
    refine (z0g _).mono ?_
    rintro e w4 ⟨rfl, hb4⟩
    have H4 := Lib.hid (And.intro (H3.out.1.trans (hb4.mono H3.out.1.size)) (H3.out.2.below hb4))
    clear hb4
    obtain ⟨P, hP⟩ : ∃ P, P = v.extract 14 46 := ⟨_, rfl⟩
    have hpk := fun w (h : IxV w g P S3) => pack_calls S3 P g w h
    have hal := fun w (h : IxV w g P S3) => all_calls S3 P g w h (HGD.out.few HV.out)
    have hen := fun w (h : IxV w g P S3) => enc_calls P S3 g w h (HGD.out.few HV.out) (by rw [hP]; exact HGD.out.pack) HGD.out.goods
    have he := HGD.out.enc
    rw [← hP] at he
    rw [he] at hen
    have HI := Lib.hid (show IxV w4 g P S3 by rw [hP]; exact H4.out.2)
    have HPP := Lib.hid hP
    have hq1 : (P.toList == P.toList) = true := beq_self_eq_true _
    have hq2 : (v.toList == v.toList) = true := beq_self_eq_true _
    have hq3 : ((S3.length : Int) == (S3.length : Int)) = true := beq_self_eq_true _
    clear he
    rw [← hP]
    clear hP
    go_wp2_with fail
    refine (hpk _ HI.out).mono ?_
    rintro e w5 ⟨rfl, rfl⟩
    go_wp2_with fail
    refine (hal _ HI.out).mono ?_
    rintro e w6 ⟨A6, c6, rfl, _, hb6⟩
    have H6 := Lib.hid (And.intro (H4.out.1.trans (hb6.mono H4.out.1.size)) (HI.out.below hb6))
    clear hb6
    go_wp2_with fail
    refine (hen _ H6.out.2).mono ?_
    rintro e w7 ⟨rfl, hb7⟩
    have H7 := Lib.hid (H6.out.1.trans (hb7.mono H6.out.1.size))
    clear hb7
    go_wp2_with fail
    go_ret
    exact ⟨rfl, H7.out⟩
 ·have hsu := hus hbig
  subst hsu
  have hd : decide ((s.size : Int) > 4000) = false := by simp; omega
  clear hux hus hbig
  obtain ⟨u, rfl⟩ : ∃ u, u = s := ⟨_, rfl⟩
  cases right
  ·obtain ⟨v, rfl⟩ : ∃ v, v = u := ⟨_, rfl⟩
   clear hadd hadd2 hrs HV HVV
   have HV := HU
   have HB1 := Lib.hid (Below.refl w.heap.size w)
   go_enter Try.func11, Try.ntmps11
   go_wp2_with fail
   refine (load_calls v _ HV.out).mono ?_
   rintro e w2 ⟨hb2, (⟨k, rfl, hbad⟩ | ⟨g, S, rfl, hg, hx⟩)⟩
   ·have H2 := Lib.hid (HB1.out.trans (hb2.mono HB1.out.size))
    have HBD := Lib.hid hbad
    clear hb2 hbad
    go_wp2_with fail
    refine (z0i v w2 HV.out).mono ?_
    rintro e w3 ⟨hb3, (⟨m, rfl, hbad⟩ | ⟨A3, c3, S, rfl, hg⟩)⟩
    case inr => exact (HBD.out.no hg).elim
    obtain rfl : k = m := HBD.out.one hbad
    have H3 := Lib.hid (H2.out.trans (hb3.mono H2.out.size))
    clear hb3
    rcases hbad.pos with rfl | rfl | rfl
    all_goals (
     clear hbad
     go_wp2_with fail
     refine (z0g _).mono ?_
     rintro e w4 ⟨rfl, hb4⟩
     have H4 := Lib.hid (H3.out.trans (hb4.mono H3.out.size))
     clear hb4
     go_wp2_with fail
     go_ret
     exact ⟨rfl, H4.out⟩)
   ·have H2 := Lib.hid (And.intro (HB1.out.trans (hb2.mono HB1.out.size)) hx)
    have HGD := Lib.hid hg
    clear hb2 hx hg
    go_wp2_with fail
    refine (z0i v w2 HV.out).mono ?_
    rintro e w3 ⟨hb3, (⟨m, rfl, hbad⟩ | ⟨A3, c3, S3, rfl, hg⟩)⟩
    ·exact (hbad.no HGD.out).elim
    obtain rfl : S3 = S := hg.one HGD.out
    have H3 := Lib.hid (And.intro (H2.out.1.trans (hb3.mono H2.out.1.size)) (H2.out.2.below hb3))
    clear hb3 hg
    go_wp2_with fail
    refine (z0g _).mono ?_
    rintro e w4 ⟨rfl, hb4⟩
    have H4 := Lib.hid (And.intro (H3.out.1.trans (hb4.mono H3.out.1.size)) (H3.out.2.below hb4))
    clear hb4
    obtain ⟨P, hP⟩ : ∃ P, P = v.extract 14 46 := ⟨_, rfl⟩
    have hpk := fun w (h : IxV w g P S3) => pack_calls S3 P g w h
    have hal := fun w (h : IxV w g P S3) => all_calls S3 P g w h (HGD.out.few HV.out)
    have hen := fun w (h : IxV w g P S3) => enc_calls P S3 g w h (HGD.out.few HV.out) (by rw [hP]; exact HGD.out.pack) HGD.out.goods
    have he := HGD.out.enc
    rw [← hP] at he
    rw [he] at hen
    have HI := Lib.hid (show IxV w4 g P S3 by rw [hP]; exact H4.out.2)
    have HPP := Lib.hid hP
    have hq1 : (P.toList == P.toList) = true := beq_self_eq_true _
    have hq2 : (v.toList == v.toList) = true := beq_self_eq_true _
    have hq3 : ((S3.length : Int) == (S3.length : Int)) = true := beq_self_eq_true _
    clear he
    rw [← hP]
    clear hP
    go_wp2_with fail
    refine (hpk _ HI.out).mono ?_
    rintro e w5 ⟨rfl, rfl⟩
    go_wp2_with fail
    refine (hal _ HI.out).mono ?_
    rintro e w6 ⟨A6, c6, rfl, _, hb6⟩
    have H6 := Lib.hid (And.intro (H4.out.1.trans (hb6.mono H4.out.1.size)) (HI.out.below hb6))
    clear hb6
    go_wp2_with fail
    refine (hen _ H6.out.2).mono ?_
    rintro e w7 ⟨rfl, hb7⟩
    have H7 := Lib.hid (H6.out.1.trans (hb7.mono H6.out.1.size))
    clear hb7
    go_wp2_with fail
    go_ret
    exact ⟨rfl, H7.out⟩
  ·go_enter Try.func11, Try.ntmps11
   go_wp2_with fail
   refine (hrs _).mono ?_
   rintro e w1 ⟨rfl, hb1⟩
   have HB1 := Lib.hid hb1
   clear hb1 hrs
   go_wp2_with fail
   rw [← HVV.out]
   clear HVV
   refine (load_calls v _ HV.out).mono ?_
   rintro e w2 ⟨hb2, (⟨k, rfl, hbad⟩ | ⟨g, S, rfl, hg, hx⟩)⟩
   ·have H2 := Lib.hid (HB1.out.trans (hb2.mono HB1.out.size))
    have HBD := Lib.hid hbad
    clear hb2 hbad
    go_wp2_with fail
    refine (z0i v w2 HV.out).mono ?_
    rintro e w3 ⟨hb3, (⟨m, rfl, hbad⟩ | ⟨A3, c3, S, rfl, hg⟩)⟩
    case inr => exact (HBD.out.no hg).elim
    obtain rfl : k = m := HBD.out.one hbad
    have H3 := Lib.hid (H2.out.trans (hb3.mono H2.out.size))
    clear hb3
    rcases hbad.pos with rfl | rfl | rfl
    all_goals (
     clear hbad
     go_wp2_with fail
     refine (z0g _).mono ?_
     rintro e w4 ⟨rfl, hb4⟩
     have H4 := Lib.hid (H3.out.trans (hb4.mono H3.out.size))
     clear hb4
     go_wp2_with fail
     go_ret
     exact ⟨rfl, H4.out⟩)
   ·have H2 := Lib.hid (And.intro (HB1.out.trans (hb2.mono HB1.out.size)) hx)
    have HGD := Lib.hid hg
    clear hb2 hx hg
    go_wp2_with fail
    refine (z0i v w2 HV.out).mono ?_
    rintro e w3 ⟨hb3, (⟨m, rfl, hbad⟩ | ⟨A3, c3, S3, rfl, hg⟩)⟩
    ·exact (hbad.no HGD.out).elim
    obtain rfl : S3 = S := hg.one HGD.out
    have H3 := Lib.hid (And.intro (H2.out.1.trans (hb3.mono H2.out.1.size)) (H2.out.2.below hb3))
    clear hb3 hg
    go_wp2_with fail
    refine (z0g _).mono ?_
    rintro e w4 ⟨rfl, hb4⟩
    have H4 := Lib.hid (And.intro (H3.out.1.trans (hb4.mono H3.out.1.size)) (H3.out.2.below hb4))
    clear hb4
    obtain ⟨P, hP⟩ : ∃ P, P = v.extract 14 46 := ⟨_, rfl⟩
    have hpk := fun w (h : IxV w g P S3) => pack_calls S3 P g w h
    have hal := fun w (h : IxV w g P S3) => all_calls S3 P g w h (HGD.out.few HV.out)
    have hen := fun w (h : IxV w g P S3) => enc_calls P S3 g w h (HGD.out.few HV.out) (by rw [hP]; exact HGD.out.pack) HGD.out.goods
    have he := HGD.out.enc
    rw [← hP] at he
    rw [he] at hen
    have HI := Lib.hid (show IxV w4 g P S3 by rw [hP]; exact H4.out.2)
    have HPP := Lib.hid hP
    have hq1 : (P.toList == P.toList) = true := beq_self_eq_true _
    have hq2 : (v.toList == v.toList) = true := beq_self_eq_true _
    have hq3 : ((S3.length : Int) == (S3.length : Int)) = true := beq_self_eq_true _
    clear he
    rw [← hP]
    clear hP
    go_wp2_with fail
    refine (hpk _ HI.out).mono ?_
    rintro e w5 ⟨rfl, rfl⟩
    go_wp2_with fail
    refine (hal _ HI.out).mono ?_
    rintro e w6 ⟨A6, c6, rfl, _, hb6⟩
    have H6 := Lib.hid (And.intro (H4.out.1.trans (hb6.mono H4.out.1.size)) (HI.out.below hb6))
    clear hb6
    go_wp2_with fail
    refine (hen _ H6.out.2).mono ?_
    rintro e w7 ⟨rfl, hb7⟩
    have H7 := Lib.hid (H6.out.1.trans (hb7.mono H6.out.1.size))
    clear hb7
    go_wp2_with fail
    go_ret
    exact ⟨rfl, H7.out⟩
end Go.Proofs.Ytcfdplmapdgfmaa.Mine
