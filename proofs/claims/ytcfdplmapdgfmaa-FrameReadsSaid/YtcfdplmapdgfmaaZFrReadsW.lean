import Derived.Test.YtcfdplmapdgfmaaZFrSame
set_option linter.unusedVariables false
set_option linter.unusedSimpArgs false
namespace Go.Proofs.Ytcfdplmapdgfmaa.Mine
open List renaming setIfInBounds_toArray → q1, set_cons_zero → q2, set_cons_succ → q3
open Go.RowKit Go.Proofs.YtcfdplmapdgfmaaW.PrintWords
theorem dec_small (l : List Nat) (hl : Okl l) : (decP l).1.ids.length ≤ 100000 ∧ (decP l).1.no.length ≤ 100000 ∧ (decP l).1.refs.length ≤ 100000 := by
 rcases dec_err l with h | h
 ·obtain ⟨_, hc, _⟩ := enc_dec l hl h
  obtain ⟨h1, h2, h3, h4, h5, _⟩ := z3o hc
  exact ⟨by omega, by omega, by omega⟩
 ·rw [h]; exact ⟨Nat.zero_le _, Nat.zero_le _, Nat.zero_le _⟩
set_option maxRecDepth 100000 in
set_option maxHeartbeats 4000000 in
theorem frameReads_calls (b0 : ByteArray) (w : World) (h0 : b0.size ≤ 140737488351232) :
  Calls Try.prog 4 #[.string b0] w fun e w' => e = .returned (.bool true) ∧ Below w.heap.size w w' := by
 obtain ⟨b, hb⟩ : ∃ b, b = if 4000 < b0.size then b0.extract 0 4000 else b0 := ⟨_, rfl⟩
 have hbs : b.size ≤ 4000 := by
  rw [hb]; split
  ·rw [ByteArray.size_extract]; omega
  ·omega
 have hok := okl_bs b (by omega)
 obtain ⟨X, r, hX⟩ : ∃ X r, decP (bs b) = (X, r) := ⟨_, _, rfl⟩
 have hsm := dec_small (bs b) hok
 have hen := enc_dec (bs b) hok
 rw [hX] at hsm hen
 dsimp only at hsm hen
 have HE := Lib.hid hen
 have HX := Lib.hid hX
 have HB := Lib.hid hb
 have HS := Lib.hid hsm
 clear hen hX hb hsm hok
 go_enter Try.func4, Try.ntmps4
 go_upto_if 9 with (fail)
 go_cut [0] from 10 to 11 (fun s0 wz => s0 = .string b ∧ wz = w)
 case first =>
  by_cases h4 : 4000 < b0.size
  ·have h4b : decide ((b0.size : Int) > 4000) = true := by simp; omega
   have e4 : b0.extract 0 4000 = b := by rw [HB.out, if_pos h4]
   go_wp2_with fail
   go_meet
   exact ⟨by first | rfl | exact congrArg Value.string e4, rfl⟩
  ·have h4b : decide ((b0.size : Int) > 4000) = false := by simp; omega
   have e4 : b0 = b := by rw [HB.out, if_neg h4]
   go_wp2_with fail
   go_meet
   exact ⟨by first | rfl | exact congrArg Value.string e4, rfl⟩
 case rest =>
  obtain ⟨rfl, hw⟩ := hcut
  subst hw
  go_wp2_with fail
  refine (frDecode_calls b _ (by omega)).mono ?_
  rintro e1 w1 ⟨v, rfl, hv, hb1⟩
  rw [HX.out] at hv ⊢
  dsimp only at hv ⊢
  obtain ⟨A2, c2, A3, c3, A4, c4, rfl, hvr⟩ := id hv
  have HV := Lib.hid hv
  have HB1 := Lib.hid hb1
  clear hv hb1 hvr
  go_wp2_with fail
  refine (rfDecode_calls b _ (by omega)).mono ?_
  rintro e2 w2 ⟨v', rfl, hv', hb2⟩
  rw [HX.out] at hv' ⊢
  dsimp only at hv' ⊢
  obtain ⟨B2, d2, B3, d3, B4, d4, rfl, hvr⟩ := id hv'
  have hA : w2.heap[w1.heap.size]? = some (.cells (sayC X.kind X.ask (.slice A2 X.ids.length c2) (.slice A3 X.no.length c3) (.slice A4 X.refs.length c4) X.ticket X.n X.of X.data) 26 (0, 0)) := z0f (blk_new w1 _) hb2
  have HV2 := Lib.hid ((HV.out.below (z07 (Below.refl _ _) _)).below hb2)
  have hB2 : Below wc.heap.size wc w2 := z0l (z07 HB1.out _) hb2
  have H2 := Lib.hid (And.intro hA (And.intro hB2 hv'))
  clear hA hb2 hv' hvr hB2 HV
  go_wp2_with fail
  refine (frAwake_calls _).mono ?_
  rintro e3 w3 ⟨rfl, hb3⟩
  have hA := z0f (z02 H2.out.1 (.cells (sayC X.kind X.ask (.slice B2 X.ids.length d2) (.slice B3 X.no.length d3) (.slice B4 X.refs.length d4) X.ticket X.n X.of X.data) 34)) hb3
  have hB : w3.heap[w2.heap.size]? = some (.cells (sayC X.kind X.ask (.slice B2 X.ids.length d2) (.slice B3 X.no.length d3) (.slice B4 X.refs.length d4) X.ticket X.n X.of X.data) 34 (0, 0)) := z0f (blk_new w2 _) hb3
  have hbl := z0l (z07 H2.out.2.1 (.cells (sayC X.kind X.ask (.slice B2 X.ids.length d2) (.slice B3 X.no.length d3) (.slice B4 X.refs.length d4) X.ticket X.n X.of X.data) 34)) hb3
  have hv3 := (HV2.out.below (z07 (Below.refl _ _) (.cells (sayC X.kind X.ask (.slice B2 X.ids.length d2) (.slice B3 X.no.length d3) (.slice B4 X.refs.length d4) X.ticket X.n X.of X.data) 34))).below hb3
  have hv3' := (H2.out.2.2.below (z07 (Below.refl _ _) (.cells (sayC X.kind X.ask (.slice B2 X.ids.length d2) (.slice B3 X.no.length d3) (.slice B4 X.refs.length d4) X.ticket X.n X.of X.data) 34))).below hb3
  obtain ⟨ca0, ca1, ca2, ca3, ca4, ca5, ca6, ca7, ca8⟩ := z21 hA
  obtain ⟨cb0, cb1, cb2, cb3, cb4, cb5, cb6, cb7, cb8⟩ := z21 hB
  have H3 := Lib.hid (And.intro hB (And.intro hbl (And.intro hv3 hv3')))
  clear hA hB hbl hv3 hv3' hb3 HV2 H2
  go_wp2_with fail
  refine (same_calls X _ _ _ H3.out.2.2.1 H3.out.2.2.2 HS.out.1 HS.out.2.1 HS.out.2.2).mono ?_
  rintro e4 w4 ⟨rfl, hb4⟩
  have hB := z0f H3.out.1 hb4
  have hbl := z0l H3.out.2.1 hb4
  have hv4 := H3.out.2.2.2.below hb4
  clear ca0 ca1 ca2 ca3 ca4 ca5 ca6 ca7 ca8 cb0 cb1 cb2 cb3 cb4 cb5 cb6 cb7 cb8
  by_cases hr : r = 0
  ·have hrb : (r != 0) = false := by simpa using hr
   obtain ⟨q1, q2, q3⟩ := HE.out hr
   have hq : sb (encP X) = b := by rw [q1, sb_bs]
   obtain ⟨cb0, cb1, cb2, cb3, cb4, cb5, cb6, cb7, cb8⟩ := z21 hB
   have H4 := Lib.hid (And.intro hbl (And.intro hv4 (And.intro q2 (And.intro q3 hq))))
   clear hB hbl hv4 hb4 q1 q2 q3 hq H3 hr
   go_wp2_with fail
   refine (rfEncode_calls X _ _ H4.out.2.1 H4.out.2.2.2.1 H4.out.2.2.1).mono ?_
   rintro e5 w5 ⟨rfl, hb5⟩
   rw [H4.out.2.2.2.2]
   have H5 := Lib.hid (z0l H4.out.1 hb5)
   clear hb5
   go_wp2_with fail
   go_ret
   exact ⟨by simp, H5.out⟩
  ·have hrb : (r != 0) = true := by simpa using hr
   have H4 := Lib.hid hbl
   clear hB hbl hv4 hb4 H3 hr
   go_wp2_with fail
   go_ret
   exact ⟨by simp, H4.out⟩
end Go.Proofs.Ytcfdplmapdgfmaa.Mine
