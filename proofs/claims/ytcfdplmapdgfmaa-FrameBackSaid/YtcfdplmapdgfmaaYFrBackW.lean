import Derived.Test.YtcfdplmapdgfmaaYFrRef
import Derived.Test.YtcfdplmapdgfmaaYFrSame
set_option linter.unusedVariables false
set_option linter.unusedSimpArgs false
namespace Go.Proofs.Ytcfdplmapdgfmaa.Mine
open List renaming setIfInBounds_toArray → q1, set_cons_zero → q2, set_cons_succ → q3
open Go.RowKit Go.Proofs.YtcfdplmapdgfmaaW.PrintWords
set_option maxRecDepth 100000 in
set_option maxHeartbeats 8000000 in
theorem frameBack_calls (x : SayP) (v : Value) (w : World) (hv : SayV w v x) (ha : 0 ≤ x.ask) (hsm : ∀ y ∈ x.refs, y.1.size ≤ 9223372036854775807) :
  Calls Try.prog 3 #[v] w fun e w' => e = .returned (.bool true) ∧ Below w.heap.size w w' := by
 obtain ⟨s, hs⟩ : ∃ s, s = cutP x := ⟨_, rfl⟩
 have hcut := fun (W : World) (hW : SayV W v x) => cut_calls x v W hW
 rw [← hs] at hcut
 have has : 0 ≤ s.ask := by rw [hs]; exact ha
 have hsr : SmallR s.refs := by rw [hs]; exact fun y hy => hsm y (List.mem_of_mem_take hy)
 have hi : s.ids.length ≤ 100000 := by rw [hs]; simp only [cutP, List.length_take]; omega
 have hn : s.no.length ≤ 100000 := by rw [hs]; simp only [cutP, List.length_take]; omega
 have hr : s.refs.length ≤ 1000 := by rw [hs]; simp only [cutP, List.length_take]; omega
 have HCUT := Lib.hid hcut
 have HV := Lib.hid hv
 have HS := Lib.hid (And.intro hsr (And.intro hi (And.intro hn hr)))
 clear hs hcut hsm hsr hi hn hr
 obtain ⟨A2, c2, A3, c3, A4, c4, rfl, hrest⟩ := hv
 clear hrest
 go_enter Try.func3, Try.ntmps3
 go_wp2_with fail
 refine (HCUT.out _ (HV.out.below (z03 (Below.refl _ _) _))).mono ?_
 rintro e1 w1 ⟨v1, rfl, hv1, hb1⟩
 have hb1w : Below w.heap.size w w1 := z0i (z03 (Below.refl _ _) _) hb1
 have hvv := hv1
 obtain ⟨B2, d2, B3, d3, B4, d4, rfl, hrest⟩ := hv1
 have hbox : (w1.alloc (.cells (sayC s.kind s.ask (.slice B2 s.ids.length d2) (.slice B3 s.no.length d3) (.slice B4 s.refs.length d4) s.ticket s.n s.of s.data) 26)).heap[w1.heap.size]? = some (.cells (sayC s.kind s.ask (.slice B2 s.ids.length d2) (.slice B3 s.no.length d3) (.slice B4 s.refs.length d4) s.ticket s.n s.of s.data) 26 (0, 0)) := blk_new w1 _
 have hv2 : SayV (w1.alloc (.cells (sayC s.kind s.ask (.slice B2 s.ids.length d2) (.slice B3 s.no.length d3) (.slice B4 s.refs.length d4) s.ticket s.n s.of s.data) 26)) (.agg (sayC s.kind s.ask (.slice B2 s.ids.length d2) (.slice B3 s.no.length d3) (.slice B4 s.refs.length d4) s.ticket s.n s.of s.data)) s := hvv.below (z03 (Below.refl _ _) _)
 have hb2w := z03 hb1w (.cells (sayC s.kind s.ask (.slice B2 s.ids.length d2) (.slice B3 s.no.length d3) (.slice B4 s.refs.length d4) s.ticket s.n s.of s.data) 26)
 have hb1g : w.heap.size ≤ w1.heap.size := hb1w.size
 have H1 := Lib.hid (And.intro hbox (And.intro hv2 (And.intro hb2w hb1g)))
 clear hrest hb1 hb1w HCUT HV hvv hbox hv2 hb2w hb1g
 go_wp2_with fail
 refine (frEncode_calls s _ _ H1.out.2.1 has).mono ?_
 rintro e2 w2 ⟨rfl, hb2⟩
 have H2 := Lib.hid (And.intro (z0m H1.out.1 hb2) (And.intro (H1.out.2.1.below hb2) (And.intro (z0i H1.out.2.2.1 hb2) H1.out.2.2.2)))
 clear hb2 H1
 generalize w1.heap.size = B at H2 ⊢
 obtain ⟨b, hb⟩ : ∃ b, b = (if checkP s = 0 then sb (encP s) else ⟨#[]⟩) := ⟨_, rfl⟩
 rw [← hb]
 have HB := Lib.hid hb
 clear hb
 obtain ⟨z, hz⟩ : ∃ z, z = checkP s := ⟨_, rfl⟩
 rw [← hz]
 have HZ := Lib.hid hz
 clear hz
 have hzz : (z != z) = false := by simp
 obtain ⟨c0, c1, c2', c3', c4', c5, c6, c7, c8⟩ := z11 H2.out.1
 go_wp2_with fail
 refine (ref_say_calls s _ _ H2.out.2.1 HS.out.2.2.2).mono ?_
 rintro e3 w3 ⟨v3, rfl, hv3, hb3⟩
 have H3 := Lib.hid (And.intro (z0m H2.out.1 hb3) (And.intro (H2.out.2.1.below hb3) (And.intro (z0i H2.out.2.2.1 hb3) H2.out.2.2.2)))
 have hvv := hv3
 obtain ⟨G2, g2, G3, g3, G4, g4, rfl, hrest⟩ := hv3
 clear hb3 H2 c0 c1 c2' c3' c4' c5 c6 c7 c8 hrest
 have HV3 := Lib.hid hvv
 clear hvv
 go_wp2_with fail
 refine (rfCheck_calls s _ _ HV3.out HS.out.1).mono ?_
 rintro e4 w4 ⟨rfl, hb4⟩
 rw [← HZ.out]
 have H4 := Lib.hid (And.intro (z0m H3.out.1 hb4) (And.intro (H3.out.2.1.below hb4) (And.intro (z0i H3.out.2.2.1 hb4) H3.out.2.2.2)))
 clear hb4 H3 HV3
 go_wp2_with fail
 refine (frAwake_calls _).mono ?_
 rintro e5 w5 ⟨rfl, hb5⟩
 have H5 := Lib.hid (And.intro (z0m H4.out.1 hb5) (And.intro (H4.out.2.1.below hb5) (And.intro (z0i H4.out.2.2.1 hb5) H4.out.2.2.2)))
 clear hb5 H4
 obtain ⟨c0, c1, c2', c3', c4', c5, c6, c7, c8⟩ := z11 H5.out.1
 go_wp2_with fail
 refine (frCheck_calls s _ _ H5.out.2.1).mono ?_
 rintro e6 w6 ⟨rfl, hb6⟩
 rw [← HZ.out]
 have H6 := Lib.hid (And.intro (z0m H5.out.1 hb6) (And.intro (H5.out.2.1.below hb6) (And.intro (z0i H5.out.2.2.1 hb6) H5.out.2.2.2)))
 clear hb6 H5 c0 c1 c2' c3' c4' c5 c6 c7 c8
 by_cases h0 : checkP s = 0
 case neg =>
  have hzb : (z != 0) = true := by rw [HZ.out]; simpa using h0
  have hbe : b = ⟨#[]⟩ := by rw [HB.out, if_neg h0]
  subst hbe
  clear h0 HB
  go_wp2_with fail
  go_ret
  exact ⟨by rfl, H6.out.2.2.1⟩
 case pos =>
 have hz0 : z = 0 := by rw [HZ.out, h0]
 subst hz0
 have hlen := encP_len s has h0
 have hbe : b = sb (encP s) := by rw [HB.out, if_pos h0]
 have hbz : b.size ≤ 1000000 := by rw [hbe, z0y]; omega
 have hd0 : decP (bs b) = (s, 0) := by rw [hbe, bs_sb _ (encP_lt s h0), dec_enc s has h0]
 have HD := Lib.hid (And.intro hd0 (And.intro hbe h0))
 clear hlen hbe hd0 h0 HB
 go_wp2_with fail
 refine (frDecode_calls b _ hbz).mono ?_
 rintro e7 w7 ⟨v7, rfl, hv7, hb7⟩
 rw [HD.out.1] at hv7 ⊢
 have hvv := hv7
 obtain ⟨E2, f2, E3, f3, E4, f4, rfl, hrest⟩ := hv7
 have H7 := Lib.hid (And.intro (z0m H6.out.1 hb7) (And.intro (H6.out.2.1.below hb7) (And.intro (z0i H6.out.2.2.1 hb7) H6.out.2.2.2)))
 have HV7 := Lib.hid hvv
 clear hrest hb7 H6 hvv
 go_wp2_with fail
 rename_i Q0 K0 hK0
 have hbB : (w7.alloc (.cells (sayC s.kind s.ask (.slice E2 s.ids.length f2) (.slice E3 s.no.length f3) (.slice E4 s.refs.length f4) s.ticket s.n s.of s.data) 26)).heap[B]? = some (.cells (sayC s.kind s.ask (.slice B2 s.ids.length d2) (.slice B3 s.no.length d3) (.slice B4 s.refs.length d4) s.ticket s.n s.of s.data) 26 (0, 0)) := z0a H7.out.1 _
 have hbT : (w7.alloc (.cells (sayC s.kind s.ask (.slice E2 s.ids.length f2) (.slice E3 s.no.length f3) (.slice E4 s.refs.length f4) s.ticket s.n s.of s.data) 26)).heap[w7.heap.size]? = some (.cells (sayC s.kind s.ask (.slice E2 s.ids.length f2) (.slice E3 s.no.length f3) (.slice E4 s.refs.length f4) s.ticket s.n s.of s.data) 26 (0, 0)) := blk_new w7 _
 have hvS := H7.out.2.1.below (z03 (Below.refl _ _) (.cells (sayC s.kind s.ask (.slice E2 s.ids.length f2) (.slice E3 s.no.length f3) (.slice E4 s.refs.length f4) s.ticket s.n s.of s.data) 26))
 have hvT : SayV (w7.alloc (.cells (sayC s.kind s.ask (.slice E2 s.ids.length f2) (.slice E3 s.no.length f3) (.slice E4 s.refs.length f4) s.ticket s.n s.of s.data) 26)) (.agg (sayC s.kind s.ask (.slice E2 s.ids.length f2) (.slice E3 s.no.length f3) (.slice E4 s.refs.length f4) s.ticket s.n s.of s.data)) s := HV7.out.below (z03 (Below.refl _ _) _)
 have hbel := z03 H7.out.2.2.1 (.cells (sayC s.kind s.ask (.slice E2 s.ids.length f2) (.slice E3 s.no.length f3) (.slice E4 s.refs.length f4) s.ticket s.n s.of s.data) 26)
 unfold sayC at hbB hbT hvS hvT hbel
 generalize World.alloc w7 _ = w8 at hbB hbT hvS hvT hbel ⊢
 generalize w7.heap.size = T at hbT ⊢
 have hbB : w8.heap[B]? = some (.cells (sayC s.kind s.ask (.slice B2 s.ids.length d2) (.slice B3 s.no.length d3) (.slice B4 s.refs.length d4) s.ticket s.n s.of s.data) 26 (0, 0)) := hbB
 have hbT : w8.heap[T]? = some (.cells (sayC s.kind s.ask (.slice E2 s.ids.length f2) (.slice E3 s.no.length f3) (.slice E4 s.refs.length f4) s.ticket s.n s.of s.data) 26 (0, 0)) := hbT
 have Hw8 := Lib.hid (And.intro hbB (And.intro hbT (And.intro (show SayV w8 (.agg (sayC s.kind s.ask (.slice B2 s.ids.length d2) (.slice B3 s.no.length d3) (.slice B4 s.refs.length d4) s.ticket s.n s.of s.data)) s from hvS) (And.intro (show SayV w8 (.agg (sayC s.kind s.ask (.slice E2 s.ids.length f2) (.slice E3 s.no.length f3) (.slice E4 s.refs.length f4) s.ticket s.n s.of s.data)) s from hvT) hbel))))
 clear hvS hvT hbel H7 HV7
 refine wp_region_held_drew (S := fun w' => w'.heap[B]? = some (.cells (sayC s.kind s.ask (.slice B2 s.ids.length d2) (.slice B3 s.no.length d3) (.slice B4 s.refs.length d4) s.ticket s.n s.of s.data) 26 (0, 0)) ∧ w'.heap[T]? = some (.cells (sayC s.kind s.ask (.slice E2 s.ids.length f2) (.slice E3 s.no.length f3) (.slice E4 s.refs.length f4) s.ticket s.n s.of s.data) 26 (0, 0))) (by kernel_rfl) ⟨hbB, hbT⟩ (fun hHeld => ?_)
 clear hbB hbT
 refine wpAnyH_take (i := 0) (v := ?v0x1) rfl (by kernel_rfl) (by kernel_rfl) (by kernel_rfl) (fun _ _ _ h => h) (Or.inl ⟨by rfl, ?y0x1⟩) (by first | trivial | assumption) ?r0x1
 case y0x1 => (intro w' hSw; clear hSw; go_simp; try (with_reducible rfl))
 try simp only [Act.put, q1, q2, q3]
 refine wpAnyH_take (i := 1) (v := ?v1x2) rfl (by kernel_rfl) (by kernel_rfl) (by kernel_rfl) (fun _ _ _ h => h) (Or.inl ⟨by rfl, ?y1x2⟩) (by first | trivial | assumption) ?r1x2
 case y1x2 => (intro w' hSw; obtain ⟨s1, s2⟩ := hSw; obtain ⟨g0, g1, g2, g3, g4, g5, g6, g7, g8⟩ := z11 s1; obtain ⟨k0, k1, k2, k3, k4, k5, k6, k7, k8⟩ := z11 s2; clear s1 s2; go_simp; try (with_reducible rfl))
 try simp only [Act.put, q1, q2, q3]
 refine wpAnyH_ready (rs := [2]) (by kernel_rfl) (by simp) ?_
 refine AllReadyH.cons rfl (fun K hK => ?_) AllReadyH.nil
 go_simp
 refine (ref_say_calls s _ _ (Hw8.out.2.2.1.below (below_drew (Below.refl _ _))) HS.out.2.2.2).mono ?_
 rintro e9 w9 ⟨v9, rfl, hvw9, hb⟩
 have hb : Below w8.heap.size w8 w9 := ⟨hb.os, hb.tape, hb.output, hb.size, hb.block⟩
 have hvv := hvw9
 obtain ⟨G2, g2, G3, g3, G4, g4, rfl, hrest⟩ := hvw9
 have HV9 := Lib.hid hvv
 clear hvv hrest
 have hbB := z0m Hw8.out.1 hb
 have hbT := z0m Hw8.out.2.1 hb
 have Hw9 := Lib.hid (And.intro hbB (And.intro hbT (And.intro (Hw8.out.2.2.1.below hb) (And.intro (Hw8.out.2.2.2.1.below hb) (z0i Hw8.out.2.2.2.2 hb)))))
 refine hK.out _ _ ⟨hbB, hbT⟩ (fun hHeld2 => ?_)
 clear hb hbB hbT Hw8
 clear hK K
 try simp only [Act.put, q1, q2, q3]
 refine wpAnyH_ready (rs := [3]) (by kernel_rfl) (by simp) ?_
 refine AllReadyH.cons rfl (fun K hK => ?_) AllReadyH.nil
 go_simp
 refine (rfEncode_calls s _ _ HV9.out has HD.out.2.2).mono ?_
 rintro e10 w10 ⟨rfl, hb⟩
 have hb : Below w9.heap.size w9 w10 := ⟨hb.os, hb.tape, hb.output, hb.size, hb.block⟩
 rw [← HD.out.2.1]
 have hbB := z0m Hw9.out.1 hb
 have hbT := z0m Hw9.out.2.1 hb
 have Hw10 := Lib.hid (And.intro hbB (And.intro hbT (And.intro (Hw9.out.2.2.1.below hb) (And.intro (Hw9.out.2.2.2.1.below hb) (z0i Hw9.out.2.2.2.2 hb)))))
 refine hK.out _ _ ⟨hbB, hbT⟩ (fun hHeld2 => ?_)
 clear hb hbB hbT Hw9
 clear hK K
 try simp only [Act.put, q1, q2, q3]
 clear HV9
 refine wpAnyH_take (i := 4) (v := ?v4x3) rfl (by kernel_rfl) (by kernel_rfl) (by kernel_rfl) (fun _ _ _ h => h) (Or.inl ⟨by rfl, ?y4x3⟩) (by first | trivial | assumption) ?r4x3
 case y4x3 => (intro w' hSw; clear hSw; go_simp; try (with_reducible rfl))
 try simp only [Act.put, q1, q2, q3]
 refine wpAnyH_take (i := 5) (v := ?v5x4) rfl (by kernel_rfl) (by kernel_rfl) (by kernel_rfl) (fun _ _ _ h => h) (Or.inl ⟨by rfl, ?y5x4⟩) (by first | trivial | assumption) ?r5x4
 case y5x4 => (intro w' hSw; clear hSw; go_simp; try (with_reducible rfl))
 try simp only [Act.put, q1, q2, q3]
 refine wpAnyH_take (i := 6) (v := ?v6x5) rfl (by kernel_rfl) (by kernel_rfl) (by kernel_rfl) (fun _ _ _ h => h) (Or.inl ⟨by rfl, ?y6x5⟩) (by first | trivial | assumption) ?r6x5
 case y6x5 => (intro w' hSw; clear hSw; go_simp; try (with_reducible rfl))
 try simp only [Act.put, q1, q2, q3]
 refine wpAnyH_take (i := 7) (v := ?v7x6) rfl (by kernel_rfl) (by kernel_rfl) (by kernel_rfl) (fun _ _ _ h => h) (Or.inl ⟨by rfl, ?y7x6⟩) (by first | trivial | assumption) ?r7x6
 case y7x6 => (intro w' hSw; clear hSw; go_simp; try (with_reducible rfl))
 try simp only [Act.put, q1, q2, q3]
 refine wpAnyH_take (i := 8) (v := ?v8x7) rfl (by kernel_rfl) (by kernel_rfl) (by kernel_rfl) (fun _ _ _ h => h) (Or.inl ⟨by rfl, ?y8x7⟩) (by first | trivial | assumption) ?r8x7
 case y8x7 => (intro w' hSw; clear hSw; go_simp; try (with_reducible rfl))
 try simp only [Act.put, q1, q2, q3]
 refine wpAnyH_take (i := 9) (v := ?v9x8) rfl (by kernel_rfl) (by kernel_rfl) (by kernel_rfl) (fun _ _ _ h => h) (Or.inl ⟨by rfl, ?y9x8⟩) (by first | trivial | assumption) ?r9x8
 case y9x8 => (intro w' hSw; clear hSw; go_simp; try (with_reducible rfl))
 try simp only [Act.put, q1, q2, q3]
 refine wpAnyH_take (i := 10) (v := ?v10x9) rfl (by kernel_rfl) (by kernel_rfl) (by kernel_rfl) (fun _ _ _ h => h) (Or.inl ⟨by rfl, ?y10x9⟩) (by first | trivial | assumption) ?r10x9
 case y10x9 => (intro w' hSw; obtain ⟨s1, s2⟩ := hSw; obtain ⟨g0, g1, g2, g3, g4, g5, g6, g7, g8⟩ := z11 s1; obtain ⟨k0, k1, k2, k3, k4, k5, k6, k7, k8⟩ := z11 s2; clear s1 s2; go_simp; try (with_reducible rfl))
 try simp only [Act.put, q1, q2, q3]
 refine wpAnyH_take (i := 11) (v := ?v11x10) rfl (by kernel_rfl) (by kernel_rfl) (by kernel_rfl) (fun _ _ _ h => h) (Or.inl ⟨by rfl, ?y11x10⟩) (by first | trivial | assumption) ?r11x10
 case y11x10 => (intro w' hSw; obtain ⟨s1, s2⟩ := hSw; obtain ⟨g0, g1, g2, g3, g4, g5, g6, g7, g8⟩ := z11 s1; obtain ⟨k0, k1, k2, k3, k4, k5, k6, k7, k8⟩ := z11 s2; clear s1 s2; go_simp; try (with_reducible rfl))
 try simp only [Act.put, q1, q2, q3]
 refine wpAnyH_ready (rs := [12]) (by kernel_rfl) (by simp) ?_
 refine AllReadyH.cons rfl (fun K hK => ?_) AllReadyH.nil
 go_simp
 refine (ref_say_calls s _ _ Hw10.out.2.2.1 HS.out.2.2.2).mono ?_
 rintro e11 w11 ⟨v11, rfl, hvw11, hb⟩
 have hb : Below w10.heap.size w10 w11 := ⟨hb.os, hb.tape, hb.output, hb.size, hb.block⟩
 have hvv := hvw11
 obtain ⟨L2, m2, L3, m3, L4, m4, rfl, hrest⟩ := hvw11
 have HV11 := Lib.hid hvv
 clear hvv hrest
 have hbB := z0m Hw10.out.1 hb
 have hbT := z0m Hw10.out.2.1 hb
 have Hw11 := Lib.hid (And.intro hbB (And.intro hbT (And.intro (Hw10.out.2.2.1.below hb) (And.intro (Hw10.out.2.2.2.1.below hb) (z0i Hw10.out.2.2.2.2 hb)))))
 refine hK.out _ _ ⟨hbB, hbT⟩ (fun hHeld2 => ?_)
 clear hb hbB hbT Hw10
 clear hK K
 try simp only [Act.put, q1, q2, q3]
 refine wpAnyH_ready (rs := [13]) (by kernel_rfl) (by simp) ?_
 refine AllReadyH.cons rfl (fun K hK => ?_) AllReadyH.nil
 go_simp
 refine (same_calls s _ _ _ Hw11.out.2.2.2.1 HV11.out HS.out.2.1 HS.out.2.2.1 (by have := HS.out.2.2.2; omega)).mono ?_
 rintro e12 w12 ⟨rfl, hb⟩
 have hb : Below w11.heap.size w11 w12 := ⟨hb.os, hb.tape, hb.output, hb.size, hb.block⟩
 have hbB := z0m Hw11.out.1 hb
 have hbT := z0m Hw11.out.2.1 hb
 have Hw12 := Lib.hid (And.intro hbB (And.intro hbT (And.intro (Hw11.out.2.2.1.below hb) (And.intro (Hw11.out.2.2.2.1.below hb) (z0i Hw11.out.2.2.2.2 hb)))))
 refine hK.out _ _ ⟨hbB, hbT⟩ (fun hHeld2 => ?_)
 clear hb hbB hbT Hw11
 clear hK K
 try simp only [Act.put, q1, q2, q3]
 refine wpAnyH_take (i := 14) (v := ?v14x11) rfl (by kernel_rfl) (by kernel_rfl) (by kernel_rfl) (fun _ _ _ h => h) (Or.inl ⟨by rfl, ?y14x11⟩) (by first | trivial | assumption) ?r14x11
 case y14x11 => (intro w' hSw; clear hSw; go_simp; try (with_reducible rfl))
 try simp only [Act.put, q1, q2, q3]
 refine wpAnyH_ready (rs := [15]) (by kernel_rfl) (by simp) ?_
 refine AllReadyH.cons rfl (fun K hK => ?_) AllReadyH.nil
 go_simp
 refine hK.out _ _ hHeld2 (fun hHeld3 => ?_)
 clear hK K
 try simp only [Act.put, q1, q2, q3]
 refine wpAnyH_done (by kernel_rfl) ?_ _
 refine hK0 _ _ ?_
 go_wp2_with fail
 go_ret
 exact ⟨by simp, Hw12.out.2.2.2.2⟩
end Go.Proofs.Ytcfdplmapdgfmaa.Mine
