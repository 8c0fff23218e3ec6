/- The contract of delta.Make. -/
import Derived.Test.YtjgbodgcbagbnaaMakeL2
import Derived.Test.YtjgbodgcbagbnaaBlocks
import Derived.Test.YtjgbodgcbagbnaaNumPrint
set_option linter.unusedVariables false
set_option linter.unusedSimpArgs false
namespace Go.Proofs.Ytjgbodgcbagbnaa.Mine
open Go.RowKit Go.Proofs.YtjgbodgcbagbnaaW.PrintWords

set_option maxRecDepth 100000 in
theorem insert_calls (t : ByteArray) (w : World) (ht : t.size ≤ 1000000) :
    Calls Try.prog 42 #[.string t] w fun e w' => e = .returned (.string (sb (insB (bs t)))) ∧ Below w.heap.size w w' := by
  by_cases h0 : t.size = 0
  · have hb : bs t = [] := List.eq_nil_of_length_eq_zero (by rw [bs_length]; exact h0)
    have he := str_empty' h0
    have he2 := str_empty h0
    have HB := Lib.hid hb
    clear hb h0
    go_enter Try.func42, Try.ntmps42
    go_wp2_with (fail)
    go_ret
    exact ⟨ret_s (by rw [HB.out]; rfl), Below.refl _ _⟩
  · have he := str_full' h0
    have he2 := str_full h0
    have hb : bs t ≠ [] := fun e => h0 (by rw [← bs_length, e]; rfl)
    have hpos : 1 ≤ t.size := by omega
    have hnum := num_calls (2 * (t.size - 1))
    have HN := Lib.hid hnum
    have HB := Lib.hid hb
    clear hnum hb h0
    have e1 : (2 * ((t.size : Int) - 1)) = ((2 * (t.size - 1) : Nat) : Int) := by omega
    have hl := num_length (2 * (t.size - 1)) (by omega)
    have hsz : (sb (num (2 * (t.size - 1)))).size ≤ 10 := by rw [sb_size]; exact hl
    have HE := Lib.hid e1
    clear e1 hl
    go_enter Try.func42, Try.ntmps42
    go_wp2_with fail
    rw [HE.out]
    refine (HN.out _ (by omega)).mono ?_
    rintro e w1 ⟨rfl, hb1⟩
    have HB1 := Lib.hid hb1
    clear hb1
    go_wp2_with fail
    go_ret
    refine ⟨ret_s ?_, HB1.out⟩
    rw [insB_pos _ HB.out, sb_append, sb_bs, bs_length]
theorem num_lit (z : Int) (n : Nat) (w : World) (hz : z = (n : Int)) (hn : n < 18446744073709551616) :
    Calls Try.prog 41 #[.int .u64 z] w fun e w' => e = .returned (.string (sb (num n))) ∧ Below w.heap.size w w' := by
  subst hz; exact num_calls n w hn
theorem grown_of_below {w w' : World} (h : Below w.heap.size w w') : w.grownBy w' none := ⟨h.os, h.tape, h.output, h.size, fun i hi _ => h.block i hi⟩
noncomputable def makeL1 : Code := ((loopsIn ((Try.f22.body).getD .skip))[0]?).getD .skip
set_option maxRecDepth 100000 in
set_option maxHeartbeats 1000000 in
theorem make_calls (base s : ByteArray) (w : World) (hbz : base.size ≤ 1000000) (hsz : s.size ≤ 1000000) :
    Calls Try.prog 22 #[.string base, .string s] w fun e w' => e = .returned (.string (sb (makeD (bs base) (bs s)))) ∧ Below w.heap.size w w' := by
  have l1 := num_length base.size (by omega)
  have l2 := num_length s.size (by omega)
  have z1 : (sb (num base.size)).size ≤ 10 := by rw [sb_size]; exact l1
  have z2 : (sb (num s.size)).size ≤ 10 := by rw [sb_size]; exact l2
  clear l1 l2
  go_enter Try.func22, Try.ntmps22
  go_wp2_with fail
  refine (blocks_calls base (by omega) _).mono ?_
  rintro e w1 ⟨D, rfl, hown, hF, hb1⟩
  have HM := Lib.hid (And.intro hown hF)
  have HB1 := Lib.hid hb1
  clear hown hF hb1
  go_wp2_with fail
  refine (num_calls base.size _ (by omega)).mono ?_
  rintro e w2 ⟨rfl, hb2⟩
  have HB2 := Lib.hid hb2
  clear hb2
  go_wp2_with fail
  refine (num_calls s.size _ (by omega)).mono ?_
  rintro e w3 ⟨rfl, hb3⟩
  have HB3 := Lib.hid hb3
  clear hb3
  go_wp2_with fail
  have hm3 := (HM.out.1.kept (grown_of_below HB2.out) (by simp)).kept (grown_of_below HB3.out) (by simp)
  have hb03 : Below w.heap.size w w3 := HB1.out.trans ((HB2.out.mono HB1.out.size).trans (HB3.out.mono (Nat.le_trans HB1.out.size HB2.out.size)))
  have hF := HM.out.2
  obtain ⟨F, hFe⟩ : ∃ F, F = blkF (bs base) (base.size / 16) := ⟨_, rfl⟩
  rw [← hFe] at hF
  obtain ⟨R, hR⟩ : ∃ R, R = bs (sb (num base.size) ++ sb (num s.size)) ++ mkD F (bs base) (bs s) 0 0 := ⟨_, rfl⟩
  have hso : (sb (num base.size) ++ sb (num s.size)).size ≤ 20 := by rw [ByteArray.size_append]; omega
  obtain ⟨O, hO⟩ : ∃ O, O = sb (num base.size) ++ sb (num s.size) := ⟨_, rfl⟩
  have HR := Lib.hid (And.intro hR (And.intro hO (And.intro hso hFe)))
  rw [← hO]
  have HF := Lib.hid hF
  have HM3 := Lib.hid (And.intro hm3 hb03)
  clear hR hO hso hFe hF hm3 hb03 HB1 HB2 HB3 HM z1 z2
  go_loopg [6, 7, 8] s.size (fun g s6 s7 s8 wr => ∃ (o : ByteArray) (fr at_ : Nat), fr ≤ at_ ∧ at_ ≤ s.size ∧ g = s.size - at_ ∧ s6 = .string o ∧ s7 = .int .i64 fr ∧ s8 = .int .i64 at_ ∧
      Hid (bs o ++ mkD F (bs base) (bs s) at_ fr = R) ∧ Hid (o.size + (at_ - fr) ≤ 40 + 40 * at_) ∧ Hid (wr.ownsMap Try.prog 9 (plainElem (H := Unit) Try.prog 3) w.heap.size (base.size / 16) D) ∧ Hid (Below w.heap.size w wr))
  case atStart =>
    refine ⟨O, 0, 0, by omega, by omega, rfl, rfl, rfl, rfl, ?_, ?_, HM3.out.1, HM3.out.2⟩
    · rw [HR.out.2.1]; exact HR.out.1.symm
    · unfold Hid; rw [HR.out.2.1]; have := HR.out.2.2.1; omega
  case round =>
    obtain ⟨o, fr, at_, hfr, hat, hg, rfl, rfl, rfl, HO, HS, HMr, HB⟩ := hrel
    have HG := Lib.hid hg
    clear hg
    have hos : o.size ≤ 40000100 := by have := HS.out; omega
    by_cases h16 : at_ + 16 ≤ s.size
    · have h16b : decide ((at_ : Int) + 16 ≤ (s.size : Int)) = true := by simp; omega
      have hsl := slice_run s at_ (at_ + 16) (at_ : Int) ((at_ : Int) + 16) rfl (by omega) (by omega) h16
      obtain ⟨key, hk⟩ : ∃ key, key = s.extract at_ (at_ + 16) := ⟨_, rfl⟩
      have hkb : bs key = ((bs s).drop at_).take 16 := by rw [hk, bs_extract]; congr 1; omega
      have hks : key.size ≤ 9223372036854775807 := by rw [hk, ByteArray.size_extract]; omega
      have hkey := keyS key hks
      rw [← hk] at hsl
      have HKB := Lib.hid hkb
      clear hk hkb
      have hhas := HF.out.has_ key
      cases hf : F (bs key) with
      | none =>
        rw [hf] at hhas
        have hh : Maps.has D (klit key) = false := hhas
        have HFN := Lib.hid hf
        clear hhas hf
        have hown := HMr.out
        go_wp2_with (at_lookup; refine wpList_lookup_own_ok_int _ rfl _ _ 59 rfl 9 3 .i64 (Maps.string_keyed Try.underlying9) Try.underlying59 Try.underlying3 (zeroI _) w.heap.size (base.size / 16) D rfl hown _ _ rfl hkey ?_; intro c hat hwc)
        go_roundg (s.size - (at_ + 1))
        case measure => have := HG.out; omega
        case rel =>
          refine ⟨o, fr, at_ + 1, by omega, by omega, rfl, rfl, rfl, by go_num, ?_, ?_, HMr.out, HB.out⟩
          · have e := mkD_none F (bs base) (bs s) at_ fr (by rw [bs_length]; exact h16) (by rw [← HKB.out]; exact HFN.out)
            unfold Hid; rw [← HO.out, e]
          · unfold Hid; have := HS.out; omega
      | some k =>
        rw [hf] at hhas
        have hh : Maps.has D (klit key) = true := hhas
        have HFN := Lib.hid hf
        have hat2 := fun (c : Int) h => HF.out.at_ key hf (c := c) h
        have HAT := Lib.hid hat2
        clear hhas hf hat2
        have hown := HMr.out
        have hk16 : k + 16 ≤ base.size := by
          have := HFN.out
          rw [HR.out.2.2.2] at this
          obtain ⟨i, h1, h2, _⟩ := blkF_at _ _ _ _ this
          omega
        go_wp2_with (at_lookup; refine wpList_lookup_own_ok_int _ rfl _ _ 59 rfl 9 3 .i64 (Maps.string_keyed Try.underlying9) Try.underlying59 Try.underlying3 (zeroI _) w.heap.size (base.size / 16) D rfl hown _ _ rfl hkey ?_; intro c hat hwc; have hck := HAT.out c hat; rw [hck]; clear hat hwc)
        obtain ⟨N, hN⟩ : ∃ N, N = 16 + lcp ((bs s).drop (at_ + 16)) ((bs base).drop (k + 16)) := ⟨_, rfl⟩
        have hNb : 16 ≤ N ∧ at_ + N ≤ s.size := by
          have := (lcp_le ((bs s).drop (at_ + 16)) ((bs base).drop (k + 16))).1
          rw [List.length_drop, bs_length] at this
          omega
        have HN := Lib.hid hN
        clear hsl hkey hown h16b hck hh
        refine makeL2_wp (base := base) (s := s) (at_ := at_) (k := k) (n := 16) (N := N) _ hbz hsz h16 hk16 hN ?_
        clear hN
        intro v42 v43 v44 v45 v46 v47 v48 v49 v50 v51 v52 v53 v54 v55 v56 v57 v58 v59 v60 v61 v62 v63 v64 v65 v66 v67 v68 v69 v70 w4 hd4
        have hm4 := HMr.out.kept (grown_of_below hd4.below) (by simp)
        have hb4 := HB.out.trans (hd4.below.mono HB.out.size)
        have HM4 := Lib.hid (And.intro hm4 hb4)
        clear hm4 hb4 hd4
        have hsl2 := slice_run s fr at_ (fr : Int) (at_ : Int) rfl rfl hfr (by omega)
        obtain ⟨u, hu⟩ : ∃ u, u = s.extract fr at_ := ⟨_, rfl⟩
        have hub : bs u = ((bs s).drop fr).take (at_ - fr) := by rw [hu, bs_extract]
        have hus : u.size ≤ at_ - fr := by rw [hu, ByteArray.size_extract]; omega
        rw [← hu] at hsl2
        have HU := Lib.hid hub
        clear hub hu
        have hil := insB_length (bs u) (by rw [bs_length]; omega)
        rw [bs_length] at hil
        have his : (sb (insB (bs u))).size ≤ u.size + 10 := by rw [sb_size]; exact hil
        have hn1 : (sb (num (2 * (N - 1) + 1))).size ≤ 10 := by rw [sb_size]; exact num_length _ (by omega)
        have hn2 : (sb (num k)).size ≤ 10 := by rw [sb_size]; exact num_length _ (by omega)
        have HI := Lib.hid hil
        clear hil
        go_wp2_with fail
        refine (insert_calls u _ (by omega)).mono ?_
        rintro e w5 ⟨rfl, hb5⟩
        have hm5 := HM4.out.1.kept (grown_of_below hb5) (by simp)
        have hbb5 := HM4.out.2.trans (hb5.mono HM4.out.2.size)
        have HM5 := Lib.hid (And.intro hm5 hbb5)
        clear hm5 hbb5 hb5
        go_wp2_with fail
        refine (num_lit _ (2 * (N - 1) + 1) _ (by omega) (by omega)).mono ?_
        rintro e w6 ⟨rfl, hb6⟩
        have hm6 := HM5.out.1.kept (grown_of_below hb6) (by simp)
        have hbb6 := HM5.out.2.trans (hb6.mono HM5.out.2.size)
        have HM6 := Lib.hid (And.intro hm6 hbb6)
        clear hm6 hbb6 hb6
        go_wp2_with fail
        refine (num_calls k _ (by omega)).mono ?_
        rintro e w7 ⟨rfl, hb7⟩
        have hm7 := HM6.out.1.kept (grown_of_below hb7) (by simp)
        have hbb7 := HM6.out.2.trans (hb7.mono HM6.out.2.size)
        have HM7 := Lib.hid (And.intro hm7 hbb7)
        clear hm7 hbb7 hb7
        go_wp2_with fail
        go_roundg (s.size - (at_ + N))
        case measure => have := HG.out; omega
        case rel =>
          refine ⟨_, at_ + N, at_ + N, Nat.le_refl _, by omega, rfl, rfl, by go_num, by go_num, ?_, ?_, HM7.out.1, HM7.out.2⟩
          · have e := mkD_some F (bs base) (bs s) at_ fr k N (by rw [bs_length]; exact h16) (by rw [← HKB.out]; exact HFN.out) HN.out
            unfold Hid
            rw [← HO.out, e, ← HU.out]
            simp only [bs_append]
            rw [bs_sb _ (insB_lt _ (bs_lt u)), bs_sb _ (num_lt _), bs_sb _ (num_lt _)]
            simp [repB]
          · unfold Hid
            simp only [ByteArray.size_append]
            have := HS.out
            omega
    · have h16b : decide ((at_ : Int) + 16 ≤ (s.size : Int)) = false := by simp; omega
      obtain ⟨u, hu⟩ : ∃ u, u = s.extract fr s.size := ⟨_, rfl⟩
      have hub : bs u = (bs s).drop fr := by rw [hu, bs_extract, List.take_of_length_le (by rw [List.length_drop, bs_length]; exact Nat.le_refl _)]
      have hus : u.size ≤ 1000000 := by rw [hu, ByteArray.size_extract]; omega
      have HU := Lib.hid (And.intro hub hu)
      clear hub hu
      have hil := insB_length (bs u) (by rw [bs_length]; omega)
      rw [bs_length] at hil
      have his : (sb (insB (bs u))).size ≤ u.size + 10 := by rw [sb_size]; exact hil
      clear hil
      go_wp2_with fail
      rw [← HU.out.2]
      refine (insert_calls u _ hus).mono ?_
      rintro e w5 ⟨rfl, hb5⟩
      have HB5 := Lib.hid (HB.out.trans (hb5.mono HB.out.size))
      clear hb5
      go_wp2_with fail
      go_ret
      refine ⟨ret_s ?_, HB5.out⟩
      have ho := HO.out
      rw [mkD_end _ _ _ _ _ (by rw [bs_length]; omega), HR.out.1, ← HU.out.1] at ho
      rw [← sb_bs o, ← sb_append, ho, bs_append, bs_sb _ (num_lt _), bs_sb _ (num_lt _), makeD, bs_length, bs_length, HR.out.2.2.2]
end Go.Proofs.Ytjgbodgcbagbnaa.Mine
