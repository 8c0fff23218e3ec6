/- lz: noting the places of each four bytes, and finding them. -/
import Derived.Test.YtjgbodgcbagbnaaLzSame
set_option linter.unusedVariables false
set_option linter.unusedSimpArgs false
namespace Go.Proofs.Ytjgbodgcbagbnaa.Mine
open Go.RowKit Go.Proofs.YtjgbodgcbagbnaaW.PrintWords

/-- The map of the last places, as a call owns it. -/
def LastM (w : World) (g m : Nat) (l : List Nat) (j : Nat) : Prop :=
  ∃ D, w.ownsMap Try.prog 9 (plainElem (H := Unit) Try.prog 3) g m D ∧ MapF D (lastF l j)
theorem LastM.kept {w w' : World} {g m : Nat} {l : List Nat} {j : Nat} {row : Option Nat} (h : LastM w g m l j) (hg : w.grownBy w' row) (hr : some g ≠ row) : LastM w' g m l j := by
  obtain ⟨D, ho, hF⟩ := h
  exact ⟨D, ho.kept hg hr, hF⟩
theorem w4_key (s : ByteArray) (j : Nat) : bs (s.extract j (j + 4)) = w4 (bs s) j := by
  rw [bs_extract, w4]; congr 1; omega
theorem grown_refl (w : World) (row : Option Nat) : w.grownBy w row := ⟨rfl, rfl, rfl, Nat.le_refl _, fun _ _ _ => rfl⟩
theorem grown_trans {w1 w2 w3 : World} {row : Option Nat} (h : w1.grownBy w2 row) (g : w2.grownBy w3 row) : w1.grownBy w3 row :=
  ⟨g.os.trans h.os, g.tape.trans h.tape, g.output.trans h.output, Nat.le_trans h.size g.size, fun i hi hn => (g.block i (Nat.lt_of_lt_of_le hi h.size) hn).trans (h.block i hi hn)⟩
set_option maxRecDepth 100000 in
set_option maxHeartbeats 1000000 in
theorem note_calls (s : ByteArray) (g m fr up : Nat) (w : World) (hs : s.size ≤ 10000000) (hft : fr ≤ up) (hto : up ≤ s.size) (hm : m ≤ 10000000) (hown : LastM w g m (bs s) fr) :
    Calls Try.prog 48 #[.map (some g), .string s, .int .i64 fr, .int .i64 up] w fun e w' => e = .returned (.tuple #[]) ∧ LastM w' g (m + (up - fr)) (bs s) up ∧ w.grownBy w' (some g) := by
  go_enter Try.func48, Try.ntmps48
  go_wp2_with (fail)
  have HW := Lib.hid hown
  clear hown
  go_loopg [8] (up - fr) (fun gg s8 wz => ∃ (j : Nat), fr ≤ j ∧ j ≤ up ∧ gg = up - j ∧ s8 = .int .i64 j ∧ Hid (LastM wz g (m + (j - fr)) (bs s) j) ∧ Hid (w.grownBy wz (some g)))
  case atStart =>
    exact ⟨fr, Nat.le_refl _, hft, rfl, rfl, by unfold Hid; rw [Nat.sub_self, Nat.add_zero]; exact HW.out, grown_refl _ _⟩
  case round =>
    obtain ⟨j, hj1, hj2, hg, rfl, HM, HG⟩ := hrel
    have HGG := Lib.hid hg
    clear hg
    by_cases h1 : j < up
    · have h1b : decide ((j : Int) < (up : Int)) = true := by simp; omega
      by_cases h2 : j + 4 ≤ s.size
      · have h2b : decide ((j : Int) + 4 ≤ (s.size : Int)) = true := by simp; omega
        have hsl := slice_run s j (j + 4) (j : Int) ((j : Int) + 4) rfl (by omega) (by omega) h2
        obtain ⟨key, hk⟩ : ∃ key, key = s.extract j (j + 4) := ⟨_, rfl⟩
        have hkb : bs key = w4 (bs s) j := by rw [hk]; exact w4_key s j
        have hks : key.size ≤ 9223372036854775807 := by rw [hk, ByteArray.size_extract]; omega
        have hkey := keyS key hks
        have hel := elemI j (by omega)
        rw [← hk] at hsl
        have HKB := Lib.hid hkb
        clear hk hkb
        obtain ⟨D, hown, hF⟩ := HM.out
        have HF := Lib.hid hF
        clear hF HM
        go_wp2_with (at_mapUpdate; refine wpList_mapUpdate_own _ rfl _ _ _ 68 rfl 9 3 (Maps.string_keyed Try.underlying9) Try.underlying68 _ g (m + (j - fr)) D rfl hown (by unfold maxLen; omega) _ _ _ rfl rfl hkey _ [] hel ?_; intro w1 hown1 hgrow1)
        have HO1 := Lib.hid (And.intro hown1 hgrow1)
        clear hown1 hgrow1 hown hsl hkey hel
        go_wp2_with (fail)
        go_roundg (up - (j + 1))
        case measure => have := HGG.out; omega
        case rel =>
          refine ⟨j + 1, by omega, by omega, rfl, by go_num, ⟨D.put (klit key) (.lit (.int .i64 (j : Int))), ?_, ?_⟩, grown_trans HG.out HO1.out.2⟩
          · have := HO1.out.1
            rwa [show m + (j - fr) + 1 = m + (j + 1 - fr) from by omega] at this
          · rw [lastF_step _ _ (by rw [bs_length]; exact h2), ← HKB.out]
            exact HF.out.put key j
      · have h2b : decide ((j : Int) + 4 ≤ (s.size : Int)) = false := by simp; omega
        go_wp2_with (fail)
        go_end0
        obtain ⟨D, ho, hF⟩ := HM.out
        refine ⟨rfl, ⟨D, ho.mono (by omega), ?_⟩, HG.out⟩
        rw [show up = j + (up - j) from by omega, lastF_over _ _ (by rw [bs_length]; omega)]
        exact hF
    · have h1b : decide ((j : Int) < (up : Int)) = false := by simp; omega
      go_wp2_with (fail)
      go_end0
      obtain rfl : j = up := by omega
      exact ⟨rfl, HM.out, HG.out⟩
set_option maxRecDepth 100000 in
set_option maxHeartbeats 1000000 in
theorem find_calls (s : ByteArray) (g m at_ : Nat) (w : World) (hs : s.size ≤ 10000000) (hat : at_ ≤ s.size) (hown : LastM w g m (bs s) at_) :
    Calls Try.prog 47 #[.map (some g), .string s, .int .i64 at_] w fun e w' => ∃ b n : Nat, e = .returned (.tuple #[.int .i64 (b : Int), .int .i64 (n : Int)]) ∧ b = backP (bs s) at_ ∧ (b ≠ 0 → n = lcp ((bs s).drop at_) ((bs s).drop (at_ - b))) ∧ Below w.heap.size w w' := by
  obtain ⟨b, hb⟩ : ∃ b, b = backP (bs s) at_ := ⟨_, rfl⟩
  have hb2 := hb
  rw [backP, bs_length] at hb2
  have HB := Lib.hid hb
  clear hb
  by_cases h4 : at_ + 4 ≤ s.size
  · have h4b : decide ((at_ : Int) + 4 > (s.size : Int)) = false := by simp; omega
    rw [if_pos h4] at hb2
    have hsl := slice_run s at_ (at_ + 4) (at_ : Int) ((at_ : Int) + 4) rfl (by omega) (by omega) h4
    obtain ⟨key, hk⟩ : ∃ key, key = s.extract at_ (at_ + 4) := ⟨_, rfl⟩
    have hkb : bs key = w4 (bs s) at_ := by rw [hk]; exact w4_key s at_
    have hks : key.size ≤ 9223372036854775807 := by rw [hk, ByteArray.size_extract]; omega
    have hkey := keyS key hks
    rw [← hk] at hsl
    clear hk
    rw [← hkb] at hb2
    clear hkb
    obtain ⟨D, hown, hF⟩ := hown
    have hhas := hF.has_ key
    cases hf : lastF (bs s) at_ (bs key) with
    | none =>
      rw [hf] at hhas hb2
      have hh : Maps.has D (klit key) = false := hhas
      subst hb2
      clear hhas hf hF
      go_enter Try.func47, Try.ntmps47
      go_wp2_with (at_lookup; refine wpList_lookup_own_ok_int _ rfl _ _ 68 rfl 9 3 .i64 (Maps.string_keyed Try.underlying9) Try.underlying68 Try.underlying3 (zeroI _) g m D rfl hown _ _ rfl hkey ?_; intro c hat hwc)
      go_ret2
      exact ⟨0, 0, rfl, HB.out, fun h => absurd rfl h, Below.refl _ _⟩
    | some k =>
      rw [hf] at hhas hb2
      simp only at hb2
      have hh : Maps.has D (klit key) = true := hhas
      have hat2 := fun (c : Int) h => hF.at_ key hf (c := c) h
      obtain ⟨hk1, hk2, _, _⟩ := lastF_at _ _ _ _ hf
      have HAT := Lib.hid hat2
      clear hhas hf hat2 hF
      have hkb : (k : Int) ≤ at_ := by omega
      by_cases hfar : 32768 < at_ - k
      · rw [if_pos hfar] at hb2
        subst hb2
        have hfb : decide ((at_ : Int) - (k : Int) > 32768) = true := by simp; omega
        go_enter Try.func47, Try.ntmps47
        go_wp2_with (at_lookup; refine wpList_lookup_own_ok_int _ rfl _ _ 68 rfl 9 3 .i64 (Maps.string_keyed Try.underlying9) Try.underlying68 Try.underlying3 (zeroI _) g m D rfl hown _ _ rfl hkey ?_; intro c hat hwc; have hck := HAT.out c hat; rw [hck]; clear hat hwc)
        go_ret2
        exact ⟨0, 0, rfl, HB.out, fun h => absurd rfl h, Below.refl _ _⟩
      · rw [if_neg hfar] at hb2
        have hfb : decide ((at_ : Int) - (k : Int) > 32768) = false := by simp; omega
        have hsame := fun w => same_calls s k at_ w hs (by omega) hat
        have HS := Lib.hid hsame
        clear hsame
        go_enter Try.func47, Try.ntmps47
        go_wp2_with (at_lookup; refine wpList_lookup_own_ok_int _ rfl _ _ 68 rfl 9 3 .i64 (Maps.string_keyed Try.underlying9) Try.underlying68 Try.underlying3 (zeroI _) g m D rfl hown _ _ rfl hkey ?_; intro c hat hwc; have hck := HAT.out c hat; rw [hck]; clear hat hwc)
        refine (HS.out _).mono ?_
        rintro e w1 ⟨rfl, hb1⟩
        have HB1 := Lib.hid hb1
        clear hb1
        go_wp2_with fail
        go_ret2
        refine ⟨b, lcp ((bs s).drop at_) ((bs s).drop k), ?_, HB.out, fun _ => by rw [hb2, show at_ - (at_ - k) = k from by omega], HB1.out⟩
        rw [hb2, show ((at_ - k : Nat) : Int) = (at_ : Int) - (k : Int) from by omega]
        rfl
  · have h4b : decide ((at_ : Int) + 4 > (s.size : Int)) = true := by simp; omega
    rw [if_neg h4] at hb2
    subst hb2
    go_enter Try.func47, Try.ntmps47
    go_wp2_with fail
    go_ret2
    exact ⟨0, 0, rfl, HB.out, fun h => absurd rfl h, Below.refl _ _⟩
end Go.Proofs.Ytjgbodgcbagbnaa.Mine
