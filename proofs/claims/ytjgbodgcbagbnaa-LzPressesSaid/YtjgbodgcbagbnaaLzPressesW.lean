/- Any text is pressed as the document says, and spread again: the walk of the law. -/
import Derived.Test.YtjgbodgcbagbnaaLzAwakeW
import Derived.Test.YtjgbodgcbagbnaaPurePress
set_option linter.unusedVariables false
set_option linter.unusedSimpArgs false
namespace Go.Proofs.Ytjgbodgcbagbnaa.Mine
open Go.RowKit Go.Proofs.YtjgbodgcbagbnaaW.PrintWords

set_option maxRecDepth 100000 in
set_option maxHeartbeats 1000000 in
theorem lzPresses_calls (s : ByteArray) (w : World) (hs : s.size ≤ 140737488351232) :
    Calls Try.prog 10 #[.string s] w fun e w' => e = .returned (.bool true) ∧ Below w.heap.size w w' := by
  obtain ⟨t, ht⟩ : ∃ t, t = fewT s := ⟨_, rfl⟩
  have hts : t.size ≤ 600 := by rw [ht]; exact fewT_le s
  have hfew := fun w => few04_is s w hs
  rw [← ht] at hfew
  obtain ⟨p, hp⟩ : ∃ p, p = sb (pressP (bs t)) := ⟨_, rfl⟩
  have h1 := fun w => press_calls t w (by omega)
  have h2 := fun w => press_spread t t.size w (by omega) (Nat.le_refl _) (by omega)
  have h3 := fun w => PU.pollardref04_Press.calls 5000 t _ w (refPress_is t (by omega) 5000 (by omega))
  rw [← hp] at h1 h2 h3
  have HF := Lib.hid hfew
  have H1 := Lib.hid h1
  have H2 := Lib.hid h2
  have H3 := Lib.hid h3
  clear hfew h1 h2 h3 hp ht
  go_enter Try.func10, Try.ntmps10
  go_wp2_with fail
  refine (HF.out _).mono ?_
  rintro e w1 ⟨rfl, rfl⟩
  go_wp2_with fail
  refine (H1.out _).mono ?_
  rintro e w2 ⟨rfl, hb2⟩
  have HB2 := Lib.hid hb2
  clear hb2
  go_wp2_with fail
  refine (HF.out _).mono ?_
  rintro e w3 ⟨rfl, rfl⟩
  go_wp2_with fail
  refine (H2.out _).mono ?_
  rintro e w4 ⟨rfl, hb4⟩
  have HB4 := Lib.hid (HB2.out.trans (hb4.mono HB2.out.size))
  clear hb4 HB2
  go_wp2_with fail
  refine (lzAwake_calls _).mono ?_
  rintro e w5 ⟨rfl, hb5⟩
  have HB5 := Lib.hid (HB4.out.trans (hb5.mono HB4.out.size))
  clear hb5 HB4
  go_wp2_with fail
  refine (HF.out _).mono ?_
  rintro e w6 ⟨rfl, rfl⟩
  go_wp2_with fail
  refine (H3.out _).mono ?_
  rintro e w7 ⟨rfl, hb7⟩
  have HB7 := Lib.hid (HB5.out.trans (hb7.mono HB5.out.size))
  clear hb7 HB5
  go_wp2_with fail
  refine (HF.out _).mono ?_
  rintro e w8 ⟨rfl, rfl⟩
  go_wp2_with fail
  go_ret
  exact ⟨by simp, HB7.out⟩
end Go.Proofs.Ytjgbodgcbagbnaa.Mine
