/- A nil sum: the walk of the law. -/
import Derived.Test.YtjgbodgcbagbnaaPureSum
set_option linter.unusedVariables false
set_option linter.unusedSimpArgs false
namespace Go.Proofs.Ytjgbodgcbagbnaa.Mine
open Go.RowKit Go.Proofs.Ytjgbodgcbagbnaa.PS Go.Proofs.YtjgbodgcbagbnaaW.PrintWords

theorem write_nil (t : ByteArray) (w : World) :
    Calls Try.prog 19 #[.pointer none, .string t] w fun e w' => e = .returned (.tuple #[]) ∧ w = w' := by
  go_enter Try.func19, Try.ntmps19
  go_wp2_with (fail)
  first
    | (go_end0; exact ⟨rfl, rfl⟩)
    | ((try simp only [Exit.inBlock, Exit.then]); refine bodyPost_ret (results_none rfl _ _ _) rfl ?_; exact ⟨rfl, rfl⟩)
theorem sum_nil (w : World) :
    Calls Try.prog 20 #[.pointer none] w fun e w' => e = .returned (.string ⟨#[]⟩) ∧ w = w' := by
  go_enter Try.func20, Try.ntmps20
  go_wp2_with (fail)
  go_ret
  exact ⟨rfl, rfl⟩
theorem drawn_below {w w' : World} (h : Drawn0 w w') : Below w.heap.size w w' := by
  exact h.below
set_option maxRecDepth 100000 in
theorem sumNone_calls (s : ByteArray) (w : World) :
    Calls Try.prog 5 #[.string s] w fun e w' => e = .returned (.bool true) ∧ Below w.heap.size w w' := by
  obtain ⟨t, ht, hs⟩ := few_some s
  have HT := Lib.hid ht
  clear ht
  have hr := refsum_calls ⟨#[]⟩
  have HR := Lib.hid hr
  clear hr
  go_enter Try.func5, Try.ntmps5
  go_wp2_with (first
    | (go_at_call 16; refine (pollardlaw01_few.calls _ _ _ HT.out).mono ?_; rintro e w1 ⟨rfl, hd⟩; have HD := Lib.hid hd; clear hd)
    | (go_at_call 19; refine (write_nil _ _).mono ?_; rintro e w2 ⟨rfl, rfl⟩)
    | (go_at_call 14; refine (pollardlaw01_awake.calls _ _ awake).mono ?_; rintro e w3 ⟨rfl, hb3⟩; have HB3 := Lib.hid hb3; clear hb3)
    | (go_at_call 20; ((with_reducible refine (sum_nil _).mono ?_); rintro e w4 ⟨rfl, rfl⟩))
    | (go_at_call 18; refine (new_calls _).mono ?_; rintro e w5 ⟨b, rfl, hb5, hst, hbel⟩; have HS := Lib.hid hst; have HB5 := Lib.hid (And.intro hb5 hbel); clear hst hb5 hbel)
    | (go_at_call 20; refine (sum_calls b b _ _ _ _ _ HS.out (by omega) (by simp)).mono ?_; rintro e w6 ⟨rfl, hb6⟩; have HB6 := Lib.hid hb6; clear hb6)
    | (go_at_call 17; refine (HR.out _ (by decide)).mono ?_; rintro e w7 ⟨rfl, hb7⟩; have HB7 := Lib.hid hb7; clear hb7))
  go_ret
  have e : ((sb (outB (eat begin8 (pad [] 0)).1)).toList == (sb (refSum (bs ⟨#[]⟩))).toList) = true := by
    rw [show refSum (bs ⟨#[]⟩) = outB (eat begin8 (pad [] 0)).1 from rfl]
    simp
  refine ⟨congrArg (fun x => Ending.returned (.bool x)) e, ?_⟩
  have h1 := HD.out.below
  have s1 := h1.size
  have s3 := HB3.out.size
  have s5 := HB5.out.2.size
  have s6 := HB6.out.size
  exact h1.trans ((HB3.out.mono s1).trans ((HB5.out.2.mono (by omega)).trans ((HB6.out.mono (by omega)).trans (HB7.out.mono (by omega)))))
end Go.Proofs.Ytjgbodgcbagbnaa.Mine
