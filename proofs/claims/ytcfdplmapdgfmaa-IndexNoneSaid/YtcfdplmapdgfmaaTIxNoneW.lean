import Derived.Test.YtcfdplmapdgfmaaTIxAw
set_option linter.unusedVariables false
set_option linter.unusedSimpArgs false
namespace Go.Proofs.Ytcfdplmapdgfmaa.Mine
open Go.RowKit Go.Proofs.YtcfdplmapdgfmaaW.PrintWords
set_option maxRecDepth 100000 in
set_option maxHeartbeats 400000 in
theorem indexNone_calls (id : ByteArray) (w : World) : Calls Try.prog 9 #[.string id] w fun e w' => e = .returned (.bool true) ∧ Below w.heap.size w w' := by
 have hnb := fun w => new_bad ⟨#[110, 111, 32, 115, 117, 109]⟩ none 0 0 w (by decide)
 go_enter Try.func9, Try.ntmps9
 go_wp2_with fail
 refine (find_nil id w).mono ?_
 rintro e w1 ⟨rfl, rfl⟩
 go_wp2_with fail
 refine (hnb w).mono ?_
 rintro e w2 ⟨rfl, rfl⟩
 go_wp2_with fail
 refine (ixAwake_calls w).mono ?_
 rintro e w3 ⟨rfl, hb3⟩
 have HB := Lib.hid hb3
 clear hb3
 go_wp2_with fail
 refine (enc_nil w3).mono ?_
 rintro e w4 ⟨rfl, rfl⟩
 go_wp2_with fail
 refine (pack_nil w3).mono ?_
 rintro e w5 ⟨rfl, rfl⟩
 go_wp2_with fail
 refine (all_nil w3).mono ?_
 rintro e w6 ⟨rfl, rfl⟩
 go_wp2_with fail
 go_ret
 exact ⟨rfl, HB.out⟩
end Go.Proofs.Ytcfdplmapdgfmaa.Mine
