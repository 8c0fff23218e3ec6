import Derived.Test.YtcfdplmapdgfmaaQPkEntry
set_option linter.unusedVariables false
set_option linter.unusedSimpArgs false
namespace Go.Proofs.Ytcfdplmapdgfmaa.Mine
open Go.RowKit Go.Proofs.YtcfdplmapdgfmaaW.PrintWords
def fourB (n : Nat) : List Nat := [n / 16777216 % 256, n / 65536 % 256, n / 256 % 256, n % 256]
theorem fourB_lt (n : Nat) : ∀ c ∈ fourB n, c < 256 := by intro c hc; simp [fourB] at hc; omega
theorem z0l (n : Nat) : (fourB n).length = 4 := rfl
theorem conv_four (w : World) (a b c d : Nat) : (convert 46 9 (.slice (some ⟨w.heap.size, 0, none⟩) 4 4)).run Try.prog (w.alloc (.cells #[.int .u8 (a : Int), .int .u8 (b : Int), .int .u8 (c : Int), .int .u8 (d : Int)] 5)) = .ok (.string (sb [a, b, c, d])) (w.alloc (.cells #[.int .u8 (a : Int), .int .u8 (b : Int), .int .u8 (c : Int), .int .u8 (d : Int)] 5)) := by
 have hb := blk_new w (.cells #[.int .u8 (a : Int), .int .u8 (b : Int), .int .u8 (c : Int), .int .u8 (d : Int)] 5)
 have := run_convert_bytes_arg (P := Try.prog) (w.alloc (.cells #[.int .u8 (a : Int), .int .u8 (b : Int), .int .u8 (c : Int), .int .u8 (d : Int)] 5)) 46 5 Try.underlying46 Try.underlying5 w.heap.size 0 4 4 [(a : Int), (b : Int), (c : Int), (d : Int)] rfl (fun i hi => by
  rw [Nat.zero_add, z02 hb]
  match i, hi with
  | 0, _ => rfl
  | 1, _ => rfl
  | 2, _ => rfl
  | 3, _ => rfl) 9 Try.underlying9
 rw [this]
 congr 2
set_option maxRecDepth 100000 in
theorem number_calls (n : Nat) (w : World) (hn : n ≤ 1000000000) :
  Calls Try.prog 75 #[.int .i64 n] w fun e w' => e = .returned (.string (sb (fourB n))) ∧ Below w.heap.size w w' := by
 have hcv := conv_four w (n / 16777216) (n / 65536 % 256) (n / 256 % 256) (n % 256)
 have e1 : ((n / 16777216 : Nat) : Int) = (n : Int) / 16777216 := by omega
 have e2 : ((n / 65536 % 256 : Nat) : Int) = (n : Int) / 65536 % 256 := by omega
 have e3 : ((n / 256 % 256 : Nat) : Int) = (n : Int) / 256 % 256 := by omega
 have e4 : ((n % 256 : Nat) : Int) = (n : Int) % 256 := by omega
 rw [e1, e2, e3, e4] at hcv
 have hB : sb [n / 16777216, n / 65536 % 256, n / 256 % 256, n % 256] = sb (fourB n) := by
  rw [fourB, Nat.mod_eq_of_lt (show n / 16777216 < 256 from by omega)]
 rw [hB] at hcv
 obtain ⟨R, hR⟩ : ∃ R, R = sb (fourB n) := ⟨_, rfl⟩
 rw [← hR] at hcv ⊢
 clear e1 e2 e3 e4 hB hR
 go_enter Try.func75, Try.ntmps75
 go_wp2_with fail
 go_ret
 exact ⟨rfl, z01 (Below.refl _ _) _⟩
set_option maxRecDepth 100000 in
theorem four_calls (n : Nat) (w : World) (hn : n ≤ 1000000000) :
  Calls Try.prog 77 #[.int .i64 n] w fun e w' => e = .returned (.string (sb (fourB n))) ∧ Below w.heap.size w w' := by
 have hcv := conv_four w (n / 16777216) (n / 65536 % 256) (n / 256 % 256) (n % 256)
 have e1 : ((n / 16777216 : Nat) : Int) = (n : Int) / 16777216 := by omega
 have e2 : ((n / 65536 % 256 : Nat) : Int) = (n : Int) / 65536 % 256 := by omega
 have e3 : ((n / 256 % 256 : Nat) : Int) = (n : Int) / 256 % 256 := by omega
 have e4 : ((n % 256 : Nat) : Int) = (n : Int) % 256 := by omega
 rw [e1, e2, e3, e4] at hcv
 have hB : sb [n / 16777216, n / 65536 % 256, n / 256 % 256, n % 256] = sb (fourB n) := by
  rw [fourB, Nat.mod_eq_of_lt (show n / 16777216 < 256 from by omega)]
 rw [hB] at hcv
 obtain ⟨R, hR⟩ : ∃ R, R = sb (fourB n) := ⟨_, rfl⟩
 rw [← hR] at hcv ⊢
 clear e1 e2 e3 e4 hB hR
 go_enter Try.func77, Try.ntmps77
 go_wp2_with fail
 go_ret
 exact ⟨rfl, z01 (Below.refl _ _) _⟩
end Go.Proofs.Ytcfdplmapdgfmaa.Mine
