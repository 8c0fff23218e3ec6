/- The contracts of bits.RotateLeft32 and of the document's turn. -/
import Derived.Test.YtjgbodgcbagbnaaSumBase
import Derived.Test.YtjgbodgcbagbnaaProg
import Derived.Lib.Hide
namespace Go.Proofs.Ytjgbodgcbagbnaa.Mine
open Go.RowKit Go.Proofs.YtjgbodgcbagbnaaW.PrintWords

set_option maxHeartbeats 400000 in
theorem rot_calls (x n : Nat) (w : World) (hx : x < 4294967296) (h1 : 1 ≤ n) (h2 : n ≤ 31) :
    Calls Try.prog 54 #[.int .u32 x, .int .i64 n] w fun e w' => e = .returned (.int .u32 (rotl x n)) ∧ w' = w := by
  have hb : bits .and .u64 (n : Int) 31 = (n : Int) := by
    have h := u64_and_nat n 31 (by omega) (by omega)
    rw [show (31 : Nat) = 2 ^ 5 - 1 from rfl, Nat.and_two_pow_sub_one_eq_mod, Nat.mod_eq_of_lt (by omega)] at h
    exact h
  go_enter Try.func54, Try.ntmps54
  go_wp2
  go_ret
  have c1 : ((x : Int) * 2 ^ n % 4294967296) = ((x * 2 ^ n % 4294967296 : Nat) : Int) := by rw [Int.natCast_emod, Int.natCast_mul, Int.natCast_pow]; rfl
  have c2 : ((x : Int) / 2 ^ (32 - n)) = ((x / 2 ^ (32 - n) : Nat) : Int) := by rw [Int.natCast_ediv, Int.natCast_pow]; rfl
  have hl := Nat.div_le_self x (2 ^ (32 - n))
  exact ⟨ret1 (by rw [c1, c2, u32_or_nat _ _ (by omega) (by omega)]; rfl), rfl⟩
set_option maxHeartbeats 400000 in
theorem turn_calls (x n : Nat) (w : World) (hx : x < 4294967296) (h1 : 1 ≤ n) (h2 : n ≤ 31) :
    Calls Try.prog 37 #[.int .u32 x, .int .i64 n] w fun e w' => e = .returned (.int .u32 (rotl x (32 - n))) ∧ w' = w := by
  go_enter Try.func37, Try.ntmps37
  go_wp2
  go_ret
  have c1 : ((x : Int) * 2 ^ (32 - n) % 4294967296) = ((x * 2 ^ (32 - n) % 4294967296 : Nat) : Int) := by rw [Int.natCast_emod, Int.natCast_mul, Int.natCast_pow]; rfl
  have c2 : ((x : Int) / 2 ^ n) = ((x / 2 ^ n : Nat) : Int) := by rw [Int.natCast_ediv, Int.natCast_pow]; rfl
  have hs := rotl_sum x (32 - n) hx (by omega)
  have hl := rotl_lt x (32 - n) hx
  rw [show 32 - (32 - n) = n from by omega] at hs
  exact ⟨ret1 (by rw [c1, c2]; omega), rfl⟩
theorem rot_lit (x : Nat) (k : Int) (w : World) (h1 : 1 ≤ k) (h2 : k ≤ 31) (hx : x < 4294967296) :
    Calls Try.prog 54 #[.int .u32 x, .int .i64 k] w fun e w' => e = .returned (.int .u32 (rotl x k.toNat : Nat)) ∧ w' = w := by
  obtain ⟨n, rfl⟩ : ∃ n : Nat, k = n := ⟨k.toNat, by omega⟩
  exact rot_calls x n w hx (by omega) (by omega)
theorem turn_lit (x : Nat) (k : Int) (w : World) (h1 : 1 ≤ k) (h2 : k ≤ 31) (hx : x < 4294967296) :
    Calls Try.prog 37 #[.int .u32 x, .int .i64 k] w fun e w' => e = .returned (.int .u32 (rotl x (32 - k.toNat) : Nat)) ∧ w' = w := by
  obtain ⟨n, rfl⟩ : ∃ n : Nat, k = n := ⟨k.toNat, by omega⟩
  exact turn_calls x n w hx (by omega) (by omega)
end Go.Proofs.Ytjgbodgcbagbnaa.Mine
