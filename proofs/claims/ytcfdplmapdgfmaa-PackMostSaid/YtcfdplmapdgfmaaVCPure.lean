import Derived.Test.YtcfdplmapdgfmaaVCNum
import Derived.Test.YtcfdplmapdgfmaaVPNx0
import Derived.Test.YtcfdplmapdgfmaaVPNx1
import Derived.Test.YtcfdplmapdgfmaaVBase
import Derived.Test.YtcfdplmapdgfmaaVWMore
import Derived.Laws.BitsAllLaws
set_option linter.unusedVariables false
set_option linter.unusedSimpArgs false
namespace Go.Proofs.Ytcfdplmapdgfmaa.Mine
open Go.RowKit Go.Proofs.Ytcfdplmapdgfmaa.PN Go.Proofs.YtcfdplmapdgfmaaW.PrintWords
theorem codeNum_l0 (j : Nat) : ∀ (x : Nat) (l : List Nat) (k : Nat), x < 128 ^ j → x < 18446744073709551616 → j < k → l.length + j ≤ 100 →
  z06.l0 k (x : Int) (ints l) = some (sb (rest x ++ l)) := by
 induction j with
 | zero =>
  intro x l k hx _ hk hl
  have : x = 0 := by simpa using hx
  subst this
  obtain ⟨k, rfl⟩ : ∃ m, k = m + 1 := ⟨k - 1, by omega⟩
  simp only [z06.l0]
  rw [if_neg (by omega), strOf_ints, rest_zero, List.nil_append]
 | succ j ih =>
  intro x l k hx hx2 hk hl
  obtain ⟨k, rfl⟩ : ∃ m, k = m + 1 := ⟨k - 1, by omega⟩
  simp only [z06.l0]
  by_cases h0 : x = 0
  ·subst h0
   rw [if_neg (by omega), strOf_ints, rest_zero, List.nil_append]
  ·rw [if_pos (by omega)]
   simp only [Option.bind_some]
   have e1 : IntKind.u64.wrap ((x : Int) - 1) = ((x - 1 : Nat) : Int) := by rw [IntKind.wrap_u64]; omega
   have e2 : (Int.tmod ((x - 1 : Nat) : Int) 128 % 256 + 128) % 256 = (((x - 1) % 128 + 128 : Nat) : Int) := by
    rw [Int.tmod_eq_emod_of_nonneg (by omega)]; omega
   have e3 : IntKind.u64.wrap (Int.tdiv ((x - 1 : Nat) : Int) 128) = (((x - 1) / 128 : Nat) : Int) := by
    rw [Int.tdiv_eq_ediv_of_nonneg (by omega), IntKind.wrap_u64]; omega
   rw [e1, e2, e3]
   have e4 : [((((x - 1) % 128 + 128 : Nat)) : Int)] ++ ints l = ints (((x - 1) % 128 + 128) :: l) := by simp [ints]
   rw [if_pos (by simp [ints]; omega), e4, ih ((x - 1) / 128) _ k (by rw [Nat.pow_succ] at hx; omega) (by omega) (by omega) (by simp; omega), rest_pos x h0]
   simp
theorem codeNum (n : Nat) (hn : n < 18446744073709551616) (k : Nat) (hk : 10 ≤ k) : z06.f k (n : Int) = some (sb (num n)) := by
 unfold z06.f
 have e1 : IntKind.u64.wrap (Int.tdiv (n : Int) 128) = ((n / 128 : Nat) : Int) := by
  rw [Int.tdiv_eq_ediv_of_nonneg (by omega), IntKind.wrap_u64]; omega
 have e2 : Int.tmod (n : Int) 128 % 256 = ((n % 128 : Nat) : Int) := by rw [Int.tmod_eq_emod_of_nonneg (by omega)]; omega
 rw [e1, e2]
 clear e1 e2
 have e3 : [((n % 128 : Nat) : Int)] = ints [n % 128] := by simp [ints]
 rw [e3, codeNum_l0 9 (n / 128) [n % 128] k (by omega) (by omega) (by omega) (by simp)]
 rfl
theorem num_calls (n : Nat) (w : World) (hn : n < 18446744073709551616) :
  Calls Try.prog 40 #[.int .u64 (n : Int)] w fun e w' => e = .returned (.string (sb (num n))) ∧ Below w.heap.size w w' :=
 (z06.calls 10 _ _ w (codeNum n hn 10 (Nat.le_refl _))).mono fun e w' h => ⟨h.1, h.2⟩
end Go.Proofs.Ytcfdplmapdgfmaa.Mine
namespace Go.Proofs.Ytcfdplmapdgfmaa.Mine
open Go.RowKit Go.Proofs.Ytcfdplmapdgfmaa.PN Go.Proofs.YtcfdplmapdgfmaaW.PrintWords
end Go.Proofs.Ytcfdplmapdgfmaa.Mine
namespace Go.Proofs.Ytcfdplmapdgfmaa.Mine
open Go.RowKit Go.Proofs.YtcfdplmapdgfmaaW.PrintWords Go.Proofs.YtcfdplmapdgfmaaW.PrintMore
end Go.Proofs.Ytcfdplmapdgfmaa.Mine
namespace Go.Proofs.Ytcfdplmapdgfmaa.Mine
open Go.RowKit Go.Proofs.Ytcfdplmapdgfmaa.PN Go.Proofs.YtcfdplmapdgfmaaW.PrintWords Go.Proofs.YtcfdplmapdgfmaaW.PrintMore
end Go.Proofs.Ytcfdplmapdgfmaa.Mine
namespace Go.Proofs.Ytcfdplmapdgfmaa.Mine
open Go.RowKit Go.Proofs.Ytcfdplmapdgfmaa.PN Go.Proofs.YtcfdplmapdgfmaaW.PrintWords
def four (r : Nat) : List Nat := [r / 16777216 % 256, r / 65536 % 256, r / 256 % 256, r % 256]
def frame (l : List Nat) : List Nat := num l.length ++ l ++ four (crc (num l.length ++ l))
end Go.Proofs.Ytcfdplmapdgfmaa.Mine
