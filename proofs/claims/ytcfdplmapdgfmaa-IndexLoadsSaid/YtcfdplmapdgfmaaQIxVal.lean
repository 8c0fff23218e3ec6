import Derived.Test.YtcfdplmapdgfmaaQIxREnc
import Derived.Test.YtcfdplmapdgfmaaQIxRSort
import Derived.Laws.BitsAllLaws
import Derived.BigQuiet
set_option linter.unusedVariables false
set_option linter.unusedSimpArgs false
namespace Go.Proofs.Ytcfdplmapdgfmaa.Mine
open Go.RowKit Go.Proofs.YtcfdplmapdgfmaaW.PrintWords
theorem okP_of {l S : List SpotP} (hp : S.Perm l) (hs : Strict S) (hg : ∀ x ∈ l, goodS x) : OkP l := by
 refine ⟨hg, (hp.map SpotP.id).nodup_iff.1 ?_⟩
 rw [List.nodup_iff_pairwise_ne, List.pairwise_map]
 exact hs.imp fun {a b} h e => by rw [e, (z0c _ _).2 rfl] at h; exact absurd h (by decide)
def valN (a b c d : Nat) : Nat := ((a * 256 + b) * 256 + c) * 256 + d
def valB (s : ByteArray) (p : Nat) : Nat := valN ((bs s).getD p 0) ((bs s).getD (p + 1) 0) ((bs s).getD (p + 2) 0) ((bs s).getD (p + 3) 0)
theorem valB_tail (s : ByteArray) (p : Nat) (hp : p ≤ s.size) : valB (s.extract p s.size) 0 = valB s p := by
 have e : ∀ i, (bs (s.extract p s.size)).getD i 0 = (bs s).getD (p + i) 0 := fun i => by
  rw [bs_extract, ← z05 s, List.take_of_length_le (by rw [List.length_drop]; exact Nat.le_refl _), List.getD_eq_getElem?_getD, List.getD_eq_getElem?_getD, List.getElem?_drop]
 unfold valB
 rw [e, e, e, e]; rfl
def rowAt (s : ByteArray) (p : Nat) : SpotP := ⟨s.extract p (p + 32), (valB s (p + 32) : Nat)⟩
def rowsOf (s : ByteArray) (n : Nat) : List SpotP := (List.range n).map fun j => rowAt s (1070 + 36 * j)
theorem z0h (s : ByteArray) (n : Nat) : (rowsOf s n).length = n := by simp [rowsOf]
theorem rowsOf_step (s : ByteArray) (n : Nat) : rowsOf s (n + 1) = rowsOf s n ++ [rowAt s (1070 + 36 * n)] := by simp [rowsOf, List.range_succ]
theorem i64_or_nat (a b : Nat) (ha : a < 4294967296) (hb : b < 4294967296) : bits .or .i64 (a : Int) (b : Int) = ((a ||| b : Nat) : Int) := by
 have hx : a ||| b < 2 ^ 32 := Nat.or_lt_two_pow (by omega) (by omega)
 show IntKind.i64.wrap ((BitVec.ofInt 64 (a : Int) ||| BitVec.ofInt 64 (b : Int)).toNat : Int) = _
 have e : ∀ n : Nat, n < 4294967296 → (BitVec.ofInt 64 (n : Int)).toNat = n := fun n h => by
  rw [BitVec.toNat_ofInt]; omega
 rw [BitVec.toNat_or, e a ha, e b hb, IntKind.wrap_i64]
 omega
theorem or4 (a b c d : Nat) (ha : a < 256) (hb : b < 256) (hc : c < 256) (hd : d < 256) :
  bits .or .i64 (bits .or .i64 (bits .or .i64 ((a : Int) * 16777216) ((b : Int) * 65536)) ((c : Int) * 256)) (d : Int) = (valN a b c d : Nat) := by
 have e1 : (a : Int) * 16777216 = ((a * 16777216 : Nat) : Int) := by omega
 have e2 : (b : Int) * 65536 = ((b * 65536 : Nat) : Int) := by omega
 have e3 : (c : Int) * 256 = ((c * 256 : Nat) : Int) := by omega
 rw [e1, e2, e3, i64_or_nat _ _ (by omega) (by omega), nat_join 24 _ _ (by omega) (by omega), i64_or_nat _ _ (by omega) (by omega), nat_join 16 _ _ (by omega) (by omega), i64_or_nat _ _ (by omega) (by omega), nat_join 8 _ _ (by omega) (by omega)]
 unfold valN
 omega
set_option maxRecDepth 100000 in
theorem value_calls (s : ByteArray) (w : World) (hs : 4 ≤ s.size) :
  Calls Try.prog 81 #[.string s] w fun e w' => e = .returned (.int .i64 (valB s 0 : Nat)) ∧ Below w.heap.size w w' := by
 have h0 := bsD_lt s 0
 have h1 := bsD_lt s 1
 have h2 := bsD_lt s 2
 have h3 := bsD_lt s 3
 obtain ⟨a, ha⟩ : ∃ a, a = (bs s).getD 0 0 := ⟨_, rfl⟩
 obtain ⟨b, hb⟩ : ∃ a, a = (bs s).getD 1 0 := ⟨_, rfl⟩
 obtain ⟨c, hc⟩ : ∃ a, a = (bs s).getD 2 0 := ⟨_, rfl⟩
 obtain ⟨d, hd⟩ : ∃ a, a = (bs s).getD 3 0 := ⟨_, rfl⟩
 have x0 := z0e s 0 (a : Int) 0 rfl (by omega) (by rw [ha])
 have x1 := z0e s 1 (b : Int) 1 rfl (by omega) (by rw [hb])
 have x2 := z0e s 2 (c : Int) 2 rfl (by omega) (by rw [hc])
 have x3 := z0e s 3 (d : Int) 3 rfl (by omega) (by rw [hd])
 have hv : (valB s 0 : Nat) = valN a b c d := by unfold valB; rw [ha, hb, hc, hd]
 rw [← ha] at h0
 rw [← hb] at h1
 rw [← hc] at h2
 rw [← hd] at h3
 rw [hv]
 have ho := or4 a b c d h0 h1 h2 h3
 have HO := Lib.hid ho
 clear ha hb hc hd hv hs ho
 go_enter Try.func81, Try.ntmps81
 go_wp2_with fail
 go_quiet (fail)
 go_wp2_with fail
 go_ret
 exact ⟨ret1 HO.out, z0a (Below.refl _ _) _⟩
end Go.Proofs.Ytcfdplmapdgfmaa.Mine
