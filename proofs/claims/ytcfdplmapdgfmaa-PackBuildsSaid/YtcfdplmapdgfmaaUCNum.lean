import Derived.Test.YtcfdplmapdgfmaaUBase
import Derived.Test.YtcfdplmapdgfmaaProg
import Derived.Lib.Hide
import Derived.Laws.BitsAllLaws
namespace Go.Proofs.Ytcfdplmapdgfmaa.Mine
open Go.RowKit Go.Proofs.YtcfdplmapdgfmaaW.PrintWords
set_option maxRecDepth 100000 in
set_option maxHeartbeats 400000 in
theorem unnum_calls (s : ByteArray) (w : World) (_hs : s.size ≤ 140737488351232) :
  Calls Try.prog 66 #[.string s] w fun e w' => e = .returned (.tuple #[.int .u64 (unnum (bs s)).1, .int .i64 (unnum (bs s)).2.1, .int .i64 (unnum (bs s)).2.2]) ∧ Below w.heap.size w w' := by
 have kb := Lib.run_convert_string_bytes (P := Try.prog) w 9 46 5 s Try.underlying9 Try.underlying46 Try.underlying5
 obtain ⟨r, hr⟩ : ∃ r, r = unnum (bs s) := ⟨_, rfl⟩
 rw [← hr]
 have Hr := Lib.hid hr
 clear hr
 go_enter Try.func66, Try.ntmps66
 go_wp2
 have HB := Lib.hid (bytes_below (Below.refl w.heap.size w) (Nat.le_refl _) 5 s)
 go_loop [5, 6, 7, 11] (fun n5 _ _ n11 => ∃ i n : Nat, i ≤ s.size ∧ n5 = .int .u64 n ∧ n11 = .int .i64 i ∧ Hid (i ≤ 9 ∧ n + 2 ≤ 2 ^ (7 * i + 1) ∧ unnumGo ((bs s).drop i) i n = r)) (fun _ _ _ i => s.size - (intOf i).toNat)
 case atStart => exact ⟨0, 0, Nat.zero_le _, rfl, rfl, by unfold Hid; exact ⟨by omega, by decide, by rw [Hr.out]; rfl⟩⟩
 case round =>
  obtain ⟨i, n, hi, rfl, rfl, H⟩ := hrel
  obtain ⟨h9, hn, hg⟩ := H
  by_cases hlt : i < s.size
  ·obtain ⟨c, hc, hd, hcs⟩ := bs_drop s i hlt
   have hcell : (Lib.bytesWorld w 5 s).cell? ⟨w.heap.size, i, none⟩ = some (.int .u8 c) := by rw [Lib.bytesWorld_cell w 5 s i hlt, hcs]
   rw [hd] at hg
   clear hd hcs
   have hltb : decide (i < s.size) = true := by simpa using hlt
   by_cases h9' : i = 9
   ·have h9b : ((i : Int) == 9) = true := by simp; omega
    rw [unnumGo, if_pos h9'] at hg
    subst hg
    clear hn h9' h9
    go_wp2
    go_ret3
    exact ⟨rfl, HB.out⟩
   ·have h9b : ((i : Int) == 9) = false := by simp; omega
    have hp : (2 : Nat) ^ (7 * i + 1) ≤ 2 ^ 57 := Nat.pow_le_pow_right (by omega) (by omega)
    have hp2 : (2 : Nat) ^ (7 * (i + 1) + 1) = 128 * 2 ^ (7 * i + 1) := by rw [show 7 * (i + 1) + 1 = 7 + (7 * i + 1) from by omega, Nat.pow_add]
    have hn2 : n ≤ 144115188075855870 := by omega
    have HN := Lib.hid hn
    have HP2 := Lib.hid hp2
    clear hn hp hp2
    by_cases hc1 : c < 128
    ·have hcb : decide ((c : Int) < 128) = true := by simp; omega
     rw [unnumGo, if_neg h9', if_pos hc1] at hg
     subst hg
     go_wp2
     go_ret3
     exact ⟨ret3 (by omega) (by omega) rfl, HB.out⟩
    ·have hcb : decide ((c : Int) < 128) = false := by simp; omega
     rw [unnumGo, if_neg h9', if_neg hc1] at hg
     have HG := Lib.hid hg
     clear hg
     go_wp2
     go_round
     case rel => exact ⟨i + 1, n * 128 + (c - 128) + 1, by omega, by exact int_eq (by omega), by go_num, by omega, by rw [HP2.out]; have := HN.out; omega, HG.out⟩
     case measure => simp [intOf]; omega
  ·have hltb : decide (i < s.size) = false := by simpa using hlt
   have hnil : (bs s).drop i = [] := List.drop_eq_nil_of_le (by rw [z01]; omega)
   rw [hnil, unnumGo] at hg
   clear hnil
   by_cases hi9 : 9 ≤ i
   ·rw [if_pos hi9] at hg
    subst hg
    clear hn
    have hsb : decide (9 ≤ (s.size : Int)) = true := by simp; omega
    go_wp2
    go_ret3
    exact ⟨rfl, HB.out⟩
   ·rw [if_neg hi9] at hg
    subst hg
    clear hn
    have hsb : decide (9 ≤ (s.size : Int)) = false := by simp; omega
    go_wp2
    go_ret3
    exact ⟨rfl, HB.out⟩
end Go.Proofs.Ytcfdplmapdgfmaa.Mine
namespace Go.Proofs.Ytcfdplmapdgfmaa.Mine
open Go.RowKit Go.Proofs.YtcfdplmapdgfmaaW.PrintWords
end Go.Proofs.Ytcfdplmapdgfmaa.Mine
set_option linter.unusedVariables false
set_option linter.unusedSimpArgs false
namespace Go.Proofs.Ytcfdplmapdgfmaa.Mine
open Go.RowKit Go.Proofs.YtcfdplmapdgfmaaW.PrintWords
theorem wu64 (x : Int) (h0 : 0 ≤ x) (h1 : x ≤ 18446744073709551615) : IntKind.u64.wrap x = x := by rw [IntKind.wrap_u64]; omega
def rest (x : Nat) : List Nat := if _h : x = 0 then [] else rest ((x - 1) / 128) ++ [(x - 1) % 128 + 128]
termination_by x
decreasing_by omega
def num (n : Nat) : List Nat := rest (n / 128) ++ [n % 128]
theorem rest_zero : rest 0 = [] := by rw [rest]; simp
theorem rest_pos (x : Nat) (h : x ≠ 0) : rest x = rest ((x - 1) / 128) ++ [(x - 1) % 128 + 128] := by rw [rest, dif_neg h]
theorem rest_lt (x : Nat) : ∀ c ∈ rest x, c < 256 := by
 induction x using Nat.strongRecOn with
 | _ x ih =>
  by_cases h : x = 0
  ·subst h; rw [rest_zero]; intro c hc; cases hc
  ·rw [rest_pos x h]
   intro c hc
   rw [List.mem_append] at hc
   rcases hc with hc | hc
   ·exact ih _ (by omega) c hc
   ·simp at hc; omega
theorem z0i (n : Nat) : ∀ c ∈ num n, c < 256 := by
 intro c hc
 rw [num, List.mem_append] at hc
 rcases hc with hc | hc
 ·exact rest_lt _ c hc
 ·simp at hc; omega
theorem rest_length (j : Nat) : ∀ x, x < 128 ^ j → (rest x).length ≤ j := by
 induction j with
 | zero =>
      intro x h; have : x = 0 := by simpa using h
      subst this; rw [rest_zero]; simp
 | succ j ih =>
  intro x h
  by_cases h0 : x = 0
  ·subst h0; rw [rest_zero]; simp
  ·rw [rest_pos x h0]
   have := ih ((x - 1) / 128) (by rw [Nat.pow_succ] at h; omega)
   simp; omega
theorem z0f (n : Nat) (h : n < 18446744073709551616) : (num n).length ≤ 10 := by
 have := rest_length 9 (n / 128) (by omega)
 rw [num]; simp; omega
def ints (l : List Nat) : List Int := l.map fun (c : Nat) => (c : Int)
theorem strOf_ints (l : List Nat) : strOfNums (ints l) = sb l := by simp [ints, strOfNums, sb]
def geo : Nat → Nat
 | 0 => 0
 | c + 1 => 1 + 128 * geo c
theorem geo_pow (c : Nat) : geo (c + 1) = geo c + 128 ^ c := by
 induction c with
 | zero => rfl
 | succ c ih => rw [show geo (c + 1 + 1) = 1 + 128 * geo (c + 1) from rfl, Nat.pow_succ]; rw [show geo (c + 1) = 1 + 128 * geo c from rfl] at ih ⊢; omega
theorem geo_le (c : Nat) : geo c < 128 ^ c := by
 induction c with
 | zero => simp [geo]
 | succ c ih =>
  have := Nat.pow_pos (n := c) (show 0 < 128 by omega)
  rw [show geo (c + 1) = 1 + 128 * geo c from rfl, Nat.pow_succ]
  omega
def dl : Nat → Nat → Nat → List Nat
 | _, _, 0 => []
 | x, i, c + 1 => dl (x / 128) (i + 1) c ++ [x % 128 + (if 0 < i then 128 else 0)]
theorem dl_same (c : Nat) : ∀ x i j, 0 < i → 0 < j → dl x i c = dl x j c := by
 induction c with
 | zero => intros; rfl
 | succ c ih => intro x i j hi hj; rw [dl, dl, ih _ (i + 1) (j + 1) (by omega) (by omega), if_pos hi, if_pos hj]
theorem rest_dl (c : Nat) : ∀ x, geo c ≤ x → x < geo (c + 1) → rest x = dl (x - geo c) 1 c := by
 induction c with
 | zero =>
      intro x _ h; have : x = 0 := by simp [geo] at h; omega
      subst this; rw [rest_zero]; rfl
 | succ c ih =>
  intro x h1 h2
  rw [geo] at h1 h2
  rw [rest_pos x (by omega), ih ((x - 1) / 128) (by omega) (by omega), dl, if_pos (by omega), dl_same c _ 1 2 (by omega) (by omega)]
  rw [geo]
  congr 2
  ·omega
  ·congr 1; omega
theorem num_dl (c n : Nat) (h1 : 128 * geo c ≤ n) (h2 : n < 128 * geo (c + 1)) : num n = dl (n - 128 * geo c) 0 (c + 1) := by
 rw [num, rest_dl c (n / 128) (by omega) (by omega), dl, if_neg (Nat.lt_irrefl 0)]
 have e1 : n / 128 - geo c = (n - 128 * geo c) / 128 := by omega
 have e2 : n % 128 = (n - 128 * geo c) % 128 + 0 := by omega
 rw [e1, e2]
theorem sb_nil : (⟨#[]⟩ : ByteArray) = sb [] := rfl
theorem unnumGo_rest (j : Nat) : ∀ (x : Nat) (i v : Nat) (t : List Nat), x < 128 ^ j → i + j ≤ 8 →
  unnumGo (rest x ++ t) i v = unnumGo t (i + (rest x).length) (v * 128 ^ (rest x).length + x) := by
 induction j with
 | zero =>
  intro x i v t hx _
  have : x = 0 := by simpa using hx
  subst this
  rw [rest_zero]; simp
 | succ j ih =>
  intro x i v t hx hi
  by_cases h0 : x = 0
  ·subst h0; rw [rest_zero]; simp
  ·have hl := rest_length j ((x - 1) / 128) (by rw [Nat.pow_succ] at hx; omega)
   rw [rest_pos x h0, List.append_assoc, ih ((x - 1) / 128) i v _ (by rw [Nat.pow_succ] at hx; omega) (by omega)]
   simp only [List.singleton_append, List.length_append, List.length_singleton]
   rw [unnumGo, if_neg (by omega), if_neg (by omega)]
   have e1 : i + (rest ((x - 1) / 128)).length + 1 = i + ((rest ((x - 1) / 128)).length + 1) := by omega
   have e2 : (v * 128 ^ (rest ((x - 1) / 128)).length + (x - 1) / 128) * 128 + ((x - 1) % 128 + 128 - 128) + 1 = v * 128 ^ ((rest ((x - 1) / 128)).length + 1) + x := by
    rw [Nat.pow_succ, ← Nat.mul_assoc]
    generalize v * 128 ^ (rest ((x - 1) / 128)).length = V
    omega
   rw [e1, e2]
theorem unnum_num (n : Nat) (hn : n < 9223372036854775808) (t : List Nat) : unnum (num n ++ t) = (n, (num n).length, 0) := by
 have hl := rest_length 8 (n / 128) (by omega)
 rw [unnum, num, List.append_assoc, unnumGo_rest 8 (n / 128) 0 0 _ (by omega) (by omega), List.singleton_append, unnumGo, if_neg (by omega), if_pos (by omega)]
 simp only [List.length_append, List.length_singleton, Prod.mk.injEq, Nat.zero_mul, Nat.zero_add, and_true]
 omega
theorem unnumGo_cons (c : Nat) (l : List Nat) (i n : Nat) (h : i ≠ 9) : unnumGo (c :: l) i n = if c < 128 then (n * 128 + c, i + 1, 0) else unnumGo l (i + 1) (n * 128 + (c - 128) + 1) := by rw [unnumGo, if_neg h]
end Go.Proofs.Ytcfdplmapdgfmaa.Mine
