import Derived.Test.YtcfdplmapdgfmaaUBase
import Derived.Test.YtcfdplmapdgfmaaProg
import Derived.Laws.Strings2
import Derived.Laws.Slices
import Derived.WalkKit
import Derived.Maps.OwnSet
import Derived.Maps.Views
import Derived.Test.YtcfdplmapdgfmaaUCNum
import Derived.Lib.Hide
import Derived.Outline
import Derived.Deep.QuietTactic
import Derived.BigQuiet
import Derived.Deep.LoopGhost
import Derived.Lib.AppendStr
import Derived.Laws.AppendOwn
import Derived.OwnWalk
import Derived.Below
import Derived.Lib.FrozenHead
import Derived.Lib.ConvBytes
import Derived.Test.YtcfdplmapdgfmaaUCPure
import Derived.Deep.RegionHeld3
import Derived.Deep.DrawnRows
set_option linter.unusedVariables false
set_option linter.unusedSimpArgs false
namespace Go.Proofs.Ytcfdplmapdgfmaa.Mine
open List renaming setIfInBounds_toArray → q1, set_cons_zero → q2, set_cons_succ → q3
open Go.RowKit Go.Proofs.YtcfdplmapdgfmaaW.PrintWords
theorem slice_run (s : ByteArray) (a b : Nat) (x y : Int) (hx : x = (a : Int)) (hy : y = (b : Int)) (hab : a ≤ b) (hb : b ≤ s.size) :
  ∀ W : World, (Instr.slice 9 (.string s) (some (.int .i64 x)) (some (.int .i64 y)) none).run Try.prog W = .ok (.string (s.extract a b)) W := by
 intro W
 subst hx hy
 have h := run_slice_string (P := Try.prog) (w := W) 9 s .i64 .i64 (a : Int) (b : Int) Try.underlying9 (by omega) (by omega) (by omega)
 simpa using h
theorem index_run (s : ByteArray) (j c : Nat) (z : Int) (hz : z = (j : Int)) (hj : j < s.size) (hc : c = (bs s).getD j 0) :
  ∀ W : World, (Instr.index 9 (.string s) (.int .i64 z)).run Try.prog W = .ok (.int .u8 (c : Int)) W := by
 intro W
 subst hz
 rw [run_index_string _ _ _ _ _ Try.underlying9, dif_pos ⟨by omega, by omega⟩]
 have e : (s[(j : Int).toNat]'(by simpa using hj)).toNat = c := by
  rw [hc, List.getD_eq_getElem?_getD, List.getElem?_eq_getElem (by rw [z01]; exact hj)]
  have e0 : s[(j : Int).toNat]'(by simpa using hj) = s[j] := by simp
  rw [e0]
  unfold bs
  rw [List.getElem_map]
  rfl
 exact congrArg (fun n : Nat => Result.ok (Value.int .u8 (n : Int)) W) e
theorem getD_drop (l : List Nat) (a i : Nat) : (l.drop a).getD i 0 = l.getD (a + i) 0 := by
 rw [List.getD_eq_getElem?_getD, List.getD_eq_getElem?_getD, List.getElem?_drop]
def updF (f : List Nat → Option Nat) (k : List Nat) (n : Nat) : List Nat → Option Nat := fun x => if x = k then some n else f x
def lcp : List Nat → List Nat → Nat
 | a :: l, b :: m => if a = b then lcp l m + 1 else 0
 | _, _ => 0
theorem lcp_step (l m : List Nat) (h1 : 0 < l.length) (h2 : 0 < m.length) : lcp l m = if l.getD 0 0 = m.getD 0 0 then lcp (l.drop 1) (m.drop 1) + 1 else 0 := by
 match l, m, h1, h2 with
 | a :: l, b :: m, _, _ => simp [lcp]
theorem lcp_at (l m : List Nat) (a b : Nat) (h1 : a < l.length) (h2 : b < m.length) : lcp (l.drop a) (m.drop b) = if l.getD a 0 = m.getD b 0 then lcp (l.drop (a + 1)) (m.drop (b + 1)) + 1 else 0 := by
 rw [lcp_step _ _ (by rw [List.length_drop]; omega) (by rw [List.length_drop]; omega), getD_drop, getD_drop, List.drop_drop, List.drop_drop, Nat.add_zero, Nat.add_zero]
theorem lcp_nil_left (m : List Nat) : lcp [] m = 0 := by rw [lcp]; intros; simp_all
theorem lcp_nil_right (l : List Nat) : lcp l [] = 0 := by cases l <;> rfl
theorem lcp_le : ∀ (l m : List Nat), lcp l m ≤ l.length ∧ lcp l m ≤ m.length
 | [], m => by simp [lcp_nil_left]
 | a :: l, [] => by simp [lcp_nil_right]
 | a :: l, b :: m => by
  have := lcp_le l m
  rw [lcp]
  split
  ·simp; omega
  ·simp
theorem lcp_same : ∀ (l m : List Nat), l.take (lcp l m) = m.take (lcp l m)
 | [], m => by simp [lcp_nil_left]
 | a :: l, [] => by simp [lcp_nil_right]
 | a :: l, b :: m => by
  rw [lcp]
  split
  ·rename_i h; subst h; simp [lcp_same l m]
  ·simp
theorem lcp_add : ∀ (n : Nat) (l m : List Nat), n ≤ l.length → n ≤ m.length → l.take n = m.take n → lcp l m = n + lcp (l.drop n) (m.drop n)
 | 0, l, m, _, _, _ => by simp
 | n + 1, a :: l, b :: m, h1, h2, h => by
  simp only [List.take_succ_cons, List.cons.injEq] at h
  rw [lcp, if_pos h.1, lcp_add n l m (by simpa using h1) (by simpa using h2) h.2]
  simp; omega
end Go.Proofs.Ytcfdplmapdgfmaa.Mine
namespace Go.Proofs.Ytcfdplmapdgfmaa.Mine
open Go Go.RowKit
theorem wrap_at (x : Int) (h : 0 ≤ x) (h2 : x ≤ 9223372036854775807) : IntKind.i64.wrap x = x := by
 rw [IntKind.wrap_i64]; omega
end Go.Proofs.Ytcfdplmapdgfmaa.Mine
set_option linter.unusedVariables false
set_option linter.unusedSimpArgs false
namespace Go.Proofs.Ytcfdplmapdgfmaa.Mine
open Go.RowKit Go.Proofs.YtcfdplmapdgfmaaW.PrintWords
def klit (s : ByteArray) : Lit := .string s.data.toList
theorem klit_ne {a b : ByteArray} (h : bs a ≠ bs b) : klit a ≠ klit b := by
 intro e
 apply h
 have : a.data.toList = b.data.toList := by injection e
 simp [bs, this]
def MapF (D : DataW Unit) (f : List Nat → Option Nat) : Prop :=
 Maps.IsMap D ∧ ∀ key : ByteArray, Maps.has D (klit key) = (f (bs key)).isSome ∧ ∀ n, f (bs key) = some n → D.atKey (klit key) (.lit (.int .i64 0)) = .lit (.int .i64 (n : Int))
theorem MapF.empty : MapF (.map []) fun _ => none := ⟨Maps.isMap_empty, fun key => ⟨rfl, fun n h => by cases h⟩⟩
theorem MapF.put {D : DataW Unit} {f : List Nat → Option Nat} (h : MapF D f) (s : ByteArray) (n : Nat) : MapF (D.put (klit s) (.lit (.int .i64 (n : Int)))) (updF f (bs s) n) := by
 refine ⟨h.1.put _ _, fun key => ?_⟩
 unfold updF
 by_cases e : bs key = bs s
 ·have : key = s := bs_inj e
  subst this
  rw [if_pos rfl]
  refine ⟨Maps.has_put_same h.1 (show WideAt.IsKeyLit (klit key) from True.intro) _, fun m hm => ?_⟩
  obtain rfl : n = m := Option.some.inj hm
  exact Maps.atKey_put_same h.1 (show WideAt.IsKeyLit (klit key) from True.intro) _ _
 ·rw [if_neg e]
  have hne := klit_ne e
  rw [Maps.has_put_other hne]
  refine ⟨(h.2 key).1, fun m hm => ?_⟩
  rw [Maps.atKey_put_other hne]
  exact (h.2 key).2 m hm
theorem MapF.has_ {D : DataW Unit} {f : List Nat → Option Nat} (h : MapF D f) (s : ByteArray) : Maps.has D (klit s) = (f (bs s)).isSome := (h.2 s).1
theorem MapF.at_ {D : DataW Unit} {f : List Nat → Option Nat} (h : MapF D f) (s : ByteArray) {n : Nat} (hn : f (bs s) = some n) {c : Int} (hc : D.atKey (klit s) (.lit (.int .i64 0)) = .lit (.int .i64 c)) : c = (n : Int) := by
 have := (h.2 s).2 n hn
 rw [hc] at this
 injection this with e
 injection e
theorem keyS (s : ByteArray) (hs : s.size ≤ 9223372036854775807) : keyOf Try.prog 9 (.string s) = some (klit s) :=
 WideMaps.keyOf_string_mk Try.underlying9 (by unfold maxLen; exact hs)
theorem zeroI (w : World) : (zeroValue 3).run Try.prog w = .ok (.int .i64 0) w := by kernel_rfl
theorem elemI (n : Nat) (h : n ≤ 9223372036854775807) : plainElem (H := Unit) Try.prog 3 (.int .i64 (n : Int)) = some (.lit (.int .i64 (n : Int)), []) :=
 plainElem_int Try.underlying3 (by simp [Lit.wf, IntKind.min, IntKind.max, IntKind.signed, IntKind.bits]; omega)
end Go.Proofs.Ytcfdplmapdgfmaa.Mine
set_option linter.unusedVariables false
set_option linter.unusedSimpArgs false
namespace Go.Proofs.Ytcfdplmapdgfmaa.Mine
open Go.RowKit Go.Proofs.YtcfdplmapdgfmaaW.PrintWords
def w4 (l : List Nat) (i : Nat) : List Nat := (l.drop i).take 4
def lastF (l : List Nat) : Nat → List Nat → Option Nat
 | 0 => fun _ => none
 | j + 1 => if j + 4 ≤ l.length then updF (lastF l j) (w4 l j) j else lastF l j
theorem lastF_at (l : List Nat) : ∀ (j : Nat) (b : List Nat) (k : Nat), lastF l j b = some k → k < j ∧ k + 4 ≤ l.length ∧ w4 l k = b ∧ ∀ i, k < i → i < j → i + 4 ≤ l.length → w4 l i ≠ b
 | 0, _, _, h => by cases h
 | j + 1, b, k, h => by
  rw [lastF] at h
  split at h
  ·rename_i hj
   rw [updF] at h
   split at h
   ·rename_i e
    obtain rfl : j = k := Option.some.inj h
    exact ⟨by omega, hj, e.symm, fun i h1 h2 => by omega⟩
   ·rename_i hne
    obtain ⟨h1, h2, h3, h4⟩ := lastF_at l j b k h
    refine ⟨by omega, h2, h3, fun i h5 h6 h7 => ?_⟩
    by_cases e : i = j
    ·subst e; exact fun e => hne e.symm
    ·exact h4 i h5 (by omega) h7
  ·rename_i hj
   obtain ⟨h1, h2, h3, h4⟩ := lastF_at l j b k h
   exact ⟨by omega, h2, h3, fun i h5 h6 h7 => h4 i h5 (by omega) h7⟩
theorem lastF_step (l : List Nat) (j : Nat) (h : j + 4 ≤ l.length) : lastF l (j + 1) = updF (lastF l j) (w4 l j) j := by rw [lastF, if_pos h]
theorem lastF_over (l : List Nat) (j : Nat) (h : l.length < j + 4) : ∀ d, lastF l (j + d) = lastF l j
 | 0 => rfl
 | d + 1 => by rw [show j + (d + 1) = (j + d) + 1 from by omega, lastF, if_neg (by omega), lastF_over l j h d]
def backP (l : List Nat) (at_ : Nat) : Nat :=
 if at_ + 4 ≤ l.length then match lastF l at_ (w4 l at_) with
  | none => 0
  | some k => if 32768 < at_ - k then 0 else at_ - k
 else 0
theorem backP_ok (l : List Nat) (at_ : Nat) (h : backP l at_ ≠ 0) : at_ + 4 ≤ l.length ∧ backP l at_ ≤ at_ ∧ backP l at_ ≤ 32768 ∧ w4 l (at_ - backP l at_) = w4 l at_ ∧ lastF l at_ (w4 l at_) = some (at_ - backP l at_) := by
 unfold backP at h ⊢
 split at h
 ·rename_i h4
  rw [if_pos h4]
  split at h
  ·exact absurd rfl h
  ·rename_i k hk
   split at h
   ·exact absurd rfl h
   ·rename_i hf
    obtain ⟨h1, h2, h3, _⟩ := lastF_at l at_ _ k hk
    rw [hk, if_neg hf, show at_ - (at_ - k) = k from by omega]
    exact ⟨h4, by omega, by omega, h3, rfl⟩
 ·exact absurd rfl h
theorem same4 (l : List Nat) (a b : Nat) (ha : a + 4 ≤ l.length) (hb : b + 4 ≤ l.length) (h : w4 l a = w4 l b) : lcp (l.drop b) (l.drop a) = 4 + lcp (l.drop (b + 4)) (l.drop (a + 4)) := by
 have := lcp_add 4 (l.drop b) (l.drop a) (by rw [List.length_drop]; omega) (by rw [List.length_drop]; omega) h.symm
 rwa [List.drop_drop, List.drop_drop] at this
def lonesB (l : List Nat) : List Nat := if l = [] then [] else num l.length ++ l
def mkP (l : List Nat) (at_ fr : Nat) : List Nat :=
 if _h : at_ < l.length then
  if backP l at_ = 0 then mkP l (at_ + 1) fr
  else num (at_ - fr) ++ (l.drop fr).take (at_ - fr) ++ num (backP l at_) ++ num (lcp (l.drop (at_ + 4)) (l.drop (at_ - backP l at_ + 4))) ++ mkP l (at_ + (4 + lcp (l.drop (at_ + 4)) (l.drop (at_ - backP l at_ + 4)))) (at_ + (4 + lcp (l.drop (at_ + 4)) (l.drop (at_ - backP l at_ + 4))))
 else lonesB (l.drop fr)
termination_by l.length - at_
decreasing_by all_goals omega
theorem mkP_end (l : List Nat) (at_ fr : Nat) (h : l.length ≤ at_) : mkP l at_ fr = lonesB (l.drop fr) := by
 rw [mkP, dif_neg (by omega)]
theorem mkP_none (l : List Nat) (at_ fr : Nat) (h : at_ < l.length) (hf : backP l at_ = 0) : mkP l at_ fr = mkP l (at_ + 1) fr := by
 rw [mkP, dif_pos h, if_pos hf]
theorem mkP_some (l : List Nat) (at_ fr b n : Nat) (h : at_ < l.length) (hb : backP l at_ = b) (hf : b ≠ 0) (hn : n = lcp (l.drop at_) (l.drop (at_ - b))) :
  4 ≤ n ∧ at_ + n ≤ l.length ∧ mkP l at_ fr = num (at_ - fr) ++ (l.drop fr).take (at_ - fr) ++ num b ++ num (n - 4) ++ mkP l (at_ + n) (at_ + n) := by
 subst hb
 obtain ⟨h1, h2, h3, h4, _⟩ := backP_ok l at_ hf
 have hs := same4 l (at_ - backP l at_) at_ (by omega) h1 h4
 rw [hs] at hn
 have hle := (lcp_le (l.drop (at_ + 4)) (l.drop (at_ - backP l at_ + 4))).1
 rw [List.length_drop] at hle
 refine ⟨by omega, by omega, ?_⟩
 rw [mkP, dif_pos h, if_neg hf, hn, show 4 + lcp (l.drop (at_ + 4)) (l.drop (at_ - backP l at_ + 4)) - 4 = lcp (l.drop (at_ + 4)) (l.drop (at_ - backP l at_ + 4)) from by omega]
def pressP (l : List Nat) : List Nat := num l.length ++ mkP l 0 0
end Go.Proofs.Ytcfdplmapdgfmaa.Mine
set_option linter.unusedVariables false
set_option linter.unusedSimpArgs false
namespace Go.Proofs.Ytcfdplmapdgfmaa.Mine
open Go.RowKit Go.Proofs.YtcfdplmapdgfmaaW.PrintWords
set_option maxRecDepth 100000 in
set_option maxHeartbeats 1000000 in
theorem same_calls (s : ByteArray) (a b : Nat) (w : World) (hs : s.size ≤ 10000000) (hab : a ≤ b) (hb : b ≤ s.size) :
  Calls Try.prog 121 #[.string s, .int .i64 a, .int .i64 b] w fun e w' => e = .returned (.int .i64 (lcp ((bs s).drop b) ((bs s).drop a) : Nat)) ∧ Below w.heap.size w w' := by
 obtain ⟨N, hN⟩ : ∃ N, N = lcp ((bs s).drop b) ((bs s).drop a) := ⟨_, rfl⟩
 rw [← hN]
 have HN := Lib.hid hN
 clear hN
 go_enter Try.func121, Try.ntmps121
 go_wp2_with (fail)
 go_loopg [7] (s.size - b) (fun g s7 wz => ∃ (j : Nat), b + j ≤ s.size ∧ g = s.size - b - j ∧ s7 = .int .i64 j ∧ Hid (N = j + lcp ((bs s).drop (b + j)) ((bs s).drop (a + j))) ∧ Hid (Drawn0 w wz))
 case atStart =>
  exact ⟨0, hb, rfl, rfl, by unfold Hid; rw [Nat.add_zero, Nat.add_zero, Nat.zero_add]; exact HN.out, Drawn0.refl _⟩
 case round =>
  obtain ⟨j, hj1, hg, rfl, HJ, HD⟩ := hrel
  have HG := Lib.hid hg
  clear hg
  have z1 : IntKind.i64.wrap ((a : Int) + j) = (a : Int) + j := wrap_at _ (by omega) (by omega)
  have z2 : IntKind.i64.wrap ((b : Int) + j) = (b : Int) + j := wrap_at _ (by omega) (by omega)
  by_cases h1 : b + j < s.size
  ·have h1b : decide ((b : Int) + j < s.size) = true := by simp; omega
   obtain ⟨c, hc⟩ : ∃ c, c = (bs s).getD (a + j) 0 := ⟨_, rfl⟩
   obtain ⟨d, hd⟩ : ∃ d, d = (bs s).getD (b + j) 0 := ⟨_, rfl⟩
   have hx1 := index_run s (a + j) c ((a : Int) + j) (by omega) (by omega) hc
   have hx2 := index_run s (b + j) d ((b : Int) + j) (by omega) h1 hd
   have HC := Lib.hid (And.intro hc hd)
   clear hc hd
   have hl : Hid (N = j + (if d = c then lcp ((bs s).drop (b + (j + 1))) ((bs s).drop (a + (j + 1))) + 1 else 0)) := by
    have hn := HJ.out
    rw [lcp_at _ _ _ _ (by rw [z01]; exact h1) (by rw [z01]; omega), ← HC.out.1, ← HC.out.2] at hn
    exact hn
   by_cases h3 : c = d
   ·subst h3
    go_wp2_with (fail)
    go_quiet (fail)
    go_wp2_with (fail)
    go_roundg (s.size - b - (j + 1))
    case measure => have := HG.out; omega
    case rel =>
     refine ⟨j + 1, by omega, rfl, by go_num, ?_, HD.out.step nq⟩
     have hn := hl.out
     rw [if_pos True.intro] at hn
     unfold Hid
     omega
   ·have h3b : ((c : Int) == (d : Int)) = false := by simp; omega
    go_wp2_with (fail)
    go_quiet (fail)
    go_wp2_with (fail)
    go_ret
    have hn := hl.out
    rw [if_neg (fun e => h3 e.symm), Nat.add_zero] at hn
    subst hn
    exact ⟨rfl, (HD.out.step nq).below⟩
  ·have h1b : decide ((b : Int) + j < s.size) = false := by simp; omega
   go_wp2_with (fail)
   go_quiet (fail)
   go_wp2_with (fail)
   go_ret
   have hn := HJ.out
   rw [List.drop_eq_nil_of_le (show (bs s).length ≤ b + j from by rw [z01]; omega), lcp_nil_left, Nat.add_zero] at hn
   subst hn
   exact ⟨rfl, (HD.out.step nq).below⟩
end Go.Proofs.Ytcfdplmapdgfmaa.Mine
set_option linter.unusedVariables false
set_option linter.unusedSimpArgs false
namespace Go.Proofs.Ytcfdplmapdgfmaa.Mine
open Go.RowKit Go.Proofs.YtcfdplmapdgfmaaW.PrintWords
def LastM (w : World) (g m : Nat) (l : List Nat) (j : Nat) : Prop :=
 ∃ D, w.ownsMap Try.prog 9 (plainElem (H := Unit) Try.prog 3) g m D ∧ MapF D (lastF l j)
theorem LastM.kept {w w' : World} {g m : Nat} {l : List Nat} {j : Nat} {row : Option Nat} (h : LastM w g m l j) (hg : w.grownBy w' row) (hr : some g ≠ row) : LastM w' g m l j := by
 obtain ⟨D, ho, hF⟩ := h
 exact ⟨D, ho.kept hg hr, hF⟩
theorem w4_key (s : ByteArray) (j : Nat) : bs (s.extract j (j + 4)) = w4 (bs s) j := by
 rw [bs_extract, w4]; congr 1; omega
theorem grown_refl (w : World) (row : Option Nat) : w.grownBy w row := ⟨rfl, rfl, rfl, Nat.le_refl _, fun _ _ _ => rfl⟩
theorem grown_trans {w1 w2 w3 : World} {row : Option Nat} (h : w1.grownBy w2 row) (g : w2.grownBy w3 row) : w1.grownBy w3 row :=
 ⟨g.os.trans h.os, g.tape.trans h.tape, g.output.trans h.output, Nat.le_trans h.size g.size, fun i hi hn => (g.block i (Nat.lt_of_lt_of_le hi h.size) hn).trans (h.block i hi hn)⟩
set_option maxRecDepth 100000 in
set_option maxHeartbeats 1000000 in
theorem note_calls (s : ByteArray) (g m fr up : Nat) (w : World) (hs : s.size ≤ 10000000) (hft : fr ≤ up) (hto : up ≤ s.size) (hm : m ≤ 10000000) (hown : LastM w g m (bs s) fr) :
  Calls Try.prog 100 #[.map (some g), .string s, .int .i64 fr, .int .i64 up] w fun e w' => e = .returned (.tuple #[]) ∧ LastM w' g (m + (up - fr)) (bs s) up ∧ w.grownBy w' (some g) := by
 go_enter Try.func100, Try.ntmps100
 go_wp2_with (fail)
 have HW := Lib.hid hown
 clear hown
 go_loopg [8] (up - fr) (fun gg s8 wz => ∃ (j : Nat), fr ≤ j ∧ j ≤ up ∧ gg = up - j ∧ s8 = .int .i64 j ∧ Hid (LastM wz g (m + (j - fr)) (bs s) j) ∧ Hid (w.grownBy wz (some g)))
 case atStart =>
  exact ⟨fr, Nat.le_refl _, hft, rfl, rfl, by unfold Hid; rw [Nat.sub_self, Nat.add_zero]; exact HW.out, grown_refl _ _⟩
 case round =>
  obtain ⟨j, hj1, hj2, hg, rfl, HM, HG⟩ := hrel
  have HGG := Lib.hid hg
  clear hg
  by_cases h1 : j < up
  ·have h1b : decide ((j : Int) < (up : Int)) = true := by simp; omega
   by_cases h2 : j + 4 ≤ s.size
   ·have h2b : decide ((j : Int) + 4 ≤ (s.size : Int)) = true := by simp; omega
    have hsl := slice_run s j (j + 4) (j : Int) ((j : Int) + 4) rfl (by omega) (by omega) h2
    obtain ⟨key, hk⟩ : ∃ key, key = s.extract j (j + 4) := ⟨_, rfl⟩
    have hkb : bs key = w4 (bs s) j := by rw [hk]; exact w4_key s j
    have hks : key.size ≤ 9223372036854775807 := by rw [hk, ByteArray.size_extract]; omega
    have hkey := keyS key hks
    have hel := elemI j (by omega)
    rw [← hk] at hsl
    have HKB := Lib.hid hkb
    clear hk hkb
    obtain ⟨D, hown, hF⟩ := HM.out
    have HF := Lib.hid hF
    clear hF HM
    go_wp2_with (at_mapUpdate; refine wpList_mapUpdate_own _ rfl _ _ _ 163 rfl 9 3 (Maps.string_keyed Try.underlying9) Try.underlying163 _ g (m + (j - fr)) D rfl hown (by unfold maxLen; omega) _ _ _ rfl rfl hkey _ [] hel ?_; intro w1 hown1 hgrow1)
    have HO1 := Lib.hid (And.intro hown1 hgrow1)
    clear hown1 hgrow1 hown hsl hkey hel
    go_wp2_with (fail)
    go_roundg (up - (j + 1))
    case measure => have := HGG.out; omega
    case rel =>
     refine ⟨j + 1, by omega, by omega, rfl, by go_num, ⟨D.put (klit key) (.lit (.int .i64 (j : Int))), ?_, ?_⟩, grown_trans HG.out HO1.out.2⟩
     ·have := HO1.out.1
      rwa [show m + (j - fr) + 1 = m + (j + 1 - fr) from by omega] at this
     ·rw [lastF_step _ _ (by rw [z01]; exact h2), ← HKB.out]
      exact HF.out.put key j
   ·have h2b : decide ((j : Int) + 4 ≤ (s.size : Int)) = false := by simp; omega
    go_wp2_with (fail)
    go_end0
    obtain ⟨D, ho, hF⟩ := HM.out
    refine ⟨rfl, ⟨D, ho.mono (by omega), ?_⟩, HG.out⟩
    rw [show up = j + (up - j) from by omega, lastF_over _ _ (by rw [z01]; omega)]
    exact hF
  ·have h1b : decide ((j : Int) < (up : Int)) = false := by simp; omega
   go_wp2_with (fail)
   go_end0
   obtain rfl : j = up := by omega
   exact ⟨rfl, HM.out, HG.out⟩
set_option maxRecDepth 100000 in
set_option maxHeartbeats 1000000 in
theorem find_calls (s : ByteArray) (g m at_ : Nat) (w : World) (hs : s.size ≤ 10000000) (hat : at_ ≤ s.size) (hown : LastM w g m (bs s) at_) :
  Calls Try.prog 99 #[.map (some g), .string s, .int .i64 at_] w fun e w' => ∃ b n : Nat, e = .returned (.tuple #[.int .i64 (b : Int), .int .i64 (n : Int)]) ∧ b = backP (bs s) at_ ∧ (b ≠ 0 → n = lcp ((bs s).drop at_) ((bs s).drop (at_ - b))) ∧ Below w.heap.size w w' := by
 obtain ⟨b, hb⟩ : ∃ b, b = backP (bs s) at_ := ⟨_, rfl⟩
 have hb2 := hb
 rw [backP, z01] at hb2
 have HB := Lib.hid hb
 clear hb
 by_cases h4 : at_ + 4 ≤ s.size
 ·have h4b : decide ((at_ : Int) + 4 > (s.size : Int)) = false := by simp; omega
  rw [if_pos h4] at hb2
  have hsl := slice_run s at_ (at_ + 4) (at_ : Int) ((at_ : Int) + 4) rfl (by omega) (by omega) h4
  obtain ⟨key, hk⟩ : ∃ key, key = s.extract at_ (at_ + 4) := ⟨_, rfl⟩
  have hkb : bs key = w4 (bs s) at_ := by rw [hk]; exact w4_key s at_
  have hks : key.size ≤ 9223372036854775807 := by rw [hk, ByteArray.size_extract]; omega
  have hkey := keyS key hks
  rw [← hk] at hsl
  clear hk
  rw [← hkb] at hb2
  clear hkb
  obtain ⟨D, hown, hF⟩ := hown
  have hhas := hF.has_ key
  cases hf : lastF (bs s) at_ (bs key) with
  | none =>
   rw [hf] at hhas hb2
   have hh : Maps.has D (klit key) = false := hhas
   subst hb2
   clear hhas hf hF
   go_enter Try.func99, Try.ntmps99
   go_wp2_with (at_lookup; refine wpList_lookup_own_ok_int _ rfl _ _ 163 rfl 9 3 .i64 (Maps.string_keyed Try.underlying9) Try.underlying163 Try.underlying3 (zeroI _) g m D rfl hown _ _ rfl hkey ?_; intro c hat hwc)
   go_ret2
   exact ⟨0, 0, rfl, HB.out, fun h => absurd rfl h, Below.refl _ _⟩
  | some k =>
   rw [hf] at hhas hb2
   simp only at hb2
   have hh : Maps.has D (klit key) = true := hhas
   have hat2 := fun (c : Int) h => hF.at_ key hf (c := c) h
   obtain ⟨hk1, hk2, _, _⟩ := lastF_at _ _ _ _ hf
   have HAT := Lib.hid hat2
   clear hhas hf hat2 hF
   have hkb : (k : Int) ≤ at_ := by omega
   by_cases hfar : 32768 < at_ - k
   ·rw [if_pos hfar] at hb2
    subst hb2
    have hfb : decide ((at_ : Int) - (k : Int) > 32768) = true := by simp; omega
    go_enter Try.func99, Try.ntmps99
    go_wp2_with (at_lookup; refine wpList_lookup_own_ok_int _ rfl _ _ 163 rfl 9 3 .i64 (Maps.string_keyed Try.underlying9) Try.underlying163 Try.underlying3 (zeroI _) g m D rfl hown _ _ rfl hkey ?_; intro c hat hwc; have hck := HAT.out c hat; rw [hck]; clear hat hwc)
    go_ret2
    exact ⟨0, 0, rfl, HB.out, fun h => absurd rfl h, Below.refl _ _⟩
   ·rw [if_neg hfar] at hb2
    have hfb : decide ((at_ : Int) - (k : Int) > 32768) = false := by simp; omega
    have hsame := fun w => same_calls s k at_ w hs (by omega) hat
    have HS := Lib.hid hsame
    clear hsame
    go_enter Try.func99, Try.ntmps99
    go_wp2_with (at_lookup; refine wpList_lookup_own_ok_int _ rfl _ _ 163 rfl 9 3 .i64 (Maps.string_keyed Try.underlying9) Try.underlying163 Try.underlying3 (zeroI _) g m D rfl hown _ _ rfl hkey ?_; intro c hat hwc; have hck := HAT.out c hat; rw [hck]; clear hat hwc)
    refine (HS.out _).mono ?_
    rintro e w1 ⟨rfl, hb1⟩
    have HB1 := Lib.hid hb1
    clear hb1
    go_wp2_with fail
    go_ret2
    refine ⟨b, lcp ((bs s).drop at_) ((bs s).drop k), ?_, HB.out, fun _ => by rw [hb2, show at_ - (at_ - k) = k from by omega], HB1.out⟩
    rw [hb2, show ((at_ - k : Nat) : Int) = (at_ : Int) - (k : Int) from by omega]
    rfl
 ·have h4b : decide ((at_ : Int) + 4 > (s.size : Int)) = true := by simp; omega
  rw [if_neg h4] at hb2
  subst hb2
  go_enter Try.func99, Try.ntmps99
  go_wp2_with fail
  go_ret2
  exact ⟨0, 0, rfl, HB.out, fun h => absurd rfl h, Below.refl _ _⟩
end Go.Proofs.Ytcfdplmapdgfmaa.Mine
set_option linter.unusedVariables false
set_option linter.unusedSimpArgs false
namespace Go.Proofs.Ytcfdplmapdgfmaa.Mine
open Go.RowKit Go.Proofs.YtcfdplmapdgfmaaW.PrintWords
structure BBuf (B : Nat) (l : List Nat) (v : Value) (w : World) : Prop where
 own : w.ownsRow B 5 1 v l.length (u8s l)
 size : B ≤ w.heap.size
section
variable {B : Nat} {l : List Nat} {v : Value} {w w' : World}
theorem strCells_u8 (s : ByteArray) : Lib.strCells s = u8s (bs s) := by simp [Lib.strCells, u8s, bs]
theorem BBuf.nil (w : World) : BBuf w.heap.size [] (.slice none 0 0) w := ⟨World.ownsRow_nil w _ _ 1, Nat.le_refl _⟩
theorem BBuf.form (h : BBuf B l v w) : ∃ p c, v = .slice p l.length c ∧ l.length ≤ c ∧ c ≤ maxLen := by
 rcases h.own.2 with ⟨h1, h2⟩ | ⟨g, cap, cur, hv, hb, hg, hc, hm, hs, ht⟩
 ·have : l = [] := List.eq_nil_of_length_eq_zero h2
  subst this
  exact ⟨none, 0, h1, Nat.le_refl _, Nat.zero_le _⟩
 ·exact ⟨some ⟨g, 0, none⟩, cap, hv, hc, hm⟩
theorem BBuf.filled (h : BBuf B l v w) (hl : l ≠ []) : ∃ g c, v = .slice (some ⟨g, 0, none⟩) l.length c ∧ l.length ≤ c ∧ c ≤ maxLen ∧ B ≤ g ∧ g < w.heap.size ∧ ∀ j, j < l.length → w.cell? ((⟨g, 0, none⟩ : Addr).add j) = some (.int .u8 ((l.getD j 0 : Nat) : Int)) := by
 rcases h.own.2 with ⟨h1, h2⟩ | ⟨g, cap, cur, hv, hb, hg, hc, hm, hs, ht⟩
 ·exact absurd (List.eq_nil_of_length_eq_zero h2) hl
 ·refine ⟨g, cap, hv, hc, hm, hb, (Array.getElem?_eq_some_iff.1 hg).1, fun j hj => ?_⟩
  refine h.own.cells (g := g) (by rw [hv]; rfl) j _ ?_
  simp [u8s, List.getElem?_eq_getElem hj, List.getD_eq_getElem?_getD]
theorem owns_kept {base e size n : Nat} {xs : List Value} (h : w.ownsRow base e size v n xs) (hk : ∀ k, v.ownBlock = some k → w'.heap[k]? = w.heap[k]?) : w'.ownsRow base e size v n xs := by
 refine ⟨h.1, ?_⟩
 rcases h.2 with hn | ⟨g, cap, cur, rfl, hb, hg, rest⟩
 ·exact .inl hn
 ·exact .inr ⟨g, cap, cur, rfl, hb, (hk g rfl).trans hg, rest⟩
theorem BBuf.kept (h : BBuf B l v w) (hs : w.heap.size ≤ w'.heap.size) (hk : ∀ k, B ≤ k → k < w.heap.size → w'.heap[k]? = w.heap[k]?) : BBuf B l v w' :=
 ⟨owns_kept h.own fun k e => hk k (h.own.lt k e).1 (h.own.lt k e).2, Nat.le_trans h.size hs⟩
theorem BBuf.below (h : BBuf B l v w) (hb : Below w.heap.size w w') : BBuf B l v w' := h.kept hb.size fun k _ h2 => hb.block k h2
theorem BBuf.alloc (h : BBuf B l v w) (o : Obj) : BBuf B l v (w.alloc o) := ⟨h.own.alloc o, by have := h.size; simp; omega⟩
theorem BBuf.lt (h : BBuf B l v w) : ∀ k, v.ownBlock = some k → B ≤ k ∧ k < w.heap.size := h.own.lt
theorem BBuf.string (h : BBuf B l v w) : (convert 46 9 v).run Try.prog w = .ok (.string (sb l)) w :=
 conv_own Try.underlying46 Try.underlying5 Try.underlying9 h.own
theorem below_grow {W0 : World} {row : Option Nat} {n₀ : Nat} (h : Below n₀ W0 w) (hg : w.grownBy w' row) (hs : n₀ ≤ w.heap.size) (hr : ∀ k, row = some k → n₀ ≤ k) : Below n₀ W0 w' := h.grown hg hs hr
end
theorem u8info : ∃ i, Try.prog.info? 5 = some i ∧ i.zero = some (.int .u8 0) ∧ i.size = 1 ∧ i.bytes = 1 := by
 have h : (Try.prog.info? 5).map (fun i => (i.zero, i.size, i.bytes)) = some (some (.int .u8 0), 1, 1) := by kernel_rfl
 obtain ⟨i, hi, e⟩ := Option.map_eq_some_iff.1 h
 simp only [Prod.mk.injEq] at e
 exact ⟨i, hi, e.1, e.2.1, e.2.2⟩
theorem wpList_append_str {ops : Array Oper} {rest : List Oper} {o : Oper} {a : Act} {w : World} {Q : Exit → Act → World → Prop} (hgd : o.guard = none) (sl x : Operand)
  (ho : o.op = .call { callee := .builtin .append, args := #[sl, x], argTypes := #[46, 9] })
  (B : Nat) (l : List Nat) (v : Value) (hs : a.eval sl = v) (hb : BBuf B l v w) (s : ByteArray) (hx : a.eval x = .string s) (hlen : l.length + s.size ≤ 140737488355328)
  (h : ∀ v' w', BBuf B (l ++ bs s) v' w' → w.grownBy w' v.ownBlock → wpList Try.prog ops Q rest (a.put o.dst v') w') : wpList Try.prog ops Q (o :: rest) a w := by
 obtain ⟨i, hi, hz, hz1, hz2⟩ := u8info
 refine Lib.wpList_append_own_string w hgd sl x 46 9 ho B 5 i Try.underlying46 Try.underlying9 hi hz hz1 hz2 v l.length (u8s l) hs hb.own s hx (by unfold maxLen; omega) hlen hb.size ?_
 intro v' w' ho' hg _
 refine h v' w' ⟨?_, Nat.le_trans hb.size hg.size⟩ hg
 rw [List.length_append, z01, u8s_append, ← strCells_u8]
 exact ho'
theorem wpList_append_one {ops : Array Oper} {rest : List Oper} {o : Oper} {a : Act} {Q : Exit → Act → World → Prop} (hgd : o.guard = none) (sl x : Operand)
  (ho : o.op = .call { callee := .builtin .append, args := #[sl, x], argTypes := #[46, 46] })
  (B : Nat) (l : List Nat) (v : Value) (hs : a.eval sl = v) (w0 : World) (z : Int) (c : Nat) (hzc : z = (c : Int)) (hb : BBuf B l v w0)
  (hx : a.eval x = .slice (some ⟨w0.heap.size, 0, none⟩) 1 1) (hlen : l.length + 1 ≤ 140737488355328)
  (h : ∀ v' w', BBuf B (l ++ [c]) v' w' → (w0.alloc (.cells #[.int .u8 z] 5)).grownBy w' v.ownBlock → wpList Try.prog ops Q rest (a.put o.dst v') w') : wpList Try.prog ops Q (o :: rest) a (w0.alloc (.cells #[.int .u8 z] 5)) := by
 subst hzc
 obtain ⟨i, hi, hz, hsize, hby⟩ := u8info
 have hb' := hb.alloc (.cells #[.int .u8 (c : Int)] 5)
 refine wpList_append_own _ hgd sl x 46 ho B 5 i (.int .u8 0) 1 1 Try.underlying46 hi hz hsize hby rfl (by decide) v l.length (u8s l) hs hb'.own ⟨w0.heap.size, 0, none⟩ 1 1 [.int .u8 (c : Int)] hx rfl ?_ ?_ (by unfold maxLen; omega) (by omega) hb'.size ?_
 ·intro j u hj
  match j, hj with
  | 0, hj => simp at hj; subst hj; simp [Addr.add]
  | (j + 1), hj => simp at hj
 ·intro u hu; simp at hu; subst hu; rfl
 ·intro v' w' ho' hg _
  refine h v' w' ⟨?_, Nat.le_trans hb'.size hg.size⟩ hg
  rw [u8s_append, List.length_append]
  exact ho'
end Go.Proofs.Ytcfdplmapdgfmaa.Mine
set_option linter.unusedVariables false
set_option linter.unusedSimpArgs false
namespace Go.Proofs.Ytcfdplmapdgfmaa.Mine
open Go Go.RowKit Go.Lib Go.Proofs.YtcfdplmapdgfmaaW.PrintWords
def Unfz (fz : Nat × Nat) (n : Nat) : Prop := ∀ j, j < n → ¬ (fz.1 ≤ j ∧ j < fz.2)
theorem storeCells_un (P : Program) (g o : Nat) (t : TypeId) (fz : Nat × Nat) : ∀ (vs : List Value) (i : Nat) (cur : Array Value) (w : World), w.heap[g]? = some (.cells cur t fz) → Unfz fz cur.size → o + i + vs.length ≤ cur.size → (∀ v ∈ vs, v.oneCell' = true) →
  (storeCells ⟨g, o, none⟩ vs i).run P w = .ok () (w.setRow g (cur.toList.take (o + i) ++ vs ++ cur.toList.drop (o + i + vs.length)).toArray)
 | [], i, cur, w, hg, _, _, _ => by
  simp only [storeCells, List.append_nil, List.length_nil, Nat.add_zero, List.take_append_drop, Array.toArray_toList]
  rw [setRow_self w g cur t fz hg]
  rfl
 | v :: rest, i, cur, w, hg, hfz, hl, h1 => by
  have hi : o + i < cur.size := by simp at hl; omega
  have hadd : (⟨g, o, none⟩ : Addr).add i = ⟨g, o + i, none⟩ := by unfold Addr.add; split <;> simp_all
  have hcell : w.cell? ⟨g, o + i, none⟩ = some cur[o + i] := by simp [World.cell?, hg, hi]
  have hfro : w.frozen? ⟨g, o + i, none⟩ = false := by
   have := hfz (o + i) hi
   obtain ⟨lo, hi'⟩ := fz
   simp only [World.frozen?, hg, Bool.and_eq_false_iff, decide_eq_false_iff_not]
   simp only at this
   omega
  have hst : (store ((⟨g, o, none⟩ : Addr).add i) v).run P w = .ok () (w.setRow g (cur.setIfInBounds (o + i) v)) := by
   rw [hadd, run_store P w _ v _ (h1 v (by simp)), hcell]
   simp [hfro, setCell_eq_setRow w g (o + i) cur t fz v hg]
  have ih := storeCells_un P g o t fz rest (i + 1) (cur.setIfInBounds (o + i) v) (w.setRow g (cur.setIfInBounds (o + i) v)) (setRow_heap w g cur _ t _ hg) (by simpa using hfz) (by simp at hl ⊢; omega) (fun x hx => h1 x (by simp [hx]))
  simp only [storeCells, Sem.run_bind, hst, Result.andThen_ok, ih, setRow_setRow]
  congr 3
  have e := list_seg_step cur.toList (o + i) v rest (by simp at hl ⊢; omega)
  simpa [Array.toList_setIfInBounds, Nat.add_assoc] using e
theorem foldl_push_nums : ∀ (xs : List Int) (r : ByteArray), xs.foldl (fun r n => r.push (UInt8.ofNat n.toNat)) r = ⟨r.data ++ (xs.map fun n => UInt8.ofNat n.toNat).toArray⟩
 | [], r => by simp
 | b :: l, r => by
  simp only [List.foldl_cons]
  rw [foldl_push_nums l]
  simp [ByteArray.push]
structure MBuf (B : Nat) (l : List Nat) (v : Value) (w : World) : Prop where
 own : (v = .slice none 0 0 ∧ l = []) ∨ ∃ g cap cur fz, v = .slice (some ⟨g, 0, none⟩) l.length cap ∧ B ≤ g ∧ w.heap[g]? = some (.cells cur 5 fz) ∧ Unfz fz cur.size ∧ l.length ≤ cap ∧ cap ≤ maxLen ∧ cur.size = cap ∧ cur.toList.take l.length = u8s l
 size : B ≤ w.heap.size
theorem BBuf.toM {B : Nat} {l : List Nat} {v : Value} {w : World} (h : BBuf B l v w) : MBuf B l v w := by
 refine ⟨?_, h.size⟩
 rcases h.own.2 with ⟨h1, h2⟩ | ⟨g, cap, cur, hv, hb, hg, hc, hm, hs, ht⟩
 ·exact .inl ⟨h1, List.eq_nil_of_length_eq_zero h2⟩
 ·exact .inr ⟨g, cap, cur, (0, 0), hv, hb, hg, fun j hj h => by simp at h, hc, hm, by simpa using hs, by simpa using ht⟩
section
variable {B : Nat} {l : List Nat} {v : Value} {w w' : World}
theorem MBuf.kept (h : MBuf B l v w) (hs : w.heap.size ≤ w'.heap.size) (hk : ∀ k, v.ownBlock = some k → k < w.heap.size → w'.heap[k]? = w.heap[k]?) : MBuf B l v w' := by
 refine ⟨?_, Nat.le_trans h.size hs⟩
 rcases h.own with hn | ⟨g, cap, cur, fz, rfl, hb, hg, rest⟩
 ·exact .inl hn
 ·exact .inr ⟨g, cap, cur, fz, rfl, hb, (hk g rfl (Array.getElem?_eq_some_iff.1 hg).1).trans hg, rest⟩
theorem MBuf.below (h : MBuf B l v w) (hb : Below w.heap.size w w') : MBuf B l v w' := h.kept hb.size fun k _ h2 => hb.block k h2
theorem MBuf.grown {row : Option Nat} (h : MBuf B l v w) (hg : w.grownBy w' row) (hr : v.ownBlock ≠ row ∨ v.ownBlock = none) : MBuf B l v w' := by
 refine h.kept hg.size fun k e h2 => hg.block k h2 fun e2 => ?_
 rcases hr with hr | hr
 ·exact hr (e.trans e2)
 ·rw [hr] at e; cases e
theorem MBuf.lt (h : MBuf B l v w) : ∀ k, v.ownBlock = some k → B ≤ k ∧ k < w.heap.size := by
 intro k hk
 rcases h.own with ⟨rfl, _⟩ | ⟨g, cap, cur, fz, rfl, hb, hg, _⟩
 ·simp [Value.ownBlock] at hk
 ·simp [Value.ownBlock] at hk
  subst hk
  exact ⟨hb, (Array.getElem?_eq_some_iff.1 hg).1⟩
theorem MBuf.cells (h : MBuf B l v w) {g : Nat} (hg : v.ownBlock = some g) : ∀ j u, (u8s l)[j]? = some u → w.cell? ((⟨g, 0, none⟩ : Addr).add j) = some u := by
 intro j u hu
 rcases h.own with ⟨rfl, _⟩ | ⟨g', cap, cur, fz, rfl, _, hgg, _, _, _, _, htake⟩
 ·simp [Value.ownBlock] at hg
 ·simp [Value.ownBlock] at hg
  subst hg
  have hadd : (⟨g', 0, none⟩ : Addr).add j = ⟨g', j, none⟩ := by unfold Addr.add; split <;> simp_all
  rw [hadd, cell_of_row w g' j cur _ fz hgg]
  rw [← htake, List.getElem?_take] at hu
  split at hu
  ·simpa using hu
  ·cases hu
theorem MBuf.string (h : MBuf B l v w) : (convert 46 9 v).run Try.prog w = .ok (.string (sb l)) w := by
 rcases h.own with ⟨rfl, hl⟩ | ⟨g, cap, cur, fz, rfl, hb, hg, hfz, hc, hm, hs, ht⟩
 ·subst hl
  exact (BBuf.string (B := w.heap.size) (BBuf.nil w))
 ·have e2 : sb l = strOfNums (l.map fun (c : Nat) => (c : Int)) := by simp [sb, strOfNums]
  rw [e2, run_convert_bytes_string w _ _ _ _ _ cap Try.underlying46 Try.underlying5 Try.underlying9]
  have hl := run_loadCells_list (P := Try.prog) w ⟨g, 0, none⟩ ((l.map fun (c : Nat) => (c : Int)).map (Value.int .u8)) (fun j u hj => h.cells (g := g) rfl j u (by simpa [u8s] using hj))
  simp only [List.length_map] at hl
  rw [run_bytesToString w _ l.length cap _ hl, foldl_push_nums]
  simp [strOfNums]
end
theorem append_run_M (w : World) (B : Nat) (l : List Nat) (v : Value) (ty : TypeId) (hb : MBuf B l v w) (s : ByteArray) (hlen : l.length + s.size ≤ 140737488355328) :
  ∃ v' w', (Builtin.append_ #[46, 9] ty #[v, .string s]).run Try.prog w = .ok v' w' ∧ MBuf B (l ++ bs s) v' w' ∧ w.grownBy w' v.ownBlock ∧ ∀ k, v'.ownBlock = some k → some k = v.ownBlock ∨ w.heap.size ≤ k := by
 obtain ⟨i, hi, hz, hsize, hby⟩ := u8info
 rcases hb.own with ⟨rfl, hl⟩ | ⟨g, cap, cur, fz, rfl, hbg, hg, hfz, hnc, hcm, hcs, htake⟩
 ·subst hl
  obtain ⟨v', w', h1, h2, h3, h4⟩ := run_append_own_string (P := Try.prog) w w.heap.size 46 9 ty 5 i Try.underlying46 Try.underlying9 hi hz hsize hby (.slice none 0 0) 0 [] (World.ownsRow_nil w _ _ 1) s (by unfold maxLen; simp at hlen ⊢; omega) (by simpa using hlen) (Nat.le_refl _)
  have hB : BBuf w.heap.size (bs s) v' w' := ⟨by rw [z01, ← strCells_u8]; simpa using h2, h3.size⟩
  refine ⟨v', w', h1, ?_, h3, fun k hk => .inr (h2.lt k hk).1⟩
  have hm := hB.toM
  refine ⟨?_, Nat.le_trans hb.size hm.size⟩
  rcases hm.own with hn | ⟨g, cap, cur, fz, hv, hbg, rest⟩
  ·exact .inl hn
  ·exact .inr ⟨g, cap, cur, fz, hv, Nat.le_trans hb.size hbg, rest⟩
 ·have hsmall : l.length + s.size ≤ 9223372036854775807 := by omega
  have hll : (l ++ bs s).length = l.length + s.size := by rw [List.length_append, z01]
  have hxl : (u8s l).length = l.length := z1f l
  have hu : u8s (l ++ bs s) = u8s l ++ strCells s := by rw [u8s_append, strCells_u8]
  by_cases hroom : l.length + s.size ≤ cap
  ·have hf := run_firstCells_string (P := Try.prog) w 1 s
   have hst := storeCells_un Try.prog g l.length 5 fz (strCells s) 0 cur w hg hfz (by simp only [strCells_length]; omega) (strCells_oneCell s)
   simp only [Nat.add_zero, strCells_length] at hst
   have hr : (Builtin.append_ #[46, 9] ty #[.slice (some ⟨g, 0, none⟩) l.length cap, .string s]).run Try.prog w =
     .ok (.slice (some ⟨g, 0, none⟩) (l.length + s.size) cap) (w.setRow g (cur.toList.take l.length ++ strCells s ++ cur.toList.drop (l.length + s.size)).toArray) := by
    simp [Builtin.append_, run_underlying Try.underlying46, run_underlying Try.underlying9, sizeOf, typeInfo, hi, hsize, Builtin.lenOf, hroom, hf, Addr.add_lit, hst]
   have hcs2 : (cur.toList.take l.length ++ strCells s ++ cur.toList.drop (l.length + s.size)).toArray.size = cap := by
    simp only [List.size_toArray, List.length_append, List.length_take, List.length_drop, Array.length_toList, strCells_length]
    omega
   refine ⟨_, _, hr, ⟨.inr ⟨g, cap, _, fz, by rw [hll], hbg, setRow_heap w g cur _ _ _ hg, by rw [hcs2, ← hcs]; exact hfz, by omega, hcm, hcs2, ?_⟩, by simpa using hb.size⟩, ⟨rfl, rfl, rfl, by simp, fun k _ hk => setRow_other w g k _ (fun e => hk (by simp [Value.ownBlock, e]))⟩, fun k hk => .inl hk.symm⟩
   rw [htake, hu, hll]
   have : (u8s l ++ strCells s).length = l.length + s.size := by rw [List.length_append, hxl, strCells_length]
   rw [← this]
   exact List.take_left
  ·have holds : ∀ j u, (u8s l)[j]? = some u → w.cell? ((⟨g, 0, none⟩ : Addr).add j) = some u := hb.cells (g := g) rfl
   have hr := run_append_grow_string (P := Try.prog) w 46 9 ty 5 i (.int .u8 0) Try.underlying46 Try.underlying9 hi hz ⟨g, 0, none⟩ l.length cap (u8s l) (by rw [hsize, hxl, Nat.mul_one]) holds s (by omega) (by omega) (by rw [hby]; exact growslice_fits (by omega) (by omega))
   have hge := grownCap_ge w (l.length + s.size) cap 5
   have hcm2 : grownCap w (l.length + s.size) cap 5 ≤ maxLen := grownCap_le_maxLen w (l.length + s.size) cap 5 (by unfold maxLen; omega)
   refine ⟨_, _, hr, ⟨.inr ⟨w.heap.size, _, _, (0, 0), by rw [hll], hb.size, heap_alloc_new w.drew _, fun j hj h => by simp at h, by rw [hll]; exact hge, hcm2, ?_, ?_⟩, by have := hb.size; simp; omega⟩, ⟨rfl, rfl, rfl, by simp, fun k hk hn => (World.grownBy_alloc w.drew _ _).block k hk hn⟩, fun k hk => .inr (by simp [Value.ownBlock] at hk; omega)⟩
   ·have hz1 : (Value.int IntKind.u8 0).cells.size = 1 := rfl
    simp only [Array.size_append, List.size_toArray, size_zeroCells, hz1, hxl, strCells_length]
    omega
   ·simp only [Array.toList_append, List.append_assoc]
    rw [hu, hll, ← List.append_assoc]
    have : (u8s l ++ strCells s).length = l.length + s.size := by rw [List.length_append, hxl, strCells_length]
    rw [← this]
    exact List.take_left
theorem append_run_1 (w : World) (B : Nat) (l : List Nat) (v : Value) (ty : TypeId) (hb : MBuf B l v w) (hl : l ≠ []) (a : Addr) (x : Nat) (hx : ∀ (j : Nat) (u : Value), ([Value.int .u8 (x : Int)] : List Value)[j]? = some u → w.cell? (a.add j) = some u) (hlen : l.length + 1 ≤ 140737488355328) :
  ∃ v' w', (Builtin.append_ #[46, 46] ty #[v, .slice (some a) 1 1]).run Try.prog w = .ok v' w' ∧ MBuf B (l ++ [x]) v' w' ∧ w.grownBy w' v.ownBlock := by
 obtain ⟨i, hi, hz, hsize, hby⟩ := u8info
 rcases hb.own with ⟨_, hl0⟩ | ⟨g, cap, cur, fz, rfl, hbg, hg, hfz, hnc, hcm, hcs, htake⟩
 ·exact absurd hl0 hl
 ·have hsmall : l.length + 1 ≤ 9223372036854775807 := by omega
  have hll : (l ++ [x]).length = l.length + 1 := by simp
  have hxl : (u8s l).length = l.length := z1f l
  have hu : u8s (l ++ [x]) = u8s l ++ [Value.int .u8 (x : Int)] := by rw [u8s_append]; rfl
  have h1 : ∀ u ∈ ([Value.int .u8 (x : Int)] : List Value), u.oneCell' = true := by intro u hu; simp at hu; subst hu; rfl
  have hnl : ([Value.int .u8 (x : Int)] : List Value).length = 1 * i.size := by rw [hsize]; rfl
  by_cases hroom : l.length + 1 ≤ cap
  ·have hf := run_firstCells_some (P := Try.prog) w i.size 1 a 1 1 [Value.int .u8 (x : Int)] hnl hx
   have hst := storeCells_un Try.prog g l.length 5 fz [Value.int .u8 (x : Int)] 0 cur w hg hfz (by simp; omega) h1
   simp only [Nat.add_zero, List.length_singleton] at hst
   have hr : (Builtin.append_ #[46, 46] ty #[.slice (some ⟨g, 0, none⟩) l.length cap, .slice (some a) 1 1]).run Try.prog w =
     .ok (.slice (some ⟨g, 0, none⟩) (l.length + 1) cap) (w.setRow g (cur.toList.take l.length ++ [Value.int .u8 (x : Int)] ++ cur.toList.drop (l.length + 1)).toArray) := by
    rw [hsize] at hf
    simp only [Builtin.append_, Sem.run_bind, run_underlying Try.underlying46, sizeOf, typeInfo, hi, hsize, Builtin.lenOf, hroom, hf, Addr.add_lit, hst, Result.andThen_ok, Sem.run_pure]
    simp [Builtin.append_, run_underlying Try.underlying46, sizeOf, typeInfo, hi, hsize, Builtin.lenOf, hroom, hf, Addr.add_lit, hst]
   have hcs2 : (cur.toList.take l.length ++ [Value.int .u8 (x : Int)] ++ cur.toList.drop (l.length + 1)).toArray.size = cap := by
    simp only [List.size_toArray, List.length_append, List.length_take, List.length_drop, Array.length_toList, List.length_singleton]
    omega
   refine ⟨_, _, hr, ⟨.inr ⟨g, cap, _, fz, by rw [hll], hbg, setRow_heap w g cur _ _ _ hg, by rw [hcs2, ← hcs]; exact hfz, by omega, hcm, hcs2, ?_⟩, by simpa using hb.size⟩, ⟨rfl, rfl, rfl, by simp, fun k _ hk => setRow_other w g k _ (fun e => hk (by simp [Value.ownBlock, e]))⟩⟩
   rw [htake, hu, hll]
   have : (u8s l ++ [Value.int .u8 (x : Int)]).length = l.length + 1 := by rw [List.length_append, hxl]; rfl
   rw [← this]
   exact List.take_left
  ·have holds : ∀ j u, (u8s l)[j]? = some u → w.cell? ((⟨g, 0, none⟩ : Addr).add j) = some u := hb.cells (g := g) rfl
   have hr := run_append_grow (P := Try.prog) w 46 ty 5 i (.int .u8 0) Try.underlying46 hi hz ⟨g, 0, none⟩ l.length cap (u8s l) (by rw [hsize, hxl, Nat.mul_one]) holds a 1 1 [Value.int .u8 (x : Int)] hnl hx (by omega) (by omega) (by rw [hby]; exact growslice_fits (by omega) (by omega))
   have hge := grownCap_ge w (l.length + 1) cap 5
   have hcm2 : grownCap w (l.length + 1) cap 5 ≤ maxLen := grownCap_le_maxLen w (l.length + 1) cap 5 (by unfold maxLen; omega)
   refine ⟨_, _, hr, ⟨.inr ⟨w.heap.size, _, _, (0, 0), by rw [hll], hb.size, heap_alloc_new w.drew _, fun j hj h => by simp at h, by rw [hll]; exact hge, hcm2, ?_, ?_⟩, by have := hb.size; simp; omega⟩, ⟨rfl, rfl, rfl, by simp, fun k hk hn => (World.grownBy_alloc w.drew _ _).block k hk hn⟩⟩
   ·have hz1 : (Value.int IntKind.u8 0).cells.size = 1 := rfl
    simp only [Array.size_append, List.size_toArray, size_zeroCells, hz1, hxl, List.length_singleton]
    omega
   ·simp only [Array.toList_append, List.append_assoc]
    rw [hu, hll, ← List.append_assoc]
    have : (u8s l ++ [Value.int .u8 (x : Int)]).length = l.length + 1 := by rw [List.length_append, hxl]; rfl
    rw [← this]
    exact List.take_left
theorem MBuf.alloc {B : Nat} {l : List Nat} {v : Value} {w : World} (h : MBuf B l v w) (o : Obj) : MBuf B l v (w.alloc o) := h.below ((Below.refl _ _).alloc (Nat.le_refl _) o)
theorem wpList_append_oneM {ops : Array Oper} {rest : List Oper} {o : Oper} {a : Act} {Q : Exit → Act → World → Prop} (hgd : o.guard = none) (sl x : Operand)
  (ho : o.op = .call { callee := .builtin .append, args := #[sl, x], argTypes := #[46, 46] })
  (B : Nat) (l : List Nat) (v : Value) (hs : a.eval sl = v) (w0 : World) (z : Int) (c : Nat) (hzc : z = (c : Int)) (hb : MBuf B l v w0) (hl : l ≠ [])
  (hx : a.eval x = .slice (some ⟨w0.heap.size, 0, none⟩) 1 1) (hlen : l.length + 1 ≤ 140737488355328)
  (h : ∀ v' w', MBuf B (l ++ [c]) v' w' → (w0.alloc (.cells #[.int .u8 z] 5)).grownBy w' v.ownBlock → wpList Try.prog ops Q rest (a.put o.dst v') w') : wpList Try.prog ops Q (o :: rest) a (w0.alloc (.cells #[.int .u8 z] 5)) := by
 subst hzc
 refine wpList_plain hgd fun K hK => ?_
 obtain ⟨v', w', hr, h2, h3⟩ := append_run_1 _ B l v o.type (hb.alloc (.cells #[.int .u8 (c : Int)] 5)) hl ⟨w0.heap.size, 0, none⟩ c (by
  intro j u hj
  match j, hj with
  | 0, hj => simp at hj; subst hj; simp [Addr.add]
  | (j + 1), hj => simp at hj) hlen
 unfold Oper.wp execOp
 simp only [ho, resolve, invoke, builtin, Sem.run_bind, Sem.run_pure, Result.andThen_ok, List.map_toArray, List.map_cons, List.map_nil, hs, hx, hr]
 exact hK _ _ (h v' w' h2 h3)
theorem wpList_append_strM {ops : Array Oper} {rest : List Oper} {o : Oper} {a : Act} {w : World} {Q : Exit → Act → World → Prop} (hgd : o.guard = none) (sl x : Operand)
  (ho : o.op = .call { callee := .builtin .append, args := #[sl, x], argTypes := #[46, 9] })
  (B : Nat) (l : List Nat) (v : Value) (hs : a.eval sl = v) (hb : MBuf B l v w) (s : ByteArray) (hx : a.eval x = .string s) (hlen : l.length + s.size ≤ 140737488355328)
  (h : ∀ v' w', MBuf B (l ++ bs s) v' w' → w.grownBy w' v.ownBlock → (∀ k, v'.ownBlock = some k → some k = v.ownBlock ∨ w.heap.size ≤ k) → wpList Try.prog ops Q rest (a.put o.dst v') w') : wpList Try.prog ops Q (o :: rest) a w := by
 refine wpList_plain hgd fun K hK => ?_
 obtain ⟨v', w', hr, h2, h3, h4⟩ := append_run_M w B l v o.type hb s hlen
 unfold Oper.wp execOp
 simp only [ho, resolve, invoke, builtin, Sem.run_bind, Sem.run_pure, Result.andThen_ok, List.map_toArray, List.map_cons, List.map_nil, hs, hx, hr]
 exact hK _ _ (h v' w' h2 h3 h4)
theorem step_append_strM {ops : Array Oper} {o : Oper} {a : Act} {w : World} {K : Act → World → Prop} {Q : Exit → Act → World → Prop} {E : Prop} (hgd : o.guard = none) (sl x : Operand)
  (ho : o.op = .call { callee := .builtin .append, args := #[sl, x], argTypes := #[46, 9] })
  (B : Nat) (l : List Nat) (v : Value) (hs : a.eval sl = v) (hb : MBuf B l v w) (s : ByteArray) (hx : a.eval x = .string s) (hlen : l.length + s.size ≤ 140737488355328)
  (h : ∀ v' w', MBuf B (l ++ bs s) v' w' → w.grownBy w' v.ownBlock → (∀ k, v'.ownBlock = some k → some k = v.ownBlock ∨ w.heap.size ≤ k) → K (a.put o.dst v') w') :
  if Region.wanted o (yielded ops a.tmps) = true then Oper.wp Try.prog o a w K Q else E := by
 have hw : Region.wanted o (yielded ops a.tmps) = true := by simp [Region.wanted, hgd]
 rw [if_pos hw]
 obtain ⟨v', w', hr, h2, h3, h4⟩ := append_run_M w B l v o.type hb s hlen
 unfold Oper.wp execOp
 simp only [ho, resolve, invoke, builtin, Sem.run_bind, Sem.run_pure, Result.andThen_ok, List.map_toArray, List.map_cons, List.map_nil, hs, hx, hr]
 exact h v' w' h2 h3 h4
theorem conv_M (w : World) (s : ByteArray) (hs : s.size ≤ 9223372036854775807) : ∃ v w', (convert 9 46 (.string s)).run Try.prog w = .ok v w' ∧ MBuf w.heap.size (bs s) v w' ∧ Below w.heap.size w w' := by
 refine ⟨_, _, Lib.run_convert_string_bytes (P := Try.prog) w 9 46 5 s Try.underlying9 Try.underlying46 Try.underlying5, ?_, ?_⟩
 ·have hge := grownCap_ge w s.size 0 5
  have hcm := grownCap_le_maxLen w s.size 0 5 (by unfold maxLen; exact hs)
  have hsz : (bytesCells w 5 s).size = grownCap w s.size 0 5 := by
   simp only [bytesCells, Array.size_append, Array.size_map, Array.size_replicate]
   have : s.data.size = s.size := rfl
   omega
  refine ⟨.inr ⟨w.heap.size, _, _, _, by rw [z01], Nat.le_refl _, bytesWorld_at_new w _ s, fun j hj h => by simp at h; omega, by rw [z01]; exact hge, hcm, hsz, ?_⟩, by rw [bytesWorld_size]; omega⟩
  rw [← strCells_u8, z01]
  have hl : (strCells s).length = s.size := strCells_length s
  simp only [bytesCells, Array.toList_append, Array.toList_map]
  rw [show s.data.toList.map (fun b => Value.int .u8 b.toNat) = strCells s from rfl, ← hl]
  exact List.take_left
 ·exact ⟨rfl, rfl, rfl, by rw [bytesWorld_size]; omega, fun i hi => bytesWorld_at_old w _ s i hi⟩
end Go.Proofs.Ytcfdplmapdgfmaa.Mine
set_option linter.unusedVariables false
set_option linter.unusedSimpArgs false
namespace Go.Proofs.Ytcfdplmapdgfmaa.Mine
open Go.RowKit Go.Proofs.YtcfdplmapdgfmaaW.PrintWords
theorem num_lit (z : Int) (n : Nat) (w : World) (hz : z = (n : Int)) (hn : n < 18446744073709551616) :
  Calls Try.prog 40 #[.int .u64 z] w fun e w' => e = .returned (.string (sb (num n))) ∧ Below w.heap.size w w' := by
 subst hz; exact num_calls n w hn
theorem grown_of_below {w w' : World} (h : Below w.heap.size w w') : w.grownBy w' none := ⟨h.os, h.tape, h.output, h.size, fun i hi _ => h.block i hi⟩
end Go.Proofs.Ytcfdplmapdgfmaa.Mine
set_option linter.unusedVariables false
set_option linter.unusedSimpArgs false
namespace Go.Proofs.Ytcfdplmapdgfmaa.Mine
open Go.RowKit Go.Proofs.YtcfdplmapdgfmaaW.PrintWords
attribute [local go_sem ↓] Go.wp_at_zero Go.wp_at_succ
structure PS (w0 w : World) (B g m : Nat) (l : List Nat) (j : Nat) (o : List Nat) (v : Value) : Prop where
 buf : MBuf B o v w
 last : LastM w g m l j
 ne : v.ownBlock ≠ some g
 below : Below w0.heap.size w0 w
 gB : w0.heap.size ≤ g
 bB : w0.heap.size ≤ B
 glt : g < w.heap.size
theorem PS.next {w0 w w' : World} {B g m : Nat} {l : List Nat} {j : Nat} {o : List Nat} {v : Value} (h : PS w0 w B g m l j o v) (hb : Below w.heap.size w w') : PS w0 w' B g m l j o v :=
 ⟨h.buf.below hb, h.last.kept (grown_of_below hb) (by simp), h.ne, h.below.trans (hb.mono h.below.size), h.gB, h.bB, Nat.lt_of_lt_of_le h.glt hb.size⟩
theorem PS.app {w0 w w' : World} {B g m : Nat} {l : List Nat} {j : Nat} {o o' : List Nat} {v v' : Value} (h : PS w0 w B g m l j o v) (hm : MBuf B o' v' w') (hg : w.grownBy w' v.ownBlock) (hk : ∀ k, v'.ownBlock = some k → some k = v.ownBlock ∨ w.heap.size ≤ k) : PS w0 w' B g m l j o' v' := by
 refine ⟨hm, h.last.kept hg h.ne.symm, fun e => ?_, h.below.grown hg h.below.size fun k e => Nat.le_trans h.bB (h.buf.lt k e).1, h.gB, h.bB, Nat.lt_of_lt_of_le h.glt hg.size⟩
 rcases hk g e with h1 | h1
 ·exact h.ne h1.symm
 ·have := h.glt; omega
theorem PS.note {w0 w w' : World} {B g m m' : Nat} {l : List Nat} {j j' : Nat} {o : List Nat} {v : Value} (h : PS w0 w B g m l j o v) (hl : LastM w' g m' l j') (hg : w.grownBy w' (some g)) : PS w0 w' B g m' l j' o v :=
 ⟨h.buf.grown hg (.inl h.ne), hl, h.ne, h.below.grown hg h.below.size fun k e => by cases e; exact h.gB, h.gB, h.bB, Nat.lt_of_lt_of_le h.glt hg.size⟩
theorem u64n (n : Nat) (h : n < 18446744073709551616) : IntKind.u64.wrap (n : Int) = (n : Int) := by rw [IntKind.wrap_u64]; omega
theorem wrapD (a b : Nat) (h : b ≤ a) (ha : a ≤ 1000000000) : IntKind.u64.wrap (IntKind.i64.wrap ((a : Int) - (b : Int))) = ((a - b : Nat) : Int) := by
 rw [IntKind.wrap_i64, show ((a : Int) - (b : Int) + 9223372036854775808) % 18446744073709551616 - 9223372036854775808 = ((a - b : Nat) : Int) from by omega]
 exact u64n _ (by omega)
theorem slice_from (s : ByteArray) (a : Nat) (hb : a ≤ s.size) : ∀ W : World, (Instr.slice 9 (.string s) (some (.int .i64 (a : Int))) none none).run Try.prog W = .ok (.string (s.extract a s.size)) W := by
 intro W
 have h := run_slice_string_from_if (P := Try.prog) (w := W) 9 s .i64 (a : Int) Try.underlying9
 rw [h]
 have h1 : (0 : Int) ≤ (a : Int) ∧ (a : Int) ≤ s.size := by omega
 simp [h1]
set_option maxRecDepth 100000 in
set_option maxHeartbeats 2000000 in
theorem press_calls (s : ByteArray) (w : World) (hs : s.size ≤ 1048576) :
  Calls Try.prog 87 #[.string s] w fun e w' => e = .returned (.tuple #[.string (sb (pressP (bs s))), .int .i64 0]) ∧ Below w.heap.size w w' := by
 have hmm := @run_makeMap Try.prog
 obtain ⟨R, hR⟩ : ∃ R, R = pressP (bs s) := ⟨_, rfl⟩
 rw [← hR]
 have hsb : decide ((s.size : Int) > 1048576) = false := by simp; omega
 go_enter Try.func87, Try.ntmps87
 go_wp2_with fail
 refine (num_calls s.size _ (by omega)).mono ?_
 rintro e w1 ⟨rfl, hb1⟩
 have hnl := z0f s.size (by omega)
 obtain ⟨v2, w2, hcv, hM2, hb2⟩ := conv_M w1 (sb (num s.size)) (by rw [z04]; omega)
 rw [bs_sb _ (z0i _)] at hM2
 have hB2 : Below w.heap.size w w2 := hb1.trans (hb2.mono hb1.size)
 have hB3 := hB2.alloc hB2.size (.map #[] 0)
 have hown := World.ownsMap_made w2 Try.prog 9 (plainElem (H := Unit) Try.prog 3)
 have hne2 : v2.ownBlock ≠ some w2.heap.size := fun e => by have := (hM2.lt _ e).2; omega
 have hP : PS w (w2.alloc (.map #[] 0)) w1.heap.size w2.heap.size 0 (bs s) 0 (num s.size) v2 :=
  ⟨hM2.grown (World.grownBy_alloc w2 _ (some w2.heap.size)) (.inl hne2), ⟨_, hown, MapF.empty⟩, hne2, hB3, hB2.size, hb1.size, by simp⟩
 have HR := Lib.hid hR
 have HP := Lib.hid hP
 clear hnl hM2 hB2 hB3 hown hne2 hP hb1 hb2 hR
 go_wp2_with fail
 go_loopg [4, 6, 7] s.size (fun gg s4 s6 s7 wr => ∃ (o : List Nat) (fr at_ : Nat), fr ≤ at_ ∧ at_ ≤ s.size ∧ gg = s.size - at_ ∧ s6 = .int .i64 fr ∧ s7 = .int .i64 at_ ∧
   Hid (o ++ mkP (bs s) at_ fr = R) ∧ Hid (o.length + (at_ - fr) ≤ 40 + 40 * at_) ∧ Hid (PS w wr w1.heap.size w2.heap.size at_ (bs s) at_ o s4))
 case atStart =>
  exact ⟨num s.size, 0, 0, by omega, by omega, rfl, rfl, rfl, by unfold Hid; rw [HR.out, pressP, z01], by unfold Hid; have := z0f s.size (by omega); omega, HP.out⟩
 case round =>
  obtain ⟨o, fr, at_, hfr, hat, hgk, rfl, rfl, HO, HS, HPS⟩ := hrel
  have HG := Lib.hid hgk
  clear hgk
  by_cases hlt : at_ < s.size
  ·have hltb : decide ((at_ : Int) < (s.size : Int)) = true := by simp; omega
   go_wp2_with fail
   refine (find_calls s w2.heap.size at_ at_ _ (by omega) hat HPS.out.last).mono ?_
   rintro e w3 ⟨b, n, rfl, hb, hn, hbb⟩
   have HP3 := Lib.hid (HPS.out.next hbb)
   clear hbb HPS
   by_cases h0 : b = 0
   ·subst h0
    have HB := Lib.hid hb
    clear hb hn
    go_wp2_with fail
    refine (note_calls s w2.heap.size at_ at_ (at_ + 1) _ (by omega) (by omega) (by omega) (by omega) HP3.out.last).mono ?_
    rintro e w4 ⟨rfl, hl4, hg4⟩
    have HP4 := Lib.hid (HP3.out.note hl4 hg4)
    clear hl4 hg4 HP3
    go_wp2_with fail
    go_roundg (s.size - (at_ + 1))
    case measure => have := HG.out; omega
    case rel =>
     refine ⟨o, fr, at_ + 1, by omega, by omega, rfl, rfl, by go_num, ?_, ?_, ?_⟩
     ·unfold Hid
      rw [← HO.out, mkP_none _ _ _ (by rw [z01]; exact hlt) HB.out.symm]
     ·unfold Hid; have := HS.out; omega
     ·have := HP4.out
      rwa [show at_ + (at_ + 1 - at_) = at_ + 1 from by omega] at this
   ·have h0b : ((b : Int) == 0) = false := by simp; omega
    obtain ⟨hn4, hnl, hmk⟩ := mkP_some (bs s) at_ fr b n (by rw [z01]; exact hlt) hb.symm h0 (hn h0)
    have hbl : b ≤ 32768 := by rw [hb]; exact (backP_ok _ _ (by rw [← hb]; exact h0)).2.2.1
    rw [z01] at hnl
    have HMK := Lib.hid hmk
    clear hb hn hmk
    have hsl2 := slice_run s fr at_ (fr : Int) (at_ : Int) rfl rfl hfr (by omega)
    obtain ⟨u, hu⟩ : ∃ u, u = s.extract fr at_ := ⟨_, rfl⟩
    have hub : bs u = ((bs s).drop fr).take (at_ - fr) := by rw [hu, bs_extract]
    have hus : u.size ≤ at_ - fr := by rw [hu, ByteArray.size_extract]; omega
    rw [← hu] at hsl2
    have HU := Lib.hid hub
    clear hub hu
    have hn1 : (sb (num (at_ - fr))).size ≤ 10 := by rw [z04]; exact z0f _ (by omega)
    have hn2 : (sb (num b)).size ≤ 10 := by rw [z04]; exact z0f _ (by omega)
    have hn3 : (sb (num (n - 4))).size ≤ 10 := by rw [z04]; exact z0f _ (by omega)
    obtain ⟨S1, hS1⟩ : ∃ x, x = sb (num (at_ - fr)) := ⟨_, rfl⟩
    obtain ⟨S2, hS2⟩ : ∃ x, x = sb (num b) := ⟨_, rfl⟩
    obtain ⟨S3, hS3⟩ : ∃ x, x = sb (num (n - 4)) := ⟨_, rfl⟩
    have c1 : ∀ w, Calls Try.prog 40 #[.int .u64 (IntKind.u64.wrap (IntKind.i64.wrap ((at_ : Int) - (fr : Int))))] w fun e w' => e = .returned (.string S1) ∧ Below w.heap.size w w' := fun w => by rw [hS1]; exact num_lit _ _ w (wrapD _ _ hfr (by omega)) (by omega)
    have c2 : ∀ w, Calls Try.prog 40 #[.int .u64 (IntKind.u64.wrap (b : Int))] w fun e w' => e = .returned (.string S2) ∧ Below w.heap.size w w' := fun w => by rw [hS2]; exact num_lit _ _ w (u64n b (by omega)) (by omega)
    have c3 : ∀ w, Calls Try.prog 40 #[.int .u64 (IntKind.u64.wrap (IntKind.i64.wrap ((n : Int) - 4)))] w fun e w' => e = .returned (.string S3) ∧ Below w.heap.size w w' := fun w => by rw [hS3]; exact num_lit _ _ w (wrapD n 4 hn4 (by omega)) (by omega)
    rw [← hS1] at hn1
    rw [← hS2] at hn2
    rw [← hS3] at hn3
    have C1 := Lib.hid c1
    have C2 := Lib.hid c2
    have C3 := Lib.hid c3
    have HSS := Lib.hid (And.intro hS1 (And.intro hS2 hS3))
    clear c1 c2 c3 hS1 hS2 hS3
    have hos : o.length ≤ 100000000 := by have := HS.out; omega
    have q1 : (4 : Int) ≤ (n : Int) := by omega
    have q2 : (fr : Int) ≤ (at_ : Int) := by omega
    have y1 : ¬ (S1.size + u.size > 9223372036854775807) := by omega
    have y2 : ¬ (S1.size + u.size + S2.size > 9223372036854775807) := by omega
    have y3 : ¬ (S1.size + u.size + S2.size + S3.size > 9223372036854775807) := by omega
    have y2' : ¬ ((S1 ++ u).size + S2.size > 9223372036854775807) := by rw [ByteArray.size_append]; omega
    have y3' : ¬ ((S1 ++ u ++ S2).size + S3.size > 9223372036854775807) := by rw [ByteArray.size_append, ByteArray.size_append]; omega
    go_wp2_with fail
    go_region_held3 (fun _ => True) (trivial) (first
     | (have hh := HP6.out.buf; refine step_append_strM (by rfl) _ _ (by rfl) w1.heap.size o u4 (by rfl) hh (S1 ++ u ++ S2 ++ S3) (by rfl) (by simp only [ByteArray.size_append]; omega) ?_; intro v8 w8 hb8 hg8 hk8; have HP8 := Lib.hid (HP6.out.app hb8 hg8 hk8); clear hb8 hg8 hk8 hh)
     | (have hh := HP5.out; go_at_call 40; refine (C3.out _).mono ?_; rintro e w7 ⟨rfl, hb7⟩; have HP6 := Lib.hid (hh.next ⟨hb7.os, hb7.tape, hb7.output, hb7.size, hb7.block⟩); clear hb7 hh)
     | (have hh := HP4.out; go_at_call 40; refine (C2.out _).mono ?_; rintro e w6 ⟨rfl, hb6⟩; have HP5 := Lib.hid (hh.next ⟨hb6.os, hb6.tape, hb6.output, hb6.size, hb6.block⟩); clear hb6 hh)
     | (go_at_call 40; refine (C1.out _).mono ?_; rintro e w5 ⟨rfl, hb5⟩; have HP4 := Lib.hid (HP3.out.next ⟨hb5.os, hb5.tape, hb5.output, hb5.size, hb5.block⟩); clear hb5))
    go_wp2_with fail
    refine (note_calls s w2.heap.size at_ at_ (at_ + n) _ (by omega) (by omega) hnl (by omega) HP8.out.last).mono ?_
    rintro e w9 ⟨rfl, hl9, hg9⟩
    have HP9 := Lib.hid (HP8.out.note hl9 hg9)
    clear hl9 hg9 HP8
    go_wp2_with fail
    go_roundg (s.size - (at_ + n))
    case measure => have := HG.out; omega
    case rel =>
     obtain ⟨e1, e2, e3⟩ := HSS.out
     refine ⟨o ++ bs (S1 ++ u ++ S2 ++ S3), at_ + n, at_ + n, by omega, by omega, rfl, by go_num, by go_num, ?_, ?_, ?_⟩
     ·unfold Hid
      rw [← HO.out, HMK.out, ← HU.out, e1, e2, e3]
      simp only [bs_append, bs_sb _ (z0i _), List.append_assoc]
     ·unfold Hid
      rw [List.length_append, z01]
      simp only [ByteArray.size_append]
      have := HS.out
      omega
     ·have := HP9.out
      rwa [show at_ + (at_ + n - at_) = at_ + n from by omega] at this
  ·have hltb : decide ((at_ : Int) < (s.size : Int)) = false := by simp; omega
   obtain rfl : at_ = s.size := by omega
   have hO := HO.out
   rw [mkP_end _ _ _ (by rw [z01]; exact Nat.le_refl _)] at hO
   by_cases hfl : fr < s.size
   ·have hflb : decide ((fr : Int) < (s.size : Int)) = true := by simp; omega
    obtain ⟨u, hu⟩ : ∃ u, u = s.extract fr s.size := ⟨_, rfl⟩
    have hsl2 := slice_from s fr (by omega)
    rw [← hu] at hsl2
    have hub : bs u = (bs s).drop fr := by rw [hu, bs_extract, List.take_of_length_le (by rw [List.length_drop, z01]; omega)]
    have hus : u.size ≤ s.size - fr := by rw [hu, ByteArray.size_extract]; omega
    have hne : (bs s).drop fr ≠ [] := fun e => by have := congrArg List.length e; rw [List.length_drop, z01] at this; simp at this; omega
    have hn1 : (sb (num (s.size - fr))).size ≤ 10 := by rw [z04]; exact z0f _ (by omega)
    obtain ⟨S1, hS1⟩ : ∃ x, x = sb (num (s.size - fr)) := ⟨_, rfl⟩
    have c1 : ∀ w, Calls Try.prog 40 #[.int .u64 (IntKind.u64.wrap (IntKind.i64.wrap ((s.size : Int) - (fr : Int))))] w fun e w' => e = .returned (.string S1) ∧ Below w.heap.size w w' := fun w => by rw [hS1]; exact num_lit _ _ w (wrapD _ _ (by omega) (by omega)) (by omega)
    rw [← hS1] at hn1
    have C1 := Lib.hid c1
    rw [lonesB, if_neg hne, List.length_drop, z01, ← hub] at hO
    have HSS := Lib.hid (And.intro hS1 (And.intro hO hu))
    clear c1 hS1 hub hne hO hu
    have hos : o.length ≤ 100000000 := by have := HS.out; omega
    have q2 : (fr : Int) ≤ (s.size : Int) := by omega
    have y1 : ¬ (S1.size + u.size > 9223372036854775807) := by omega
    go_wp2_with fail
    go_region_held3 (fun _ => True) (trivial) (first
     | (have hh := HP6.out.buf; refine step_append_strM (by rfl) _ _ (by rfl) w1.heap.size o u4 (by rfl) hh (S1 ++ u) (by rfl) (by simp only [ByteArray.size_append]; omega) ?_; intro v8 w8 hb8 hg8 hk8; have HP8 := Lib.hid (HP6.out.app hb8 hg8 hk8); clear hb8 hg8 hk8 hh)
     | (go_at_call 40; refine (C1.out _).mono ?_; rintro e w5 ⟨rfl, hb5⟩; have HP6 := Lib.hid (HPS.out.next ⟨hb5.os, hb5.tape, hb5.output, hb5.size, hb5.block⟩); clear hb5))
    have hcv := HP8.out.buf.string
    go_wp2_with fail
    go_ret2
    refine ⟨?_, HP8.out.below⟩
    obtain ⟨e1, e2, _⟩ := HSS.out
    rw [← e2, e1, bs_append, bs_sb _ (z0i _)]
    rfl
   ·have hflb : decide ((fr : Int) < (s.size : Int)) = false := by simp; omega
    rw [List.drop_eq_nil_of_le (by rw [z01]; omega), lonesB, if_pos rfl, List.append_nil] at hO
    subst hO
    have hcv := HPS.out.buf.string
    go_wp2_with fail
    go_ret2
    exact ⟨rfl, HPS.out.below⟩
end Go.Proofs.Ytcfdplmapdgfmaa.Mine
set_option linter.unusedVariables false
set_option linter.unusedSimpArgs false
namespace Go.Proofs.Ytcfdplmapdgfmaa.Mine
open Go.RowKit Go.Proofs.YtcfdplmapdgfmaaW.PrintWords
def repL (l : List Nat) (b : Nat) : Nat → List Nat
 | 0 => l
 | j + 1 => repL l b j ++ [(repL l b j).getD ((repL l b j).length - b) 0]
theorem repL_length (l : List Nat) (b : Nat) : ∀ j, (repL l b j).length = l.length + j
 | 0 => rfl
 | j + 1 => by rw [repL, List.length_append, repL_length l b j]; rfl
set_option maxRecDepth 100000 in
set_option maxHeartbeats 1000000 in
theorem repeat_calls (B : Nat) (l : List Nat) (b n : Nat) (v : Value) (w : World) (hb : BBuf B l v w) (h1 : 1 ≤ b) (h2 : b ≤ l.length) (h3 : b ≤ 32768) (hn : n ≤ 2000000) (hl : l.length ≤ 2000000) :
  Calls Try.prog 106 #[v, .int .i64 b, .int .i64 n] w fun e w' => ∃ v', e = .returned (.tuple #[v', .bool true]) ∧ BBuf B (repL l b n) v' w' ∧ Below B w w' := by
 obtain ⟨p, c, rfl, hc1, hc2⟩ := hb.form
 have hb1 : decide ((b : Int) < 1) = false := by simp; omega
 have hb2 : decide ((b : Int) > (l.length : Int)) = false := by simp; omega
 have hb2' : decide (l.length < b) = false := by simp; omega
 have hb3 : decide ((b : Int) > 32768) = false := by simp; omega
 have HB := Lib.hid hb
 clear hb
 go_enter Try.func106, Try.ntmps106
 go_wp2_with fail
 go_loopg [0, 22] n (fun gg s0 s22 wr => ∃ (j m c : Nat) (p : Option Addr), j ≤ n ∧ gg = n - j ∧ s22 = .int .i64 j ∧ s0 = .slice p m c ∧ Hid (m = l.length + j) ∧ Hid (BBuf B (repL l b j) (.slice p m c) wr) ∧ Hid (Below B w wr))
 case atStart =>
  exact ⟨0, l.length, c, p, Nat.zero_le _, rfl, rfl, rfl, rfl, HB.out, Below.refl _ _⟩
 case round =>
  obtain ⟨j, m, c, p, hj, hg, rfl, rfl, HM, HBB, HBE⟩ := hrel
  have HG := Lib.hid hg
  clear hg
  by_cases hlt : j < n
  ·have hltb : decide ((j : Int) < (n : Int)) = true := by simp; omega
   have hne : repL l b j ≠ [] := fun e => by have := repL_length l b j; rw [e] at this; simp at this; omega
   have hrl := repL_length l b j
   obtain ⟨g, c', hv, _, _, hBg, hgl, hcell⟩ := HBB.out.filled hne
   have hmm : m ≤ 4000000 ∧ b ≤ m := by have := HM.out; omega
   obtain rfl : p = some ⟨g, 0, none⟩ := by injection hv
   clear hv
   have hc := hcell (m - b) (by rw [hrl, ← HM.out]; omega)
   obtain ⟨x, hx⟩ : ∃ x, x = (repL l b j).getD (m - b) 0 := ⟨_, rfl⟩
   rw [← hx] at hc
   have hadd : (⟨g, 0, none⟩ : Addr).add (m - b) = ⟨g, m - b, none⟩ := by unfold Addr.add; split <;> simp_all
   rw [hadd] at hc
   have HX := Lib.hid (And.intro hx hrl)
   have hmb1 := hmm.1
   have hmb2 := hmm.2
   clear hcell hne hx hrl hadd hmm hBg hgl hc2
   have z1 : IntKind.i64.wrap ((m : Int) - (b : Int)) = (m : Int) - (b : Int) := wrap_at _ (by omega) (by omega)
   have z2 : (0 : Int) ≤ (m : Int) - (b : Int) := by omega
   have z3 : (m : Int) - (b : Int) < (m : Int) := by omega
   have z4 : ((m : Int) - (b : Int)).toNat = m - b := by omega
   go_wp2_with (at_builtin; refine wpList_append_one rfl _ _ rfl B (repL l b j) (.slice (some ⟨g, 0, none⟩) m c) rfl wr _ x rfl HBB.out rfl (by rw [HX.out.2]; omega) ?_; intro v' w' hb' hg'; have HN := Lib.hid (And.intro hb' hg'); clear hb' hg'; obtain ⟨p4, c4, hv4, _⟩ := HN.out.1.form; rw [List.length_append, HX.out.2] at hv4; have HV4 := Lib.hid hv4; clear hv4; rw [HV4.out])
   go_roundg (n - (j + 1))
   case measure => have := HG.out; omega
   case rel =>
    refine ⟨j + 1, l.length + j + 1, c4, p4, by omega, rfl, by go_num, rfl, rfl, ?_, ?_⟩
    ·have := HN.out.1
     rw [HV4.out] at this
     unfold Hid
     rw [repL, HX.out.2, ← HM.out, ← HX.out.1]
     rw [HM.out]
     exact this
    ·exact below_grow (HBE.out.alloc HBB.out.size _) HN.out.2 (by have := HBB.out.size; simp; omega) fun k e => (HBB.out.lt k e).1
  ·have hltb : decide ((j : Int) < (n : Int)) = false := by simp; omega
   obtain rfl : j = n := by omega
   go_wp2_with fail
   go_ret2
   exact ⟨_, rfl, HBB.out, HBE.out⟩
end Go.Proofs.Ytcfdplmapdgfmaa.Mine
