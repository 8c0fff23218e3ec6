import Derived.Test.YtcfdplmapdgfmaaTBase
import Derived.Laws.BitsAllLaws
import Derived.Lib.Builder
import Derived.Test.YtcfdplmapdgfmaaProg
import Derived.Lib.Hide
import Derived.Laws.Rows
import Derived.Laws.Tables
import Derived.Deep.WholeRow
import Derived.Outline
import Derived.Deep.QuietTactic
import Derived.BigQuiet
import Derived.RegionTactic
import Derived.BigRegion
import Derived.Deep.LoopGhost
import Derived.Deep.CutRange
import Derived.Deep.DeepCutAuto
import Derived.Laws.CopyOwn
import Derived.Deep.RegionLaw
import Derived.Lib.AppendStr
import Derived.Below
import Derived.Deep.MidRow
import Derived.Deep.RegionHeld3
namespace Go.Proofs.Ytcfdplmapdgfmaa.Mine
open Go.RowKit Go.Proofs.YtcfdplmapdgfmaaW.PrintWords
def rotl (x n : Nat) : Nat := (x * 2 ^ n % 4294967296) ||| (x / 2 ^ (32 - n))
theorem or_lt32 {a b : Nat} (ha : a < 4294967296) (hb : b < 4294967296) : a ||| b < 4294967296 := Nat.or_lt_two_pow (n := 32) ha hb
theorem z03 {a b : Nat} (ha : a < 4294967296) : a &&& b < 4294967296 := Nat.and_lt_two_pow (n := 32) b ha |> fun h => by simpa [Nat.and_comm] using h
theorem z01 (x n : Nat) (hx : x < 4294967296) : rotl x n < 4294967296 := or_lt32 (by omega) (Nat.lt_of_le_of_lt (Nat.div_le_self _ _) hx)
theorem rotl_sum (x n : Nat) (hx : x < 4294967296) (h2 : n ≤ 32) : rotl x n = x * 2 ^ n % 4294967296 + x / 2 ^ (32 - n) := by
 unfold rotl
 have hp : (4294967296 : Nat) = 2 ^ (32 - n) * 2 ^ n := by rw [← Nat.pow_add, show 32 - n + n = 32 from by omega]
 have e1 : x * 2 ^ n % 4294967296 = 2 ^ n * (x % 2 ^ (32 - n)) := by
  rw [hp, Nat.mul_comm x, Nat.mul_comm (2 ^ (32 - n)), Nat.mul_mod_mul_left]
 have e2 : x / 2 ^ (32 - n) < 2 ^ n := by
  rw [Nat.div_lt_iff_lt_mul (Nat.pow_pos (by omega)), Nat.mul_comm, ← hp]
  exact hx
 rw [e1, Nat.two_pow_add_eq_or_of_lt e2]
def fill : List Nat → List Nat → Nat → List Nat
 | wl, [], _ => wl
 | wl, c :: cs, i => fill (wl.set (i / 4) ((wl.getD (i / 4) 0 * 256 % 4294967296) ||| c)) cs (i + 1)
def Words (l : List Nat) : Prop := ∀ x ∈ l, x < 4294967296
theorem Words.set_ {l : List Nat} (h : Words l) (i v : Nat) (hv : v < 4294967296) : Words (l.set i v) := by
 intro x hx
 rcases List.mem_or_eq_of_mem_set hx with h1 | h1
 ·exact h x h1
 ·omega
theorem Words.at_ {l : List Nat} (h : Words l) (i : Nat) : l.getD i 0 < 4294967296 := by
 rw [List.getD_eq_getElem?_getD]
 by_cases hi : i < l.length
 ·rw [List.getElem?_eq_getElem hi]; exact h _ (List.getElem_mem hi)
 ·rw [List.getElem?_eq_none (by omega)]; simp
theorem fill_length : ∀ (cs wl : List Nat) (i : Nat), (fill wl cs i).length = wl.length
 | [], wl, i => rfl
 | c :: cs, wl, i => by rw [fill, fill_length cs]; simp
theorem fill_words : ∀ (cs wl : List Nat) (i : Nat), Words wl → (∀ c ∈ cs, c < 256) → Words (fill wl cs i)
 | [], wl, i, h, _ => h
 | c :: cs, wl, i, h, hc => by
  rw [fill]
  exact fill_words cs _ _ (h.set_ _ _ (or_lt32 (by omega) (by have := hc c (by simp); omega))) fun x hx => hc x (by simp [hx])
def salts : List Nat := [1116352408, 1899447441, 3049323471, 3921009573, 961987163, 1508970993, 2453635748, 2870763221, 3624381080, 310598401, 607225278, 1426881987, 1925078388, 2162078206, 2614888103, 3248222580, 3835390401, 4022224774, 264347078, 604807628, 770255983, 1249150122, 1555081692, 1996064986, 2554220882, 2821834349, 2952996808, 3210313671, 3336571891, 3584528711, 113926993, 338241895, 666307205, 773529912, 1294757372, 1396182291, 1695183700, 1986661051, 2177026350, 2456956037, 2730485921, 2820302411, 3259730800, 3345764771, 3516065817, 3600352804, 4094571909, 275423344, 430227734, 506948616, 659060556, 883997877, 958139571, 1322822218, 1537002063, 1747873779, 1955562222, 2024104815, 2227730452, 2361852424, 2428436474, 2756734187, 3204031479, 3329325298]
def begin8 : List Nat := [1779033703, 3144134277, 1013904242, 2773480762, 1359893119, 2600822924, 528734635, 1541459225]
def small (a : Nat) : Nat := rotl a 25 ^^^ rotl a 14 ^^^ (a / 8)
def great (b : Nat) : Nat := rotl b 15 ^^^ rotl b 13 ^^^ (b / 1024)
def sig1 (e : Nat) : Nat := rotl e 26 ^^^ rotl e 21 ^^^ rotl e 7
def sig0 (a : Nat) : Nat := rotl a 30 ^^^ rotl a 19 ^^^ rotl a 10
def choose (e f g : Nat) : Nat := (e &&& f) ||| ((4294967295 - e) &&& g)
def most (a b c : Nat) : Nat := (a &&& b) ^^^ (a &&& c) ^^^ (b &&& c)
def roundW (wl : List Nat) (i : Nat) : List Nat :=
 if 16 ≤ i then wl.set (i % 16) ((wl.getD (i % 16) 0 + (small (wl.getD ((i + 1) % 16) 0) + wl.getD ((i + 9) % 16) 0 + great (wl.getD ((i + 14) % 16) 0))) % 4294967296) else wl
def one (e f g h k wi : Nat) : Nat := (h + k + wi + choose e f g + sig1 e) % 4294967296
def two (a b c : Nat) : Nat := (most a b c + sig0 a) % 4294967296
def stepX (k y : Nat) (x : List Nat) : List Nat :=
 match x with
 | [a, b, c, d, e, f, g, h] => [(one e f g h k y + two a b c) % 4294967296, a, b, c, (d + one e f g h k y) % 4294967296, e, f, g]
 | _ => x
theorem stepX_eq (k y a b c d e f g h : Nat) : stepX k y [a, b, c, d, e, f, g, h] = [(one e f g h k y + two a b c) % 4294967296, a, b, c, (d + one e f g h k y) % 4294967296, e, f, g] := by rw [stepX]
def stirGo : List Nat → Nat → List Nat → List Nat → List Nat
 | [], _, _, x => x
 | k :: ks, i, wl, x => stirGo ks (i + 1) (roundW wl i) (stepX k ((roundW wl i).getD (i % 16) 0) x)
def stir (v p : List Nat) : List Nat :=
 (List.range 8).map fun j => (v.getD j 0 + (stirGo salts 0 (fill (List.replicate 16 0) p 0) v).getD j 0) % 4294967296
theorem xor3_lt {a b c : Nat} (ha : a < 4294967296) (hb : b < 4294967296) (hc : c < 4294967296) : a ^^^ b ^^^ c < 4294967296 := xor_lt32 (xor_lt32 ha hb) hc
end Go.Proofs.Ytcfdplmapdgfmaa.Mine
namespace Go.Proofs.Ytcfdplmapdgfmaa.Mine
open Go.RowKit Go.Proofs.YtcfdplmapdgfmaaW.PrintWords
def u32a (l : List Nat) : Array Value := (l.map fun (c : Nat) => Value.int .u32 (c : Int)).toArray
theorem u32a_size (l : List Nat) : (u32a l).size = l.length := by simp [u32a]
theorem u32a_get (l : List Nat) (j : Nat) (h : j < l.length) : (u32a l)[j]? = some (.int .u32 ((l.getD j 0 : Nat) : Int)) := by
 simp [u32a, List.getElem?_eq_getElem h, List.getD_eq_getElem?_getD]
def Arr (w : World) (g : Nat) (t : TypeId) (l : List Nat) : Prop := w.heap[g]? = some (.cells (u32a l) t (0, 0))
section
variable {w w' : World} {g : Nat} {t : TypeId} {l : List Nat}
theorem Arr.lt (h : Arr w g t l) : g < w.heap.size := by
 rcases Nat.lt_or_ge g w.heap.size with hlt | hge
 ·exact hlt
 ·unfold Arr at h; rw [Array.getElem?_eq_none hge] at h; cases h
theorem Arr.cell (h : Arr w g t l) (j : Nat) (hj : j < l.length) : w.cell? ⟨g, j, none⟩ = some (.int .u32 ((l.getD j 0 : Nat) : Int)) := by
 rw [Lib.cell_of_heap h, u32a_get l j hj]
theorem Arr.frozen (h : Arr w g t l) (j : Nat) : w.frozen? ⟨g, j, none⟩ = false := Lib.frozen_of_heap h j
theorem Arr.drewN (h : Arr w g t l) (n : Nat) : Arr (w.drewN n) g t l := h
theorem Arr.alloc (h : Arr w g t l) (o : Obj) : Arr (w.alloc o) g t l := (Below.heap_alloc w o g h.lt).trans h
theorem Arr.set_ (h : Arr w g t l) (i v : Nat) : Arr (w.setCell ⟨g, i, none⟩ (.int .u32 (v : Int))) g t (l.set i v) := by
 unfold Arr at h ⊢
 have e : u32a (l.set i v) = (u32a l).setIfInBounds i (.int .u32 (v : Int)) := by
  apply Array.ext'
  simp [u32a, List.map_set]
 rw [e]
 simp [World.setCell, Array.getElem?_modify, h]
theorem Arr.far (h : Arr w g t l) {p : Addr} (hp : g ≠ p.block) (u : Value) : Arr (w.setCell p u) g t l := (Below.heap_setCell w p u g hp).trans h
theorem Arr.below {B : Nat} (h : Arr w g t l) (hb : Below B w w') (hg : g < B) : Arr w' g t l := (hb.block g hg).trans h
theorem Arr.new (w : World) (t : TypeId) (l : List Nat) : Arr (w.alloc (.cells (u32a l) t)) w.heap.size t l := heap_alloc_new w _
end
end Go.Proofs.Ytcfdplmapdgfmaa.Mine
namespace Go.Proofs.Ytcfdplmapdgfmaa.Mine
open Go.RowKit Go.Proofs.YtcfdplmapdgfmaaW.PrintWords
set_option maxHeartbeats 400000 in
theorem turn_calls (x n : Nat) (w : World) (hx : x < 4294967296) (h1 : 1 ≤ n) (h2 : n ≤ 31) :
  Calls Try.prog 80 #[.int .u32 x, .int .i64 n] w fun e w' => e = .returned (.int .u32 (rotl x (32 - n))) ∧ w' = w := by
 go_enter Try.func80, Try.ntmps80
 go_wp2
 go_ret
 have c1 : ((x : Int) * 2 ^ (32 - n) % 4294967296) = ((x * 2 ^ (32 - n) % 4294967296 : Nat) : Int) := by rw [Int.natCast_emod, Int.natCast_mul, Int.natCast_pow]; rfl
 have c2 : ((x : Int) / 2 ^ n) = ((x / 2 ^ n : Nat) : Int) := by rw [Int.natCast_ediv, Int.natCast_pow]; rfl
 have hs := rotl_sum x (32 - n) hx (by omega)
 have hl := z01 x (32 - n) hx
 rw [show 32 - (32 - n) = n from by omega] at hs
 exact ⟨ret1 (by rw [c1, c2]; omega), rfl⟩
theorem turn_lit (x : Nat) (k : Int) (w : World) (h1 : 1 ≤ k) (h2 : k ≤ 31) (hx : x < 4294967296) :
  Calls Try.prog 80 #[.int .u32 x, .int .i64 k] w fun e w' => e = .returned (.int .u32 (rotl x (32 - k.toNat) : Nat)) ∧ w' = w := by
 obtain ⟨n, rfl⟩ : ∃ n : Nat, k = n := ⟨k.toNat, by omega⟩
 exact turn_calls x n w hx (by omega) (by omega)
end Go.Proofs.Ytcfdplmapdgfmaa.Mine
namespace Go.Proofs.Ytcfdplmapdgfmaa.Mine
open Go.RowKit Go.Proofs.YtcfdplmapdgfmaaW.PrintWords
theorem size64 : (Try.prog.info? 146).map (·.size) = some 64 := by kernel_rfl
theorem wpList_build_as {P : Program} {ops : Array Oper} {rest : List Oper} {o : Oper} {a : Act} {w : World} {Q : Exit → Act → World → Prop} (hg : o.guard = none) (t : TypeId) (parts : Array (Nat × Operand)) (ho : o.op = .build t parts)
  (v : Array Value) (hv : P.built t (parts.map fun (i, x) => (i, a.eval x)).toList = some v)
  (h : wpList P ops Q rest (a.put o.dst (.agg v)) w) : wpList P ops Q (o :: rest) a w := by
 refine wpList_build hg t parts ho (by rw [hv]; rfl) ?_
 rw [hv]
 exact h
theorem u32a_salts_size : some 64 = some (u32a salts).size := by kernel_rfl
set_option maxRecDepth 1000000 in
set_option maxHeartbeats 1000000 in
theorem refsalts_calls (w : World) :
  Calls Try.prog 79 #[] w fun e w' => e = .returned (.agg (u32a salts)) ∧ Below w.heap.size w w' := by
 go_enter Try.func79, Try.ntmps79
 go_wp2_with (first
  | (refine wpList_build_as rfl 146 _ rfl (u32a salts) (by kernel_rfl) ?_)
  | (refine wpList_store_row rfl 146 _ _ rfl w.heap.size (u32a salts) rfl rfl 146 _ (heap_alloc_last w _) (by kernel_rfl) (by kernel_rfl) (by kernel_rfl) ?_; rw [World.setRow_alloc_new]))
 exact bodyPost_ret (v := .agg (u32a salts)) (results_cell_row rfl _ _ w.heap.size 146 (u32a salts) (0, 0) _ rfl (heap_alloc_last w _) Try.underlying146 rfl (size64.trans u32a_salts_size)) rfl ⟨rfl, (Below.refl _ w).alloc (Nat.le_refl _) _⟩
end Go.Proofs.Ytcfdplmapdgfmaa.Mine
namespace Go.Proofs.Ytcfdplmapdgfmaa.Mine
open Go.RowKit Go.Proofs.YtcfdplmapdgfmaaW.PrintWords
theorem small_int (a : Nat) (h : a < 4294967296) : bits .xor .u32 (bits .xor .u32 (rotl a 25 : Nat) (rotl a 14 : Nat)) ((a : Int) / 8) = (small a : Nat) := by
 rw [show ((a : Int) / 8) = ((a / 8 : Nat) : Int) from by omega, u32_xor_nat _ _ (z01 _ _ h) (z01 _ _ h), u32_xor_nat _ _ (xor_lt32 (z01 _ _ h) (z01 _ _ h)) (by omega)]; rfl
theorem great_int (a : Nat) (h : a < 4294967296) : bits .xor .u32 (bits .xor .u32 (rotl a 15 : Nat) (rotl a 13 : Nat)) ((a : Int) / 1024) = (great a : Nat) := by
 rw [show ((a : Int) / 1024) = ((a / 1024 : Nat) : Int) from by omega, u32_xor_nat _ _ (z01 _ _ h) (z01 _ _ h), u32_xor_nat _ _ (xor_lt32 (z01 _ _ h) (z01 _ _ h)) (by omega)]; rfl
theorem sig1_int (a : Nat) (h : a < 4294967296) : bits .xor .u32 (bits .xor .u32 (rotl a 26 : Nat) (rotl a 21 : Nat)) (rotl a 7 : Nat) = (sig1 a : Nat) := by
 rw [u32_xor_nat _ _ (z01 _ _ h) (z01 _ _ h), u32_xor_nat _ _ (xor_lt32 (z01 _ _ h) (z01 _ _ h)) (z01 _ _ h)]; rfl
theorem sig0_int (a : Nat) (h : a < 4294967296) : bits .xor .u32 (bits .xor .u32 (rotl a 30 : Nat) (rotl a 19 : Nat)) (rotl a 10 : Nat) = (sig0 a : Nat) := by
 rw [u32_xor_nat _ _ (z01 _ _ h) (z01 _ _ h), u32_xor_nat _ _ (xor_lt32 (z01 _ _ h) (z01 _ _ h)) (z01 _ _ h)]; rfl
def cells (l : List Nat) : List Value := l.map fun (c : Nat) => Value.int .u32 (c : Int)
theorem quiet_two {P : Program} {f : FuncId} {args : Array Value} {w : World} {p q : Nat} {v : Value}
  (h : Calls P f args (w.drewN (p + q)) fun e w' => e = .returned v ∧ w' = w.drewN (p + q)) : Calls P f args (w.drewN (p + q)) fun e w'' => e = .returned v ∧ ∃ m, w'' = w.drewN (p + m) :=
 h.mono fun _ _ ⟨he, hm⟩ => ⟨he, q, hm⟩
theorem salts_length : salts.length = 64 := by decide
theorem list8 (v : List Nat) (h : v.length = 8) : ∃ a b c d e f g k, v = [a, b, c, d, e, f, g, k] := by
 match v, h with
 | [a, b, c, d, e, f, g, k], _ => exact ⟨a, b, c, d, e, f, g, k, rfl⟩
theorem below_drewN {B : Nat} {a w : World} (h : Below B a w) (n : Nat) : Below B a (w.drewN n) := ⟨h.os, h.tape, h.output, h.size, h.block⟩
theorem not32 (e : Nat) (he : e < 4294967296) : 4294967295 ^^^ e = 4294967295 - e := by
 apply Nat.eq_of_testBit_eq
 intro i
 have h := Nat.testBit_two_pow_sub_succ (n := 32) (x := e) he i
 rw [show 4294967295 - e = 2 ^ 32 - (e + 1) from by omega, h, Nat.testBit_xor, show (4294967295 : Nat) = 2 ^ 32 - 1 from rfl, Nat.testBit_two_pow_sub_one]
 by_cases hi : i < 32
 ·simp [hi]
 ·have : e.testBit i = false := Nat.testBit_lt_two_pow (Nat.lt_of_lt_of_le he (show 4294967296 ≤ 2 ^ i from by
   have := Nat.pow_le_pow_right (n := 2) (by omega) (show 32 ≤ i from by omega)
   simpa using this))
  simp [hi, this]
theorem choose_lt (e f g : Nat) (he : e < 4294967296) : choose e f g < 4294967296 := or_lt32 (z03 he) (z03 (by omega))
theorem most_lt (a b c : Nat) (ha : a < 4294967296) (hb : b < 4294967296) : most a b c < 4294967296 := xor3_lt (z03 ha) (z03 ha) (z03 hb)
theorem salts_words : Words salts := by unfold Words; decide
end Go.Proofs.Ytcfdplmapdgfmaa.Mine
namespace Go.Proofs.Ytcfdplmapdgfmaa.Mine
open Go Go.Lib Go.RowKit
section
variable {w w' : World} {base : Nat} {e : TypeId} {v : Value} {xs : List Value}
end
section
variable {P : Program} (w : World)
end
end Go.Proofs.Ytcfdplmapdgfmaa.Mine
set_option linter.unusedVariables false
set_option linter.unusedSimpArgs false
namespace Go.Proofs.Ytcfdplmapdgfmaa.Mine
open Go.RowKit Go.Proofs.YtcfdplmapdgfmaaW.PrintWords
def eat (v p : List Nat) : List Nat × List Nat := if _h : 64 ≤ p.length then eat (stir v (p.take 64)) (p.drop 64) else (v, p)
termination_by p.length
decreasing_by simp; omega
theorem eat_step (v p : List Nat) (h : 64 ≤ p.length) : eat v p = eat (stir v (p.take 64)) (p.drop 64) := by rw [eat, dif_pos h]
theorem eat_end (v p : List Nat) (h : p.length < 64) : eat v p = (v, p) := by rw [eat, dif_neg (by omega)]
theorem stir_length (v p : List Nat) : (stir v p).length = 8 := by simp [stir]
section
variable {w w' : World} {base b : Nat} {v held : List Nat} {many : Nat} {hv : Value}
end
end Go.Proofs.Ytcfdplmapdgfmaa.Mine
