import Derived.Test.YtcfdplmapdgfmaaQBase
import Derived.Laws.BitsAllLaws
import Derived.Lib.Builder
import Derived.Test.YtcfdplmapdgfmaaProg
import Derived.Lib.Hide
import Derived.Laws.Rows
import Derived.Laws.Tables
import Derived.Deep.WholeRow
import Derived.Outline
import Derived.Deep.QuietTactic
import Derived.BigQuiet
import Derived.RegionTactic
import Derived.BigRegion
import Derived.Deep.LoopGhost
import Derived.Deep.CutRange
import Derived.Deep.DeepCutAuto
import Derived.Laws.CopyOwn
import Derived.Deep.RegionLaw
import Derived.Lib.AppendStr
import Derived.Below
import Derived.Deep.MidRow
import Derived.Deep.RegionHeld3
namespace Go.Proofs.Ytcfdplmapdgfmaa.Mine
open List renaming setIfInBounds_toArray → q1, set_cons_zero → q2, set_cons_succ → q3
open Go.RowKit Go.Proofs.YtcfdplmapdgfmaaW.PrintWords
def rotl (x n : Nat) : Nat := (x * 2 ^ n % 4294967296) ||| (x / 2 ^ (32 - n))
theorem or_lt32 {a b : Nat} (ha : a < 4294967296) (hb : b < 4294967296) : a ||| b < 4294967296 := Nat.or_lt_two_pow (n := 32) ha hb
theorem z08 {a b : Nat} (ha : a < 4294967296) : a &&& b < 4294967296 := Nat.and_lt_two_pow (n := 32) b ha |> fun h => by simpa [Nat.and_comm] using h
theorem z06 (x n : Nat) (hx : x < 4294967296) : rotl x n < 4294967296 := or_lt32 (by omega) (Nat.lt_of_le_of_lt (Nat.div_le_self _ _) hx)
theorem rotl_sum (x n : Nat) (hx : x < 4294967296) (h2 : n ≤ 32) : rotl x n = x * 2 ^ n % 4294967296 + x / 2 ^ (32 - n) := by
 unfold rotl
 have hp : (4294967296 : Nat) = 2 ^ (32 - n) * 2 ^ n := by rw [← Nat.pow_add, show 32 - n + n = 32 from by omega]
 have e1 : x * 2 ^ n % 4294967296 = 2 ^ n * (x % 2 ^ (32 - n)) := by
  rw [hp, Nat.mul_comm x, Nat.mul_comm (2 ^ (32 - n)), Nat.mul_mod_mul_left]
 have e2 : x / 2 ^ (32 - n) < 2 ^ n := by
  rw [Nat.div_lt_iff_lt_mul (Nat.pow_pos (by omega)), Nat.mul_comm, ← hp]
  exact hx
 rw [e1, Nat.two_pow_add_eq_or_of_lt e2]
def fill : List Nat → List Nat → Nat → List Nat
 | wl, [], _ => wl
 | wl, c :: cs, i => fill (wl.set (i / 4) ((wl.getD (i / 4) 0 * 256 % 4294967296) ||| c)) cs (i + 1)
def Words (l : List Nat) : Prop := ∀ x ∈ l, x < 4294967296
theorem Words.set_ {l : List Nat} (h : Words l) (i v : Nat) (hv : v < 4294967296) : Words (l.set i v) := by
 intro x hx
 rcases List.mem_or_eq_of_mem_set hx with h1 | h1
 ·exact h x h1
 ·omega
theorem Words.at_ {l : List Nat} (h : Words l) (i : Nat) : l.getD i 0 < 4294967296 := by
 rw [List.getD_eq_getElem?_getD]
 by_cases hi : i < l.length
 ·rw [List.getElem?_eq_getElem hi]; exact h _ (List.getElem_mem hi)
 ·rw [List.getElem?_eq_none (by omega)]; simp
theorem fill_length : ∀ (cs wl : List Nat) (i : Nat), (fill wl cs i).length = wl.length
 | [], wl, i => rfl
 | c :: cs, wl, i => by rw [fill, fill_length cs]; simp
theorem fill_words : ∀ (cs wl : List Nat) (i : Nat), Words wl → (∀ c ∈ cs, c < 256) → Words (fill wl cs i)
 | [], wl, i, h, _ => h
 | c :: cs, wl, i, h, hc => by
  rw [fill]
  exact fill_words cs _ _ (h.set_ _ _ (or_lt32 (by omega) (by have := hc c (by simp); omega))) fun x hx => hc x (by simp [hx])
def salts : List Nat := [1116352408, 1899447441, 3049323471, 3921009573, 961987163, 1508970993, 2453635748, 2870763221, 3624381080, 310598401, 607225278, 1426881987, 1925078388, 2162078206, 2614888103, 3248222580, 3835390401, 4022224774, 264347078, 604807628, 770255983, 1249150122, 1555081692, 1996064986, 2554220882, 2821834349, 2952996808, 3210313671, 3336571891, 3584528711, 113926993, 338241895, 666307205, 773529912, 1294757372, 1396182291, 1695183700, 1986661051, 2177026350, 2456956037, 2730485921, 2820302411, 3259730800, 3345764771, 3516065817, 3600352804, 4094571909, 275423344, 430227734, 506948616, 659060556, 883997877, 958139571, 1322822218, 1537002063, 1747873779, 1955562222, 2024104815, 2227730452, 2361852424, 2428436474, 2756734187, 3204031479, 3329325298]
def begin8 : List Nat := [1779033703, 3144134277, 1013904242, 2773480762, 1359893119, 2600822924, 528734635, 1541459225]
def small (a : Nat) : Nat := rotl a 25 ^^^ rotl a 14 ^^^ (a / 8)
def great (b : Nat) : Nat := rotl b 15 ^^^ rotl b 13 ^^^ (b / 1024)
def sig1 (e : Nat) : Nat := rotl e 26 ^^^ rotl e 21 ^^^ rotl e 7
def sig0 (a : Nat) : Nat := rotl a 30 ^^^ rotl a 19 ^^^ rotl a 10
def choose (e f g : Nat) : Nat := (e &&& f) ||| ((4294967295 - e) &&& g)
def most (a b c : Nat) : Nat := (a &&& b) ^^^ (a &&& c) ^^^ (b &&& c)
def roundW (wl : List Nat) (i : Nat) : List Nat :=
 if 16 ≤ i then wl.set (i % 16) ((wl.getD (i % 16) 0 + (small (wl.getD ((i + 1) % 16) 0) + wl.getD ((i + 9) % 16) 0 + great (wl.getD ((i + 14) % 16) 0))) % 4294967296) else wl
def one (e f g h k wi : Nat) : Nat := (h + k + wi + choose e f g + sig1 e) % 4294967296
def two (a b c : Nat) : Nat := (most a b c + sig0 a) % 4294967296
def stepX (k y : Nat) (x : List Nat) : List Nat :=
 match x with
 | [a, b, c, d, e, f, g, h] => [(one e f g h k y + two a b c) % 4294967296, a, b, c, (d + one e f g h k y) % 4294967296, e, f, g]
 | _ => x
theorem stepX_eq (k y a b c d e f g h : Nat) : stepX k y [a, b, c, d, e, f, g, h] = [(one e f g h k y + two a b c) % 4294967296, a, b, c, (d + one e f g h k y) % 4294967296, e, f, g] := by rw [stepX]
def stirGo : List Nat → Nat → List Nat → List Nat → List Nat
 | [], _, _, x => x
 | k :: ks, i, wl, x => stirGo ks (i + 1) (roundW wl i) (stepX k ((roundW wl i).getD (i % 16) 0) x)
def stir (v p : List Nat) : List Nat :=
 (List.range 8).map fun j => (v.getD j 0 + (stirGo salts 0 (fill (List.replicate 16 0) p 0) v).getD j 0) % 4294967296
theorem xor3_lt {a b c : Nat} (ha : a < 4294967296) (hb : b < 4294967296) (hc : c < 4294967296) : a ^^^ b ^^^ c < 4294967296 := xor_lt32 (xor_lt32 ha hb) hc
theorem small_lt (a : Nat) (h : a < 4294967296) : small a < 4294967296 := xor3_lt (z06 _ _ h) (z06 _ _ h) (by omega)
theorem great_lt (a : Nat) (h : a < 4294967296) : great a < 4294967296 := xor3_lt (z06 _ _ h) (z06 _ _ h) (by omega)
end Go.Proofs.Ytcfdplmapdgfmaa.Mine
namespace Go.Proofs.Ytcfdplmapdgfmaa.Mine
open Go.RowKit Go.Proofs.YtcfdplmapdgfmaaW.PrintWords
def u32a (l : List Nat) : Array Value := (l.map fun (c : Nat) => Value.int .u32 (c : Int)).toArray
theorem z04 (l : List Nat) : (u32a l).size = l.length := by simp [u32a]
theorem u32a_get (l : List Nat) (j : Nat) (h : j < l.length) : (u32a l)[j]? = some (.int .u32 ((l.getD j 0 : Nat) : Int)) := by
 simp [u32a, List.getElem?_eq_getElem h, List.getD_eq_getElem?_getD]
def Arr (w : World) (g : Nat) (t : TypeId) (l : List Nat) : Prop := w.heap[g]? = some (.cells (u32a l) t (0, 0))
section
variable {w w' : World} {g : Nat} {t : TypeId} {l : List Nat}
theorem Arr.lt (h : Arr w g t l) : g < w.heap.size := by
 rcases Nat.lt_or_ge g w.heap.size with hlt | hge
 ·exact hlt
 ·unfold Arr at h; rw [Array.getElem?_eq_none hge] at h; cases h
theorem Arr.cell (h : Arr w g t l) (j : Nat) (hj : j < l.length) : w.cell? ⟨g, j, none⟩ = some (.int .u32 ((l.getD j 0 : Nat) : Int)) := by
 rw [Lib.cell_of_heap h, u32a_get l j hj]
theorem Arr.frozen (h : Arr w g t l) (j : Nat) : w.frozen? ⟨g, j, none⟩ = false := Lib.frozen_of_heap h j
theorem Arr.drewN (h : Arr w g t l) (n : Nat) : Arr (w.drewN n) g t l := h
theorem Arr.alloc (h : Arr w g t l) (o : Obj) : Arr (w.alloc o) g t l := (Below.heap_alloc w o g h.lt).trans h
theorem Arr.set_ (h : Arr w g t l) (i v : Nat) : Arr (w.setCell ⟨g, i, none⟩ (.int .u32 (v : Int))) g t (l.set i v) := by
 unfold Arr at h ⊢
 have e : u32a (l.set i v) = (u32a l).setIfInBounds i (.int .u32 (v : Int)) := by
  apply Array.ext'
  simp [u32a, List.map_set]
 rw [e]
 simp [World.setCell, Array.getElem?_modify, h]
theorem Arr.far (h : Arr w g t l) {p : Addr} (hp : g ≠ p.block) (u : Value) : Arr (w.setCell p u) g t l := (Below.heap_setCell w p u g hp).trans h
theorem Arr.below {B : Nat} (h : Arr w g t l) (hb : Below B w w') (hg : g < B) : Arr w' g t l := (hb.block g hg).trans h
theorem Arr.new (w : World) (t : TypeId) (l : List Nat) : Arr (w.alloc (.cells (u32a l) t)) w.heap.size t l := heap_alloc_new w _
end
theorem run_index_arr (t : TypeId) (len : Nat) (l : List Nat) (i : Nat) (k : IntKind) (w : World) (ht : Try.prog.underlying t = some (.array len 144)) (hl : l.length = len) (hi : i < len) :
  (Instr.index t (.agg (u32a l)) (.int k (i : Int))).run Try.prog w = .ok (.int .u32 ((l.getD i 0 : Nat) : Int)) w := by
 have hg := u32a_get l i (by omega)
 simp [Instr.index, run_underlying ht, asIntOf, part, Result.andThen, hg, hi]
end Go.Proofs.Ytcfdplmapdgfmaa.Mine
namespace Go.Proofs.Ytcfdplmapdgfmaa.Mine
open Go.RowKit Go.Proofs.YtcfdplmapdgfmaaW.PrintWords
set_option maxHeartbeats 400000 in
theorem rot_calls (x n : Nat) (w : World) (hx : x < 4294967296) (h1 : 1 ≤ n) (h2 : n ≤ 31) :
  Calls Try.prog 123 #[.int .u32 x, .int .i64 n] w fun e w' => e = .returned (.int .u32 (rotl x n)) ∧ w' = w := by
 have hb : bits .and .u64 (n : Int) 31 = (n : Int) := by
  have h := u64_and_nat n 31 (by omega) (by omega)
  rw [show (31 : Nat) = 2 ^ 5 - 1 from rfl, Nat.and_two_pow_sub_one_eq_mod, Nat.mod_eq_of_lt (by omega)] at h
  exact h
 go_enter Try.func123, Try.ntmps123
 go_wp2
 go_ret
 have c1 : ((x : Int) * 2 ^ n % 4294967296) = ((x * 2 ^ n % 4294967296 : Nat) : Int) := by rw [Int.natCast_emod, Int.natCast_mul, Int.natCast_pow]; rfl
 have c2 : ((x : Int) / 2 ^ (32 - n)) = ((x / 2 ^ (32 - n) : Nat) : Int) := by rw [Int.natCast_ediv, Int.natCast_pow]; rfl
 have hl := Nat.div_le_self x (2 ^ (32 - n))
 exact ⟨ret1 (by rw [c1, c2, u32_or_nat _ _ (by omega) (by omega)]; rfl), rfl⟩
set_option maxHeartbeats 400000 in
theorem turn_calls (x n : Nat) (w : World) (hx : x < 4294967296) (h1 : 1 ≤ n) (h2 : n ≤ 31) :
  Calls Try.prog 80 #[.int .u32 x, .int .i64 n] w fun e w' => e = .returned (.int .u32 (rotl x (32 - n))) ∧ w' = w := by
 go_enter Try.func80, Try.ntmps80
 go_wp2
 go_ret
 have c1 : ((x : Int) * 2 ^ (32 - n) % 4294967296) = ((x * 2 ^ (32 - n) % 4294967296 : Nat) : Int) := by rw [Int.natCast_emod, Int.natCast_mul, Int.natCast_pow]; rfl
 have c2 : ((x : Int) / 2 ^ n) = ((x / 2 ^ n : Nat) : Int) := by rw [Int.natCast_ediv, Int.natCast_pow]; rfl
 have hs := rotl_sum x (32 - n) hx (by omega)
 have hl := z06 x (32 - n) hx
 rw [show 32 - (32 - n) = n from by omega] at hs
 exact ⟨ret1 (by rw [c1, c2]; omega), rfl⟩
theorem rot_lit (x : Nat) (k : Int) (w : World) (h1 : 1 ≤ k) (h2 : k ≤ 31) (hx : x < 4294967296) :
  Calls Try.prog 123 #[.int .u32 x, .int .i64 k] w fun e w' => e = .returned (.int .u32 (rotl x k.toNat : Nat)) ∧ w' = w := by
 obtain ⟨n, rfl⟩ : ∃ n : Nat, k = n := ⟨k.toNat, by omega⟩
 exact rot_calls x n w hx (by omega) (by omega)
theorem turn_lit (x : Nat) (k : Int) (w : World) (h1 : 1 ≤ k) (h2 : k ≤ 31) (hx : x < 4294967296) :
  Calls Try.prog 80 #[.int .u32 x, .int .i64 k] w fun e w' => e = .returned (.int .u32 (rotl x (32 - k.toNat) : Nat)) ∧ w' = w := by
 obtain ⟨n, rfl⟩ : ∃ n : Nat, k = n := ⟨k.toNat, by omega⟩
 exact turn_calls x n w hx (by omega) (by omega)
end Go.Proofs.Ytcfdplmapdgfmaa.Mine
namespace Go.Proofs.Ytcfdplmapdgfmaa.Mine
open Go.RowKit Go.Proofs.YtcfdplmapdgfmaaW.PrintWords
theorem size8 : (Try.prog.info? 145).map (·.size) = some 8 := by kernel_rfl
theorem size64 : (Try.prog.info? 146).map (·.size) = some 64 := by kernel_rfl
theorem z0k {P : Program} {ops : Array Oper} {rest : List Oper} {o : Oper} {a : Act} {w : World} {Q : Exit → Act → World → Prop} (hg : o.guard = none) (t : TypeId) (parts : Array (Nat × Operand)) (ho : o.op = .build t parts)
  (v : Array Value) (hv : P.built t (parts.map fun (i, x) => (i, a.eval x)).toList = some v)
  (h : wpList P ops Q rest (a.put o.dst (.agg v)) w) : wpList P ops Q (o :: rest) a w := by
 refine wpList_build hg t parts ho (by rw [hv]; rfl) ?_
 rw [hv]
 exact h
theorem u32a_salts_size : some 64 = some (u32a salts).size := by kernel_rfl
theorem u32a_begin_size : some 8 = some (u32a begin8).size := by kernel_rfl
set_option maxRecDepth 1000000 in
set_option maxHeartbeats 1000000 in
theorem begin_calls (w : World) :
  Calls Try.prog 101 #[] w fun e w' => e = .returned (.agg (u32a begin8)) ∧ Below w.heap.size w w' := by
 go_enter Try.func101, Try.ntmps101
 go_wp2_with (first
  | (refine z0k rfl 145 _ rfl (u32a begin8) (by kernel_rfl) ?_)
  | (refine wpList_store_row rfl 145 _ _ rfl w.heap.size (u32a begin8) rfl rfl 145 _ (heap_alloc_last w _) (by kernel_rfl) (by kernel_rfl) (by kernel_rfl) ?_; rw [World.setRow_alloc_new]))
 exact bodyPost_ret (v := .agg (u32a begin8)) (results_cell_row rfl _ _ w.heap.size 145 (u32a begin8) (0, 0) _ rfl (heap_alloc_last w _) Try.underlying145 rfl (size8.trans u32a_begin_size)) rfl ⟨rfl, (Below.refl _ w).alloc (Nat.le_refl _) _⟩
set_option maxRecDepth 1000000 in
set_option maxHeartbeats 1000000 in
theorem salts_calls (w : World) :
  Calls Try.prog 122 #[] w fun e w' => e = .returned (.agg (u32a salts)) ∧ Below w.heap.size w w' := by
 go_enter Try.func122, Try.ntmps122
 go_wp2_with (first
  | (refine z0k rfl 146 _ rfl (u32a salts) (by kernel_rfl) ?_)
  | (refine wpList_store_row rfl 146 _ _ rfl w.heap.size (u32a salts) rfl rfl 146 _ (heap_alloc_last w _) (by kernel_rfl) (by kernel_rfl) (by kernel_rfl) ?_; rw [World.setRow_alloc_new]))
 exact bodyPost_ret (v := .agg (u32a salts)) (results_cell_row rfl _ _ w.heap.size 146 (u32a salts) (0, 0) _ rfl (heap_alloc_last w _) Try.underlying146 rfl (size64.trans u32a_salts_size)) rfl ⟨rfl, (Below.refl _ w).alloc (Nat.le_refl _) _⟩
set_option maxRecDepth 1000000 in
set_option maxHeartbeats 1000000 in
theorem refsalts_calls (w : World) :
  Calls Try.prog 79 #[] w fun e w' => e = .returned (.agg (u32a salts)) ∧ Below w.heap.size w w' := by
 go_enter Try.func79, Try.ntmps79
 go_wp2_with (first
  | (refine z0k rfl 146 _ rfl (u32a salts) (by kernel_rfl) ?_)
  | (refine wpList_store_row rfl 146 _ _ rfl w.heap.size (u32a salts) rfl rfl 146 _ (heap_alloc_last w _) (by kernel_rfl) (by kernel_rfl) (by kernel_rfl) ?_; rw [World.setRow_alloc_new]))
 exact bodyPost_ret (v := .agg (u32a salts)) (results_cell_row rfl _ _ w.heap.size 146 (u32a salts) (0, 0) _ rfl (heap_alloc_last w _) Try.underlying146 rfl (size64.trans u32a_salts_size)) rfl ⟨rfl, (Below.refl _ w).alloc (Nat.le_refl _) _⟩
end Go.Proofs.Ytcfdplmapdgfmaa.Mine
namespace Go.Proofs.Ytcfdplmapdgfmaa.Mine
open Go.RowKit Go.Proofs.YtcfdplmapdgfmaaW.PrintWords
theorem small_int (a : Nat) (h : a < 4294967296) : bits .xor .u32 (bits .xor .u32 (rotl a 25 : Nat) (rotl a 14 : Nat)) ((a : Int) / 8) = (small a : Nat) := by
 rw [show ((a : Int) / 8) = ((a / 8 : Nat) : Int) from by omega, u32_xor_nat _ _ (z06 _ _ h) (z06 _ _ h), u32_xor_nat _ _ (xor_lt32 (z06 _ _ h) (z06 _ _ h)) (by omega)]; rfl
theorem great_int (a : Nat) (h : a < 4294967296) : bits .xor .u32 (bits .xor .u32 (rotl a 15 : Nat) (rotl a 13 : Nat)) ((a : Int) / 1024) = (great a : Nat) := by
 rw [show ((a : Int) / 1024) = ((a / 1024 : Nat) : Int) from by omega, u32_xor_nat _ _ (z06 _ _ h) (z06 _ _ h), u32_xor_nat _ _ (xor_lt32 (z06 _ _ h) (z06 _ _ h)) (by omega)]; rfl
theorem sig1_int (a : Nat) (h : a < 4294967296) : bits .xor .u32 (bits .xor .u32 (rotl a 26 : Nat) (rotl a 21 : Nat)) (rotl a 7 : Nat) = (sig1 a : Nat) := by
 rw [u32_xor_nat _ _ (z06 _ _ h) (z06 _ _ h), u32_xor_nat _ _ (xor_lt32 (z06 _ _ h) (z06 _ _ h)) (z06 _ _ h)]; rfl
theorem sig0_int (a : Nat) (h : a < 4294967296) : bits .xor .u32 (bits .xor .u32 (rotl a 30 : Nat) (rotl a 19 : Nat)) (rotl a 10 : Nat) = (sig0 a : Nat) := by
 rw [u32_xor_nat _ _ (z06 _ _ h) (z06 _ _ h), u32_xor_nat _ _ (xor_lt32 (z06 _ _ h) (z06 _ _ h)) (z06 _ _ h)]; rfl
def cells (l : List Nat) : List Value := l.map fun (c : Nat) => Value.int .u32 (c : Int)
theorem quiet_two {P : Program} {f : FuncId} {args : Array Value} {w : World} {p q : Nat} {v : Value}
  (h : Calls P f args (w.drewN (p + q)) fun e w' => e = .returned v ∧ w' = w.drewN (p + q)) : Calls P f args (w.drewN (p + q)) fun e w'' => e = .returned v ∧ ∃ m, w'' = w.drewN (p + m) :=
 h.mono fun _ _ ⟨he, hm⟩ => ⟨he, q, hm⟩
theorem salts_length : salts.length = 64 := by decide
theorem stirGo_step (i : Nat) (wl : List Nat) (a b c d e f g h kk : Nat) (hi : i < 64) (hk : kk = salts.getD i 0) :
  stirGo (salts.drop i) i wl [a, b, c, d, e, f, g, h] = stirGo (salts.drop (i + 1)) (i + 1) (roundW wl i)
   [(one e f g h kk ((roundW wl i).getD (i % 16) 0) + two a b c) % 4294967296, a, b, c, (d + one e f g h kk ((roundW wl i).getD (i % 16) 0)) % 4294967296, e, f, g] := by
 have hl : i < salts.length := by rw [salts_length]; exact hi
 rw [List.drop_eq_getElem_cons hl, stirGo, stepX_eq]
 have e1 : salts[i] = kk := by rw [hk, List.getD_eq_getElem?_getD, List.getElem?_eq_getElem hl]; rfl
 rw [e1]
theorem stirGo_end (wl x : List Nat) : stirGo (salts.drop 64) 64 wl x = x := by
 rw [List.drop_eq_nil_of_le (by rw [salts_length]; omega), stirGo]
theorem stir_eq (v p vl x : List Nat) (hl : vl.length = 8) (hx : x = stirGo salts 0 (fill (List.replicate 16 0) p 0) v)
  (h : ∀ t, vl.getD t 0 = if t < 8 then (v.getD t 0 + x.getD t 0) % 4294967296 else v.getD t 0) : vl = stir v p := by
 unfold stir
 rw [← hx]
 apply List.ext_getElem (by rw [hl]; simp)
 intro t h1 h2
 have ht := h t
 rw [hl] at h1
 rw [if_pos h1, List.getD_eq_getElem?_getD, List.getElem?_eq_getElem (by rw [hl]; exact h1)] at ht
 simp only [Option.getD_some] at ht
 rw [ht, List.getElem_map, List.getElem_range]
theorem list8 (v : List Nat) (h : v.length = 8) : ∃ a b c d e f g k, v = [a, b, c, d, e, f, g, k] := by
 match v, h with
 | [a, b, c, d, e, f, g, k], _ => exact ⟨a, b, c, d, e, f, g, k, rfl⟩
theorem below_drewN {B : Nat} {a w : World} (h : Below B a w) (n : Nat) : Below B a (w.drewN n) := ⟨h.os, h.tape, h.output, h.size, h.block⟩
theorem not32 (e : Nat) (he : e < 4294967296) : 4294967295 ^^^ e = 4294967295 - e := by
 apply Nat.eq_of_testBit_eq
 intro i
 have h := Nat.testBit_two_pow_sub_succ (n := 32) (x := e) he i
 rw [show 4294967295 - e = 2 ^ 32 - (e + 1) from by omega, h, Nat.testBit_xor, show (4294967295 : Nat) = 2 ^ 32 - 1 from rfl, Nat.testBit_two_pow_sub_one]
 by_cases hi : i < 32
 ·simp [hi]
 ·have : e.testBit i = false := Nat.testBit_lt_two_pow (Nat.lt_of_lt_of_le he (show 4294967296 ≤ 2 ^ i from by
   have := Nat.pow_le_pow_right (n := 2) (by omega) (show 32 ≤ i from by omega)
   simpa using this))
  simp [hi, this]
theorem choose_int (e f g : Nat) (he : e < 4294967296) (hf : f < 4294967296) (hg : g < 4294967296) :
  bits .or .u32 (bits .and .u32 (e : Int) (f : Int)) (bits .and .u32 (bits .xor .u32 (if IntKind.u32.signed = true then -1 else IntKind.u32.max) (e : Int)) (g : Int)) = (choose e f g : Nat) := by
 rw [show (if IntKind.u32.signed = true then -1 else IntKind.u32.max) = ((4294967295 : Nat) : Int) from rfl, u32_xor_nat _ _ (by omega) he, not32 e he, u32_and_nat _ _ he hf, u32_and_nat _ _ (by omega) hg,
  u32_or_nat _ _ (z08 he) (z08 (by omega))]; rfl
theorem choose_lt (e f g : Nat) (he : e < 4294967296) : choose e f g < 4294967296 := or_lt32 (z08 he) (z08 (by omega))
theorem most_int (a b c : Nat) (ha : a < 4294967296) (hb : b < 4294967296) (hc : c < 4294967296) :
  bits .xor .u32 (bits .xor .u32 (bits .and .u32 (a : Int) (b : Int)) (bits .and .u32 (a : Int) (c : Int))) (bits .and .u32 (b : Int) (c : Int)) = (most a b c : Nat) := by
 rw [u32_and_nat _ _ ha hb, u32_and_nat _ _ ha hc, u32_and_nat _ _ hb hc, u32_xor_nat _ _ (z08 ha) (z08 ha), u32_xor_nat _ _ (xor_lt32 (z08 ha) (z08 ha)) (z08 hb)]; rfl
theorem most_lt (a b c : Nat) (ha : a < 4294967296) (hb : b < 4294967296) : most a b c < 4294967296 := xor3_lt (z08 ha) (z08 ha) (z08 hb)
theorem one_int (e f g h k y : Nat) (he : e < 4294967296) (hf : f < 4294967296) (hg : g < 4294967296) :
  (((h : Int) + k + y + bits .or .u32 (bits .and .u32 (e : Int) (f : Int)) (bits .and .u32 (bits .xor .u32 (if IntKind.u32.signed = true then -1 else IntKind.u32.max) (e : Int)) (g : Int))) % 4294967296 + (sig1 e : Nat)) % 4294967296 = (one e f g h k y : Nat) := by
 rw [choose_int e f g he hf hg]
 unfold one
 omega
theorem two_int (a b c : Nat) (ha : a < 4294967296) (hb : b < 4294967296) (hc : c < 4294967296) :
  (bits .xor .u32 (bits .xor .u32 (bits .and .u32 (a : Int) (b : Int)) (bits .and .u32 (a : Int) (c : Int))) (bits .and .u32 (b : Int) (c : Int)) + (sig0 a : Nat)) % 4294967296 = (two a b c : Nat) := by
 rw [most_int a b c ha hb hc]
 unfold two
 omega
theorem salts_words : Words salts := by unfold Words; decide
set_option maxRecDepth 100000 in
set_option maxHeartbeats 1000000 in
theorem stir_calls (v p : List Nat) (ad : Addr) (n c : Nat) (w : World) (hv : v.length = 8) (hvw : Words v) (hpl : p.length = 64) (hpb : ∀ x ∈ p, x < 256) (hp : 64 ≤ n) (hnc : n ≤ c) (hc63 : c ≤ 9223372036854775807)
  (hcell : ∀ j, j < 64 → w.cell? (ad.add j) = some (.int .u8 ((p.getD j 0 : Nat) : Int))) (hab : ad.block < w.heap.size) :
  Calls Try.prog 102 #[.agg (u32a v), .slice (some ad) n c] w fun e w' => e = .returned (.agg (u32a (stir v p))) ∧ Below w.heap.size w w' := by
 have HV := Lib.hid hv
 have HVW := Lib.hid hvw
 have HPL := Lib.hid hpl
 have HPB := Lib.hid hpb
 have HCELL := Lib.hid hcell
 clear hv hvw hpl hpb hcell
 obtain ⟨W16, hW⟩ : ∃ x, x = fill (List.replicate 16 0) p 0 := ⟨_, rfl⟩
 have HW := Lib.hid hW
 clear hW
 go_enter Try.func102, Try.ntmps102
 go_wp2
 have hA0 := (Arr.new w 145 v)
 go_loopw [6, 7, 23] (fun _ _ n23 wr => ∃ (i : Nat) (wl : List Nat), i ≤ 64 ∧ n23 = .int .i64 i ∧ Hid (wl.length = 16 ∧ Words wl ∧ fill wl (p.drop i) i = W16) ∧ Hid (Arr wr (w.heap.size + 1 + 1) 193 wl) ∧ Hid (Arr wr w.heap.size 145 v) ∧ Hid (Arr wr (w.heap.size + 1) 145 (List.replicate 8 0)) ∧ Hid (Below w.heap.size w wr) ∧ Hid (wr.heap.size = w.heap.size + 3)) (fun _ _ i _ => 64 - (intOf i).toNat)
 case atStart =>
  have z16 : (Obj.cells #[Value.int .u32 0, .int .u32 0, .int .u32 0, .int .u32 0, .int .u32 0, .int .u32 0, .int .u32 0, .int .u32 0, .int .u32 0, .int .u32 0, .int .u32 0, .int .u32 0, .int .u32 0, .int .u32 0, .int .u32 0, .int .u32 0] 193) = .cells (u32a (List.replicate 16 0)) 193 := rfl
  rw [z16]
  refine ⟨0, List.replicate 16 0, by omega, rfl, ⟨rfl, ?_, HW.out.symm⟩, ?_, (hA0.alloc _).alloc _, ?_, ?_, ?_⟩
  ·intro x hx; have := List.eq_of_mem_replicate hx; omega
  ·unfold Hid
   have := Arr.new ((w.alloc (.cells (u32a v) 145)).alloc (.cells #[.int .u32 0, .int .u32 0, .int .u32 0, .int .u32 0, .int .u32 0, .int .u32 0, .int .u32 0, .int .u32 0] 145)) 193 (List.replicate 16 0)
   simpa using this
  ·unfold Hid
   have z8 : (Obj.cells #[Value.int .u32 0, .int .u32 0, .int .u32 0, .int .u32 0, .int .u32 0, .int .u32 0, .int .u32 0, .int .u32 0] 145) = .cells (u32a (List.replicate 8 0)) 145 := rfl
   rw [z8]
   have := Arr.new (w.alloc (.cells (u32a v) 145)) 145 (List.replicate 8 0)
   have := this.alloc (.cells (u32a (List.replicate 16 0)) 193)
   simpa using this
  ·exact (((Below.refl _ w).alloc (Nat.le_refl _) _).alloc (by simp) _).alloc (by simp; omega) _
  ·unfold Hid; simp
 case round =>
  obtain ⟨i, wl, hi, rfl, H, hArr, hArr0, hArr1, hbel, hsz⟩ := hrel
  obtain ⟨hwl, hww, hfill⟩ := H
  by_cases hlt : i < 64
  ·have hltb : decide (i < 64) = true := by simpa using hlt
   have hcl : wr.cell? (ad.add i) = some (.int .u8 ((p.getD i 0 : Nat) : Int)) := by rw [hbel.out.cell (by rw [Addr.add]; split <;> exact hab)]; exact HCELL.out i hlt
   have hc4 := hArr.out.cell (i / 4) (by omega)
   have hf4 := hArr.out.frozen (i / 4)
   have h4 := hww.at_ (i / 4)
   have hpc : p.getD i 0 < 256 := HPB.out _ (by rw [List.getD_eq_getElem?_getD, List.getElem?_eq_getElem (by rw [HPL.out]; exact hlt)]; exact List.getElem_mem _)
   obtain ⟨x, hx⟩ : ∃ x, x = wl.getD (i / 4) 0 := ⟨_, rfl⟩
   obtain ⟨b, hb⟩ : ∃ b, b = p.getD i 0 := ⟨_, rfl⟩
   rw [← hx] at hc4 h4
   rw [← hb] at hcl hpc
   have HX := Lib.hid hx
   have HBB := Lib.hid hb
   have HWL := Lib.hid hwl
   have HWW := Lib.hid hww
   have HF := Lib.hid hfill
   clear hx hb hwl hww hfill
   have q1 : (0 : Int) ≤ (i : Int) / 4 := by omega
   have q2 : (i : Int) / 4 < 16 := by omega
   have q3 : ((i : Int) / 4).toNat = i / 4 := by omega
   go_wp2
   go_roundw
   case rel =>
    have e : (bits .or .u32 ((x : Int) * 256 % 4294967296) (b : Int)) = (((x * 256 % 4294967296) ||| b : Nat) : Int) := by
     have := u32_or_nat (x * 256 % 4294967296) b (by omega) (by omega)
     rw [← this]; congr 1
    rw [e]
    refine ⟨i + 1, wl.set (i / 4) ((x * 256 % 4294967296) ||| b), by omega, by go_num, ⟨by simp; exact HWL.out, HWW.out.set_ _ _ (or_lt32 (by omega) (by omega)), ?_⟩, hArr.out.set_ _ _, hArr0.out.far (by simp; omega) _, hArr1.out.far (by simp) _, hbel.out.setCell (p := ⟨w.heap.size + 1 + 1, i / 4, none⟩) (by simp; omega) _, ?_⟩
    ·rw [← HF.out, List.drop_eq_getElem_cons (i := i) (by rw [HPL.out]; exact hlt), fill, ← HX.out]
     have : p[i]'(by rw [HPL.out]; exact hlt) = b := by rw [HBB.out, List.getD_eq_getElem?_getD, List.getElem?_eq_getElem (by rw [HPL.out]; exact hlt)]; rfl
     rw [this]
    ·unfold Hid; simp [World.setCell]; exact hsz.out
   case measure => simp [intOf]; omega
  ·have hltb : decide (i < 64) = false := by simpa using hlt
   obtain rfl : i = 64 := by omega
   have hW2 : wl = W16 := by rw [← hfill, List.drop_eq_nil_of_le (by rw [HPL.out]; omega), fill]
   subst hW2
   clear hfill
   have HWL := Lib.hid hwl
   have HWW := Lib.hid hww
   clear hwl hww
   have hi8 : (Try.prog.info? 145).map (·.size) = some (u32a v).size := by rw [z04, HV.out]; kernel_rfl
   have hone8 : (u32a v).all (·.oneCell') = true := by simp [u32a]; intro x _; rfl
   have hz8 : (#[Value.int .u32 0, .int .u32 0, .int .u32 0, .int .u32 0, .int .u32 0, .int .u32 0, .int .u32 0, .int .u32 0] : Array Value).size = (u32a v).size := by rw [z04, HV.out]; rfl
   have HI8 := Lib.hid hi8
   have HONE8 := Lib.hid hone8
   have HZ8 := Lib.hid hz8
   clear hi8 hA0 hltb hone8 hz8
   go_wp2_with (first
    | (refine wpList_load_row rfl 145 _ rfl w.heap.size rfl 145 (u32a v) (0, 0) _ hArr0.out Try.underlying145 rfl HI8.out ?_)
    | (refine wpList_store_row rfl 145 _ _ rfl wr.heap.size (u32a v) rfl rfl 145 _ (heap_alloc_last wr _) HI8.out HZ8.out HONE8.out ?_; rw [World.setRow_alloc_new])
    | (go_at_call 122; refine (salts_calls _).mono ?_; rintro e w2 ⟨rfl, hb2⟩))
   obtain ⟨X64, hX64⟩ : ∃ x, x = stirGo salts 0 wl v := ⟨_, rfl⟩
   have HX64 := Lib.hid hX64
   clear hX64
   have hb64 : wr.heap.size = w.heap.size + 3 := hsz.out
   have hA5 : Arr w2 (w.heap.size + 1 + 1) 193 wl := (hArr.out.alloc _).below hb2 (by simp; omega)
   have hA0' : Arr w2 w.heap.size 145 v := (hArr0.out.alloc _).below hb2 (by simp; omega)
   have hA1' : Arr w2 (w.heap.size + 1) 145 (List.replicate 8 0) := (hArr1.out.alloc _).below hb2 (by simp; omega)
   have hA8' : Arr w2 wr.heap.size 145 v := (Arr.new wr 145 v).below hb2 (by simp)
   have HA5 := Lib.hid hA5
   have HA0 := Lib.hid hA0'
   have HA1 := Lib.hid hA1'
   have HA8 := Lib.hid hA8'
   have HB2 := Lib.hid hb2
   clear hA5 hA0' hA1' hA8' hb2
   obtain ⟨B3, hB3⟩ : ∃ x, x = wr.heap.size := ⟨_, rfl⟩
   rw [← hB3] at HA8 hb64
   rw [← hB3]
   have HB3 := Lib.hid hB3
   clear hB3
   go_loopg [9, 10, 11, 12, 13, 14, 15, 16, 17, 18, 42] 64 (fun k _ _ _ _ _ _ _ _ _ _ s42 wq => ∃ (i : Nat) (wl : List Nat) (a b c d e f g h : Nat), i ≤ 64 ∧ k = 64 - i ∧ s42 = .int .i64 i ∧
     Hid (wl.length = 16 ∧ Words wl ∧ stirGo (salts.drop i) i wl [a, b, c, d, e, f, g, h] = X64) ∧ Hid (Words [a, b, c, d, e, f, g, h]) ∧
     Hid (Arr wq (w.heap.size + 1 + 1) 193 wl ∧ Arr wq B3 145 [a, b, c, d, e, f, g, h]) ∧
     Hid (Arr wq w.heap.size 145 v ∧ Arr wq (w.heap.size + 1) 145 (List.replicate 8 0)) ∧ Hid (Below w.heap.size w wq ∧ B3 < wq.heap.size))
   case atStart =>
    have hv8 := HV.out
    obtain ⟨a, b, c, d, e, f, g, h, rfl⟩ := list8 v hv8
    have hb2 := HB2.out
    have hb64' := hb64
    refine ⟨0, wl, a, b, c, d, e, f, g, h, by omega, rfl, rfl, ⟨HWL.out, HWW.out, by rw [HX64.out, List.drop_zero]⟩, HVW.out, ⟨HA5.out, HA8.out⟩, ⟨HA0.out, HA1.out⟩, ?_, HA8.out.lt⟩
    exact (hbel.out.alloc (by rw [← HB3.out]; omega) _).trans (hb2.mono (by simp; rw [← HB3.out]; omega))
   case round =>
    clear HB2
    obtain ⟨i, wl, a, b, c, d, e, f, g, h, hi, hk, rfl, H, hx, hA, hA2, hB⟩ := hrel
    have HK := Lib.hid hk
    have HB4 := Lib.hid hb64
    clear hk hb64
    by_cases hlt : i < 64
    ·have hltb : decide (i < 64) = true := by simpa using hlt
     have hidx := fun w => run_index_arr 146 64 salts i .i64 w rfl rfl hlt
     have hkk : salts.getD i 0 < 4294967296 := salts_words.at_ i
     obtain ⟨kk, hkk2⟩ : ∃ x, x = salts.getD i 0 := ⟨_, rfl⟩
     rw [← hkk2] at hidx hkk
     have HKK := Lib.hid hkk2
     clear hkk2
     go_upto_if 47 with (fail)
     go_cut [11, 12, 13, 14] (fun _ _ _ _ wc => Hid (Arr wc (w.heap.size + 1 + 1) 193 (roundW wl i) ∧ Arr wc B3 145 [a, b, c, d, e, f, g, h]) ∧
       Hid (Arr wc w.heap.size 145 v ∧ Arr wc (w.heap.size + 1) 145 (List.replicate 8 0)) ∧ Hid (Below w.heap.size w wc ∧ B3 < wc.heap.size))
     case first =>
      by_cases h16 : 16 ≤ i
      ·have h16b : decide (16 ≤ (i : Int)) = true := by simp; omega
       obtain ⟨y1, hy1⟩ : ∃ x, x = wl.getD ((i + 1) % 16) 0 := ⟨_, rfl⟩
       obtain ⟨y14, hy14⟩ : ∃ x, x = wl.getD ((i + 14) % 16) 0 := ⟨_, rfl⟩
       obtain ⟨y9, hy9⟩ : ∃ x, x = wl.getD ((i + 9) % 16) 0 := ⟨_, rfl⟩
       obtain ⟨y0, hy0⟩ : ∃ x, x = wl.getD (i % 16) 0 := ⟨_, rfl⟩
       have c1 := hA.out.1.cell ((i + 1) % 16) (by rw [H.out.1]; omega)
       have c14 := hA.out.1.cell ((i + 14) % 16) (by rw [H.out.1]; omega)
       have c9 := hA.out.1.cell ((i + 9) % 16) (by rw [H.out.1]; omega)
       have c0 := hA.out.1.cell (i % 16) (by rw [H.out.1]; omega)
       have b1 := H.out.2.1.at_ ((i + 1) % 16)
       have b14 := H.out.2.1.at_ ((i + 14) % 16)
       have b9 := H.out.2.1.at_ ((i + 9) % 16)
       have b0 := H.out.2.1.at_ (i % 16)
       rw [← hy1] at c1 b1
       rw [← hy14] at c14 b14
       rw [← hy9] at c9 b9
       rw [← hy0] at c0 b0
       have HY := Lib.hid (And.intro hy1 (And.intro hy14 (And.intro hy9 hy0)))
       clear hy1 hy14 hy9 hy0
       have q1 : 0 ≤ ((i : Int) + 1) % 16 := by omega
       have q2 : ((i : Int) + 1) % 16 < 16 := by omega
       have q3 : (((i : Int) + 1) % 16).toNat = (i + 1) % 16 := by omega
       have r1 : 0 ≤ ((i : Int) + 14) % 16 := by omega
       have r2 : ((i : Int) + 14) % 16 < 16 := by omega
       have r3 : (((i : Int) + 14) % 16).toNat = (i + 14) % 16 := by omega
       have s1 : 0 ≤ ((i : Int) + 9) % 16 := by omega
       have s2 : ((i : Int) + 9) % 16 < 16 := by omega
       have s3 : (((i : Int) + 9) % 16).toNat = (i + 9) % 16 := by omega
       have t1 : 0 ≤ (i : Int) % 16 := by omega
       have t2 : (i : Int) % 16 < 16 := by omega
       have t3 : ((i : Int) % 16).toNat = i % 16 := by omega
       go_wp2_with (fail)
       go_quiet (fail)
       clear q1 q2 q3 r1 r2 r3 c1 c14
       go_upto_region 15 with (go_at_call 123; refine (rot_lit _ _ _ (by decide) (by decide) (by assumption)).mono ?_; rintro e w' ⟨rfl, hw⟩; replace hw := hw.symm; subst hw)
       rw [small_int y1 b1, great_int y14 b14]
       have hs1 := small_lt y1 b1
       have hg1 := great_lt y14 b14
       obtain ⟨sm, hsm⟩ : ∃ x, x = small y1 := ⟨_, rfl⟩
       obtain ⟨gr, hgr⟩ : ∃ x, x = great y14 := ⟨_, rfl⟩
       rw [← hsm] at hs1
       rw [← hgr] at hg1
       rw [← hsm, ← hgr]
       have HSM := Lib.hid (And.intro hsm hgr)
       clear hsm hgr
       have f0 : wr.frozen? ⟨w.heap.size + 1 + 1, i % 16, none⟩ = false := hA.out.1.frozen _
       go_region
       go_wp2_with (fail)
       go_meet
       have hstep : roundW wl i = wl.set (i % 16) ((y0 + (sm + y9 + gr)) % 4294967296) := by
        obtain ⟨e1, e14, e9, e0⟩ := HY.out
        rw [roundW, if_pos h16, ← e1, ← e14, ← e9, ← e0, ← HSM.out.1, ← HSM.out.2]
       rw [hstep, show (((y0 : Int) + ((sm : Int) + (y9 : Int) + (gr : Int))) % 4294967296) = (((y0 + (sm + y9 + gr)) % 4294967296 : Nat) : Int) from by omega]
       have hb4 := HB4.out
       refine ⟨⟨(hA.out.1.drewN _).set_ _ _, (hA.out.2.drewN _).far (by simp; omega) _⟩, ⟨(hA2.out.1.drewN _).far (by simp; omega) _, (hA2.out.2.drewN _).far (by simp) _⟩, (below_drewN hB.out.1 _).setCell (p := ⟨w.heap.size + 1 + 1, i % 16, none⟩) (by simp; omega) _, ?_⟩
       have := hB.out.2
       simpa [World.setCell] using this
      ·have h16b : decide (16 ≤ (i : Int)) = false := by simp; omega
       go_wp2_with (fail)
       go_meet
       rw [show roundW wl i = wl from by rw [roundW, if_neg h16]]
       exact ⟨hA, hA2, hB⟩
     case rest =>
      clear hA hA2 hB
      obtain ⟨hA, hA2, hB⟩ := hcut
      obtain ⟨w3, hw3⟩ : ∃ x, x = roundW wl i := ⟨_, rfl⟩
      have hw3l : w3.length = 16 := by rw [hw3, roundW]; split <;> simp [H.out.1]
      have hw3w : Words w3 := by
       rw [hw3, roundW]; split
       ·exact H.out.2.1.set_ _ _ (by omega)
       ·exact H.out.2.1
      rw [← hw3] at hA
      obtain ⟨y0, hy0⟩ : ∃ x, x = w3.getD (i % 16) 0 := ⟨_, rfl⟩
      have c0 := hA.out.1.cell (i % 16) (by omega)
      have b0 := hw3w.at_ (i % 16)
      rw [← hy0] at c0 b0
      have HW3 := Lib.hid hw3
      have HW3L := Lib.hid hw3l
      have HW3W := Lib.hid hw3w
      have HY := Lib.hid hy0
      clear hw3 hw3l hw3w hy0
      have t1 : 0 ≤ (i : Int) % 16 := by omega
      have t2 : (i : Int) % 16 < 16 := by omega
      have t3 : ((i : Int) % 16).toNat = i % 16 := by omega
      have x0 : wc.cell? ⟨B3, 0, none⟩ = some (.int .u32 a) := hA.out.2.cell 0 (by simp)
      have x1 : wc.cell? ⟨B3, 1, none⟩ = some (.int .u32 b) := hA.out.2.cell 1 (by simp)
      have x2 : wc.cell? ⟨B3, 2, none⟩ = some (.int .u32 c) := hA.out.2.cell 2 (by simp)
      have x3 : wc.cell? ⟨B3, 3, none⟩ = some (.int .u32 d) := hA.out.2.cell 3 (by simp)
      have x4 : wc.cell? ⟨B3, 4, none⟩ = some (.int .u32 e) := hA.out.2.cell 4 (by simp)
      have x5 : wc.cell? ⟨B3, 5, none⟩ = some (.int .u32 f) := hA.out.2.cell 5 (by simp)
      have x6 : wc.cell? ⟨B3, 6, none⟩ = some (.int .u32 g) := hA.out.2.cell 6 (by simp)
      have x7 : wc.cell? ⟨B3, 7, none⟩ = some (.int .u32 h) := hA.out.2.cell 7 (by simp)
      have ba : a < 4294967296 := hx.out a (by simp)
      have bb : b < 4294967296 := hx.out b (by simp)
      have bc : c < 4294967296 := hx.out c (by simp)
      have bd : d < 4294967296 := hx.out d (by simp)
      have be : e < 4294967296 := hx.out e (by simp)
      have bf : f < 4294967296 := hx.out f (by simp)
      have bg : g < 4294967296 := hx.out g (by simp)
      have bh : h < 4294967296 := hx.out h (by simp)
      go_upto_region 16 with (fail)
      go_quiet (fail)
      go_upto_region 17 with (fail)
      go_quiet ((go_at_call 123; exact quiet_two (rot_lit _ _ _ (by decide) (by decide) (by assumption))))
      rw [sig1_int e be]
      go_upto_region 18 with (fail)
      go_quiet ((go_at_call 123; exact quiet_two (rot_lit _ _ _ (by decide) (by decide) (by assumption))))
      rw [sig0_int a ba]
      rw [one_int e f g h kk y0 be bf bg, two_int a b c ba bb bc]
      have l1 : one e f g h kk y0 < 4294967296 := by unfold one; omega
      have l2 : two a b c < 4294967296 := by unfold two; omega
      obtain ⟨o1, ho1⟩ : ∃ x, x = one e f g h kk y0 := ⟨_, rfl⟩
      obtain ⟨o2, ho2⟩ : ∃ x, x = two a b c := ⟨_, rfl⟩
      rw [← ho1] at l1
      rw [← ho2] at l2
      rw [← ho1, ← ho2]
      have HO := Lib.hid (And.intro ho1 ho2)
      clear ho1 ho2
      go_upto_region 19 with (fail)
      have hcs : Hid (∀ (j : Nat) (y : Value), (cells [a, b, c, d, e, f, g])[j]? = some y → wc.cell? ((⟨B3, 0, none⟩ : Addr).add j) = some y) := by
       intro j y hj
       have hj7 : j < 7 := by
        rcases Nat.lt_or_ge j 7 with h | h
        ·exact h
        ·rw [List.getElem?_eq_none (by simp [cells]; omega)] at hj; cases hj
       have := hA.out.2.cell j (by simp; omega)
       rw [show (⟨B3, 0, none⟩ : Addr).add j = ⟨B3, j, none⟩ from by simp [Addr.add]; exact Eq.symm]
       rw [this, ← hj]
       have : j = 0 ∨ j = 1 ∨ j = 2 ∨ j = 3 ∨ j = 4 ∨ j = 5 ∨ j = 6 := by omega
       rcases this with rfl | rfl | rfl | rfl | rfl | rfl | rfl <;> rfl
      go_region_law (refine step_copy_splice rfl (.tmp 146) (.tmp 147) 194 194 rfl 144 rfl (by kernel_rfl) _ _ _ _ _ _ rfl rfl B3 1 (cells [a, b, c, d, e, f, g, h]) 145 (hA.out.2) (cells [a, b, c, d, e, f, g]) rfl (fun _ => ⟨rfl, _, rfl, hcs.out⟩) (by simp [cells]) (by simp [cells, Value.oneCell']) B3 _ (Below.refl _ _) (Nat.le_refl _) ?_; intro w4 hg4 hb4)
      have hw3b := hb4
      have hA4 : Arr w4 B3 145 [a, a, b, c, d, e, f, g] := hg4.out
      have hb3 := HB4.out
      have hx4 : w4.cell? ⟨B3, 4, none⟩ = some (.int .u32 d) := hA4.cell 4 (by simp)
      have hx0 : w4.cell? ⟨B3, 0, none⟩ = some (.int .u32 a) := hA4.cell 0 (by simp)
      have hf4 := hA4.frozen 4
      have hf0 := hA4.frozen 0
      have HA4 := Lib.hid hA4
      have HW4 := Lib.hid hb4
      have HB5 := Lib.hid hb3
      clear hA4 hw3b hb4 hb3 hg4 x0 x1 x2 x3 x4 x5 x6 x7 c0 t1 t2 t3
      go_wp2_with (fail)
      go_roundg (64 - (i + 1))
      case measure =>
       have := HK.out
       omega
      case rel =>
       have hb4 := HW4.out
       have hb3 := HB5.out
       have g1 : Arr w4 (w.heap.size + 1 + 1) 193 w3 := by refine Arr.below (B := B3) ?_ hb4 (by omega); exact hA.out.1
       have g2 : Arr w4 w.heap.size 145 v := by refine Arr.below (B := B3) ?_ hb4 (by omega); exact hA2.out.1
       have g3 : Arr w4 (w.heap.size + 1) 145 (List.replicate 8 0) := by refine Arr.below (B := B3) ?_ hb4 (by omega); exact hA2.out.2
       have m4 := hb4.mono (B' := w.heap.size) (by omega)
       have g4 : Below w.heap.size w w4 := by refine Below.trans ?_ m4; exact ⟨hB.out.1.os, hB.out.1.tape, hB.out.1.output, hB.out.1.size, hB.out.1.block⟩
       have g5 : B3 < w4.heap.size := HA4.out.lt
       refine ⟨i + 1, w3, (o1 + o2) % 4294967296, a, b, c, (d + o1) % 4294967296, e, f, g, by omega, rfl, by go_num, ⟨HW3L.out, HW3W.out, ?_⟩, ?_, ⟨(g1.far (by simp; omega) _).far (by simp; omega) _, ?_⟩, ⟨(g2.far (by simp; omega) _).far (by simp; omega) _, (g3.far (by simp; omega) _).far (by simp; omega) _⟩,
        ⟨(g4.setCell (p := ⟨B3, 4, none⟩) (by simp; omega) _).setCell (p := ⟨B3, 0, none⟩) (by simp; omega) _, by simpa [World.setCell] using g5⟩⟩
       ·rw [← H.out.2.2, stirGo_step i wl _ _ _ _ _ _ _ _ kk hlt HKK.out, ← HW3.out, ← HY.out, ← HO.out.1, ← HO.out.2]
       ·intro x hx
        simp only [List.mem_cons, List.not_mem_nil, or_false] at hx
        omega
       ·rw [show (((d : Int) + (o1 : Int)) % 4294967296) = (((d + o1) % 4294967296 : Nat) : Int) from by omega, show (((o1 : Int) + (o2 : Int)) % 4294967296) = (((o1 + o2) % 4294967296 : Nat) : Int) from by omega]
        exact (HA4.out.set_ 4 _).set_ 0 _
    ·have hltb : decide (i < 64) = false := by simpa using hlt
     obtain rfl : i = 64 := by omega
     have hX : [a, b, c, d, e, f, g, h] = X64 := by rw [← H.out.2.2, stirGo_end]
     obtain ⟨x, hxl⟩ : ∃ x, x = [a, b, c, d, e, f, g, h] := ⟨_, rfl⟩
     have hxlen : x.length = 8 := by rw [hxl]; rfl
     rw [← hxl] at hX
     have hx' := hx.out
     have hAx := hA.out.2
     rw [← hxl] at hx' hAx
     subst hX
     have HX := Lib.hid hxlen
     have HXW := Lib.hid hx'
     have HAX := Lib.hid hAx
     clear hxl hxlen hx' hAx hx hltb hlt H HK
     have hA0 := hA2.out.1
     have hA1 := hA2.out.2
     have HA0 := Lib.hid hA0
     have HA1 := Lib.hid hA1
     clear hA hA2 hA0 hA1
     go_wp2_with (fail)
     go_loopg [19, 159] 8 (fun k _ s159 wq => ∃ (j : Nat) (vl : List Nat), j ≤ 8 ∧ k = 8 - j ∧ s159 = .int .i64 j ∧ Hid (vl.length = 8 ∧ Words vl ∧ ∀ t, vl.getD t 0 = if t < j then (v.getD t 0 + x.getD t 0) % 4294967296 else v.getD t 0) ∧
      Hid (Arr wq w.heap.size 145 vl ∧ Arr wq B3 145 x ∧ Arr wq (w.heap.size + 1) 145 (List.replicate 8 0)) ∧ Hid (Below w.heap.size w wq))
     case atStart =>
      refine ⟨0, v, by omega, rfl, rfl, ⟨HV.out, HVW.out, fun t => by simp⟩, ⟨HA0.out, HAX.out, HA1.out⟩, hB.out.1⟩
     case round =>
      have HB0 := hB
      clear hB
      obtain ⟨j, vl, hj, hk, rfl, HVL, HAA, HBB⟩ := hrel
      have HK := Lib.hid hk
      clear hk
      have hb3 : w.heap.size + 3 ≤ B3 := by have := HB4.out; omega
      by_cases hlt : j < 8
      ·have hltb : decide (j < 8) = true := by simpa using hlt
       obtain ⟨vj, hvj⟩ : ∃ y, y = vl.getD j 0 := ⟨_, rfl⟩
       obtain ⟨xj, hxj⟩ : ∃ y, y = x.getD j 0 := ⟨_, rfl⟩
       have cv := HAA.out.1.cell j (by rw [HVL.out.1]; exact hlt)
       have cx := HAA.out.2.1.cell j (by rw [HX.out]; exact hlt)
       have fv := HAA.out.1.frozen j
       have bv := HVL.out.2.1.at_ j
       have bx := HXW.out.at_ j
       rw [← hvj] at cv bv
       rw [← hxj] at cx bx
       have HVJ := Lib.hid (And.intro hvj hxj)
       clear hvj hxj
       go_upto_region 26 with (fail)
       go_region
       go_wp2_with (fail)
       go_roundg (8 - (j + 1))
       case measure => have := HK.out; omega
       case rel =>
        rw [show (((vj : Int) + (xj : Int)) % 4294967296) = (((vj + xj) % 4294967296 : Nat) : Int) from by omega]
        refine ⟨j + 1, vl.set j ((vj + xj) % 4294967296), by omega, rfl, by go_num, ⟨by simp; exact HVL.out.1, HVL.out.2.1.set_ _ _ (by omega), fun t => ?_⟩, ⟨(HAA.out.1.drewN _).set_ _ _, (HAA.out.2.1.drewN _).far (by simp; omega) _, (HAA.out.2.2.drewN _).far (by simp) _⟩, (below_drewN HBB.out _).setCell (p := ⟨w.heap.size, j, none⟩) (by simp) _⟩
        have h0 := HVL.out.2.2
        rw [List.getD_eq_getElem?_getD, List.getElem?_set]
        by_cases ht : j = t
        ·subst ht
         rw [if_pos rfl, if_pos (by rw [HVL.out.1]; exact hlt), if_pos (by omega), HVJ.out.1, HVJ.out.2, h0 j, if_neg (by omega)]; rfl
        ·rw [if_neg ht, ← List.getD_eq_getElem?_getD, h0 t]
         by_cases h2 : t < j
         ·rw [if_pos h2, if_pos (by omega)]
         ·rw [if_neg h2, if_neg (by omega)]
      ·have hltb : decide (j < 8) = false := by simpa using hlt
       obtain rfl : j = 8 := by omega
       have hi8 : (Try.prog.info? 145).map (·.size) = some (u32a vl).size := by rw [z04, HVL.out.1]; kernel_rfl
       have hone8 : (u32a vl).all (·.oneCell') = true := by simp [u32a]; intro x _; rfl
       have hz8 : (u32a (List.replicate 8 0)).size = (u32a vl).size := by rw [z04, z04, HVL.out.1]; rfl
       have HJ8 := Lib.hid hi8
       have HONE9 := Lib.hid hone8
       have HZ9 := Lib.hid hz8
       clear hi8 hone8 hz8 hltb
       go_wp2_with (first
        | (refine wpList_load_row rfl 145 _ rfl w.heap.size rfl 145 (u32a vl) (0, 0) _ HAA.out.1 Try.underlying145 rfl HJ8.out ?_)
        | (refine wpList_store_row rfl 145 _ _ rfl (w.heap.size + 1) (u32a vl) rfl rfl 145 _ HAA.out.2.2 HJ8.out HZ9.out HONE9.out ?_))
       have hst : vl = stir v p := stir_eq v p vl x HVL.out.1 (by rw [HX64.out, HW.out]) HVL.out.2.2
       have hsz8 : (Try.prog.info? 145).map (·.size) = some (u32a (stir v p)).size := by rw [z04, show (stir v p).length = 8 from by simp [stir]]; exact size8
       subst hst
       exact bodyPost_ret (v := .agg (u32a (stir v p))) (results_cell_row rfl _ _ (w.heap.size + 1) 145 (u32a (stir v p)) (0, 0) _ rfl (setRow_heap wr (w.heap.size + 1) _ _ _ _ HAA.out.2.2) Try.underlying145 rfl hsz8) rfl ⟨rfl, below_setRow HBB.out (by omega) _⟩
end Go.Proofs.Ytcfdplmapdgfmaa.Mine
namespace Go.Proofs.Ytcfdplmapdgfmaa.Mine
open Go Go.Lib Go.RowKit
def Row (w : World) (base : Nat) (e : TypeId) (v : Value) (xs : List Value) : Prop :=
 (v = .slice none 0 0 ∧ xs = []) ∨ ∃ g off cap cur, v = .slice (some ⟨g, off, none⟩) xs.length cap ∧ base ≤ g ∧ w.heap[g]? = some (.cells cur e (0, 0)) ∧ xs.length ≤ cap ∧ cap ≤ maxLen ∧ off + cap ≤ cur.size ∧ (cur.toList.drop off).take xs.length = xs
theorem Row.nil (w : World) (base : Nat) (e : TypeId) : Row w base e (.slice none 0 0) [] := .inl ⟨rfl, rfl⟩
section
variable {w w' : World} {base : Nat} {e : TypeId} {v : Value} {xs : List Value}
theorem Row.lt (h : Row w base e v xs) : ∀ k, v.ownBlock = some k → base ≤ k ∧ k < w.heap.size := by
 intro k hk
 rcases h with ⟨rfl, _⟩ | ⟨g, off, cap, cur, rfl, hb, hg, _⟩
 ·simp [Value.ownBlock] at hk
 ·simp [Value.ownBlock] at hk
  subst hk
  exact ⟨hb, (Array.getElem?_eq_some_iff.1 hg).1⟩
theorem Row.kept (h : Row w base e v xs) (hk : ∀ k, v.ownBlock = some k → w'.heap[k]? = w.heap[k]?) : Row w' base e v xs := by
 rcases h with h | ⟨g, off, cap, cur, rfl, hb, hg, rest⟩
 ·exact .inl h
 ·exact .inr ⟨g, off, cap, cur, rfl, hb, (hk g rfl).trans hg, rest⟩
theorem Row.form (h : Row w base e v xs) : ∃ p c, v = .slice p xs.length c := by
 rcases h with ⟨rfl, rfl⟩ | ⟨g, off, cap, cur, rfl, _⟩
 ·exact ⟨none, 0, rfl⟩
 ·exact ⟨some ⟨g, off, none⟩, cap, rfl⟩
theorem Row.mono {base' : Nat} (h : Row w base e v xs) (hb : base' ≤ base) : Row w base' e v xs := by
 rcases h with h | ⟨g, off, cap, cur, rfl, hb', rest⟩
 ·exact .inl h
 ·exact .inr ⟨g, off, cap, cur, rfl, by omega, rest⟩
end
section
variable {P : Program} (w : World)
theorem run_append_room_off (t u ty e : TypeId) (i : TypeInfo) (ht : P.underlying t = some (.slice e)) (hu : P.underlying u = some .string) (hi : P.info? e = some i) (hs1 : i.size = 1)
  (g off sLen sCap : Nat) (cur : Array Value) (hg : w.heap[g]? = some (.cells cur e (0, 0))) (s : ByteArray)
  (hroom : sLen + s.size ≤ sCap) (hfit : off + sLen + s.size ≤ cur.size) :
  (Builtin.append_ #[t, u] ty #[.slice (some ⟨g, off, none⟩) sLen sCap, .string s]).run P w =
   .ok (.slice (some ⟨g, off, none⟩) (sLen + s.size) sCap) (w.setRow g (cur.toList.take (off + sLen) ++ strCells s ++ cur.toList.drop (off + sLen + s.size)).toArray) := by
 have hf := run_firstCells_string (P := P) w 1 s
 have hst := run_storeCells_at P g (off + sLen) e (strCells s) 0 cur w hg (by simpa [strCells_length] using hfit) (strCells_oneCell s)
 simp only [Nat.add_zero, strCells_length] at hst
 simp [Builtin.append_, run_underlying ht, run_underlying hu, sizeOf, typeInfo, hi, hs1, Builtin.lenOf, hroom, hf, Addr.add_lit, hst]
theorem run_append_row (base : Nat) (t u ty e : TypeId) (i : TypeInfo) (ht : P.underlying t = some (.slice e)) (hu : P.underlying u = some .string) (hi : P.info? e = some i) (hz : i.zero = some (.int .u8 0))
  (hsize : i.size = 1) (hby : i.bytes = 1)
  (v : Value) (xs : List Value) (hown : Row w base e v xs) (s : ByteArray)
  (h63 : xs.length + s.size ≤ maxLen) (hbytes : xs.length + s.size ≤ 140737488355328) (hbase : base ≤ w.heap.size) :
  ∃ v' w', (Builtin.append_ #[t, u] ty #[v, .string s]).run P w = .ok v' w' ∧ Row w' base e v' (xs ++ strCells s) ∧ w.grownBy w' v.ownBlock ∧
   (∀ k, v'.ownBlock = some k → v.ownBlock = some k ∨ w.heap.size ≤ k) := by
 have hsmall : xs.length + s.size ≤ 9223372036854775807 := by simp only [maxLen] at h63; omega
 have hlen : (xs ++ strCells s).length = xs.length + s.size := by rw [List.length_append, strCells_length]
 have grown : ∀ (old : Nat), old < xs.length + s.size → ∀ (row : Option Nat),
   Row (w.drew.alloc (.cells (xs.toArray ++ (strCells s).toArray ++ Builtin.zeroCells (Value.int .u8 0).cells (grownCap w (xs.length + s.size) old e - (xs.length + s.size))) e)) base e
    (.slice (some ⟨w.heap.size, 0, none⟩) (xs.length + s.size) (grownCap w (xs.length + s.size) old e)) (xs ++ strCells s) ∧
   w.grownBy (w.drew.alloc (.cells (xs.toArray ++ (strCells s).toArray ++ Builtin.zeroCells (Value.int .u8 0).cells (grownCap w (xs.length + s.size) old e - (xs.length + s.size))) e)) row := by
  intro old ho row
  have hge := grownCap_ge w (xs.length + s.size) old e
  have hcm : grownCap w (xs.length + s.size) old e ≤ maxLen := grownCap_le_maxLen w (xs.length + s.size) old e h63
  refine ⟨.inr ⟨w.heap.size, 0, _, _, by rw [hlen], hbase, heap_alloc_new w.drew _, by omega, hcm, ?_, ?_⟩, ⟨rfl, rfl, rfl, by simp, fun k hk hn => (World.grownBy_alloc w.drew _ row).block k hk hn⟩⟩
  ·have hz1 : (Value.int IntKind.u8 0).cells.size = 1 := rfl
   simp only [Array.size_append, List.size_toArray, size_zeroCells, hz1, strCells_length]
   omega
  ·simp only [Array.toList_append, List.append_assoc, List.drop_zero]
   rw [← List.append_assoc]
   exact List.take_left
 rcases hown with ⟨rfl, rfl⟩ | ⟨g, off, cap, cur, rfl, hbg, hg, hnc, hcm, hcs, htake⟩
 ·by_cases hm : s.size = 0
  ·have hn : strCells s = [] := List.eq_nil_of_length_eq_zero (by rw [strCells_length]; exact hm)
   refine ⟨.slice none 0 0, w, ?_, by rw [hn]; exact Row.nil w base e, ⟨rfl, rfl, rfl, Nat.le_refl _, fun _ _ _ => rfl⟩, by simp [Value.ownBlock]⟩
   have hf := run_firstCells_string (P := P) w 1 s
   rw [hm] at hf
   simp [Builtin.append_, run_underlying ht, run_underlying hu, sizeOf, typeInfo, hi, hsize, Builtin.lenOf, hm, hf]
  ·have hr := run_append_nil_string (P := P) w t u ty e i (.int .u8 0) ht hu hi hz s (by omega) (by simp at hsmall; omega) (by rw [hby]; simp at hbytes; omega)
   have hgr := grown 0 (by omega) (Value.ownBlock (.slice none 0 0))
   simp only [List.length_nil, Nat.zero_add, List.nil_append, Array.empty_append] at hgr ⊢
   have e1 : (s.data.map fun b => Value.int .u8 b.toNat) = (strCells s).toArray := by
    apply Array.ext'
    simp [strCells]
   rw [e1] at hr
   exact ⟨_, _, hr, hgr.1, hgr.2, by intro k hk; simp [Value.ownBlock] at hk; exact .inr (by omega)⟩
 ·by_cases hroom : xs.length + s.size ≤ cap
  ·have hr := run_append_room_off (P := P) w t u ty e i ht hu hi hsize g off xs.length cap cur hg s hroom (by omega)
   refine ⟨_, _, hr, .inr ⟨g, off, cap, _, by rw [hlen], hbg, setRow_heap w g cur _ e _ hg, by omega, hcm, ?_, ?_⟩, ⟨rfl, rfl, rfl, by simp, fun k _ hk => setRow_other w g k _ (fun e => hk (by simp [Value.ownBlock, e]))⟩, by simp [Value.ownBlock]⟩
   ·simp only [List.size_toArray, List.length_append, List.length_take, List.length_drop, Array.length_toList, strCells_length]
    omega
   ·have hl1 : (cur.toList.take (off + xs.length)).length = off + xs.length := by rw [List.length_take, show cur.toList.length = cur.size from Array.length_toList]; omega
    have hd : (cur.toList.take (off + xs.length)).drop off = xs := by
     rw [List.drop_take, show off + xs.length - off = xs.length from by omega]; exact htake
    rw [List.append_assoc, List.drop_append_of_le_length (show off ≤ (cur.toList.take (off + xs.length)).length from by rw [hl1]; omega), hd, ← List.append_assoc]
    exact List.take_left
  ·have holds : ∀ j u, xs[j]? = some u → w.cell? ((⟨g, off, none⟩ : Addr).add j) = some u := by
    intro j u hu
    rw [Addr.add_lit, cell_of_row w g (off + j) cur e (0, 0) hg]
    rw [← htake, List.getElem?_take] at hu
    split at hu
    ·rw [List.getElem?_drop] at hu; simpa using hu
    ·cases hu
   have hr := run_append_grow_string (P := P) w t u ty e i (.int .u8 0) ht hu hi hz ⟨g, off, none⟩ xs.length cap xs (by rw [hsize]; simp) holds s (by omega) (by omega) (by rw [hby]; exact growslice_fits (by omega) (by omega))
   have hgr := grown cap (by omega) (Value.ownBlock (.slice (some ⟨g, off, none⟩) xs.length cap))
   exact ⟨_, _, hr, hgr.1, hgr.2, by intro k hk; simp [Value.ownBlock] at hk; exact .inr (by omega)⟩
theorem wpList_append_row {ops : Array Oper} {rest : List Oper} {o : Oper} {a : Act} {Q : Exit → Act → World → Prop} (hgd : o.guard = none) (sl x : Operand) (t u : TypeId)
  (ho : o.op = .call { callee := .builtin .append, args := #[sl, x], argTypes := #[t, u] })
  (base : Nat) (e : TypeId) (i : TypeInfo) (ht : P.underlying t = some (.slice e)) (hu : P.underlying u = some .string) (hi : P.info? e = some i) (hz : i.zero = some (.int .u8 0))
  (hsize : i.size = 1) (hby : i.bytes = 1)
  (v : Value) (xs : List Value) (hs : a.eval sl = v) (hown : Row w base e v xs) (s : ByteArray) (hx : a.eval x = .string s)
  (h63 : xs.length + s.size ≤ maxLen) (hbytes : xs.length + s.size ≤ 140737488355328) (hbase : base ≤ w.heap.size)
  (h : ∀ v' w', Row w' base e v' (xs ++ strCells s) → w.grownBy w' v.ownBlock → (∀ k, v'.ownBlock = some k → v.ownBlock = some k ∨ w.heap.size ≤ k) → wpList P ops Q rest (a.put o.dst v') w') : wpList P ops Q (o :: rest) a w := by
 refine wpList_plain hgd fun K hK => ?_
 obtain ⟨v', w', hr, h2, h3, h4⟩ := run_append_row (P := P) w base t u o.type e i ht hu hi hz hsize hby v xs hown s h63 hbytes hbase
 unfold Oper.wp execOp
 simp only [ho, resolve, invoke, builtin, Sem.run_bind, Sem.run_pure, Result.andThen_ok, List.map_toArray, List.map_cons, List.map_nil, hs, hx, hr]
 exact hK _ _ (h v' w' h2 h3 h4)
end
end Go.Proofs.Ytcfdplmapdgfmaa.Mine
set_option linter.unusedVariables false
set_option linter.unusedSimpArgs false
namespace Go.Proofs.Ytcfdplmapdgfmaa.Mine
open Go.RowKit Go.Proofs.YtcfdplmapdgfmaaW.PrintWords
theorem strCells_u8s (s : ByteArray) : Lib.strCells s = u8s (bs s) := by simp [Lib.strCells, u8s, bs]
def eat (v p : List Nat) : List Nat × List Nat := if _h : 64 ≤ p.length then eat (stir v (p.take 64)) (p.drop 64) else (v, p)
termination_by p.length
decreasing_by simp; omega
theorem eat_step (v p : List Nat) (h : 64 ≤ p.length) : eat v p = eat (stir v (p.take 64)) (p.drop 64) := by rw [eat, dif_pos h]
theorem eat_end (v p : List Nat) (h : p.length < 64) : eat v p = (v, p) := by rw [eat, dif_neg (by omega)]
theorem stir_length (v p : List Nat) : (stir v p).length = 8 := by simp [stir]
theorem stir_words (v p : List Nat) : Words (stir v p) := by
 intro x hx
 simp only [stir, List.mem_map] at hx
 obtain ⟨j, _, rfl⟩ := hx
 omega
structure St (w : World) (base b : Nat) (v held : List Nat) (many : Nat) (hv : Value) : Prop where
 row : w.heap[b]? = some (.cells (u32a v ++ #[hv, .int .u64 (many : Int)]) 169 (0, 0))
 len : v.length = 8
 words : Words v
 bytes : ∀ x ∈ held, x < 256
 held : Row w base 5 hv (u8s held)
 low : base ≤ b
 apart : ∀ k, hv.ownBlock = some k → k ≠ b
section
variable {w w' : World} {base b : Nat} {v held : List Nat} {many : Nat} {hv : Value}
theorem St.lt (h : St w base b v held many hv) : b < w.heap.size := (Array.getElem?_eq_some_iff.1 h.row).1
theorem St.cell (h : St w base b v held many hv) (j : Nat) : w.cell? ⟨b, j, none⟩ = (u32a v ++ #[hv, .int .u64 (many : Int)])[j]? := cell_of_row w b j _ _ _ h.row
theorem St.c8 (h : St w base b v held many hv) : w.cell? ⟨b, 8, none⟩ = some hv := by
 rw [h.cell, Array.getElem?_append_right (by rw [z04, h.len]; omega), z04, h.len]; rfl
theorem St.c9 (h : St w base b v held many hv) : w.cell? ⟨b, 9, none⟩ = some (.int .u64 (many : Int)) := by
 rw [h.cell, Array.getElem?_append_right (by rw [z04, h.len]; omega), z04, h.len]; rfl
theorem St.fr (h : St w base b v held many hv) (j : Nat) : w.frozen? ⟨b, j, none⟩ = false := frozen_of_row w b j _ _ h.row
theorem St.range (h : St w base b v held many hv) : w.rangeAt b 0 (cells v) := by
 intro j x hx
 have hj : j < 8 := by
  have := (List.getElem?_eq_some_iff.1 hx).1
  simp [cells] at this
  have := h.len
  omega
 rw [h.cell, Nat.zero_add, Array.getElem?_append_left (by rw [z04, h.len]; exact hj), u32a_get v j (by rw [h.len]; exact hj)]
 rw [← hx]
 simp [cells, List.getElem?_eq_getElem (show j < v.length from by rw [h.len]; exact hj), List.getD_eq_getElem?_getD]
theorem St.below (h : St w base b v held many hv) {B : Nat} (hb : Below B w w') (hB : w.heap.size ≤ B) : St w' base b v held many hv :=
 ⟨(hb.block b (by have := h.lt; omega)).trans h.row, h.len, h.words, h.bytes, h.held.kept fun k hk => hb.block k (by have := (h.held.lt k hk).2; omega), h.low, h.apart⟩
theorem St.form (h : St w base b v held many hv) : ∃ p c, hv = .slice p held.length c := by
 obtain ⟨p, c, h1⟩ := h.held.form
 exact ⟨p, c, by rw [h1, z0d]⟩
theorem St.filled (h : St w base b v held many hv) (h1 : 0 < held.length) : ∃ g off c, hv = .slice (some ⟨g, off, none⟩) held.length c ∧ held.length ≤ c ∧ c ≤ maxLen ∧ g ≠ b ∧ base ≤ g ∧ g < w.heap.size ∧
  ∀ j, j < held.length → w.cell? ((⟨g, off, none⟩ : Addr).add j) = some (.int .u8 ((held.getD j 0 : Nat) : Int)) := by
 rcases h.held with ⟨_, h2⟩ | ⟨g, off, c, cur, hv', hb, hg, hc, hm, ho, ht⟩
 ·have := congrArg List.length h2
  rw [z0d] at this
  simp at this; subst this; simp at h1
 ·rw [z0d] at hv' hc ht
  refine ⟨g, off, c, hv', hc, hm, h.apart g (by rw [hv']; rfl), hb, (Array.getElem?_eq_some_iff.1 hg).1, fun j hj => ?_⟩
  rw [Addr.add_lit, cell_of_row w g (off + j) cur _ _ hg]
  have e1 : (u8s held)[j]? = some (.int .u8 ((held.getD j 0 : Nat) : Int)) := by
   simp [u8s, List.getElem?_eq_getElem hj, List.getD_eq_getElem?_getD]
  rw [← ht, List.getElem?_take, if_pos hj, List.getElem?_drop] at e1
  simpa using e1
theorem below_of_drew {B : Nat} (h : Below B w.drew w') : Below B w w' := ⟨h.os, h.tape, h.output, h.size, h.block⟩
theorem St.cellv (h : St w base b v held many hv) (j : Nat) (hj : j < 8) : w.cell? ⟨b, j, none⟩ = some (.int .u32 ((v.getD j 0 : Nat) : Int)) := by
 rw [h.cell, Array.getElem?_append_left (by rw [z04, h.len]; exact hj), u32a_get v j (by rw [h.len]; exact hj)]
theorem St.setv (h : St w base b v held many hv) (j x : Nat) (hj : j < 8) (hx : x < 4294967296) : St (w.setCell ⟨b, j, none⟩ (.int .u32 (x : Int))) base b (v.set j x) held many hv := by
 refine ⟨?_, by rw [List.length_set]; exact h.len, h.words.set_ _ _ hx, h.bytes, h.held.kept fun k hk => Below.heap_setCell w _ _ k (h.apart k hk), h.low, h.apart⟩
 rw [heap_setCell_same w b j _ _ _ h.row]
 congr 2
 apply Array.ext'
 rw [Array.toList_setIfInBounds, Array.toList_append, List.set_append_left _ _ (by rw [Array.length_toList, z04, h.len]; exact hj), Array.toList_append]
 congr 1
 simp [u32a, List.map_set]
theorem u32a_lit (a b c d e f g h : Nat) : u32a [a, b, c, d, e, f, g, h] = #[.int .u32 (a : Int), .int .u32 (b : Int), .int .u32 (c : Int), .int .u32 (d : Int), .int .u32 (e : Int), .int .u32 (f : Int), .int .u32 (g : Int), .int .u32 (h : Int)] := rfl
theorem St.set8 {a b' c d e f g k : Nat} (h : St w base b v held many hv) (hw : Words [a, b', c, d, e, f, g, k]) :
  St ((((((((w.setCell ⟨b, 0, none⟩ (.int .u32 (a : Int))).setCell ⟨b, 1, none⟩ (.int .u32 (b' : Int))).setCell ⟨b, 2, none⟩ (.int .u32 (c : Int))).setCell ⟨b, 3, none⟩ (.int .u32 (d : Int))).setCell ⟨b, 4, none⟩ (.int .u32 (e : Int))).setCell ⟨b, 5, none⟩ (.int .u32 (f : Int))).setCell ⟨b, 6, none⟩ (.int .u32 (g : Int))).setCell ⟨b, 7, none⟩ (.int .u32 (k : Int))) base b [a, b', c, d, e, f, g, k] held many hv := by
 have h1 := (((((((h.setv 0 a (by omega) (hw a (by simp))).setv 1 b' (by omega) (hw b' (by simp))).setv 2 c (by omega) (hw c (by simp))).setv 3 d (by omega) (hw d (by simp))).setv 4 e (by omega) (hw e (by simp))).setv 5 f (by omega) (hw f (by simp))).setv 6 g (by omega) (hw g (by simp))).setv 7 k (by omega) (hw k (by simp))
 obtain ⟨v0, v1, v2, v3, v4, v5, v6, v7, rfl⟩ := list8 v h.len
 exact h1
theorem St.set9 (h : St w base b v held many hv) (m : Nat) : St (w.setCell ⟨b, 9, none⟩ (.int .u64 (m : Int))) base b v held m hv := by
 refine ⟨?_, h.len, h.words, h.bytes, h.held.kept fun k hk => Below.heap_setCell w _ _ k (h.apart k hk), h.low, h.apart⟩
 rw [heap_setCell_same w b 9 _ _ _ h.row]
 congr 2
 apply Array.ext'
 rw [Array.toList_setIfInBounds, Array.toList_append, List.set_append_right _ _ (by rw [Array.length_toList, z04, h.len]; omega)]
 rw [Array.length_toList, z04, h.len]
 simp
theorem St.grow (h : St w base b v held many hv) {w1 : World} {held' : List Nat} {hv' : Value} (hg : w.grownBy w1 hv.ownBlock) (hr : Row w1 base 5 hv' (u8s held')) (hb : ∀ x ∈ held', x < 256)
  (ho : ∀ k, hv'.ownBlock = some k → hv.ownBlock = some k ∨ w.heap.size ≤ k) : St (w1.setCell ⟨b, 8, none⟩ hv') base b v held' many hv' := by
 have hap : ∀ k, hv'.ownBlock = some k → k ≠ b := by
  intro k hk
  rcases ho k hk with h1 | h1
  ·exact h.apart k h1
  ·have := h.lt; omega
 have hrow : w1.heap[b]? = some (.cells (u32a v ++ #[hv, .int .u64 (many : Int)]) 169 (0, 0)) :=
  (hg.block b h.lt (fun e => h.apart b e.symm rfl)).trans h.row
 refine ⟨?_, h.len, h.words, hb, hr.kept fun k hk => Below.heap_setCell w1 _ _ k (hap k hk), h.low, hap⟩
 rw [heap_setCell_same w1 b 8 _ _ _ hrow]
 congr 2
 apply Array.ext'
 rw [Array.toList_setIfInBounds, Array.toList_append, List.set_append_right _ _ (by rw [Array.length_toList, z04, h.len]; omega)]
 rw [Array.length_toList, z04, h.len]
 simp
theorem St.cut {g off n c : Nat} (h : St w base b v held many (.slice (some ⟨g, off, none⟩) n c)) (hn : n = held.length) (h64 : 64 ≤ n) (hc : c ≠ 64) :
  St (w.setCell ⟨b, 8, none⟩ (.slice (some ⟨g, off + 64, none⟩) (n - 64) (c - 64))) base b v (held.drop 64) many (.slice (some ⟨g, off + 64, none⟩) (n - 64) (c - 64)) := by
 refine h.grow (w1 := w) ⟨rfl, rfl, rfl, Nat.le_refl _, fun _ _ _ => rfl⟩ ?_ (fun x hx => h.bytes x (List.mem_of_mem_drop hx)) (fun k hk => .inl hk)
 rcases h.held with ⟨h1, _⟩ | ⟨g', off', c', cur, hv', hb, hg, hc', hm, ho, ht⟩
 ·cases h1
 ·simp only [Value.slice.injEq, Option.some.injEq, Addr.mk.injEq] at hv'
  obtain ⟨⟨rfl, rfl, _⟩, hn', rfl⟩ := hv'
  rw [z0d] at hc' ht
  have e1 : u8s (held.drop 64) = (u8s held).drop 64 := by simp [u8s]
  have e2 : (u8s (held.drop 64)).length = n - 64 := by rw [z0d, List.length_drop, hn]
  refine .inr ⟨g, off + 64, c - 64, cur, by rw [e2], hb, hg, by rw [e2]; omega, by omega, by omega, ?_⟩
  rw [e2, e1, ← ht, List.drop_take, List.drop_drop, hn]
theorem St.cut0 {g off : Nat} (h : St w base b v held many (.slice (some ⟨g, off, none⟩) 64 64)) (hn : 64 = held.length) :
  St (w.setCell ⟨b, 8, none⟩ (.slice (some ⟨g, off, none⟩) 0 0)) base b v (held.drop 64) many (.slice (some ⟨g, off, none⟩) 0 0) := by
 refine h.grow (w1 := w) ⟨rfl, rfl, rfl, Nat.le_refl _, fun _ _ _ => rfl⟩ ?_ (fun x hx => h.bytes x (List.mem_of_mem_drop hx)) (fun k hk => .inl hk)
 rw [List.drop_eq_nil_of_le (by omega)]
 rcases h.held with ⟨h1, _⟩ | ⟨g', off', c', cur, hv', hb, hg, hc', hm, ho, ht⟩
 ·cases h1
 ·simp only [Value.slice.injEq, Option.some.injEq, Addr.mk.injEq] at hv'
  obtain ⟨⟨rfl, rfl, _⟩, hn', rfl⟩ := hv'
  exact .inr ⟨g, off, 0, cur, rfl, hb, hg, Nat.le_refl _, by omega, by omega, rfl⟩
theorem St.mono {base' : Nat} (h : St w base b v held many hv) (hb : base' ≤ base) : St w base' b v held many hv :=
 ⟨h.row, h.len, h.words, h.bytes, h.held.mono hb, by have := h.low; omega, h.apart⟩
end
set_option maxRecDepth 100000 in
theorem new_calls (w : World) :
  Calls Try.prog 88 #[] w fun e w' => ∃ b, e = .returned (.pointer (some ⟨b, 0, none⟩)) ∧ w.heap.size ≤ b ∧ St w' b b begin8 [] 0 (.slice none 0 0) ∧ Below w.heap.size w w' := by
 go_enter Try.func88, Try.ntmps88
 go_wp2_with (first | (refine z0k rfl 169 _ rfl (u32a begin8 ++ #[.slice none 0 0, .int .u64 0]) (by kernel_rfl) ?_) | (go_at_call 101; refine (begin_calls _).mono ?_; rintro e w2 ⟨rfl, hb2⟩))
 go_ret
 exact ⟨w2.heap.size, rfl, hb2.size, ⟨heap_alloc_new w2 _, rfl, by unfold Words; decide, by simp, Row.nil _ _ _, Nat.le_refl _, by simp [Value.ownBlock]⟩, hb2.alloc hb2.size _⟩
end Go.Proofs.Ytcfdplmapdgfmaa.Mine
