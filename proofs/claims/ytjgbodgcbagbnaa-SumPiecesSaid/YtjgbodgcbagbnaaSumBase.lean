/- Words of chapter 1: SHA-256 on lists of numbers. No program in sight. -/
import Derived.Test.YtjgbodgcbagbnaaBase
import Derived.Laws.BitsAllLaws
namespace Go.Proofs.Ytjgbodgcbagbnaa.Mine
open Go.RowKit Go.Proofs.YtjgbodgcbagbnaaW.PrintWords

/-- A word turned to the left. -/
def rotl (x n : Nat) : Nat := (x * 2 ^ n % 4294967296) ||| (x / 2 ^ (32 - n))
theorem or_lt32 {a b : Nat} (ha : a < 4294967296) (hb : b < 4294967296) : a ||| b < 4294967296 := Nat.or_lt_two_pow (n := 32) ha hb
theorem and_lt32 {a b : Nat} (ha : a < 4294967296) : a &&& b < 4294967296 := Nat.and_lt_two_pow (n := 32) b ha |> fun h => by simpa [Nat.and_comm] using h
theorem rotl_lt (x n : Nat) (hx : x < 4294967296) : rotl x n < 4294967296 := or_lt32 (by omega) (Nat.lt_of_le_of_lt (Nat.div_le_self _ _) hx)
theorem rotl_sum (x n : Nat) (hx : x < 4294967296) (h2 : n ≤ 32) : rotl x n = x * 2 ^ n % 4294967296 + x / 2 ^ (32 - n) := by
  unfold rotl
  have hp : (4294967296 : Nat) = 2 ^ (32 - n) * 2 ^ n := by rw [← Nat.pow_add, show 32 - n + n = 32 from by omega]
  have e1 : x * 2 ^ n % 4294967296 = 2 ^ n * (x % 2 ^ (32 - n)) := by
    rw [hp, Nat.mul_comm x, Nat.mul_comm (2 ^ (32 - n)), Nat.mul_mod_mul_left]
  have e2 : x / 2 ^ (32 - n) < 2 ^ n := by
    rw [Nat.div_lt_iff_lt_mul (Nat.pow_pos (by omega)), Nat.mul_comm, ← hp]
    exact hx
  rw [e1, Nat.two_pow_add_eq_or_of_lt e2]
/-- Bytes into sixteen words. -/
def fill : List Nat → List Nat → Nat → List Nat
  | wl, [], _ => wl
  | wl, c :: cs, i => fill (wl.set (i / 4) ((wl.getD (i / 4) 0 * 256 % 4294967296) ||| c)) cs (i + 1)
def Words (l : List Nat) : Prop := ∀ x ∈ l, x < 4294967296
theorem Words.set_ {l : List Nat} (h : Words l) (i v : Nat) (hv : v < 4294967296) : Words (l.set i v) := by
  intro x hx
  rcases List.mem_or_eq_of_mem_set hx with h1 | h1
  · exact h x h1
  · omega
theorem Words.at_ {l : List Nat} (h : Words l) (i : Nat) : l.getD i 0 < 4294967296 := by
  rw [List.getD_eq_getElem?_getD]
  by_cases hi : i < l.length
  · rw [List.getElem?_eq_getElem hi]; exact h _ (List.getElem_mem hi)
  · rw [List.getElem?_eq_none (by omega)]; simp
theorem fill_length : ∀ (cs wl : List Nat) (i : Nat), (fill wl cs i).length = wl.length
  | [], wl, i => rfl
  | c :: cs, wl, i => by rw [fill, fill_length cs]; simp
theorem fill_words : ∀ (cs wl : List Nat) (i : Nat), Words wl → (∀ c ∈ cs, c < 256) → Words (fill wl cs i)
  | [], wl, i, h, _ => h
  | c :: cs, wl, i, h, hc => by
    rw [fill]
    exact fill_words cs _ _ (h.set_ _ _ (or_lt32 (by omega) (by have := hc c (by simp); omega))) fun x hx => hc x (by simp [hx])
/-- The numbers of the 64 rounds; the words ahead of all bytes. -/
def salts : List Nat := [1116352408, 1899447441, 3049323471, 3921009573, 961987163, 1508970993, 2453635748, 2870763221, 3624381080, 310598401, 607225278, 1426881987, 1925078388, 2162078206, 2614888103, 3248222580, 3835390401, 4022224774, 264347078, 604807628, 770255983, 1249150122, 1555081692, 1996064986, 2554220882, 2821834349, 2952996808, 3210313671, 3336571891, 3584528711, 113926993, 338241895, 666307205, 773529912, 1294757372, 1396182291, 1695183700, 1986661051, 2177026350, 2456956037, 2730485921, 2820302411, 3259730800, 3345764771, 3516065817, 3600352804, 4094571909, 275423344, 430227734, 506948616, 659060556, 883997877, 958139571, 1322822218, 1537002063, 1747873779, 1955562222, 2024104815, 2227730452, 2361852424, 2428436474, 2756734187, 3204031479, 3329325298]
def begin8 : List Nat := [1779033703, 3144134277, 1013904242, 2773480762, 1359893119, 2600822924, 528734635, 1541459225]
/-! the rounds -/
def small (a : Nat) : Nat := rotl a 25 ^^^ rotl a 14 ^^^ (a / 8)
def great (b : Nat) : Nat := rotl b 15 ^^^ rotl b 13 ^^^ (b / 1024)
def sig1 (e : Nat) : Nat := rotl e 26 ^^^ rotl e 21 ^^^ rotl e 7
def sig0 (a : Nat) : Nat := rotl a 30 ^^^ rotl a 19 ^^^ rotl a 10
def choose (e f g : Nat) : Nat := (e &&& f) ||| ((4294967295 - e) &&& g)
def most (a b c : Nat) : Nat := (a &&& b) ^^^ (a &&& c) ^^^ (b &&& c)
/-- The ring of sixteen words, ahead of round i. -/
def roundW (wl : List Nat) (i : Nat) : List Nat :=
  if 16 ≤ i then wl.set (i % 16) ((wl.getD (i % 16) 0 + (small (wl.getD ((i + 1) % 16) 0) + wl.getD ((i + 9) % 16) 0 + great (wl.getD ((i + 14) % 16) 0))) % 4294967296) else wl
def one (e f g h k wi : Nat) : Nat := (h + k + wi + choose e f g + sig1 e) % 4294967296
def two (a b c : Nat) : Nat := (most a b c + sig0 a) % 4294967296
def stepX (k y : Nat) (x : List Nat) : List Nat :=
  match x with
  | [a, b, c, d, e, f, g, h] => [(one e f g h k y + two a b c) % 4294967296, a, b, c, (d + one e f g h k y) % 4294967296, e, f, g]
  | _ => x
theorem stepX_eq (k y a b c d e f g h : Nat) : stepX k y [a, b, c, d, e, f, g, h] = [(one e f g h k y + two a b c) % 4294967296, a, b, c, (d + one e f g h k y) % 4294967296, e, f, g] := by rw [stepX]
def stirGo : List Nat → Nat → List Nat → List Nat → List Nat
  | [], _, _, x => x
  | k :: ks, i, wl, x => stirGo ks (i + 1) (roundW wl i) (stepX k ((roundW wl i).getD (i % 16) 0) x)
def stir (v p : List Nat) : List Nat :=
  (List.range 8).map fun j => (v.getD j 0 + (stirGo salts 0 (fill (List.replicate 16 0) p 0) v).getD j 0) % 4294967296
theorem xor3_lt {a b c : Nat} (ha : a < 4294967296) (hb : b < 4294967296) (hc : c < 4294967296) : a ^^^ b ^^^ c < 4294967296 := xor_lt32 (xor_lt32 ha hb) hc
theorem small_lt (a : Nat) (h : a < 4294967296) : small a < 4294967296 := xor3_lt (rotl_lt _ _ h) (rotl_lt _ _ h) (by omega)
theorem great_lt (a : Nat) (h : a < 4294967296) : great a < 4294967296 := xor3_lt (rotl_lt _ _ h) (rotl_lt _ _ h) (by omega)
theorem sig1_lt (a : Nat) (h : a < 4294967296) : sig1 a < 4294967296 := xor3_lt (rotl_lt _ _ h) (rotl_lt _ _ h) (rotl_lt _ _ h)
theorem sig0_lt (a : Nat) (h : a < 4294967296) : sig0 a < 4294967296 := xor3_lt (rotl_lt _ _ h) (rotl_lt _ _ h) (rotl_lt _ _ h)
end Go.Proofs.Ytjgbodgcbagbnaa.Mine
