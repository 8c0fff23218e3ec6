/- Plain words: a text's bytes as numbers; numbers of chapter 2. No program in sight. -/
import Derived.Test.YtcfdplmapdgfmaaWWords
import Derived.Lib.Strings
namespace Go.Proofs.Ytcfdplmapdgfmaa.Mine
open Go.RowKit Go.Proofs.YtcfdplmapdgfmaaW.PrintWords

/-- A text's bytes as numbers. -/
def bs (s : ByteArray) : List Nat := s.data.toList.map UInt8.toNat
theorem bs_length (s : ByteArray) : (bs s).length = s.size := by simp [bs]
theorem bs_lt (s : ByteArray) : ∀ c ∈ bs s, c < 256 := by
  intro c hc
  simp only [bs, List.mem_map] at hc
  obtain ⟨b, _, rfl⟩ := hc
  exact b.toNat_lt
theorem bs_take (s : ByteArray) (i : Nat) (h : i < s.size) : ∃ c, c < 256 ∧ (bs s).take (i + 1) = (bs s).take i ++ [c] ∧ ((s.data.toList.getD i 0).toNat = c) := by
  have hl : i < (bs s).length := by rw [bs_length]; exact h
  refine ⟨(bs s)[i], bs_lt s _ (List.getElem_mem hl), List.take_succ_eq_append_getElem hl, ?_⟩
  have h2 : i < s.data.toList.length := by simpa [bs] using hl
  simp [bs, List.getD_eq_getElem?_getD, List.getElem?_eq_getElem h2]
theorem bs_drop (s : ByteArray) (i : Nat) (h : i < s.size) : ∃ c, c < 256 ∧ (bs s).drop i = c :: (bs s).drop (i + 1) ∧ ((s.data.toList.getD i 0).toNat = c) := by
  have hl : i < (bs s).length := by rw [bs_length]; exact h
  refine ⟨(bs s)[i], bs_lt s _ (List.getElem_mem hl), List.drop_eq_getElem_cons hl, ?_⟩
  have h2 : i < s.data.toList.length := by simpa [bs] using hl
  simp [bs, List.getD_eq_getElem?_getD, List.getElem?_eq_getElem h2]

theorem int_eq {k : IntKind} {a b : Int} (h : a = b) : Value.int k a = Value.int k b := by rw [h]
theorem ret1 {k : IntKind} {a b : Int} (h : a = b) : Ending.returned (.int k a) = .returned (.int k b) := by rw [h]
theorem ret3 {k1 k2 k3 : IntKind} {a b c a' b' c' : Int} (h1 : a = a') (h2 : b = b') (h3 : c = c') : Ending.returned (.tuple #[.int k1 a, .int k2 b, .int k3 c]) = .returned (.tuple #[.int k1 a', .int k2 b', .int k3 c']) := by rw [h1, h2, h3]

/-- code.Unnum from byte i on, the number so far being n: number, how many bytes, error. -/
def unnumGo : List Nat → Nat → Nat → Nat × Nat × Nat
  | [], i, _ => if 9 ≤ i then (0, 0, 6) else (0, 0, 4)
  | c :: l, i, n => if i = 9 then (0, 0, 6) else if c < 128 then (n * 128 + c, i + 1, 0) else unnumGo l (i + 1) (n * 128 + (c - 128) + 1)
def unnum (l : List Nat) : Nat × Nat × Nat := unnumGo l 0 0


/-! the check of chapter 2 -/
def crcBit (r : Nat) : Nat := (r * 2 % 4294967296) ^^^ (79764919 * (r / 2147483648))
def crcBits : Nat → Nat → Nat
  | 0, r => r
  | k + 1, r => crcBits k (crcBit r)
def crcByte (r c : Nat) : Nat := crcBits 8 (r ^^^ (c * 16777216))
def crcGo (l : List Nat) (r : Nat) : Nat := l.foldl crcByte r
def crc (l : List Nat) : Nat := crcGo l 4294967295 ^^^ 4294967295
theorem xor_lt32 {a b : Nat} (ha : a < 4294967296) (hb : b < 4294967296) : a ^^^ b < 4294967296 := Nat.xor_lt_two_pow (n := 32) ha hb
theorem crcBit_lt (r : Nat) (h : r < 4294967296) : crcBit r < 4294967296 := xor_lt32 (by omega) (by omega)
theorem crcBits_lt (k : Nat) : ∀ r, r < 4294967296 → crcBits k r < 4294967296 := by
  induction k with
  | zero => intro r h; exact h
  | succ k ih => intro r h; exact ih _ (crcBit_lt r h)
theorem crcByte_lt (r c : Nat) (h : r < 4294967296) (hc : c < 256) : crcByte r c < 4294967296 := crcBits_lt 8 _ (xor_lt32 h (by omega))
theorem crcGo_lt (l : List Nat) : ∀ r, r < 4294967296 → (∀ c ∈ l, c < 256) → crcGo l r < 4294967296 := by
  induction l with
  | nil => intro r h _; exact h
  | cons c l ih => intro r h hl; exact ih _ (crcByte_lt r c h (hl c (by simp))) fun x hx => hl x (by simp [hx])
theorem crc_lt (l : List Nat) (hl : ∀ c ∈ l, c < 256) : crc l < 4294967296 := xor_lt32 (crcGo_lt l _ (by omega) hl) (by omega)

/-! texts and lists of numbers -/
def sb (l : List Nat) : ByteArray := ⟨(l.map UInt8.ofNat).toArray⟩
theorem map_ofNat_toNat (l : List UInt8) : (l.map UInt8.toNat).map UInt8.ofNat = l := by
  rw [List.map_map]
  conv => rhs; rw [← List.map_id l]
  exact List.map_congr_left fun b _ => by simp
theorem map_toNat_ofNat : ∀ (l : List Nat), (∀ c ∈ l, c < 256) → (l.map UInt8.ofNat).map UInt8.toNat = l
  | [], _ => rfl
  | c :: l, h => by
    have hc : c < 256 := h c (by simp)
    simp only [List.map_cons]
    rw [map_toNat_ofNat l fun x hx => h x (by simp [hx])]
    congr 1
    rw [UInt8.toNat_ofNat']
    omega
theorem bs_sb (l : List Nat) (h : ∀ c ∈ l, c < 256) : bs (sb l) = l := by
  unfold bs sb
  exact map_toNat_ofNat l h
theorem sb_bs (s : ByteArray) : sb (bs s) = s := by
  unfold bs sb
  rw [map_ofNat_toNat]
theorem sb_append (a b : List Nat) : sb (a ++ b) = sb a ++ sb b := by
  apply ByteArray.ext
  simp [sb]
theorem sb_size (l : List Nat) : (sb l).size = l.length := by simp [sb, ByteArray.size]
theorem bs_append (a b : ByteArray) : bs (a ++ b) = bs a ++ bs b := by simp [bs]
theorem bs_inj {a b : ByteArray} (h : bs a = bs b) : a = b := by rw [← sb_bs a, ← sb_bs b, h]
theorem bs_extract (s : ByteArray) (i j : Nat) : bs (s.extract i j) = ((bs s).drop i).take (j - i) := by
  simp [bs, List.map_take, List.map_drop, List.extract_eq_take_drop]
theorem bs_eq_iff {a b : ByteArray} : bs a = bs b ↔ a = b := ⟨bs_inj, fun h => by rw [h]⟩
theorem sb_eq (s : ByteArray) (l : List Nat) (h : bs s = l) : s = sb l := by rw [← h, sb_bs]

theorem toL (s : ByteArray) : s.toList = s.data.toList := Lib.toList_data s
theorem toL_sb (l : List Nat) : (sb l).toList = l.map UInt8.ofNat := by rw [toL]; rfl
theorem str_empty {s : ByteArray} (h : s.size = 0) : s.toList = [] := by
  rw [toL]
  exact List.eq_nil_of_length_eq_zero h
theorem str_empty' {s : ByteArray} (h : s.size = 0) : s.toList.isEmpty = true := by rw [str_empty h]; rfl
theorem str_full {s : ByteArray} (h : s.size ≠ 0) : ¬ s.toList = [] := by
  rw [toL]
  intro e
  exact h (by have := congrArg List.length e; simpa using this)
theorem str_full' {s : ByteArray} (h : s.size ≠ 0) : s.toList.isEmpty = false := by
  cases e : s.toList with
  | nil => exact absurd e (str_full h)
  | cons _ _ => rfl
theorem str_beq {a b : ByteArray} (h : a = b) : (a.toList == b.toList) = true := by rw [h]; simp
theorem str_bne {a b : ByteArray} (h : a ≠ b) : (a.toList == b.toList) = false := by
  rw [beq_eq_false_iff_ne]
  intro e
  rw [toL, toL] at e
  exact h (ByteArray.ext (Array.toList_inj.1 e))

/-! decimal digits -/
def dec (n : Nat) : List Nat := if n < 10 then [48 + n] else dec (n / 10) ++ [48 + n % 10]
theorem dec_lt (n : Nat) : ∀ c ∈ dec n, c < 256 := by
  induction n using Nat.strongRecOn with
  | _ n ih =>
    unfold dec
    split
    · simp; omega
    · intro c hc
      rw [List.mem_append] at hc
      rcases hc with hc | hc
      · exact ih (n / 10) (by omega) c hc
      · simp at hc; omega
theorem dec_length (k : Nat) : ∀ n, n < 10 ^ (k + 1) → (dec n).length ≤ k + 1 := by
  induction k with
  | zero => intro n h; unfold dec; rw [if_pos (by simpa using h)]; simp
  | succ k ih =>
    intro n h
    unfold dec
    split
    · simp
    · have := ih (n / 10) (by rw [Nat.pow_succ] at h; omega)
      simp; omega
theorem dec_le (n : Nat) (h : n < 18446744073709551616) : (dec n).length ≤ 20 := dec_length 19 n (by omega)
theorem dec_pos (n : Nat) : 1 ≤ (dec n).length := by
  unfold dec
  split <;> simp

/-- A digit's letter. -/
def dig (d : Nat) : Nat := if d < 10 then 48 + d else 87 + d
theorem dig_lt (d : Nat) (h : d < 16) : dig d < 256 := by unfold dig; split <;> omega
theorem digit_at16 (d : Nat) (h : d < 16) : (⟨#[48, 49, 50, 51, 52, 53, 54, 55, 56, 57, 97, 98, 99, 100, 101, 102]⟩ : ByteArray).extract d (d + 1) = sb [if d < 10 then 48 + d else 87 + d] := by
  rcases (by omega : d = 0 ∨ d = 1 ∨ d = 2 ∨ d = 3 ∨ d = 4 ∨ d = 5 ∨ d = 6 ∨ d = 7 ∨ d = 8 ∨ d = 9 ∨ d = 10 ∨ d = 11 ∨ d = 12 ∨ d = 13 ∨ d = 14 ∨ d = 15) with rfl | rfl | rfl | rfl | rfl | rfl | rfl | rfl | rfl | rfl | rfl | rfl | rfl | rfl | rfl | rfl <;> rfl
theorem digit_at (d : Nat) (h : d < 10) : (⟨#[48, 49, 50, 51, 52, 53, 54, 55, 56, 57, 97, 98, 99, 100, 101, 102]⟩ : ByteArray).extract d (d + 1) = sb [48 + d] := by
  rw [digit_at16 d (by omega), if_pos h]
theorem digit_byte (d : Nat) (h : d < 16) : ∀ hk : d < 16, (((⟨#[48, 49, 50, 51, 52, 53, 54, 55, 56, 57, 97, 98, 99, 100, 101, 102]⟩ : ByteArray)[d]'hk).toNat) = dig d := by
  rcases (by omega : d = 0 ∨ d = 1 ∨ d = 2 ∨ d = 3 ∨ d = 4 ∨ d = 5 ∨ d = 6 ∨ d = 7 ∨ d = 8 ∨ d = 9 ∨ d = 10 ∨ d = 11 ∨ d = 12 ∨ d = 13 ∨ d = 14 ∨ d = 15) with rfl | rfl | rfl | rfl | rfl | rfl | rfl | rfl | rfl | rfl | rfl | rfl | rfl | rfl | rfl | rfl <;> intro _ <;> rfl
theorem ret_s {a b : ByteArray} (h : a = b) : Ending.returned (.string a) = .returned (.string b) := by rw [h]
theorem ret2 {k1 k2 : IntKind} {a b a' b' : Int} (h1 : a = a') (h2 : b = b') : Ending.returned (.tuple #[.int k1 a, .int k2 b]) = .returned (.tuple #[.int k1 a', .int k2 b']) := by rw [h1, h2]

/-- code.Undec's loop: the number of the digits, or none. -/
def undecGo : List Nat → Nat → Option Nat
  | [], n => some n
  | c :: l, n => if c < 48 ∨ 57 < c ∨ (18446744073709551615 - (c - 48)) / 10 < n then none else undecGo l (n * 10 + (c - 48))
def undec (l : List Nat) : Nat × Nat :=
  match undecGo l 0 with
  | none => (0, 6)
  | some n => if l = [] ∨ l ≠ dec n then (0, 6) else (n, 0)

/-! digits of bytes -/
def val (c : Nat) : Nat := if 48 ≤ c ∧ c ≤ 57 then c - 48 else if 97 ≤ c ∧ c ≤ 102 then c - 87 else 16
/-- code.Unhex's loop; the second: is half a byte there? -/
def unhexGo : List Nat → Bool → List Nat → Option (List Nat)
  | [], _, out => some out
  | c :: l, false, out => if val c > 15 then none else unhexGo l true (out ++ [val c * 16])
  | c :: l, true, out => if val c > 15 then none else unhexGo l false (out.dropLast ++ [(out.getLastD 0 + val c) % 256])
theorem unhexGo_bad (c : Nat) (l : List Nat) (b : Bool) (out : List Nat) (h : val c > 15) : unhexGo (c :: l) b out = none := by
  cases b <;> rw [unhexGo, if_pos h]
def outOf : Option (List Nat) → List Nat × Nat
  | none => ([], 6)
  | some l => (l, 0)
def unhex (l : List Nat) : List Nat × Nat := if l.length % 2 = 1 then ([], 6) else outOf (unhexGo l false [])

def hex : List Nat → List Nat
  | [] => []
  | c :: l => dig (c / 16) :: dig (c % 16) :: hex l
theorem hex_append (a b : List Nat) : hex (a ++ b) = hex a ++ hex b := by
  induction a with
  | nil => rfl
  | cons c a ih => simp only [List.cons_append, hex, ih]
theorem hex_length (l : List Nat) : (hex l).length = 2 * l.length := by
  induction l with
  | nil => rfl
  | cons c a ih => simp only [hex, List.length_cons, ih]; omega
theorem hex_lt (l : List Nat) (h : ∀ c ∈ l, c < 256) : ∀ c ∈ hex l, c < 256 := by
  induction l with
  | nil => intro c hc; cases hc
  | cons x a ih =>
    have hx := h x (by simp)
    intro c hc
    simp only [hex, List.mem_cons] at hc
    rcases hc with rfl | rfl | hc
    · exact dig_lt _ (by omega)
    · exact dig_lt _ (by omega)
    · exact ih (fun y hy => h y (by simp [hy])) c hc

/-! rows of bytes -/
def u8s (l : List Nat) : List Value := l.map fun (c : Nat) => Value.int .u8 (c : Int)
theorem u8s_length (l : List Nat) : (u8s l).length = l.length := by simp [u8s]
theorem conv_own {P : Program} {w : World} {base n : Nat} {e' src dst e : TypeId} {v : Value} {l : List Nat} (hs : P.underlying src = some (.slice e)) (he : P.underlying e = some (.int .u8)) (hd : P.underlying dst = some .string)
    (h : w.ownsRow base e' 1 v n (u8s l)) : (convert src dst v).run P w = .ok (.string (sb l)) w := by
  have e1 : u8s l = nums .u8 (l.map fun (c : Nat) => (c : Int)) := by simp [u8s, nums]
  rw [e1] at h
  have e2 : sb l = strOfNums (l.map fun (c : Nat) => (c : Int)) := by simp [sb, strOfNums]
  rw [e2]
  exact own_string hs he hd h
theorem u8s_last (l : List Nat) (k : Nat) (hk : l.length = k + 1) : ∃ x, ((u8s l)[k]? = some (.int .u8 (x : Int)) ∧ x = l.getLastD 0) ∧ ∀ y : Nat, (u8s l).set k (.int .u8 (y : Int)) = u8s (l.dropLast ++ [y]) := by
  obtain ⟨m, x, rfl⟩ : ∃ m x, l = m ++ [x] := ⟨l.dropLast, l.getLast (by intro h; rw [h] at hk; cases hk), (List.dropLast_concat_getLast _).symm⟩
  have hm : m.length = k := by simpa using hk
  subst hm
  refine ⟨x, ⟨by simp [u8s], by simp⟩, fun y => ?_⟩
  simp [u8s]
theorem u8s_append (a b : List Nat) : u8s (a ++ b) = u8s a ++ u8s b := by simp [u8s]

end Go.Proofs.Ytcfdplmapdgfmaa.Mine
