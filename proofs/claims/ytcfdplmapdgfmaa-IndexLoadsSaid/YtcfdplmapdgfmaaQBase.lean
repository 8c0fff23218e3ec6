import Derived.Test.YtcfdplmapdgfmaaQWWords
import Derived.Lib.Strings
namespace Go.Proofs.Ytcfdplmapdgfmaa.Mine
open Go.RowKit Go.Proofs.YtcfdplmapdgfmaaW.PrintWords
def bs (s : ByteArray) : List Nat := s.data.toList.map UInt8.toNat
theorem z05 (s : ByteArray) : (bs s).length = s.size := by simp [bs]
theorem bs_lt (s : ByteArray) : ∀ c ∈ bs s, c < 256 := by
 intro c hc
 simp only [bs, List.mem_map] at hc
 obtain ⟨b, _, rfl⟩ := hc
 exact b.toNat_lt
theorem int_eq {k : IntKind} {a b : Int} (h : a = b) : Value.int k a = Value.int k b := by rw [h]
theorem ret1 {k : IntKind} {a b : Int} (h : a = b) : Ending.returned (.int k a) = .returned (.int k b) := by rw [h]
def crcBit (r : Nat) : Nat := (r * 2 % 4294967296) ^^^ (79764919 * (r / 2147483648))
def crcBits : Nat → Nat → Nat
 | 0, r => r
 | k + 1, r => crcBits k (crcBit r)
def crcByte (r c : Nat) : Nat := crcBits 8 (r ^^^ (c * 16777216))
def crcGo (l : List Nat) (r : Nat) : Nat := l.foldl crcByte r
def crc (l : List Nat) : Nat := crcGo l 4294967295 ^^^ 4294967295
theorem xor_lt32 {a b : Nat} (ha : a < 4294967296) (hb : b < 4294967296) : a ^^^ b < 4294967296 := Nat.xor_lt_two_pow (n := 32) ha hb
def sb (l : List Nat) : ByteArray := ⟨(l.map UInt8.ofNat).toArray⟩
theorem map_ofNat_toNat (l : List UInt8) : (l.map UInt8.toNat).map UInt8.ofNat = l := by
 rw [List.map_map]
 conv => rhs; rw [← List.map_id l]
 exact List.map_congr_left fun b _ => by simp
theorem map_toNat_ofNat : ∀ (l : List Nat), (∀ c ∈ l, c < 256) → (l.map UInt8.ofNat).map UInt8.toNat = l
 | [], _ => rfl
 | c :: l, h => by
  have hc : c < 256 := h c (by simp)
  simp only [List.map_cons]
  rw [map_toNat_ofNat l fun x hx => h x (by simp [hx])]
  congr 1
  rw [UInt8.toNat_ofNat']
  omega
theorem bs_sb (l : List Nat) (h : ∀ c ∈ l, c < 256) : bs (sb l) = l := by
 unfold bs sb
 exact map_toNat_ofNat l h
theorem sb_bs (s : ByteArray) : sb (bs s) = s := by
 unfold bs sb
 rw [map_ofNat_toNat]
theorem z0b (a b : List Nat) : sb (a ++ b) = sb a ++ sb b := by
 apply ByteArray.ext
 simp [sb]
theorem z09 (l : List Nat) : (sb l).size = l.length := by simp [sb, ByteArray.size]
theorem bs_append (a b : ByteArray) : bs (a ++ b) = bs a ++ bs b := by simp [bs]
theorem bs_extract (s : ByteArray) (i j : Nat) : bs (s.extract i j) = ((bs s).drop i).take (j - i) := by
 simp [bs, List.map_take, List.map_drop, List.extract_eq_take_drop]
theorem toL (s : ByteArray) : s.toList = s.data.toList := Lib.toList_data s
def u8s (l : List Nat) : List Value := l.map fun (c : Nat) => Value.int .u8 (c : Int)
theorem z0d (l : List Nat) : (u8s l).length = l.length := by simp [u8s]
theorem conv_own {P : Program} {w : World} {base n : Nat} {e' src dst e : TypeId} {v : Value} {l : List Nat} (hs : P.underlying src = some (.slice e)) (he : P.underlying e = some (.int .u8)) (hd : P.underlying dst = some .string)
  (h : w.ownsRow base e' 1 v n (u8s l)) : (convert src dst v).run P w = .ok (.string (sb l)) w := by
 have e1 : u8s l = nums .u8 (l.map fun (c : Nat) => (c : Int)) := by simp [u8s, nums]
 rw [e1] at h
 have e2 : sb l = strOfNums (l.map fun (c : Nat) => (c : Int)) := by simp [sb, strOfNums]
 rw [e2]
 exact own_string hs he hd h
theorem u8s_append (a b : List Nat) : u8s (a ++ b) = u8s a ++ u8s b := by simp [u8s]
end Go.Proofs.Ytcfdplmapdgfmaa.Mine
