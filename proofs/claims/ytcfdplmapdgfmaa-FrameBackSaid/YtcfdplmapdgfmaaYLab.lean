import Derived.Test.YtcfdplmapdgfmaaYBase
import Derived.Test.YtcfdplmapdgfmaaProg
import Derived.Test.YtcfdplmapdgfmaaYShelf
import Derived.Lib.Hide
import Derived.Laws.RangeAny
import Derived.Laws.RangeString
import Derived.Test.YtcfdplmapdgfmaaYCPure
namespace Go.Proofs.Ytcfdplmapdgfmaa.Mine
open Go.RowKit Go.Proofs.YtcfdplmapdgfmaaW.PrintWords
def okc (c : Nat) : Bool := (97 ≤ c && c ≤ 122) || (48 ≤ c && c ≤ 57) || c == 45 || c == 95
def restOk (l : List Nat) : Bool := !l.isEmpty && decide (l.length ≤ 64) && l.all okc
def heads : List Nat := [104, 101, 97, 100, 115, 47]
def tags : List Nat := [116, 97, 103, 115, 47]
def refOk (l : List Nat) : Bool :=
 if heads.isPrefixOf l then restOk (l.drop 6) else if tags.isPrefixOf l then restOk (l.drop 5) else false
theorem restOk_short (l : List Nat) (h : l.length = 0 ∨ 64 < l.length) : restOk l = false := by
 unfold restOk
 rcases h with h | h
 ·rw [List.eq_nil_of_length_eq_zero h]; rfl
 ·rw [decide_eq_false (by omega)]; simp
theorem restOk_all (l : List Nat) (h : ¬ (l.length = 0 ∨ 64 < l.length)) : restOk l = l.all okc := by
 unfold restOk
 have h1 : l.isEmpty = false := by
  cases l with
  | nil => exact absurd (.inl rfl) h
  | cons _ _ => rfl
 rw [h1, decide_eq_true (by omega)]; simp
theorem below_iter (w : World) (s : ByteArray) (p : Nat) : Below w.heap.size w (w.iter s p) := (Below.refl _ w).alloc (Nat.le_refl _) _
theorem map_prefix (p l : List UInt8) : (p.map UInt8.toNat).isPrefixOf (l.map UInt8.toNat) = p.isPrefixOf l := by
 induction p generalizing l with
 | nil => cases l <;> rfl
 | cons a p ih =>
  cases l with
  | nil => rfl
  | cons b l =>
   simp only [List.map_cons, List.isPrefixOf, ih]
   congr 1
   rw [Bool.eq_iff_iff, beq_iff_eq, beq_iff_eq]
   exact ⟨fun h => UInt8.toNat_inj.1 h, fun h => by rw [h]⟩
theorem bs_toArray (l : List UInt8) : bs ⟨l.toArray⟩ = l.map UInt8.toNat := by simp [bs]
set_option maxRecDepth 100000 in
set_option maxHeartbeats 2000000 in
theorem ref_heads (s q : ByteArray) (w : World) (R : Bool) (hcut : Calls Try.prog 84 #[.string s, .string ⟨#[104, 101, 97, 100, 115, 47]⟩] w fun e w' => e = .returned (.tuple #[.string q, .bool true]) ∧ w' = w)
  (hq0 : q.size ≠ 0) (hq64 : q.size ≤ 64) (hret : (bs q).all okc = false → R = false) (hret2 : (bs q).all okc = true → R = true) :
  Calls Try.prog 45 #[.string s] w fun e w' => e = .returned (.bool R) ∧ Below w.heap.size w w' := by
 have e1 := str_full' hq0
 have e2 := str_full hq0
 clear hq0
 go_enter Try.func45, Try.ntmps45
 go_wp2_with fail
 refine hcut.mono ?_
 rintro e w' ⟨rfl, hw⟩
 replace hw := hw.symm
 subst hw
 go_wp2
 go_loopw [6] (fun _ wr => ∃ pos : Nat, pos ≤ q.size ∧ wr = w.iter q pos ∧ Hid ((bs q).all okc = ((bs q).drop pos).all okc)) (fun _ wr => q.size - wr.iterPos w.heap.size)
 case atStart => exact ⟨0, Nat.zero_le _, rfl, by unfold Hid; rfl⟩
 case round =>
  obtain ⟨pos, hpos, hwr, H⟩ := hrel
  subst hwr
  by_cases hlt : pos < q.size
  ·obtain ⟨c, hc, hd, hcs⟩ := bs_drop q pos hlt
   have hqc : (q[pos]'hlt).toNat = c := by
    have h2 : pos < q.data.toList.length := by simpa using hlt
    simp [List.getD_eq_getElem?_getD, List.getElem?_eq_getElem h2] at hcs
    rw [← hcs]; rfl
   have HD := Lib.hid hd
   clear hd hcs
   by_cases h128 : c < 128
   ·have hnx := run_next_ascii (P := Try.prog) w q pos 0 hlt (by rw [hqc]; exact h128)
    rw [hqc] at hnx
    clear hqc
    have hbel := Lib.hid (below_iter w q (pos + 1))
    by_cases hok : okc c = true
    ·have HREL : Hid ((bs q).all okc = ((bs q).drop (pos + 1)).all okc) := by unfold Hid; rw [H.out, HD.out, List.all_cons, hok, Bool.true_and]
     have hcases : (97 ≤ c ∧ c ≤ 122) ∨ (48 ≤ c ∧ c ≤ 57) ∨ c = 45 ∨ c = 95 := by simpa [okc, or_assoc] using hok
     clear hok HD
     rcases hcases with ⟨h1, h2⟩ | ⟨h1, h2⟩ | h1 | h1
     ·go_wp2
      go_roundw
      case rel => exact ⟨pos + 1, by omega, rfl, HREL⟩
      case measure => rw [World.iterPos_iter, World.iterPos_iter]; omega
     ·go_wp2
      go_roundw
      case rel => exact ⟨pos + 1, by omega, rfl, HREL⟩
      case measure => rw [World.iterPos_iter, World.iterPos_iter]; omega
     ·subst h1
      go_wp2
      go_roundw
      case rel => exact ⟨pos + 1, by omega, rfl, HREL⟩
      case measure => rw [World.iterPos_iter, World.iterPos_iter]; omega
     ·subst h1
      go_wp2
      go_roundw
      case rel => exact ⟨pos + 1, by omega, rfl, HREL⟩
      case measure => rw [World.iterPos_iter, World.iterPos_iter]; omega
    ·have hok' : okc c = false := by simpa using hok
     have hfalse : (bs q).all okc = false := by rw [H.out, HD.out, List.all_cons, hok', Bool.false_and]
     have HF := Lib.hid (hret hfalse)
     have hcases : (c ≤ 44) ∨ (46 ≤ c ∧ c ≤ 47) ∨ (58 ≤ c ∧ c ≤ 94) ∨ c = 96 ∨ 123 ≤ c := by
      have h := hok'
      simp [okc] at h
      omega
     clear hok hok' hfalse HD
     have n45 : c ≠ 45 → ((c : Int) != 45) = true := fun h => by rw [bne_iff_ne]; omega
     have n95 : c ≠ 95 → ((c : Int) != 95) = true := fun h => by rw [bne_iff_ne]; omega
     rcases hcases with h1 | ⟨h1, h2⟩ | ⟨h1, h2⟩ | h1 | h1
     all_goals
      have e45 := n45 (by omega)
      have e95 := n95 (by omega)
      clear n45 n95
      try subst h1
      go_wp2
      go_ret
      exact ⟨by rw [HF.out]; rfl, hbel.out⟩
   ·have hnx := run_next_any (P := Try.prog) w q pos 0 hlt
    have hr := (decode_high q pos hlt (by rw [hqc]; omega)).1
    have hr2 := decode_le q pos
    clear hqc
    have hok' : okc c = false := by simp [okc]; omega
    have hfalse : (bs q).all okc = false := by rw [H.out, HD.out, List.all_cons, hok', Bool.false_and]
    have HF := Lib.hid (hret hfalse)
    clear hok' hfalse HD
    generalize Utf8.decode q pos = dd at *
    obtain ⟨r, sz⟩ := dd
    simp only at hr hr2 hnx
    have hbel := Lib.hid (below_iter w q (pos + sz))
    have e45 : ((r : Int) != 45) = true := by rw [bne_iff_ne]; omega
    have e95 : ((r : Int) != 95) = true := by rw [bne_iff_ne]; omega
    go_wp2
    go_ret
    exact ⟨by rw [HF.out]; rfl, hbel.out⟩
  ·have hnx := run_next_end (P := Try.prog) w q pos 0 hlt
   have hnil : (bs q).drop pos = [] := List.drop_eq_nil_of_le (by rw [z17]; omega)
   have htrue : (bs q).all okc = true := by rw [H.out, hnil]; rfl
   have HT := Lib.hid (hret2 htrue)
   have hbel := Lib.hid (below_iter w q pos)
   clear htrue hnil
   go_wp2
   go_ret
   exact ⟨by rw [HT.out]; rfl, hbel.out⟩
set_option maxRecDepth 100000 in
set_option maxHeartbeats 2000000 in
theorem ref_tags (s q : ByteArray) (w : World) (R : Bool) (u : ByteArray) (hcut : Calls Try.prog 84 #[.string s, .string ⟨#[104, 101, 97, 100, 115, 47]⟩] w fun e w' => e = .returned (.tuple #[.string u, .bool false]) ∧ w' = w) (hcut2 : Calls Try.prog 84 #[.string s, .string ⟨#[116, 97, 103, 115, 47]⟩] w fun e w' => e = .returned (.tuple #[.string q, .bool true]) ∧ w' = w)
  (hq0 : q.size ≠ 0) (hq64 : q.size ≤ 64) (hret : (bs q).all okc = false → R = false) (hret2 : (bs q).all okc = true → R = true) :
  Calls Try.prog 45 #[.string s] w fun e w' => e = .returned (.bool R) ∧ Below w.heap.size w w' := by
 have e1 := str_full' hq0
 have e2 := str_full hq0
 clear hq0
 go_enter Try.func45, Try.ntmps45
 go_wp2_with fail
 refine hcut.mono ?_
 rintro e w' ⟨rfl, hw⟩
 replace hw := hw.symm
 subst hw
 go_wp2_with fail
 refine hcut2.mono ?_
 rintro e w' ⟨rfl, hw⟩
 replace hw := hw.symm
 subst hw
 go_wp2
 go_loopw [6] (fun _ wr => ∃ pos : Nat, pos ≤ q.size ∧ wr = w.iter q pos ∧ Hid ((bs q).all okc = ((bs q).drop pos).all okc)) (fun _ wr => q.size - wr.iterPos w.heap.size)
 case atStart => exact ⟨0, Nat.zero_le _, rfl, by unfold Hid; rfl⟩
 case round =>
  obtain ⟨pos, hpos, hwr, H⟩ := hrel
  subst hwr
  by_cases hlt : pos < q.size
  ·obtain ⟨c, hc, hd, hcs⟩ := bs_drop q pos hlt
   have hqc : (q[pos]'hlt).toNat = c := by
    have h2 : pos < q.data.toList.length := by simpa using hlt
    simp [List.getD_eq_getElem?_getD, List.getElem?_eq_getElem h2] at hcs
    rw [← hcs]; rfl
   have HD := Lib.hid hd
   clear hd hcs
   by_cases h128 : c < 128
   ·have hnx := run_next_ascii (P := Try.prog) w q pos 0 hlt (by rw [hqc]; exact h128)
    rw [hqc] at hnx
    clear hqc
    have hbel := Lib.hid (below_iter w q (pos + 1))
    by_cases hok : okc c = true
    ·have HREL : Hid ((bs q).all okc = ((bs q).drop (pos + 1)).all okc) := by unfold Hid; rw [H.out, HD.out, List.all_cons, hok, Bool.true_and]
     have hcases : (97 ≤ c ∧ c ≤ 122) ∨ (48 ≤ c ∧ c ≤ 57) ∨ c = 45 ∨ c = 95 := by simpa [okc, or_assoc] using hok
     clear hok HD
     rcases hcases with ⟨h1, h2⟩ | ⟨h1, h2⟩ | h1 | h1
     ·go_wp2
      go_roundw
      case rel => exact ⟨pos + 1, by omega, rfl, HREL⟩
      case measure => rw [World.iterPos_iter, World.iterPos_iter]; omega
     ·go_wp2
      go_roundw
      case rel => exact ⟨pos + 1, by omega, rfl, HREL⟩
      case measure => rw [World.iterPos_iter, World.iterPos_iter]; omega
     ·subst h1
      go_wp2
      go_roundw
      case rel => exact ⟨pos + 1, by omega, rfl, HREL⟩
      case measure => rw [World.iterPos_iter, World.iterPos_iter]; omega
     ·subst h1
      go_wp2
      go_roundw
      case rel => exact ⟨pos + 1, by omega, rfl, HREL⟩
      case measure => rw [World.iterPos_iter, World.iterPos_iter]; omega
    ·have hok' : okc c = false := by simpa using hok
     have hfalse : (bs q).all okc = false := by rw [H.out, HD.out, List.all_cons, hok', Bool.false_and]
     have HF := Lib.hid (hret hfalse)
     have hcases : (c ≤ 44) ∨ (46 ≤ c ∧ c ≤ 47) ∨ (58 ≤ c ∧ c ≤ 94) ∨ c = 96 ∨ 123 ≤ c := by
      have h := hok'
      simp [okc] at h
      omega
     clear hok hok' hfalse HD
     have n45 : c ≠ 45 → ((c : Int) != 45) = true := fun h => by rw [bne_iff_ne]; omega
     have n95 : c ≠ 95 → ((c : Int) != 95) = true := fun h => by rw [bne_iff_ne]; omega
     rcases hcases with h1 | ⟨h1, h2⟩ | ⟨h1, h2⟩ | h1 | h1
     all_goals
      have e45 := n45 (by omega)
      have e95 := n95 (by omega)
      clear n45 n95
      try subst h1
      go_wp2
      go_ret
      exact ⟨by rw [HF.out]; rfl, hbel.out⟩
   ·have hnx := run_next_any (P := Try.prog) w q pos 0 hlt
    have hr := (decode_high q pos hlt (by rw [hqc]; omega)).1
    have hr2 := decode_le q pos
    clear hqc
    have hok' : okc c = false := by simp [okc]; omega
    have hfalse : (bs q).all okc = false := by rw [H.out, HD.out, List.all_cons, hok', Bool.false_and]
    have HF := Lib.hid (hret hfalse)
    clear hok' hfalse HD
    generalize Utf8.decode q pos = dd at *
    obtain ⟨r, sz⟩ := dd
    simp only at hr hr2 hnx
    have hbel := Lib.hid (below_iter w q (pos + sz))
    have e45 : ((r : Int) != 45) = true := by rw [bne_iff_ne]; omega
    have e95 : ((r : Int) != 95) = true := by rw [bne_iff_ne]; omega
    go_wp2
    go_ret
    exact ⟨by rw [HF.out]; rfl, hbel.out⟩
  ·have hnx := run_next_end (P := Try.prog) w q pos 0 hlt
   have hnil : (bs q).drop pos = [] := List.drop_eq_nil_of_le (by rw [z17]; omega)
   have htrue : (bs q).all okc = true := by rw [H.out, hnil]; rfl
   have HT := Lib.hid (hret2 htrue)
   have hbel := Lib.hid (below_iter w q pos)
   clear htrue hnil
   go_wp2
   go_ret
   exact ⟨by rw [HT.out]; rfl, hbel.out⟩
set_option maxRecDepth 100000 in
set_option maxHeartbeats 1000000 in
theorem ref_short_heads (s q : ByteArray) (w : World) (hcut : Calls Try.prog 84 #[.string s, .string ⟨#[104, 101, 97, 100, 115, 47]⟩] w fun e w' => e = .returned (.tuple #[.string q, .bool true]) ∧ w' = w) (hq : q.size = 0 ∨ 64 < q.size) :
  Calls Try.prog 45 #[.string s] w fun e w' => e = .returned (.bool false) ∧ Below w.heap.size w w' := by
 rcases hq with hq | hq
 ·have e1 := str_empty hq
  have e2 := str_empty' hq
  clear hq
  go_enter Try.func45, Try.ntmps45
  go_wp2_with fail
  refine hcut.mono ?_
  rintro e w' ⟨rfl, hw⟩
  replace hw := hw.symm
  subst hw
  go_wp2
  go_ret
  exact ⟨rfl, Below.refl _ _⟩
 ·have hq0 : q.size ≠ 0 := by omega
  have e1 := str_full' hq0
  have e2 := str_full hq0
  clear hq0
  go_enter Try.func45, Try.ntmps45
  go_wp2_with fail
  refine hcut.mono ?_
  rintro e w' ⟨rfl, hw⟩
  replace hw := hw.symm
  subst hw
  go_wp2
  go_ret
  exact ⟨rfl, Below.refl _ _⟩
set_option maxRecDepth 100000 in
set_option maxHeartbeats 1000000 in
theorem ref_short_tags (s q : ByteArray) (w : World) (u : ByteArray) (hcut : Calls Try.prog 84 #[.string s, .string ⟨#[104, 101, 97, 100, 115, 47]⟩] w fun e w' => e = .returned (.tuple #[.string u, .bool false]) ∧ w' = w) (hcut2 : Calls Try.prog 84 #[.string s, .string ⟨#[116, 97, 103, 115, 47]⟩] w fun e w' => e = .returned (.tuple #[.string q, .bool true]) ∧ w' = w) (hq : q.size = 0 ∨ 64 < q.size) :
  Calls Try.prog 45 #[.string s] w fun e w' => e = .returned (.bool false) ∧ Below w.heap.size w w' := by
 rcases hq with hq | hq
 ·have e1 := str_empty hq
  have e2 := str_empty' hq
  clear hq
  go_enter Try.func45, Try.ntmps45
  go_wp2_with fail
  refine hcut.mono ?_
  rintro e w' ⟨rfl, hw⟩
  replace hw := hw.symm
  subst hw
  go_wp2_with fail
  refine hcut2.mono ?_
  rintro e w' ⟨rfl, hw⟩
  replace hw := hw.symm
  subst hw
  go_wp2
  go_ret
  exact ⟨rfl, Below.refl _ _⟩
 ·have hq0 : q.size ≠ 0 := by omega
  have e1 := str_full' hq0
  have e2 := str_full hq0
  clear hq0
  go_enter Try.func45, Try.ntmps45
  go_wp2_with fail
  refine hcut.mono ?_
  rintro e w' ⟨rfl, hw⟩
  replace hw := hw.symm
  subst hw
  go_wp2_with fail
  refine hcut2.mono ?_
  rintro e w' ⟨rfl, hw⟩
  replace hw := hw.symm
  subst hw
  go_wp2
  go_ret
  exact ⟨rfl, Below.refl _ _⟩
set_option maxRecDepth 100000 in
set_option maxHeartbeats 1000000 in
theorem ref_neither (s : ByteArray) (w : World) (u v : ByteArray) (hcut : Calls Try.prog 84 #[.string s, .string ⟨#[104, 101, 97, 100, 115, 47]⟩] w fun e w' => e = .returned (.tuple #[.string u, .bool false]) ∧ w' = w) (hcut2 : Calls Try.prog 84 #[.string s, .string ⟨#[116, 97, 103, 115, 47]⟩] w fun e w' => e = .returned (.tuple #[.string v, .bool false]) ∧ w' = w) :
  Calls Try.prog 45 #[.string s] w fun e w' => e = .returned (.bool false) ∧ Below w.heap.size w w' := by
 go_enter Try.func45, Try.ntmps45
 go_wp2_with fail
 refine hcut.mono ?_
 rintro e w' ⟨rfl, hw⟩
 replace hw := hw.symm
 subst hw
 go_wp2_with fail
 refine hcut2.mono ?_
 rintro e w' ⟨rfl, hw⟩
 replace hw := hw.symm
 subst hw
 go_wp2
 go_ret
 exact ⟨rfl, Below.refl _ _⟩
theorem ref_calls (s : ByteArray) (w : World) :
  Calls Try.prog 45 #[.string s] w fun e w' => e = .returned (.bool (refOk (bs s))) ∧ Below w.heap.size w w' := by
 have c1 := Try.strings_CutPrefix s ⟨#[104, 101, 97, 100, 115, 47]⟩ w
 have c2 := Try.strings_CutPrefix s ⟨#[116, 97, 103, 115, 47]⟩ w
 have p1 : Lib.hasPrefix s.data.toList (⟨#[104, 101, 97, 100, 115, 47]⟩ : ByteArray).data.toList = heads.isPrefixOf (bs s) :=
  (map_prefix [104, 101, 97, 100, 115, 47] s.data.toList).symm
 have p2 : Lib.hasPrefix s.data.toList (⟨#[116, 97, 103, 115, 47]⟩ : ByteArray).data.toList = tags.isPrefixOf (bs s) :=
  (map_prefix [116, 97, 103, 115, 47] s.data.toList).symm
 unfold refOk
 by_cases h1 : heads.isPrefixOf (bs s) = true
 ·rw [if_pos h1]
  rw [p1, h1] at c1
  have hq : bs ⟨(Lib.trimPrefix s.data.toList (⟨#[104, 101, 97, 100, 115, 47]⟩ : ByteArray).data.toList).toArray⟩ = (bs s).drop 6 := by
   rw [bs_toArray, Lib.trimPrefix, p1, h1, if_pos rfl]
   simp [bs, List.map_drop]
  generalize (⟨(Lib.trimPrefix s.data.toList (⟨#[104, 101, 97, 100, 115, 47]⟩ : ByteArray).data.toList).toArray⟩ : ByteArray) = q at c1 hq
  rw [← hq]
  have hl := z17 q
  by_cases hs : q.size = 0 ∨ 64 < q.size
  ·rw [restOk_short _ (by rw [hl]; exact hs)]
   exact ref_short_heads s q w c1 hs
  ·exact ref_heads s q w _ c1 (by omega) (by omega) (fun h => by rw [restOk_all _ (by rw [hl]; exact hs), h]) (fun h => by rw [restOk_all _ (by rw [hl]; exact hs), h])
 ·have h1' : heads.isPrefixOf (bs s) = false := Bool.eq_false_iff.2 h1
  rw [if_neg h1]
  rw [p1, h1'] at c1
  generalize (⟨(Lib.trimPrefix s.data.toList (⟨#[104, 101, 97, 100, 115, 47]⟩ : ByteArray).data.toList).toArray⟩ : ByteArray) = u at c1
  by_cases h2 : tags.isPrefixOf (bs s) = true
  ·rw [if_pos h2]
   rw [p2, h2] at c2
   have hq : bs ⟨(Lib.trimPrefix s.data.toList (⟨#[116, 97, 103, 115, 47]⟩ : ByteArray).data.toList).toArray⟩ = (bs s).drop 5 := by
    rw [bs_toArray, Lib.trimPrefix, p2, h2, if_pos rfl]
    simp [bs, List.map_drop]
   generalize (⟨(Lib.trimPrefix s.data.toList (⟨#[116, 97, 103, 115, 47]⟩ : ByteArray).data.toList).toArray⟩ : ByteArray) = q at c2 hq
   rw [← hq]
   have hl := z17 q
   by_cases hs : q.size = 0 ∨ 64 < q.size
   ·rw [restOk_short _ (by rw [hl]; exact hs)]
    exact ref_short_tags s q w u c1 c2 hs
   ·exact ref_tags s q w _ u c1 c2 (by omega) (by omega) (fun h => by rw [restOk_all _ (by rw [hl]; exact hs), h]) (fun h => by rw [restOk_all _ (by rw [hl]; exact hs), h])
  ·have h2' : tags.isPrefixOf (bs s) = false := Bool.eq_false_iff.2 h2
   rw [if_neg h2]
   rw [p2, h2'] at c2
   exact ref_neither s w u _ c1 c2
end Go.Proofs.Ytcfdplmapdgfmaa.Mine
set_option linter.unusedVariables false
set_option linter.unusedSimpArgs false
namespace Go.Proofs.Ytcfdplmapdgfmaa.Mine
open Go.RowKit Go.Proofs.Ytcfdplmapdgfmaa.PN Go.Proofs.YtcfdplmapdgfmaaW.PrintWords
def refKind (l : List Nat) : Nat := if refOk l then (if heads.isPrefixOf l then 1 else 2) else 0
theorem okc_iff (c : Nat) : okc c = true ↔ (97 ≤ c ∧ c ≤ 122) ∨ (48 ≤ c ∧ c ≤ 57) ∨ c = 45 ∨ c = 95 := by simp [okc, or_assoc]
theorem ref05_l0 (q : ByteArray) (hq : q.size ≤ 9223372036854775807) (x3 : Int) (d : Nat) : ∀ (i k : Nat), i + d = q.size → d < k →
  z0g.l0 k x3 q (i : Int) = some (if ((bs q).drop i).all okc then (if 64 < q.size then 0 else x3) else 0) := by
 induction d with
 | zero =>
  intro i k hi hk
  obtain ⟨k, rfl⟩ : ∃ m, k = m + 1 := ⟨k - 1, by omega⟩
  have hnil : (bs q).drop i = [] := List.drop_eq_nil_of_le (by rw [z17]; omega)
  simp only [z0g.l0]
  rw [if_neg (by omega), hnil, List.all_nil, if_pos rfl]
  by_cases h : 64 < q.size
  ·rw [if_pos (by omega), if_pos h]
  ·rw [if_neg (by omega), if_neg h]
 | succ d ih =>
  intro i k hi hk
  obtain ⟨k, rfl⟩ : ∃ m, k = m + 1 := ⟨k - 1, by omega⟩
  obtain ⟨c, hc, hd, hb⟩ := bt_bs q i (by omega)
  have hi1 := ih (i + 1) k (by omega) (by omega)
  have e1 : wrap64 ((i : Int) + 1) = ((i + 1 : Nat) : Int) := by unfold wrap64; omega
  simp only [z0g.l0]
  rw [if_pos (by omega), if_pos (by omega), hb, e1, hd, List.all_cons]
  have hiff := okc_iff c
  by_cases hok : okc c = true
  ·rw [hok, Bool.true_and, hi1]
   rw [hok] at hiff
   have hp := hiff.1 rfl
   clear hiff hok ih hi1
   repeat' split
   all_goals first | rfl | (exfalso; omega)
  ·have hf : okc c = false := by simpa using hok
   rw [hf, Bool.false_and, hi1]
   have hp : ¬ ((97 ≤ c ∧ c ≤ 122) ∨ (48 ≤ c ∧ c ≤ 57) ∨ c = 45 ∨ c = 95) := fun h => hok (hiff.2 h)
   clear hiff hok ih hi1 hf
   rw [if_neg (c := false = true) (by decide)]
   repeat' split
   all_goals first | rfl | (exfalso; omega)
theorem restOk_is (q : ByteArray) (x3 : Int) : (if (bs q).all okc then (if 64 < q.size then (0 : Int) else x3) else 0) = if restOk (bs q) = true ∨ q.size = 0 then x3 else 0 := by
 unfold restOk
 by_cases h0 : q.size = 0
 ·have : bs q = [] := List.eq_nil_of_length_eq_zero (by rw [z17]; exact h0)
  rw [this, if_pos (Or.inr h0), if_pos (by rfl), if_neg (by omega)]
 ·have h1 : (bs q).isEmpty = false := by
   cases h : bs q with
   | nil => rw [← z17, h] at h0; exact absurd rfl h0
   | cons _ _ => rfl
  rw [h1, z17]
  by_cases h2 : (bs q).all okc = true
  ·rw [if_pos h2, h2]
   by_cases h3 : 64 < q.size
   ·rw [if_pos h3, if_neg]; intro h; rcases h with h | h
    ·have : q.size ≤ 64 := by simpa using h
     omega
    ·omega
   ·rw [if_neg h3, if_pos]; left; simp; omega
  ·rw [if_neg h2, if_neg]; intro h; rcases h with h | h
   ·have hf : (bs q).all okc = false := by simpa using h2
    rw [hf] at h; simp at h
   ·omega
theorem pre_iff (s : ByteArray) (p : List UInt8) (n : Nat) (hn : p.length = n) : ((s.extract 0 n).toList = p) ↔ (p.map UInt8.toNat).isPrefixOf (bs s) = true := by
 rw [toL, List.isPrefixOf_iff_prefix, List.prefix_iff_eq_take]
 have e : (s.extract 0 n).data.toList = s.data.toList.take n := by simp [List.extract_eq_take_drop]
 rw [e, List.length_map, hn]
 unfold bs
 rw [← List.map_take]
 constructor
 ·intro h; rw [h]
 ·intro h
  have := (List.map_inj_right (f := UInt8.toNat) (fun a b h => UInt8.toNat_inj.1 h)).1 h
  exact this.symm
theorem ref05_j3 (q : ByteArray) (hq : q.size ≤ 9223372036854775807) (x3 : Int) (k : Nat) (hk : q.size + 2 ≤ k) : z0g.j3 k x3 q = some (if restOk (bs q) = true ∨ q.size = 0 then x3 else 0) := by
 obtain ⟨k, rfl⟩ : ∃ m, k = m + 1 := ⟨k - 1, by omega⟩
 simp only [z0g.j3]
 have := ref05_l0 q hq x3 q.size 0 k (by omega) (by omega)
 rw [show ((0 : Nat) : Int) = 0 from rfl, List.drop_zero, restOk_is] at this
 exact this
theorem bs_tail (s : ByteArray) (n : Nat) : bs (s.extract n s.size) = (bs s).drop n := by
 rw [bs_extract]; exact List.take_of_length_le (by rw [List.length_drop, z17]; exact Nat.le_refl _)
theorem heads_tags (l : List Nat) (h : heads.isPrefixOf l = true) : tags.isPrefixOf l = false := by
 cases l with
 | nil => rfl
 | cons c l =>
  have : c = 104 := by
   have h1 := (List.isPrefixOf_iff_prefix.1 h)
   obtain ⟨t, ht⟩ := h1
   simp only [heads, List.cons_append, List.cons.injEq] at ht
   exact ht.1.symm
  subst this; rfl
theorem pre_len (p l : List Nat) (h : p.isPrefixOf l = true) : p.length ≤ l.length := (List.isPrefixOf_iff_prefix.1 h).length_le
theorem ref05_j1 (s q : ByteArray) (x3 : Int) (hs : s.size ≤ 9223372036854775807) (hq : q.size ≤ s.size) (k : Nat) (hk : s.size + 5 ≤ k) :
  z0g.j1 k s x3 q = some (if tags.isPrefixOf (bs s) = true ∧ s.size ≠ 5 then (if restOk ((bs s).drop 5) = true then 2 else 0) else if restOk (bs q) = true ∨ q.size = 0 then x3 else 0) := by
 obtain ⟨k, rfl⟩ : ∃ m, k = m + 2 := ⟨k - 2, by omega⟩
 simp only [z0g.j1]
 have hp := pre_iff s [116, 97, 103, 115, 47] 5 rfl
 have ht : (([116, 97, 103, 115, 47] : List UInt8).map UInt8.toNat) = tags := rfl
 rw [ht] at hp
 by_cases h5 : (s.size : Int) > 5
 ·rw [if_pos h5, if_pos (by omega), if_pos (by omega)]
  simp only [z0g.j2]
  by_cases h : tags.isPrefixOf (bs s) = true
  ·rw [if_pos (by rw [beq_iff_eq]; exact hp.2 h), if_pos (by omega), ref05_j3 _ (by rw [ByteArray.size_extract]; omega) _ _ (by rw [ByteArray.size_extract]; omega), if_pos (c := tags.isPrefixOf (bs s) = true ∧ s.size ≠ 5) ⟨h, by omega⟩, bs_tail]
   congr 1
   by_cases hr : restOk ((bs s).drop 5) = true
   ·rw [if_pos (Or.inl hr), if_pos hr]
   ·rw [if_neg hr, if_neg]
    rintro (h1 | h1)
    ·exact hr h1
    ·rw [ByteArray.size_extract] at h1; omega
  ·rw [if_neg (by rw [beq_iff_eq]; exact fun e => h (hp.1 e)), ref05_j3 q (by omega) _ _ (by omega), if_neg (c := tags.isPrefixOf (bs s) = true ∧ s.size ≠ 5) (fun e => h e.1)]
 ·rw [if_neg h5]
  simp only [z0g.j2]
  rw [if_neg (by decide), ref05_j3 q (by omega) _ _ (by omega), if_neg (c := tags.isPrefixOf (bs s) = true ∧ s.size ≠ 5)]
  rintro ⟨h1, h2⟩
  have := pre_len _ _ h1
  rw [z17] at this
  simp only [tags, List.length_cons, List.length_nil] at this
  omega
theorem restOk_nil (l : List Nat) (h : l.length = 0) : restOk l = false := restOk_short l (Or.inl h)
theorem ref05 (s : ByteArray) (hs : s.size ≤ 9223372036854775807) (k : Nat) (hk : s.size + 10 ≤ k) : z0g.f k s = some ((refKind (bs s) : Nat) : Int) := by
 obtain ⟨k, rfl⟩ : ∃ m, k = m + 1 := ⟨k - 1, by omega⟩
 unfold z0g.f
 have hp := pre_iff s [104, 101, 97, 100, 115, 47] 6 rfl
 have ht : (([104, 101, 97, 100, 115, 47] : List UInt8).map UInt8.toNat) = heads := rfl
 rw [ht] at hp
 have hk5 : (bs s).length = s.size := z17 s
 have h5l : s.size = 5 → restOk ((bs s).drop 5) = false := fun e => restOk_nil _ (by rw [List.length_drop]; omega)
 have h6l : s.size = 6 → restOk ((bs s).drop 6) = false := fun e => restOk_nil _ (by rw [List.length_drop]; omega)
 have hnil : restOk (bs (⟨#[]⟩ : ByteArray)) = false := by rfl
 have hz : (⟨#[]⟩ : ByteArray).size = 0 := rfl
 unfold refKind refOk
 by_cases hH : heads.isPrefixOf (bs s) = true
 ·have hT := heads_tags _ hH
  have hl := pre_len _ _ hH
  rw [hk5] at hl
  simp only [heads, List.length_cons, List.length_nil] at hl
  rw [if_pos hH, if_pos hH]
  by_cases h6 : (s.size : Int) > 6
  ·rw [if_pos h6, if_pos (by omega), if_pos (by omega)]
   simp only [z0g.j0]
   rw [if_pos (by rw [beq_iff_eq]; exact hp.2 hH), if_pos (by omega), ref05_j1 s _ 1 hs (by rw [ByteArray.size_extract]; omega) k (by omega), if_neg (by rw [hT]; simp), bs_tail]
   congr 1
   by_cases hr : restOk ((bs s).drop 6) = true
   ·rw [if_pos (Or.inl hr), if_pos hr]; rfl
   ·rw [if_neg hr, if_neg]
    ·rfl
    rintro (h1 | h1)
    ·exact hr h1
    ·rw [ByteArray.size_extract] at h1; omega
  ·rw [if_neg h6]
   simp only [z0g.j0]
   rw [if_neg (by decide), ref05_j1 s _ 0 hs (by rw [hz]; omega) k (by omega), if_neg (by rw [hT]; simp), ite_self, h6l (by omega)]
   simp
 ·rw [if_neg hH]
  have h0 : (if (s.size : Int) > 6 then (if 0 ≤ 6 then (if 6 ≤ (s.size : Int) then (z0g.j0 (k + 1) s 0 (⟨#[]⟩ : ByteArray) ((s.extract 0 6).toList == ([104, 101, 97, 100, 115, 47] : List UInt8))) else (none)) else (none)) else (z0g.j0 (k + 1) s 0 (⟨#[]⟩ : ByteArray) false)) = z0g.j1 k s 0 (⟨#[]⟩ : ByteArray) := by
   simp only [z0g.j0]
   by_cases h6 : (s.size : Int) > 6
   ·rw [if_pos h6, if_pos (by omega), if_pos (by omega), if_neg (by rw [beq_iff_eq]; exact fun e => hH (hp.1 e))]
   ·rw [if_neg h6, if_neg (by decide)]
  rw [h0, ref05_j1 s _ 0 hs (by rw [hz]; omega) k (by omega)]
  congr 1
  by_cases hT : tags.isPrefixOf (bs s) = true
  ·rw [if_pos hT, if_neg hH]
   by_cases h5 : s.size = 5
   ·rw [if_neg (fun e => e.2 h5), h5l h5]; simp
   ·rw [if_pos ⟨hT, h5⟩]
    by_cases hr : restOk ((bs s).drop 5) = true
    ·rw [if_pos hr, if_pos hr]; rfl
    ·rw [if_neg hr, if_neg hr]; rfl
  ·rw [if_neg (fun e => hT e.1), if_neg hT]; simp
theorem refKind_pos (l : List Nat) : (((refKind l : Nat) : Int) > 0) ↔ refOk l = true := by
 unfold refKind
 by_cases h : refOk l = true
 ·rw [if_pos h]; split <;> simp [h]
 ·rw [if_neg h]; simp [h]
theorem ref05_calls (s : ByteArray) (w : World) (hs : s.size ≤ 9223372036854775807) :
  Calls Try.prog 44 #[.string s] w fun e w' => e = .returned (.int .i64 (refKind (bs s) : Nat)) ∧ Below w.heap.size w w' :=
 (z0g.calls (s.size + 10) _ _ w (ref05 s hs _ (Nat.le_refl _))).mono fun e w' h => ⟨h.1, h.2.below⟩
end Go.Proofs.Ytcfdplmapdgfmaa.Mine
