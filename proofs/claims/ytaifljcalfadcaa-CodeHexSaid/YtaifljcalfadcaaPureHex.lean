/- Bytes as digits: the code's and the document's. Plain lists and numbers. -/
import Derived.Test.YtaifljcalfadcaaPureDec
namespace Go.Proofs.Ytaifljcalfadcaa.Mine
open Go.RowKit Go.Proofs.Ytaifljcalfadcaa.PA Go.Proofs.YtaifljcalfadcaaW.PrintWords

theorem refHex_l0 (s : ByteArray) (hs : s.size ≤ 300) (d : Nat) : ∀ (i k : Nat) (l : List Nat), i + d = s.size → l.length = 2 * i → d < k →
    pollardref02_Hex.l0 k s (sb l) (i : Int) = some (sb (l ++ hex ((bs s).drop i))) := by
  induction d with
  | zero =>
    intro i k l hi hl hk
    obtain ⟨k, rfl⟩ : ∃ m, k = m + 1 := ⟨k - 1, by omega⟩
    simp only [pollardref02_Hex.l0]
    have hnil : (bs s).drop i = [] := List.drop_eq_nil_of_le (by rw [bs_length]; omega)
    rw [if_neg (by omega), hnil, hex, List.append_nil]
  | succ d ih =>
    intro i k l hi hl hk
    obtain ⟨k, rfl⟩ : ∃ m, k = m + 1 := ⟨k - 1, by omega⟩
    simp only [pollardref02_Hex.l0]
    obtain ⟨c, hc, hd, hb⟩ := bt_bs s i (by omega)
    rw [if_pos (by omega), if_pos (by omega), hb]
    have e1 : wrap64 (Int.tdiv (wrap64 (c : Int)) 16) = ((c / 16 : Nat) : Int) := by
      rw [w64 (c : Int) (by omega) (by omega), Int.tdiv_eq_ediv_of_nonneg (by omega), w64 _ (by omega) (by omega)]; omega
    rw [e1]
    clear e1
    have e2 : Int.tmod (wrap64 (c : Int)) 16 = ((c % 16 : Nat) : Int) := by
      rw [w64 (c : Int) (by omega) (by omega), Int.tmod_eq_emod_of_nonneg (by omega)]; omega
    rw [e2]
    clear e2
    have e3 : wrap64 ((i : Int) + 1) = ((i + 1 : Nat) : Int) := by unfold wrap64; omega
    rw [e3]
    clear e3
    rw [refDigit (c / 16) (by omega), refDigit (c % 16) (by omega)]
    simp only [Option.bind_some]
    have a1 := sb_size l
    have a2 := sb_size [dig (c / 16)]
    have a3 := sb_size [dig (c % 16)]
    have a4 := sb_size ([dig (c / 16)] ++ [dig (c % 16)])
    simp only [List.length_cons, List.length_nil, List.length_append] at a2 a3 a4
    rw [if_pos (by omega), ← sb_append, if_pos (by omega), ← sb_append, ih (i + 1) k _ (by omega) (by simp; omega) (by omega), hd, hex]
    simp
theorem refHex (s : ByteArray) (hs : s.size ≤ 300) (k : Nat) (hk : 301 ≤ k) : pollardref02_Hex.f k s = some (sb (hex (bs s))) :=
  refHex_l0 s hs s.size 0 k [] (by omega) rfl (by omega)

theorem val_dig (d : Nat) (h : d < 16) : val (dig d) = d := by
  unfold val dig
  by_cases h10 : d < 10
  · rw [if_pos h10, if_pos (by omega)]; omega
  · rw [if_neg h10, if_neg (by omega), if_pos (by omega)]; omega
theorem unhexGo_hex : ∀ (l out : List Nat), (∀ c ∈ l, c < 256) → unhexGo (hex l) false out = some (out ++ l)
  | [], out, _ => by rw [hex, unhexGo, List.append_nil]
  | c :: l, out, h => by
    have hc : c < 256 := h c (by simp)
    rw [hex, unhexGo, val_dig _ (by omega), if_neg (by omega), unhexGo, val_dig _ (by omega), if_neg (by omega)]
    rw [List.dropLast_concat, List.getLastD_concat, show (c / 16 * 16 + c % 16) % 256 = c from by omega, unhexGo_hex l _ (fun x hx => h x (by simp [hx]))]
    simp
theorem unhex_hex (l : List Nat) (h : ∀ c ∈ l, c < 256) : unhex (hex l) = (l, 0) := by
  rw [unhex, if_neg (by rw [hex_length]; omega), unhexGo_hex l [] h]
  rfl

theorem refValue (c k : Nat) (hc : c < 256) (hk : 0 < k) : pollardref02_value.f k (c : Int) = some (val c : Int) := by
  obtain ⟨k, rfl⟩ : ∃ m, k = m + 1 := ⟨k - 1, by omega⟩
  unfold pollardref02_value.f
  simp only [pollardref02_value.j0]
  unfold val
  by_cases h1 : 48 ≤ c
  · by_cases h2 : c ≤ 57
    · have e : wrap64 (wrap64 (c : Int) - 48) = ((c - 48 : Nat) : Int) := by rw [w64 (c : Int) (by omega) (by omega), w64 _ (by omega) (by omega)]; omega
      rw [if_pos (by omega), decide_eq_true (by omega), if_pos rfl, if_pos ⟨h1, h2⟩, e]
    · rw [if_pos (by omega), decide_eq_false (by omega), if_neg (by simp), if_neg (show ¬ (48 ≤ c ∧ c ≤ 57) by omega)]
      by_cases h3 : 97 ≤ c
      · by_cases h4 : c ≤ 102
        · have e : wrap64 (wrap64 (c : Int) - 87) = ((c - 87 : Nat) : Int) := by rw [w64 (c : Int) (by omega) (by omega), w64 _ (by omega) (by omega)]; omega
          rw [if_pos (by omega), if_pos (by omega), if_pos ⟨h3, h4⟩, e]
        · rw [if_pos (by omega), if_neg (by omega), if_neg (by omega)]; rfl
      · rw [if_neg (by omega), if_neg (by omega)]; rfl
  · rw [if_neg (by omega), if_neg (by simp), if_neg (show ¬ (48 ≤ c ∧ c ≤ 57) by omega), if_neg (by omega), if_neg (show ¬ (97 ≤ c ∧ c ≤ 102) by omega)]; rfl

def sbi (r : List Nat × Nat) : ByteArray × Int := (sb r.1, (r.2 : Int))
theorem val_le (c : Nat) : val c ≤ 16 := by
  unfold val
  split
  · omega
  · split <;> omega
theorem refUnhex_even (s : ByteArray) (hs : s.size ≤ 300) (d : Nat) : ∀ (i k : Nat) (l : List Nat), i + d = s.size → i % 2 = 0 → l.length ≤ i → 3 * d + 2 < k →
    pollardref02_Unhex.l0 k s (ints l) (i : Int) = some (sbi (if s.size % 2 = 1 then ([], 6) else outOf (unhexGo ((bs s).drop i) false l))) := by
  induction d using Nat.strongRecOn with
  | _ d ih =>
    intro i k l hi hev hl hk
    by_cases h0 : d = 0
    · obtain ⟨k, rfl⟩ : ∃ m, k = m + 1 := ⟨k - 1, by omega⟩
      simp only [pollardref02_Unhex.l0]
      have hnil : (bs s).drop i = [] := List.drop_eq_nil_of_le (by rw [bs_length]; omega)
      rw [if_neg (by omega), hnil, unhexGo, strOf_ints, if_neg (by omega)]
      rfl
    · obtain ⟨k, rfl⟩ : ∃ m, k = m + 5 := ⟨k - 5, by omega⟩
      obtain ⟨c, hc, hd, hb⟩ := bt_bs s i (by omega)
      have hbad : ∀ k', pollardref02_Unhex.j1 (k' + 1) s (ints l) (i : Int) true = some (sbi ([], 6)) := fun k' => by simp only [pollardref02_Unhex.j1, if_true]; rfl
      rw [show k + 5 = (k + 4) + 1 from rfl]
      simp only [pollardref02_Unhex.l0]
      rw [if_pos (by omega), if_pos (by omega), hb, refValue c _ hc (by omega)]
      simp only [Option.bind_some]
      by_cases hv : val c > 15
      · rw [if_pos (by omega), hbad, hd, unhexGo_bad _ _ _ _ hv]
        split <;> rfl
      · rw [if_neg (by omega), Int.tmod_eq_emod_of_nonneg (by omega), if_pos (by omega)]
        have e1 : wrap64 ((i : Int) + 1) = ((i + 1 : Nat) : Int) := by unfold wrap64; omega
        rw [e1]
        by_cases hend : i + 1 = s.size
        · clear e1
          rw [show (((i + 1 : Nat) : Int) == (s.size : Int)) = true from by rw [beq_iff_eq]; omega, hbad, if_pos (by omega)]
        · rw [show (((i + 1 : Nat) : Int) == (s.size : Int)) = false from by rw [beq_eq_false_iff_ne]; omega]
          rw [show k + 4 = (k + 3) + 1 from rfl]
          simp only [pollardref02_Unhex.j1]
          rw [if_neg (by simp), Int.tmod_eq_emod_of_nonneg (by omega), if_neg (by omega), e1]
          clear e1
          obtain ⟨c2, hc2, hd2, hb2⟩ := bt_bs s (i + 1) (by omega)
          have hbad2 : ∀ k', pollardref02_Unhex.j1 (k' + 1) s (ints l) ((i + 1 : Nat) : Int) true = some (sbi ([], 6)) := fun k' => by simp only [pollardref02_Unhex.j1, if_true]; rfl
          rw [show k + 3 = (k + 2) + 1 from rfl]
          simp only [pollardref02_Unhex.l0]
          rw [if_pos (by omega), if_pos (by omega), hb2, refValue c2 _ hc2 (by omega)]
          simp only [Option.bind_some]
          rw [hd, unhexGo, if_neg hv, hd2]
          by_cases hv2 : val c2 > 15
          · rw [if_pos (by omega), hbad2, unhexGo_bad _ _ _ _ hv2]
            split <;> rfl
          · rw [if_neg (by omega), Int.tmod_eq_emod_of_nonneg (by omega), if_neg (by omega)]
            rw [show k + 2 = (k + 1) + 1 from rfl]
            simp only [pollardref02_Unhex.j1]
            rw [if_neg (by simp), Int.tmod_eq_emod_of_nonneg (by omega), if_pos (by omega)]
            have e2 : wrap64 (((i + 1 : Nat) : Int) - 1) = (i : Int) := by unfold wrap64; omega
            rw [e2]
            clear e2
            rw [if_pos (by omega), if_pos (by omega), hb, refValue c _ hc (by omega)]
            simp only [Option.bind_some]
            rw [if_pos (by omega), if_pos (by omega), hb2, refValue c2 _ hc2 (by omega)]
            simp only [Option.bind_some]
            have hil : (ints l).length = l.length := by simp [ints]
            rw [if_pos (by omega)]
            have e3 : wrap64 (wrap64 (16 * (val c : Int)) + (val c2 : Int)) % 256 = (((val c * 16 + val c2) % 256 : Nat) : Int) := by
              rw [w64 (16 * (val c : Int)) (by omega) (by omega), w64 _ (by omega) (by omega)]; omega
            rw [e3]
            clear e3
            have e4 : wrap64 (((i + 1 : Nat) : Int) + 1) = ((i + 2 : Nat) : Int) := by unfold wrap64; omega
            rw [e4]
            clear e4
            have e5 : ints l ++ [(((val c * 16 + val c2) % 256 : Nat) : Int)] = ints (l ++ [(val c * 16 + val c2) % 256]) := by simp [ints]
            rw [e5, ih (d - 2) (by omega) (i + 2) (k + 1) _ (by omega) (by omega) (by simp; omega) (by omega)]
            rw [unhexGo, if_neg hv2, List.dropLast_concat, List.getLastD_concat]
theorem refUnhex (s : ByteArray) (hs : s.size ≤ 300) (k : Nat) (hk : 1000 ≤ k) : pollardref02_Unhex.f k s = some (sbi (unhex (bs s))) := by
  have := refUnhex_even s hs s.size 0 k [] (by omega) rfl (by simp) (by omega)
  unfold pollardref02_Unhex.f
  rw [unhex, bs_length]
  exact this
end Go.Proofs.Ytaifljcalfadcaa.Mine
