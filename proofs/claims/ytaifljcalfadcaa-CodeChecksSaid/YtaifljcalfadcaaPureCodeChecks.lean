/- The check of any bytes is the document's; one byte that is another one makes it another one: for every string, place and byte. -/
import Derived.Test.YtaifljcalfadcaaPureCheck
namespace Go.Proofs.Ytaifljcalfadcaa.Pure
open Go.RowKit Go.Proofs.Ytaifljcalfadcaa.PA Go.Proofs.YtaifljcalfadcaaW.PrintWords Go.Proofs.YtaifljcalfadcaaW.PrintLast Mine

theorem codeCheck (s : ByteArray) (hs : s.size ≤ 140737488351232) : code_Check.f s = some ((crc (bs s) : Nat) : Int) := by
  unfold code_Check.f
  rw [if_pos hs]
theorem j1_true (k : Nat) (a b : Int) (t : ByteArray) : pollardlaw02_CodeChecks.j1 (k + 1) a b t true = some true := by
  simp only [pollardlaw02_CodeChecks.j1, if_true]
theorem CodeChecks : pollardlaw02_CodeChecks.Pure := by
  intro a0 a1 a2 _ hw1 hw2
  have hb1 : -9223372036854775808 ≤ a1 ∧ a1 ≤ 9223372036854775807 := by simpa [Lit.wf, IntKind.min, IntKind.max, IntKind.signed, IntKind.bits] using hw1
  have hb2 : 0 ≤ a2 ∧ a2 ≤ 255 := by simpa [Lit.wf, IntKind.min, IntKind.max, IntKind.signed, IntKind.bits] using hw2
  obtain ⟨t, ht, hs⟩ := few_some a0
  refine ⟨4000, ?_⟩
  unfold pollardlaw02_CodeChecks.f
  rw [ht]
  simp only [Option.bind_some, awake 4000 (by omega), if_true, codeCheck t (by omega), refCheck t (by omega) 4000 (by omega)]
  rw [show (((crc (bs t) : Nat) : Int) != ((crc (bs t) : Nat) : Int)) = false from by simp, show (4000 : Nat) = 3998 + 1 + 1 from rfl]
  simp only [pollardlaw02_CodeChecks.j0]
  rw [if_neg (by simp)]
  by_cases h1 : a1 < 0
  · rw [if_pos h1, j1_true]
  · rw [if_neg h1]
    by_cases h2 : a1 ≥ (t.size : Int)
    · rw [if_pos h2, j1_true]
    · rw [if_neg h2]
      by_cases h3 : a2 = 0
      · rw [show (a2 == 0) = true from by rw [h3]; rfl, j1_true]
      · rw [show (a2 == 0) = false from by rw [beq_eq_false_iff_ne]; exact h3]
        simp only [pollardlaw02_CodeChecks.j1]
        obtain ⟨i, rfl⟩ := Int.eq_ofNat_of_zero_le (by omega : 0 ≤ a1)
        obtain ⟨b, rfl⟩ := Int.eq_ofNat_of_zero_le hb2.1
        obtain ⟨c, hc, hd, hb⟩ := bt_bs t i (by omega)
        have hx := u8_xor_nat c b (by omega) (by omega)
        have hlx : c ^^^ b < 256 := Nat.xor_lt_two_pow (n := 8) (by omega) (by omega)
        rw [if_neg (by simp), if_pos (by omega), if_pos (by omega), if_pos (by omega), hb, hx]
        simp only [Option.bind_some]
        have e1 : strOfNums [((c ^^^ b : Nat) : Int)] = sb [c ^^^ b] := by rw [← strOf_ints]; rfl
        have e2 : wrap64 ((i : Int) + 1) = ((i + 1 : Nat) : Int) := by unfold wrap64; omega
        rw [e1, e2]
        clear e1 e2
        have z1 : (t.extract 0 ((i : Int)).toNat).size = i := by rw [ByteArray.size_extract]; omega
        have z2 := sb_size [c ^^^ b]
        have z3 : (t.extract (((i + 1 : Nat) : Int)).toNat t.size).size = t.size - (i + 1) := by rw [ByteArray.size_extract]; omega
        have z4 : (t.extract 0 ((i : Int)).toNat ++ sb [c ^^^ b]).size = i + 1 := by rw [ByteArray.size_append, z1, z2]; rfl
        have z5 : (t.extract 0 ((i : Int)).toNat ++ sb [c ^^^ b] ++ t.extract (((i + 1 : Nat) : Int)).toNat t.size).size ≤ 400 := by rw [ByteArray.size_append, z4, z3]; omega
        simp only [List.length_cons, List.length_nil] at z2
        rw [if_pos (by omega), if_pos (by omega), if_pos (by omega), if_pos (by omega), codeCheck _ (by omega)]
        simp only [Option.bind_some]
        have hbs : bs t = (bs t).take i ++ c :: (bs t).drop (i + 1) := by rw [← hd, List.take_append_drop]
        have hnew : bs (t.extract 0 ((i : Int)).toNat ++ sb [c ^^^ b] ++ t.extract (((i + 1 : Nat) : Int)).toNat t.size) = (bs t).take i ++ (c ^^^ b) :: (bs t).drop (i + 1) := by
          rw [bs_append, bs_append, bs_extract, bs_extract, bs_sb _ (by simp; omega)]
          have := bs_length t
          simp only [Int.toNat_natCast, List.drop_zero, Nat.sub_zero, List.append_assoc, List.singleton_append]
          rw [List.take_of_length_le (l := (bs t).drop (i + 1)) (by rw [List.length_drop]; omega)]
        have hlt := bs_lt t
        have hp : ∀ x ∈ (bs t).take i, x < 256 := fun x hx => hlt x (List.mem_of_mem_take hx)
        have hq : ∀ x ∈ (bs t).drop (i + 1), x < 256 := fun x hx => hlt x (List.mem_of_mem_drop hx)
        have hne : c ^^^ b ≠ c := by
          intro e
          have : b = 0 := xor_inj_left (a := c) (by rw [e, Nat.xor_zero])
          omega
        have hfin := crc_one _ _ _ c hp hq hlx hc hne
        rw [← hbs, ← hnew] at hfin
        have hz : (((crc (bs (t.extract 0 ((i : Int)).toNat ++ sb [c ^^^ b] ++ t.extract (((i + 1 : Nat) : Int)).toNat t.size)) : Nat) : Int) != ((crc (bs t) : Nat) : Int)) = true := by
          rw [bne_iff_ne]
          omega
        rw [codeCheck t (by omega)]
        simp only [Option.bind_some]
        rw [hz]
end Go.Proofs.Ytaifljcalfadcaa.Pure
