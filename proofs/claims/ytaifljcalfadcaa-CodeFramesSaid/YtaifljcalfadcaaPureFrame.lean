/- Frames: the code's and the document's. Plain lists and numbers. -/
import Derived.Test.YtaifljcalfadcaaPureCheck
namespace Go.Proofs.Ytaifljcalfadcaa.Mine
open Go.RowKit Go.Proofs.Ytaifljcalfadcaa.PA Go.Proofs.YtaifljcalfadcaaW.PrintWords

def four (r : Nat) : List Nat := [r / 16777216 % 256, r / 65536 % 256, r / 256 % 256, r % 256]
theorem four_lt (r : Nat) : ∀ c ∈ four r, c < 256 := by
  intro c hc
  simp only [four, List.mem_cons, List.not_mem_nil, or_false] at hc
  omega
theorem four_length (r : Nat) : (four r).length = 4 := rfl
theorem codeFour (r : Nat) : code_four.f (r : Int) = some (sb (four r)) := by
  unfold code_four.f
  have : [((r : Int) / 16777216) % 256, ((r : Int) / 65536) % 256, ((r : Int) / 256) % 256, (r : Int) % 256] = ints (four r) := by simp [ints, four]
  rw [this, strOf_ints]
theorem refFour (r : Nat) (h : r < 4294967296) : pollardref02_four.f (r : Int) = some (sb (four r)) := by
  unfold pollardref02_four.f
  rw [Int.tdiv_eq_ediv_of_nonneg (by omega), Int.tdiv_eq_ediv_of_nonneg (by omega), Int.tdiv_eq_ediv_of_nonneg (by omega), Int.tmod_eq_emod_of_nonneg (by omega)]
  have : [((r : Int) / 16777216) % 4294967296 % 256, ((r : Int) / 65536) % 4294967296 % 256, ((r : Int) / 256) % 4294967296 % 256, (r : Int) % 256 % 256] = ints (four r) := by
    have a1 : ((r : Int) / 16777216) % 4294967296 % 256 = ((r / 16777216 % 256 : Nat) : Int) := by omega
    have a2 : ((r : Int) / 65536) % 4294967296 % 256 = ((r / 65536 % 256 : Nat) : Int) := by omega
    have a3 : ((r : Int) / 256) % 4294967296 % 256 = ((r / 256 % 256 : Nat) : Int) := by omega
    have a4 : (r : Int) % 256 % 256 = ((r % 256 : Nat) : Int) := by omega
    rw [a1, a2, a3, a4]
    rfl
  rw [this, strOf_ints]
theorem codeCheckF (s : ByteArray) (hs : s.size ≤ 140737488351232) : code_Check.f s = some ((crc (bs s) : Nat) : Int) := by
  unfold code_Check.f
  rw [if_pos hs]

def frame (l : List Nat) : List Nat := num l.length ++ l ++ four (crc (num l.length ++ l))
theorem frame_lt (l : List Nat) (h : ∀ c ∈ l, c < 256) : ∀ c ∈ frame l, c < 256 := by
  intro c hc
  simp only [frame, List.mem_append] at hc
  rcases hc with (hc | hc) | hc
  · exact num_lt _ c hc
  · exact h c hc
  · exact four_lt _ c hc
theorem frame_length (l : List Nat) : (frame l).length = (num l.length).length + l.length + 4 := by simp [frame, four_length]; omega
theorem app_lt {a b : List Nat} (ha : ∀ c ∈ a, c < 256) (hb : ∀ c ∈ b, c < 256) : ∀ c ∈ a ++ b, c < 256 := by
  intro c hc
  rcases List.mem_append.1 hc with h | h
  · exact ha c h
  · exact hb c h

theorem codeFrame (s : ByteArray) (hs : s.size ≤ 1000000000) (k : Nat) (hk : 10 ≤ k) : code_Frame.f k s = some (sb (frame (bs s))) := by
  have hnl := num_length s.size (by omega)
  have hl := bs_length s
  unfold code_Frame.f
  have e1 : IntKind.u64.wrap ((s.size : Int)) = (s.size : Int) := by rw [IntKind.wrap_u64]; omega
  rw [e1, codeNum s.size (by omega) k hk]
  clear e1
  simp only [Option.bind_some]
  have z1 := sb_size (num s.size)
  have z2 : (sb (num s.size) ++ s).size = (num s.size).length + s.size := by rw [ByteArray.size_append, z1]
  rw [if_pos (by omega), codeCheckF _ (by omega)]
  simp only [Option.bind_some]
  rw [codeFour]
  simp only [Option.bind_some]
  have z3 := sb_size (four (crc (bs (sb (num s.size) ++ s))))
  rw [four_length] at z3
  rw [if_pos (by omega)]
  have hbs : bs (sb (num s.size) ++ s) = num (bs s).length ++ bs s := by rw [bs_append, bs_sb _ (num_lt _), hl]
  rw [hbs]
  unfold frame
  rw [sb_append, sb_append, sb_bs, hl]
theorem refFrame (s : ByteArray) (hs : s.size ≤ 1000000000) (k : Nat) (hk : 10 * s.size + 200 ≤ k) : pollardref02_Frame.f k s = some (sb (frame (bs s))) := by
  have hnl := num_length s.size (by omega)
  have hl := bs_length s
  unfold pollardref02_Frame.f
  have e1 : IntKind.u64.wrap ((s.size : Int)) = (s.size : Int) := by rw [IntKind.wrap_u64]; omega
  rw [e1, refNum s.size (by omega) k (by omega)]
  clear e1
  simp only [Option.bind_some]
  have z1 := sb_size (num s.size)
  have z2 : (sb (num s.size) ++ s).size = (num s.size).length + s.size := by rw [ByteArray.size_append, z1]
  rw [if_pos (by omega), refCheck _ (by omega) k (by omega)]
  simp only [Option.bind_some]
  rw [refFour _ (crc_lt _ (bs_lt _))]
  simp only [Option.bind_some]
  have z3 := sb_size (four (crc (bs (sb (num s.size) ++ s))))
  rw [four_length] at z3
  rw [if_pos (by omega)]
  have hbs : bs (sb (num s.size) ++ s) = num (bs s).length ++ bs s := by rw [bs_append, bs_sb _ (num_lt _), hl]
  rw [hbs]
  unfold frame
  rw [sb_append, sb_append, sb_bs, hl]

def unframeOf (l : List Nat) (n at_ : Nat) : List Nat × Nat × Nat :=
  if 2097152 < n then ([], 0, 3) else
  if l.length < at_ + n + 4 then ([], 0, 4) else
  if four (crc (l.take (at_ + n))) = (l.drop (at_ + n)).take 4 then ((l.drop at_).take n, at_ + n + 4, 0) else ([], 0, 6)
def unframe (l : List Nat) : List Nat × Nat × Nat :=
  if (unnum l).2.2 = 0 then unframeOf l (unnum l).1 (unnum l).2.1 else ([], 0, (unnum l).2.2)
def tris (r : List Nat × Nat × Nat) : ByteArray × Int × Int := (sb r.1, (r.2.1 : Int), (r.2.2 : Int))
theorem toL_iff (l : List Nat) (h : ∀ c ∈ l, c < 256) (s : ByteArray) : ((sb l).toList = s.toList) ↔ l = bs s := by
  constructor
  · intro e
    rw [toL, toL] at e
    have : sb l = s := ByteArray.ext (Array.toList_inj.1 e)
    rw [← this, bs_sb _ h]
  · intro e
    rw [e, sb_bs]
theorem toL_iff' (l : List Nat) (h : ∀ c ∈ l, c < 256) (s : ByteArray) : (s.toList = (sb l).toList) ↔ l = bs s :=
  ⟨fun e => (toL_iff l h s).1 e.symm, fun e => ((toL_iff l h s).2 e).symm⟩
theorem bs_part (s : ByteArray) (i j : Nat) : bs (s.extract i (i + j)) = ((bs s).drop i).take j := by rw [bs_extract, show i + j - i = j from by omega]

theorem codeUnframe (s : ByteArray) (hs : s.size ≤ 140737488351232) : code_Unframe.f s = some (tris (unframe (bs s))) := by
  have hl := bs_length s
  obtain ⟨hb1, hb2, hb3⟩ := unnum_bounds (bs s) (bs_lt s)
  have hun : code_Unnum.f s = some (tri (unnum (bs s))) := by
    unfold code_Unnum.f
    rw [if_pos hs]
    rfl
  unfold code_Unframe.f
  rw [hun, unframe]
  rcases hu : unnum (bs s) with ⟨n, a, e⟩
  rw [hu] at hb1 hb2 hb3
  simp only at hb1 hb2 hb3
  have ht : some (tri (n, a, e)) = some ((n : Int), (a : Int), (e : Int)) := rfl
  rw [ht]
  simp only [Option.bind_some]
  by_cases he : e = 0
  · rw [if_pos (by omega), if_pos he, unframeOf]
    by_cases h2 : 2097152 < n
    · rw [if_pos (by omega), if_pos h2]; rfl
    · rw [if_neg (by omega), if_neg h2]
      have e1 : wrap64 (n : Int) = (n : Int) := by unfold wrap64; omega
      rw [e1]
      clear e1
      have e2 : wrap64 ((a : Int) + (n : Int)) = ((a + n : Nat) : Int) := by unfold wrap64; omega
      rw [e2]
      clear e2
      have e3 : wrap64 (((a + n : Nat) : Int) + 4) = ((a + n + 4 : Nat) : Int) := by unfold wrap64; omega
      rw [e3]
      clear e3
      by_cases h3 : s.size < a + n + 4
      · rw [if_pos (by omega), if_pos (by omega)]; rfl
      · have h3' : ¬ (bs s).length < a + n + 4 := by omega
        rw [if_neg h3', if_neg (by omega), if_pos (by omega), if_pos (by omega)]
        rw [codeCheckF _ (by rw [ByteArray.size_extract]; omega)]
        simp only [Option.bind_some]
        rw [codeFour]
        simp only [Option.bind_some]
        rw [if_pos (by omega), if_pos (by omega)]
        simp only [Int.toNat_natCast]
        have h0 : bs (s.extract 0 (a + n)) = (bs s).take (a + n) := by have := bs_part s 0 (a + n); rwa [Nat.zero_add, List.drop_zero] at this
        have h4 : bs (s.extract (a + n) (a + n + 4)) = ((bs s).drop (a + n)).take 4 := bs_part s (a + n) 4
        have h5 : bs (s.extract a (a + n)) = ((bs s).drop a).take n := bs_part s a n
        rw [h0]
        by_cases h6 : four (crc ((bs s).take (a + n))) = ((bs s).drop (a + n)).take 4
        · rw [if_pos ((toL_iff _ (four_lt _) _).2 (by rw [h4]; exact h6)), if_pos (by omega), if_pos (by omega), if_pos h6]
          have : s.extract a (a + n) = sb (((bs s).drop a).take n) := sb_eq _ _ h5
          rw [this]; rfl
        · rw [if_neg (fun e => h6 (by rw [← h4]; exact (toL_iff _ (four_lt _) _).1 e)), if_neg h6]; rfl
  · rw [if_neg (by omega), if_neg he]; rfl
theorem refUnframe (s : ByteArray) (hs : s.size ≤ 1000000000) (k : Nat) (hk : 10 * s.size + 100 ≤ k) : pollardref02_Unframe.f k s = some (tris (unframe (bs s))) := by
  have hl := bs_length s
  obtain ⟨hb1, hb2, hb3⟩ := unnum_bounds (bs s) (bs_lt s)
  unfold pollardref02_Unframe.f
  rw [refUnnum s k (by omega), unframe]
  rcases hu : unnum (bs s) with ⟨n, a, e⟩
  rw [hu] at hb1 hb2 hb3
  simp only at hb1 hb2 hb3
  have ht : some (tri (n, a, e)) = some ((n : Int), (a : Int), (e : Int)) := rfl
  rw [ht]
  simp only [Option.bind_some]
  by_cases he : e = 0
  · rw [if_pos (by omega), if_pos he, unframeOf]
    by_cases h2 : 2097152 < n
    · rw [if_pos (by omega), if_pos h2]; rfl
    · rw [if_neg (by omega), if_neg h2]
      have e1 : wrap64 (n : Int) = (n : Int) := by unfold wrap64; omega
      rw [e1]
      clear e1
      have e4 : wrap64 (wrap64 ((s.size : Int) - (a : Int)) - 4) = (s.size : Int) - (a : Int) - 4 := by
        rw [show wrap64 ((s.size : Int) - (a : Int)) = (s.size : Int) - (a : Int) from by unfold wrap64; omega]
        unfold wrap64; omega
      rw [e4]
      clear e4
      by_cases h3 : s.size < a + n + 4
      · rw [if_pos (by omega), if_pos (by omega)]; rfl
      · have e2 : wrap64 ((a : Int) + (n : Int)) = ((a + n : Nat) : Int) := by unfold wrap64; omega
        rw [e2]
        clear e2
        have e3 : wrap64 (((a + n : Nat) : Int) + 4) = ((a + n + 4 : Nat) : Int) := by unfold wrap64; omega
        rw [e3]
        clear e3
        have h3' : ¬ (bs s).length < a + n + 4 := by omega
        rw [if_neg h3', if_neg (by omega), if_pos (by omega), if_pos (by omega), if_pos (by omega), if_pos (by omega), if_pos (by omega), if_pos (by omega)]
        rw [refCheck _ (by rw [ByteArray.size_extract]; omega) k (by rw [ByteArray.size_extract]; omega)]
        simp only [Option.bind_some]
        rw [refFour _ (crc_lt _ (bs_lt _))]
        simp only [Option.bind_some, Int.toNat_natCast]
        have h0 : bs (s.extract 0 (a + n)) = (bs s).take (a + n) := by have := bs_part s 0 (a + n); rwa [Nat.zero_add, List.drop_zero] at this
        have h4 : bs (s.extract (a + n) (a + n + 4)) = ((bs s).drop (a + n)).take 4 := bs_part s (a + n) 4
        have h5 : bs (s.extract a (a + n)) = ((bs s).drop a).take n := bs_part s a n
        rw [h0]
        by_cases h6 : four (crc ((bs s).take (a + n))) = ((bs s).drop (a + n)).take 4
        · rw [if_pos ((toL_iff' _ (four_lt _) _).2 (by rw [h4]; exact h6)), if_pos h6]
          have : s.extract a (a + n) = sb (((bs s).drop a).take n) := sb_eq _ _ h5
          rw [this]; rfl
        · rw [if_neg (fun e => h6 (by rw [← h4]; exact (toL_iff' _ (four_lt _) _).1 e)), if_neg h6]; rfl
  · rw [if_neg (by omega), if_neg he]; rfl

theorem unframe_frame (l t : List Nat) (hl : l.length ≤ 2097152) : unframe (frame l ++ t) = (l, (frame l).length, 0) := by
  have hf : frame l ++ t = num l.length ++ (l ++ (four (crc (num l.length ++ l)) ++ t)) := by simp [frame]
  have hu := unnum_num l.length (by omega) (l ++ (four (crc (num l.length ++ l)) ++ t))
  have hfl := frame_length l
  rw [unframe, hf, hu]
  simp only [if_true]
  have h1 : ((num l.length ++ (l ++ (four (crc (num l.length ++ l)) ++ t)))).take ((num l.length).length + l.length) = num l.length ++ l := by
    rw [← List.append_assoc, List.take_left' (by simp)]
  have h2 : ((num l.length ++ (l ++ (four (crc (num l.length ++ l)) ++ t)))).drop ((num l.length).length + l.length) = four (crc (num l.length ++ l)) ++ t := by
    rw [← List.append_assoc, List.drop_left' (by simp)]
  have h3 : ((num l.length ++ (l ++ (four (crc (num l.length ++ l)) ++ t)))).drop (num l.length).length = l ++ (four (crc (num l.length ++ l)) ++ t) := List.drop_left' rfl
  rw [unframeOf, if_neg (by omega), if_neg (by simp [four_length]; omega), h1, h2, h3, List.take_left' (four_length _), if_pos rfl, List.take_left' rfl, hfl]
end Go.Proofs.Ytaifljcalfadcaa.Mine
