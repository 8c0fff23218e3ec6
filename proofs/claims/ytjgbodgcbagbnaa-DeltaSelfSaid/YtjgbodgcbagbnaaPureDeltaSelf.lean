/- A text of 16 bytes or more is made of itself by one step, and of itself with something behind it by one, too: for every two strings, each cut to 400. -/
import Derived.Test.YtjgbodgcbagbnaaPureDelta
namespace Go.Proofs.Ytjgbodgcbagbnaa.Pure
open Go.RowKit Go.Proofs.Ytjgbodgcbagbnaa.PD Go.Proofs.YtjgbodgcbagbnaaW.PrintWords Go.Proofs.YtjgbodgcbagbnaaW.PrintLast Mine

theorem lcp_self (l m : List Nat) : lcp l (l ++ m) = l.length := by
  induction l with
  | nil => exact lcp_nil_left _
  | cons a l ih => rw [List.cons_append, lcp, if_pos rfl, ih]; rfl
theorem self_make (s m : List Nat) (h : 16 ≤ s.length) : makeD (s ++ m) s = num (s.length + m.length) ++ num s.length ++ repB s.length 0 := by
  have hf : blkF (s ++ m) ((s ++ m).length / 16) ((s.drop 0).take 16) = some 0 := by
    rw [blkF_find]
    obtain ⟨J, hJ⟩ : ∃ J, (s ++ m).length / 16 = J + 1 := ⟨(s ++ m).length / 16 - 1, by rw [List.length_append]; omega⟩
    rw [hJ, findB, if_pos (by rw [blkB, Nat.mul_zero, List.drop_zero, List.drop_zero, List.take_append_of_le_length h])]
  have hn : s.length = 16 + lcp (s.drop (0 + 16)) ((s ++ m).drop (0 + 16)) := by
    rw [Nat.zero_add, List.drop_append_of_le_length h, lcp_self, List.length_drop]; omega
  rw [makeD, mkD_some _ _ _ 0 0 0 s.length (by omega) hf hn, Nat.zero_add, mkD_end _ _ _ _ _ (by omega), List.drop_eq_nil_of_le (Nat.le_refl _), Nat.sub_zero, List.take_zero, insB_nil, List.length_append]
  simp
theorem self_fin (x5 A Z N3 N4 u : ByteArray) (p1 p2 p3 mm few : Option ByteArray) (aw : Option Bool) (m2 : ByteArray → Option ByteArray) (n4 : Int → Option ByteArray)
    (h1 : p1 = some A) (h2 : p2 = some Z) (h3 : p3 = some N3) (h4 : mm = some ((N3 ++ N3) ++ (A ++ Z))) (h5 : few = some u) (h6 : m2 (x5 ++ u) = some ((N4 ++ N3) ++ (A ++ Z))) (h7 : n4 (u.size : Int) = some N4) (h8 : aw = some true)
    (s1 : A.size ≤ 10) (s2 : Z.size ≤ 10) (s3 : N3.size ≤ 10) (s4 : N4.size ≤ 10) (s5 : u.size ≤ 400) (s6 : x5.size ≤ 400) :
    (p1.bind fun t140 => p2.bind fun t141 => (if t140.size + t141.size ≤ 9223372036854775807 then (aw.bind fun t142 => (if t142 = true then (mm.bind fun t143 => p3.bind fun t144 => p3.bind fun t145 => (if t144.size + t145.size ≤ 9223372036854775807 then (if (t144 ++ t145).size + (t140 ++ t141).size ≤ 9223372036854775807 then (if t143.toList = ((t144 ++ t145) ++ (t140 ++ t141)).toList then (few.bind fun t146 => (if x5.size + t146.size ≤ 9223372036854775807 then ((m2 (x5 ++ t146)).bind fun t147 => few.bind fun t148 => (n4 (t148.size : Int)).bind fun t149 => p3.bind fun t150 => (if t149.size + t150.size ≤ 9223372036854775807 then (if (t149 ++ t150).size + (t140 ++ t141).size ≤ 9223372036854775807 then (some (t147.toList == ((t149 ++ t150) ++ (t140 ++ t141)).toList)) else none) else none)) else none)) else some false) else none) else none)) else some false)) else none)) = some true := by
  subst h1 h2 h3 h4 h5 h8
  simp only [Option.bind_some, h6, h7, ByteArray.size_append, if_true]
  rw [if_pos (by omega), if_pos (by omega), if_pos (by omega), if_pos (by omega), if_pos (by omega), if_pos (by omega), beq_self_eq_true]
theorem self_fin2 (x5 u : ByteArray) (s5 : u.size ≤ 400) (s6 : x5.size ≤ 400) (h16 : 16 ≤ x5.size) :
    delta_Make.f x5 x5 = some ((sb (num x5.size) ++ sb (num x5.size)) ++ (sb (num (2 * (x5.size - 1) + 1)) ++ sb (num 0))) ∧ delta_Make.f (x5 ++ u) x5 = some ((sb (num (x5.size + u.size)) ++ sb (num x5.size)) ++ (sb (num (2 * (x5.size - 1) + 1)) ++ sb (num 0))) := by
  have m1 := makeF x5 x5 (by omega) (by omega)
  have m2 := makeF (x5 ++ u) x5 (by rw [ByteArray.size_append]; omega) (by omega)
  have s1 := self_make (bs x5) [] (by rw [bs_length]; exact h16)
  have s2 := self_make (bs x5) (bs u) (by rw [bs_length]; exact h16)
  rw [List.append_nil] at s1
  rw [s1] at m1
  rw [bs_append, s2] at m2
  rw [m1, m2]
  simp only [bs_length, List.length_nil, Nat.add_zero, repB, sb_append, and_self]
theorem w_self (n : Nat) (h : 0 < n) (h2 : n ≤ 1000) : IntKind.u64.wrap ((IntKind.u64.wrap (2 * (IntKind.u64.wrap ((n : Int))))) - 1) = ((2 * (n - 1) + 1 : Nat) : Int) := by
  rw [u64w n (by omega), show 2 * (n : Int) = ((2 * n : Nat) : Int) from by omega, u64w _ (by omega), show ((2 * n : Nat) : Int) - 1 = ((2 * (n - 1) + 1 : Nat) : Int) from by omega]
  exact u64w _ (by omega)
theorem w_self2 (n m : Nat) (h2 : n ≤ 1000) (h3 : m ≤ 1000) : IntKind.u64.wrap ((IntKind.u64.wrap ((n : Int))) + (IntKind.u64.wrap ((m : Int)))) = ((n + m : Nat) : Int) := by
  rw [u64w n (by omega), u64w m (by omega), show (n : Int) + (m : Int) = ((n + m : Nat) : Int) from by omega]
  exact u64w _ (by omega)
theorem self_l0 (x5 x1 : ByteArray) (u : ByteArray) (hu : pollardlaw09_few.f x1 = some u) (hus : u.size ≤ 400) (hs : x5.size ≤ 400) (h16 : 16 ≤ x5.size) : ∀ (d k i : Nat), x5.size ≤ i + d → i ≤ 1000 → d + 1 ≤ k → pollardlaw09_DeltaSelf.l0 k x1 x5 (i : Int) = some true := by
  have m12 := self_fin2 x5 u hus hs h16
  have hfin := self_fin x5 _ _ _ _ u _ _ _ _ _ _ (fun y => delta_Make.f y x5) (fun n => pollardref02_Num.f (IntKind.u64.wrap ((IntKind.u64.wrap ((x5.size : Int))) + (IntKind.u64.wrap n))))
    (num_f (2 * (x5.size - 1) + 1) _ (w_self x5.size (by omega) (by omega)) (by omega)) (num_f 0 0 rfl (by omega)) (num_f x5.size (IntKind.u64.wrap (x5.size : Int)) (u64w _ (by omega)) (by omega)) m12.1 hu m12.2
    (num_f (x5.size + u.size) _ (w_self2 x5.size u.size (by omega) (by omega)) (by omega)) awakeD (sz_num _ (by omega)) (sz_num _ (by omega)) (sz_num _ (by omega)) (sz_num _ (by omega)) hus hs
  intro d
  induction d with
  | zero =>
    intro k i hi hi2 hk
    obtain ⟨k, rfl⟩ : ∃ m, k = m + 1 := ⟨k - 1, by omega⟩
    simp only [pollardlaw09_DeltaSelf.l0]
    rw [w_16 i (by omega), if_neg (by omega)]
    exact hfin
  | succ d ih =>
    intro k i hi hi2 hk
    obtain ⟨k, rfl⟩ : ∃ m, k = m + 1 := ⟨k - 1, by omega⟩
    simp only [pollardlaw09_DeltaSelf.l0]
    rw [w_16 i (by omega)]
    by_cases h : i + 16 ≤ x5.size
    · rw [if_pos (by omega), if_pos (by omega), if_pos (by omega), if_pos (by omega), if_pos (by omega)]
      by_cases he : (x5.extract (i : Int).toNat (((i + 16 : Nat) : Int)).toNat).toList = (x5.extract 0 16).toList
      · rw [if_pos he]; rfl
      · rw [if_neg he]
        exact ih k (i + 16) (by omega) (by omega) (by omega)
    · rw [if_neg (by omega)]
      exact hfin
theorem DeltaSelf : pollardlaw09_DeltaSelf.Pure := by
  intro a0 a1 _ _
  obtain ⟨t, ht, hs⟩ := few_some a0
  obtain ⟨u, hu, hus⟩ := few_some a1
  refine ⟨500, ?_⟩
  unfold pollardlaw09_DeltaSelf.f
  simp only [ht, Option.bind_some]
  by_cases h : t.size < 16
  · rw [if_pos (by omega)]; rfl
  · rw [if_neg (by omega)]
    exact self_l0 t a1 u hu hus hs (by omega) 400 500 16 (by omega) (by omega) (by omega)
end Go.Proofs.Ytjgbodgcbagbnaa.Pure
