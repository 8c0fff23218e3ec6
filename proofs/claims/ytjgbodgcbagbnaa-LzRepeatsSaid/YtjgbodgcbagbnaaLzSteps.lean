/- What the bytes of a pressed text tell, step by step: plain lists. -/
import Derived.Test.YtjgbodgcbagbnaaLzRepeat
import Derived.Test.YtjgbodgcbagbnaaPTx
set_option linter.unusedVariables false
set_option linter.unusedSimpArgs false
namespace Go.Proofs.Ytjgbodgcbagbnaa.Mine
open Go.RowKit Go.Proofs.YtjgbodgcbagbnaaW.PrintWords Go.Proofs.Ytjgbodgcbagbnaa.PT

theorem lt_app {a b : List Nat} (ha : ∀ c ∈ a, c < 256) (hb : ∀ c ∈ b, c < 256) : ∀ c ∈ a ++ b, c < 256 := fun c hc => (List.mem_append.1 hc).elim (ha c) (hb c)
theorem sb_behind (a b : List Nat) : (sb (a ++ b)).extract a.length (sb (a ++ b)).size = sb b := by
  rw [sb_append]
  have h : (sb a).size = a.length := sb_size a
  rw [← h, ByteArray.size_append]
  exact ByteArray.extract_append_eq_right rfl rfl
theorem sb_ahead (a b : List Nat) : (sb (a ++ b)).extract 0 a.length = sb a := by
  rw [sb_append]
  have h : (sb a).size = a.length := sb_size a
  rw [← h]
  exact ByteArray.extract_append_eq_left rfl
theorem u64x (n : Nat) (h : n < 18446744073709551616) : IntKind.u64.wrap (n : Int) = (n : Int) := by rw [IntKind.wrap_u64]; omega
theorem unn_num (n : Nat) (t : List Nat) (hn : n < 9223372036854775808) (ht : ∀ c ∈ t, c < 256) (hl : t.length ≤ 140737488351000) : code_Unnum.f (sb (num n ++ t)) = some ((n : Int), ((num n).length : Int), 0) := by
  have hb : bs (sb (num n ++ t)) = num n ++ t := bs_sb _ (lt_app (num_lt n) ht)
  have hnl := num_length n (by omega)
  have hu := unnum_num n hn t
  unfold code_Unnum.f
  rw [if_pos (by rw [sb_size, List.length_append]; omega), hb, hu]
  rfl
theorem tk_fin (n most : Nat) (t : List Nat) (k : Nat) (hn : n ≤ 1073741824) (hm : most ≤ 1073741824) :
    lz_taker_num.j0 (k + 1) (most : Int) (n : Int) ((num n).length : Int) (sb (num n ++ t)) 0 = some (if most < n then (0, sb t, 6) else ((n : Int), sb t, 0)) := by
  have e1 : IntKind.u64.wrap (most : Int) = (most : Int) := u64x _ (by omega)
  have e2 : wrap64 (n : Int) = (n : Int) := by unfold wrap64; omega
  simp only [lz_taker_num.j0]
  rw [if_pos True.intro, if_pos (by omega), if_pos (by rw [sb_size, List.length_append]; omega), Int.toNat_natCast, sb_behind, e1, e2]
  by_cases h : most < n
  · rw [if_pos h, if_pos (by omega)]
  · rw [if_neg h, if_neg (by omega)]
theorem tk_num (n most : Nat) (t : List Nat) (hn : n ≤ 1073741824) (hm : most ≤ 1073741824) (ht : ∀ c ∈ t, c < 256) (hl : t.length ≤ 140737488351000) :
    lz_taker_num.f 1 (sb (num n ++ t)) 0 (most : Int) = some (if most < n then (0, sb t, 6) else ((n : Int), sb t, 0)) := by
  unfold lz_taker_num.f
  rw [unn_num n t (by omega) ht hl]
  simp only [Option.bind_some, if_true]
  exact tk_fin n most t 0 hn hm
theorem tk_bytes (l t : List Nat) : lz_taker_bytes.f 1 (sb (l ++ t)) 0 (l.length : Int) = some (sb l, sb t, 0) := by
  unfold lz_taker_bytes.f
  rw [if_pos rfl, show decide ((l.length : Int) > ((sb (l ++ t)).size : Int)) = false from by rw [sb_size, List.length_append]; simp; omega]
  simp only [lz_taker_bytes.j0, if_true, if_false, Bool.false_eq_true]
  rw [if_pos (by omega), if_pos (by rw [sb_size, List.length_append]; omega), Int.toNat_natCast, sb_behind, sb_ahead]
/-- From the place p on, the rest r tells what stands. -/
inductive LSteps (s : List Nat) : Nat → List Nat → Prop
  | done : LSteps s s.length []
  | tail (p : Nat) : p < s.length → LSteps s p (num (s.length - p) ++ s.drop p)
  | step (p q b n : Nat) (r : List Nat) : p ≤ q → 1 ≤ b → b ≤ q → b ≤ 32768 → 4 ≤ n → q + n ≤ s.length → repL (s.take q) b n = s.take (q + n) → LSteps s (q + n) r →
      LSteps s p (num (q - p) ++ ((s.drop p).take (q - p) ++ (num b ++ (num (n - 4) ++ r))))
theorem take_more (s : List Nat) (p q : Nat) (h : p ≤ q) : s.take p ++ (s.drop p).take (q - p) = s.take q := by
  have := List.take_append_drop p (s.take q)
  rw [List.take_take, Nat.min_eq_left h, List.drop_take] at this
  exact this
theorem LSteps.first {s : List Nat} {n : Nat} {r : List Nat} (h : LSteps s n r) (hn : n < s.length) : ∃ q l t, r = num l.length ++ (l ++ t) ∧ n ≤ q ∧ q ≤ s.length ∧ l.length = q - n ∧ s.take n ++ l = s.take q ∧
    ((q = s.length ∧ t = []) ∨ (q < s.length ∧ ∃ b m r', 1 ≤ b ∧ b ≤ q ∧ b ≤ 32768 ∧ 4 ≤ m ∧ q + m ≤ s.length ∧ repL (s.take q) b m = s.take (q + m) ∧ LSteps s (q + m) r' ∧ t = num b ++ (num (m - 4) ++ r'))) := by
  cases h with
  | done => omega
  | tail p hp =>
    refine ⟨s.length, s.drop n, [], by rw [List.append_nil, List.length_drop], by omega, Nat.le_refl _, List.length_drop, ?_, .inl ⟨rfl, rfl⟩⟩
    rw [List.take_append_drop, List.take_of_length_le (Nat.le_refl _)]
  | step p q b m r h1 h2 h3 h4 h5 h6 h7 hr =>
    have hl : ((s.drop n).take (q - n)).length = q - n := by rw [List.length_take, List.length_drop]; omega
    exact ⟨q, (s.drop n).take (q - n), _, by rw [hl], h1, by omega, hl, take_more s n q h1, .inr ⟨by omega, b, m, r, h2, h3, h4, h5, h6, h7, hr, rfl⟩⟩
theorem repL_lcp (s : List Nat) (q b : Nat) (hb : 1 ≤ b) (hbq : b ≤ q) : ∀ j, j ≤ lcp (s.drop q) (s.drop (q - b)) → repL (s.take q) b j = s.take (q + j)
  | 0, _ => rfl
  | j + 1, h => by
    have hle := (lcp_le (s.drop q) (s.drop (q - b))).1
    rw [List.length_drop] at hle
    have hql : q ≤ s.length := by omega
    have hs := congrArg (fun x => x.getD j 0) (lcp_same (s.drop q) (s.drop (q - b)))
    simp only [List.getD_eq_getElem?_getD, List.getElem?_take, List.getElem?_drop] at hs
    rw [if_pos (by omega), if_pos (by omega)] at hs
    rw [repL, repL_lcp s q b hb hbq j (by omega), List.length_take, Nat.min_eq_left (by omega), ← Nat.add_assoc, List.take_succ_eq_append_getElem (by omega)]
    congr 2
    rw [List.getD_eq_getElem?_getD, List.getElem?_take, if_pos (by omega), show q + j - b = q - b + j from by omega, ← hs, List.getElem?_eq_getElem (by omega)]
    rfl
theorem mkP_steps (s : List Nat) : ∀ (d at_ fr : Nat), d = s.length - at_ → fr ≤ at_ → at_ ≤ s.length → LSteps s fr (mkP s at_ fr) := by
  intro d
  induction d using Nat.strongRecOn with
  | _ d ih =>
    intro at_ fr hd h1 h2
    by_cases hlt : at_ < s.length
    · by_cases hb : backP s at_ = 0
      · rw [mkP_none _ _ _ hlt hb]
        exact ih (d - 1) (by omega) (at_ + 1) fr (by omega) (by omega) (by omega)
      · obtain ⟨n, hn⟩ : ∃ n, n = lcp (s.drop at_) (s.drop (at_ - backP s at_)) := ⟨_, rfl⟩
        obtain ⟨b1, b2, b3, _, _⟩ := backP_ok s at_ hb
        obtain ⟨m1, m2, m3⟩ := mkP_some s at_ fr (backP s at_) n hlt rfl hb hn
        rw [m3, List.append_assoc, List.append_assoc, List.append_assoc]
        exact LSteps.step fr at_ (backP s at_) n _ h1 (by omega) b2 b3 m1 m2 (repL_lcp s at_ _ (by omega) b2 n (by omega)) (ih (s.length - (at_ + n)) (by omega) (at_ + n) (at_ + n) rfl (Nat.le_refl _) m2)
    · rw [mkP_end _ _ _ (by omega), lonesB]
      by_cases hf : fr < s.length
      · rw [if_neg (fun e => by have := congrArg List.length e; rw [List.length_drop] at this; simp at this; omega), List.length_drop]
        exact LSteps.tail fr hf
      · obtain rfl : fr = s.length := by omega
        rw [if_pos (List.drop_eq_nil_of_le (Nat.le_refl _))]
        exact LSteps.done
theorem LSteps.fits {s : List Nat} (hs : s.length ≤ 1048576) (hl : ∀ c ∈ s, c < 256) {p : Nat} {r : List Nat} (h : LSteps s p r) : p ≤ s.length ∧ (∀ c ∈ r, c < 256) ∧ r.length ≤ 40 * (s.length - p) + 40 := by
  induction h with
  | done => exact ⟨Nat.le_refl _, (fun c hc => by cases hc), by simp⟩
  | tail p hp =>
    refine ⟨by omega, lt_app (num_lt _) fun c hc => hl c (List.mem_of_mem_drop hc), ?_⟩
    have := num_length (s.length - p) (by omega)
    rw [List.length_append, List.length_drop]; omega
  | step p q b n r h1 h2 h3 h4 h5 h6 h7 hr ih =>
    obtain ⟨i1, i2, i3⟩ := ih
    refine ⟨by omega, lt_app (num_lt _) (lt_app (fun c hc => hl c (List.mem_of_mem_drop (List.mem_of_mem_take hc))) (lt_app (num_lt _) (lt_app (num_lt _) i2))), ?_⟩
    have l1 := num_length (q - p) (by omega)
    have l2 := num_length b (by omega)
    have l3 := num_length (n - 4) (by omega)
    rw [List.length_append, List.length_append, List.length_append, List.length_append, List.length_take, List.length_drop]
    omega
end Go.Proofs.Ytjgbodgcbagbnaa.Mine
