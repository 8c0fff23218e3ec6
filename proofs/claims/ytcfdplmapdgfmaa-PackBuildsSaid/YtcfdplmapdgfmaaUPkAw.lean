import Derived.Test.YtcfdplmapdgfmaaUPkScan
set_option linter.unusedVariables false
set_option linter.unusedSimpArgs false
namespace Go.Proofs.Ytcfdplmapdgfmaa.Mine
open Go.RowKit Go.Proofs.YtcfdplmapdgfmaaW.PrintWords
theorem item_C1 (w : World) (x : ItemP) : Kd.C itemK (w.alloc (.cells #[.string x.base, .string x.data, .int .i64 x.pos] 60)) (some ⟨w.heap.size, 0, none⟩) 1 [x] := by
 refine ⟨rfl, by decide, fun _ => ⟨_, rfl, fun j p hj => ?_⟩⟩
 have hj0 : j = 0 := by
  rcases Nat.eq_zero_or_pos j with h | h
  ·exact h
  ·rw [List.getElem?_eq_none (by rw [List.length_singleton]; omega)] at hj; cases hj
 subst hj0
 simp only [List.getElem?_cons_zero, Option.some.injEq] at hj
 subst hj
 refine ⟨[.string x.base, .string x.data, .int .i64 x.pos], rfl, itemK.K_of_M (item_M (w.alloc (.cells #[.string x.base, .string x.data, .int .i64 x.pos] 60)) 0 (fun _ => True) x), fun i u hu => ?_⟩
 have hb := z0d w (.cells #[.string x.base, .string x.data, .int .i64 x.pos] 60)
 have ha : (⟨w.heap.size, 0, none⟩ : Addr).add (0 * itemK.sz + i) = ⟨w.heap.size, i, none⟩ := by unfold Addr.add; split <;> simp_all
 rw [ha, z0a hb i, ← hu]
 simp
theorem press_len (s : List Nat) (hs : s.length ≤ 1048576) (hl : ∀ c ∈ s, c < 256) : (pressP s).length ≤ 50 + 40 * s.length := by
 have h := ((mkP_steps s _ 0 0 rfl (Nat.le_refl _) (Nat.zero_le _)).fits hs hl).2.2
 have hn := z0f s.length (by omega)
 rw [pressP, List.length_append]; omega
theorem itemB_len (b d : ByteArray) (hb : b.size ≤ 40) (hd : d.size ≤ 1048576) : (itemB b d).length ≤ 101 + 40 * d.size := by
 have h := press_len (bs d) (by rw [z01]; exact hd) (bs_lt _)
 rw [z01] at h
 have hn := z0f (pressP (bs d)).length (by omega)
 rw [itemB, List.length_append, List.length_append]
 split
 ·simp only [List.length_singleton]; omega
 ·rw [List.length_cons, z01]; omega
theorem flatB_len (l : List ItemP) (M : Nat) (h : ∀ x ∈ l, (itemB x.base x.data).length ≤ M) : (flatB l).length ≤ l.length * M := by
 induction l with
 | nil => simp [flatB]
 | cons x l ih =>
  have h1 := h x (List.mem_cons_self ..)
  have h2 := ih fun y hy => h y (List.mem_cons_of_mem _ hy)
  rw [show flatB (x :: l) = itemB x.base x.data ++ flatB l from rfl, List.length_append, List.length_cons, Nat.add_mul]; omega
theorem packB_len (l : List ItemP) (M : Nat) (hn : l.length ≤ 2048) (h : ∀ x ∈ l, (itemB x.base x.data).length ≤ M) : (packB l).length ≤ 23 + l.length * M := by
 have h1 := flatB_len l M h
 have h2 := z0f l.length (by omega)
 have h3 : (packHead l.length).length = 13 + (num l.length).length := by rw [packHead, List.length_append]; rfl
 rw [z1a, List.length_append]; omega
def awX : ItemP := ⟨⟨#[]⟩, ⟨#[116, 101, 120, 116]⟩, 0⟩
set_option maxRecDepth 100000 in
theorem pkAwake_calls (w : World) :
  Calls Try.prog 25 #[] w fun e w' => e = .returned (.bool true) ∧ Below w.heap.size w w' := by
 have hlen : (packB [awX]).length ≤ 4194272 := by
  have := packB_len [awX] 261 (by decide) (by intro x hx; rw [List.mem_singleton] at hx; subst hx; exact Nat.le_trans (itemB_len _ _ (by decide) (by decide)) (by decide))
  simp only [List.length_singleton] at this; omega
 have hb := fun w => build_calls [awX] (some ⟨w.heap.size, 0, none⟩) 1 (w.alloc (.cells #[.string ⟨#[]⟩, .string ⟨#[116, 101, 120, 116]⟩, .int .i64 0] 60)) (item_C1 w awX) (by decide) (by decide) (by intro x hx; rw [List.mem_singleton] at hx; subst hx; decide) hlen
 have hs := fun w => scan_calls [awX] w (by intro x hx; rw [List.mem_singleton] at hx; subst hx; decide) (by decide) (by intro x hx; rw [List.mem_singleton] at hx; subst hx; decide) hlen (by decide)
 obtain ⟨P, hP⟩ : ∃ P, P = sb (packB [awX] ++ sha (packB [awX])) := ⟨_, rfl⟩
 rw [← hP] at hb hs
 clear hP hlen
 have hany : ([awX].any fun x => badBase x.base) = false := by decide
 simp only [hany, Bool.false_eq_true, if_false] at hb
 have hsc : scanP [awX] = [⟨⟨#[]⟩, ⟨#[116, 101, 120, 116]⟩, 14⟩] := by
  rw [scanP, List.mapIdx_cons, List.mapIdx_nil]
  have : posAt [awX] 0 = 14 := by rw [posAt, packHead, show [awX].length = 1 from rfl, num_low 1 (by decide)]; rfl
  rw [this]; rfl
 rw [hsc] at hs
 clear hsc hany
 go_enter Try.func25, Try.ntmps25
 go_wp2_with fail
 refine (hb _).mono ?_
 rintro e w1 ⟨rfl, hb1⟩
 have HB1 := Lib.hid (z07 (z03 (Below.refl _ _) _) hb1)
 clear hb1
 go_wp2_with fail
 refine (hs _).mono ?_
 rintro e w2 ⟨A, c, rfl, hC, hb2⟩
 have HB2 := Lib.hid (z07 HB1.out hb2)
 obtain ⟨x, rfl, k0, k1, k2⟩ := itemC_at hC 0 (by decide)
 simp only [Nat.zero_mul, List.getElem_cons_zero] at k0 k1 k2
 rw [show x.add 0 = x from by unfold Addr.add; simp] at k0 k1 k2
 clear hb2 hC
 go_wp2_with fail
 go_ret
 exact ⟨rfl, HB2.out⟩
end Go.Proofs.Ytcfdplmapdgfmaa.Mine
