import Derived.Test.YtcfdplmapdgfmaaYPGx0
namespace Go.Proofs.Ytcfdplmapdgfmaa.PG
open Go.RowKit Go.Proofs.YtcfdplmapdgfmaaW.PrintWords Go.Proofs.YtcfdplmapdgfmaaW.PrintLast Go.Proofs.YtcfdplmapdgfmaaW.PrintMore
attribute [local go_sem] z21 z22 z23 z25 z26 z27 z28 z29   -- for this text's walks alone
set_option linter.unusedVariables false
set_option linter.unusedSimpArgs false
def IsS100 (w0 W : World) (g : Nat) (f0 : ByteArray) (f1 : Bool) : Prop := W.heap[g]? = some (.cells #[.string f0, .bool f1] 100 (0, 0)) ∧ w0.heap.size ≤ g
theorem IsS100.grown {w0 W : World} {g : Nat} {f0 : ByteArray} {f1 : Bool} {W1 : World} {row : Option Nat} (h : IsS100 w0 W g f0 f1) (hw : W.grownBy W1 row) (hne : some g ≠ row) : IsS100 w0 W1 g f0 f1 := by
 obtain ⟨hb, hg⟩ := h
 exact ⟨blk_grown hb hw hne, hg⟩
theorem IsS100.fresh {w0 W : World} {g : Nat} {f0 : ByteArray} {f1 : Bool} (h : IsS100 w0 W g f0 f1) : ∀ k, W.heap.size ≤ k → k ≠ g := by
 obtain ⟨hb, hg⟩ := h
 exact Kd.freshB hb
theorem IsS100.kept {w0 W : World} {g : Nat} {f0 : ByteArray} {f1 : Bool} {W1 : World} {S : Nat → Prop} (h : IsS100 w0 W g f0 f1) (hk : Kept W W1 S) (hne : ¬ S g) : IsS100 w0 W1 g f0 f1 := by
 obtain ⟨hb, hg⟩ := h
 exact ⟨blk_kept hb hk hne, hg⟩
theorem IsS100.below {w0 W : World} {g : Nat} {f0 : ByteArray} {f1 : Bool} {W1 : World} (h : IsS100 w0 W g f0 f1) (hw : Below W.heap.size W W1) : IsS100 w0 W1 g f0 f1 := h.grown (grown_of_below hw none) (by simp)
theorem IsS100.alloc {w0 W : World} {g : Nat} {f0 : ByteArray} {f1 : Bool} (h : IsS100 w0 W g f0 f1) (o : Obj) : IsS100 w0 (W.alloc o) g f0 f1 := h.below (z03 (Below.refl _ _) o)
theorem IsS100.drewN {w0 W : World} {g : Nat} {f0 : ByteArray} {f1 : Bool} (h : IsS100 w0 W g f0 f1) (m : Nat) : IsS100 w0 (W.drewN m) g f0 f1 := h
theorem IsS100.drew {w0 W : World} {g : Nat} {f0 : ByteArray} {f1 : Bool} (h : IsS100 w0 W g f0 f1) : IsS100 w0 W.drew g f0 f1 := h
theorem IsS100.at_ {w0 W : World} {g : Nat} {f0 : ByteArray} {f1 : Bool} {w' : World} {m : Nat} (hq : W.drewN m = w') (h : IsS100 w0 W g f0 f1) : IsS100 w0 w' g f0 f1 := by subst hq; exact IsS100.drewN h m
theorem IsS100.apart {w0 W : World} {g : Nat} {f0 : ByteArray} {f1 : Bool} {α : Type} {d : Kd α} {e : Nat} {base : Nat} {ok : Nat → Prop} {v : Value} {xs : List α} (h : IsS100 w0 W g f0 f1) (ho : d.R e W base ok v xs) (ht : ∀ q, q ∈ e :: d.E → q ≠ 100) : d.R e W base (fun k => ok k ∧ k ≠ g) v xs := by
 obtain ⟨hb, hg⟩ := h
 exact Kd.R_types ho hb ht
theorem IsS100.own_ne {w0 W : World} {g : Nat} {f0 : ByteArray} {f1 : Bool} {α : Type} {d : Kd α} {e : Nat} {base : Nat} {ok : Nat → Prop} {v : Value} {xs : List α} (h : IsS100 w0 W g f0 f1) (ho : d.R e W base ok v xs) (ht : e ≠ 100) : some g ≠ v.ownBlock := by
 obtain ⟨hb, hg⟩ := h
 exact Kd.R_ne ho hb ht
theorem IsS100.lt {w0 W : World} {g : Nat} {f0 : ByteArray} {f1 : Bool} (h : IsS100 w0 W g f0 f1) : g < W.heap.size := by
 obtain ⟨hb, hg⟩ := h
 exact blk_lt hb
theorem IsS100.ge {w0 W : World} {g : Nat} {f0 : ByteArray} {f1 : Bool} (h : IsS100 w0 W g f0 f1) : w0.heap.size ≤ g := by
 obtain ⟨hb, hg⟩ := h
 exact hg
theorem IsS100.ne_blk {w0 W : World} {g : Nat} {f0 : ByteArray} {f1 : Bool} {a : Nat} {cs : Array Value} {t : TypeId} {fr : Nat × Nat} (h : IsS100 w0 W g f0 f1) (hb2 : W.heap[a]? = some (.cells cs t fr)) (ht : t ≠ 100) : g ≠ a := by
 obtain ⟨hb, hg⟩ := h
 rintro rfl
 rw [hb] at hb2
 injection hb2 with hb2
 injection hb2 with _ ht2
 exact ht ht2.symm
theorem IsS100.far {w0 W : World} {g : Nat} {f0 : ByteArray} {f1 : Bool} {p : Addr} (h : IsS100 w0 W g f0 f1) (hne : g ≠ p.block) (u : Value) : IsS100 w0 (W.setCell p u) g f0 f1 := by
 obtain ⟨hb, hg⟩ := h
 exact ⟨blk_far hb hne u, hg⟩
theorem z2i {W : World} {g : Nat} {f0 : ByteArray} {f1 : Bool} (h : W.heap[g]? = some (.cells #[.string f0, .bool f1] 100 (0, 0))) : W.cell? ⟨g, 0, none⟩ = some (.string f0) := (z00 h 0).trans rfl
theorem IsS100.set_0 {w0 W : World} {g : Nat} {f0 : ByteArray} {f1 : Bool} (h : IsS100 w0 W g f0 f1) (x : ByteArray) : IsS100 w0 (W.setCell ⟨g, 0, none⟩ (.string x)) g x f1 := by
 obtain ⟨hb, hg⟩ := h
 exact ⟨by simpa using blk_set hb 0 (.string x), hg⟩
theorem z2a {W : World} {g : Nat} {f0 : ByteArray} {f1 : Bool} (h : W.heap[g]? = some (.cells #[.string f0, .bool f1] 100 (0, 0))) : W.cell? ⟨g, 1, none⟩ = some (.bool f1) := (z00 h 1).trans rfl
theorem IsS100.set_1 {w0 W : World} {g : Nat} {f0 : ByteArray} {f1 : Bool} (h : IsS100 w0 W g f0 f1) (x : Bool) : IsS100 w0 (W.setCell ⟨g, 1, none⟩ (.bool x)) g f0 x := by
 obtain ⟨hb, hg⟩ := h
 exact ⟨by simpa using blk_set hb 1 (.bool x), hg⟩
theorem IsS100.new (w0 W : World) (f0 : ByteArray) (f1 : Bool) (hB : Below w0.heap.size w0 W) : IsS100 w0 (W.alloc (.cells #[.string f0, .bool f1] 100)) W.heap.size f0 f1 := ⟨by simpa using heap_alloc_new W _, hB.size⟩
def z2j.f (s0_0 : ByteArray) (s0_1 : Bool) (a1 : Int) : Option (ByteArray × ByteArray × Bool) := if s0_1 = true then (if (a1 ≤ (s0_0.size : Int)) then (if 0 ≤ a1 then (if a1 ≤ (s0_0.size : Int) then (some (s0_0.extract 0 (a1 : Int).toNat, s0_0.extract (a1 : Int).toNat s0_0.size, decide (a1 ≤ (s0_0.size : Int)))) else (none)) else (none)) else (some ((⟨#[]⟩ : ByteArray), s0_0, decide (a1 ≤ (s0_0.size : Int))))) else (some ((⟨#[]⟩ : ByteArray), s0_0, false))
set_option maxHeartbeats 8000000 in
set_option maxRecDepth 100000 in
theorem z2j.calls (g : Nat) (s0_0 : ByteArray) (s0_1 : Bool) (a1 : Int) (r1 : ByteArray) (r2 : ByteArray) (r3 : Bool) (w0 w : World) (hI : IsS100 w0 w g s0_0 s0_1) (hB : Below w0.heap.size w0 w) (h : z2j.f s0_0 s0_1 a1 = some (r1, r2, r3)) :
  Calls Try.prog 47 #[.pointer (some ⟨g, 0, none⟩), .int .i64 a1] w fun e w' => e = .returned (.string r1) ∧ IsS100 w0 w' g r2 r3 ∧ Below w0.heap.size w0 w' ∧ KeepBut w w' g none := by
 have HI0 := z01.mk hI
 have HK := z01.mk (KeepBut.refl w g none)
 have HL := z01.mk hB.size
 clear hI
 have HW0 := z01.mk hB.size
 have HB := z01.mk hB
 clear hB
 have H : (if s0_1 = true then (if (a1 ≤ (s0_0.size : Int)) then (if 0 ≤ a1 then (if a1 ≤ (s0_0.size : Int) then (some (s0_0.extract 0 (a1 : Int).toNat, s0_0.extract (a1 : Int).toNat s0_0.size, decide (a1 ≤ (s0_0.size : Int)))) else (none)) else (none)) else (some ((⟨#[]⟩ : ByteArray), s0_0, decide (a1 ≤ (s0_0.size : Int))))) else (some ((⟨#[]⟩ : ByteArray), s0_0, false))) = some (r1, r2, r3) := h
 clear h
 by_cases c3 : s0_1 = true
 ·subst c3
  have H1 : (if (a1 ≤ (s0_0.size : Int)) then (if 0 ≤ a1 then (if a1 ≤ (s0_0.size : Int) then (some (s0_0.extract 0 (a1 : Int).toNat, s0_0.extract (a1 : Int).toNat s0_0.size, decide (a1 ≤ (s0_0.size : Int)))) else (none)) else (none)) else (some ((⟨#[]⟩ : ByteArray), s0_0, decide (a1 ≤ (s0_0.size : Int))))) = some (r1, r2, r3) := by rw [if_pos rfl] at H; exact H
  clear H
  have H := H1
  clear H1
  by_cases c4 : (a1 ≤ (s0_0.size : Int))
  ·rw [if_pos c4] at H
   have c4b0 : decide (a1 ≤ (s0_0.size : Int)) = true := decide_eq_true c4
   clear c4
   by_cases c5 : 0 ≤ a1
   ·rw [if_pos c5] at H
    have c5b0 := eq_true c5
    have c5b1 : decide (0 ≤ a1) = true := decide_eq_true c5
    clear c5
    by_cases c6 : a1 ≤ (s0_0.size : Int)
    ·rw [if_pos c6] at H
     have c6b0 := eq_true c6
     have c6b1 : decide (a1 ≤ (s0_0.size : Int)) = true := decide_eq_true c6
     clear c6
     have c7b0 := eq_true (of_decide_eq_true (by first | (with_reducible assumption) | assumption) : 0 ≤ a1)
     have c8b0 := eq_true (of_decide_eq_true (by first | (with_reducible assumption) | assumption) : a1 ≤ (s0_0.size : Int))
     simp only [Option.some.injEq, Prod.mk.injEq] at H
     try rw [c4b0] at H
     try rw [c5b1] at H
     try rw [c6b1] at H
     obtain ⟨rfl, rfl, rfl⟩ := H
     obtain ⟨HGz9, hgz9⟩ := HI0.out
     have hcz9_0 := z2i HGz9
     have hcz9_1 := z2a HGz9
     have hfz9_0 := z02 HGz9 0
     have hfz9_1 := z02 HGz9 1
     clear HGz9 hgz9
     go_enter Try.func47, Try.ntmps47
     go_wp2
     go_ret
     exact ⟨by first | rfl | (simp [z0n, z0o] <;> rfl) | (simp [*, z0n, z0o] <;> rfl), by repeat (first | (with_reducible first | exact HI0.out | apply IsS100.alloc | apply IsS100.drewN | apply IsS100.drew | apply IsS100.set_0 | apply IsS100.set_1) | exact HI0.out), by repeat (first | (with_reducible first | exact HB.out | apply z03 | apply z05 | apply z04 | refine z08 ?_ (IsS100.ge HI0.out)) | exact HB.out), by repeat (first | (with_reducible first | exact HK.out | apply KeepBut.set_ | apply z1q | apply z1s | apply z1r) | exact HK.out)⟩
    ·rw [if_neg c6] at H
     exact absurd H (by simp)
   ·rw [if_neg c5] at H
    exact absurd H (by simp)
  ·rw [if_neg c4] at H
   have c4b0 : decide (a1 ≤ (s0_0.size : Int)) = false := decide_eq_false c4
   clear c4
   simp only [Option.some.injEq, Prod.mk.injEq] at H
   try rw [c4b0] at H
   obtain ⟨rfl, rfl, rfl⟩ := H
   obtain ⟨HGz10, hgz10⟩ := HI0.out
   have hcz10_0 := z2i HGz10
   have hcz10_1 := z2a HGz10
   have hfz10_0 := z02 HGz10 0
   have hfz10_1 := z02 HGz10 1
   clear HGz10 hgz10
   go_enter Try.func47, Try.ntmps47
   go_wp2
   go_ret
   exact ⟨by first | rfl | (simp [z0n, z0o] <;> rfl) | (simp [*, z0n, z0o] <;> rfl), by repeat (first | (with_reducible first | exact HI0.out | apply IsS100.alloc | apply IsS100.drewN | apply IsS100.drew | apply IsS100.set_0 | apply IsS100.set_1) | exact HI0.out), by repeat (first | (with_reducible first | exact HB.out | apply z03 | apply z05 | apply z04 | refine z08 ?_ (IsS100.ge HI0.out)) | exact HB.out), by repeat (first | (with_reducible first | exact HK.out | apply KeepBut.set_ | apply z1q | apply z1s | apply z1r) | exact HK.out)⟩
 ·replace c3 := Bool.eq_false_iff.mpr c3
  subst c3
  have H1 : (some ((⟨#[]⟩ : ByteArray), s0_0, false)) = some (r1, r2, r3) := by rw [if_neg (show ¬ (false = true) by decide)] at H; exact H
  clear H
  have H := H1
  clear H1
  simp only [Option.some.injEq, Prod.mk.injEq] at H
  obtain ⟨rfl, rfl, rfl⟩ := H
  obtain ⟨HGz11, hgz11⟩ := HI0.out
  have hcz11_0 := z2i HGz11
  have hcz11_1 := z2a HGz11
  have hfz11_0 := z02 HGz11 0
  have hfz11_1 := z02 HGz11 1
  clear HGz11 hgz11
  go_enter Try.func47, Try.ntmps47
  go_wp2
  go_ret
  exact ⟨by first | rfl | (simp [z0n, z0o] <;> rfl) | (simp [*, z0n, z0o] <;> rfl), by repeat (first | (with_reducible first | exact HI0.out | apply IsS100.alloc | apply IsS100.drewN | apply IsS100.drew | apply IsS100.set_0 | apply IsS100.set_1) | exact HI0.out), by repeat (first | (with_reducible first | exact HB.out | apply z03 | apply z05 | apply z04 | refine z08 ?_ (IsS100.ge HI0.out)) | exact HB.out), by repeat (first | (with_reducible first | exact HK.out | apply KeepBut.set_ | apply z1q | apply z1s | apply z1r) | exact HK.out)⟩
def z1i.f (a0 : ByteArray) : Option (Int × Int × Int) := if a0.size ≤ 140737488351232 then some ((Mine.unnum (Mine.bs a0)).1, (Mine.unnum (Mine.bs a0)).2.1, (Mine.unnum (Mine.bs a0)).2.2) else none
theorem z1i.calls (a0 : ByteArray) (r1 : Int) (r2 : Int) (r3 : Int) (w : World) (h : z1i.f a0 = some (r1, r2, r3)) :
  Calls Try.prog 66 #[.string a0] w fun e w' => e = .returned (.tuple #[.int .u64 r1, .int .i64 r2, .int .i64 r3]) ∧ Below w.heap.size w w' := by
 unfold z1i.f at h
 split at h
 ·simp only [Option.some.injEq, Prod.mk.injEq] at h
  obtain ⟨rfl, rfl, rfl⟩ := h
  exact Mine.unnum_calls _ _ ‹_›
 ·cases h
def z2d.f (s0_0 : ByteArray) (s0_1 : Bool) (a1 : Int) : Option (Int × ByteArray × Bool) := (z1i.f s0_0).bind fun bt101 => (if s0_1 = true then (if bt101.2.2 = 0 then (if bt101.1 ≤ a1 then (if 0 ≤ bt101.2.1 then (if bt101.2.1 ≤ (s0_0.size : Int) then (some (bt101.1, s0_0.extract (bt101.2.1 : Int).toNat s0_0.size, decide (bt101.1 ≤ a1))) else (none)) else (none)) else (some (0, s0_0, decide (bt101.1 ≤ a1)))) else (some (0, s0_0, false))) else (some (0, s0_0, false)))
set_option maxHeartbeats 8000000 in
set_option maxRecDepth 100000 in
theorem z2d.calls (g : Nat) (s0_0 : ByteArray) (s0_1 : Bool) (a1 : Int) (r1 : Int) (r2 : ByteArray) (r3 : Bool) (w0 w : World) (hI : IsS100 w0 w g s0_0 s0_1) (hB : Below w0.heap.size w0 w) (h : z2d.f s0_0 s0_1 a1 = some (r1, r2, r3)) :
  Calls Try.prog 48 #[.pointer (some ⟨g, 0, none⟩), .int .u64 a1] w fun e w' => e = .returned (.int .u64 r1) ∧ IsS100 w0 w' g r2 r3 ∧ Below w0.heap.size w0 w' ∧ KeepBut w w' g none := by
 have HI0 := z01.mk hI
 have HK := z01.mk (KeepBut.refl w g none)
 have HL := z01.mk hB.size
 clear hI
 have HW0 := z01.mk hB.size
 have HB := z01.mk hB
 clear hB
 have H : ((z1i.f s0_0).bind fun bt101 => (if s0_1 = true then (if bt101.2.2 = 0 then (if bt101.1 ≤ a1 then (if 0 ≤ bt101.2.1 then (if bt101.2.1 ≤ (s0_0.size : Int) then (some (bt101.1, s0_0.extract (bt101.2.1 : Int).toNat s0_0.size, decide (bt101.1 ≤ a1))) else (none)) else (none)) else (some (0, s0_0, decide (bt101.1 ≤ a1)))) else (some (0, s0_0, false))) else (some (0, s0_0, false)))) = some (r1, r2, r3) := h
 clear h
 replace H := Option.bind_eq_some_iff.mp H
 obtain ⟨⟨t101, t102, t103⟩, A30, H⟩ := H
 replace H : (if s0_1 = true then (if t103 = 0 then (if t101 ≤ a1 then (if 0 ≤ t102 then (if t102 ≤ (s0_0.size : Int) then (some (t101, s0_0.extract (t102 : Int).toNat s0_0.size, decide (t101 ≤ a1))) else (none)) else (none)) else (some (0, s0_0, decide (t101 ≤ a1)))) else (some (0, s0_0, false))) else (some (0, s0_0, false))) = some (r1, r2, r3) := H
 have A3 := z01.mk A30
 clear A30
 by_cases c4 : s0_1 = true
 ·subst c4
  have H1 : (if t103 = 0 then (if t101 ≤ a1 then (if 0 ≤ t102 then (if t102 ≤ (s0_0.size : Int) then (some (t101, s0_0.extract (t102 : Int).toNat s0_0.size, decide (t101 ≤ a1))) else (none)) else (none)) else (some (0, s0_0, decide (t101 ≤ a1)))) else (some (0, s0_0, false))) = some (r1, r2, r3) := by rw [if_pos rfl] at H; exact H
  clear H
  have H := H1
  clear H1
  by_cases c5 : t103 = 0
  ·rw [if_pos c5] at H
   have c5b0 : (t103 == 0) = true := beq_iff_eq.mpr c5
   have c5b1 : (t103 != 0) = false := bne_eq_false_iff_eq.mpr c5
   clear c5
   by_cases c6 : t101 ≤ a1
   ·rw [if_pos c6] at H
    have c6b0 : decide (t101 ≤ a1) = true := decide_eq_true c6
    clear c6
    by_cases c7 : 0 ≤ t102
    ·rw [if_pos c7] at H
     have c7b0 := eq_true c7
     have c7b1 : decide (0 ≤ t102) = true := decide_eq_true c7
     clear c7
     by_cases c8 : t102 ≤ (s0_0.size : Int)
     ·rw [if_pos c8] at H
      have c8b0 := eq_true c8
      have c8b1 : decide (t102 ≤ (s0_0.size : Int)) = true := decide_eq_true c8
      clear c8
      simp only [Option.some.injEq, Prod.mk.injEq] at H
      try rw [c6b0] at H
      try rw [c7b1] at H
      try rw [c8b1] at H
      obtain ⟨rfl, rfl, rfl⟩ := H
      obtain ⟨HGz9, hgz9⟩ := HI0.out
      have hcz9_0 := z2i HGz9
      have hcz9_1 := z2a HGz9
      have hfz9_0 := z02 HGz9 0
      have hfz9_1 := z02 HGz9 1
      clear HGz9 hgz9
      go_enter Try.func48, Try.ntmps48
      go_wp2_with (first | ((with_reducible refine z1f (f := 66) rfl ?_); refine z1e (some 13) rfl rfl Try.func66 (by kernel_rfl) rfl #[.string s0_0] rfl (by (try simp only [List.map_toArray, List.map_cons, List.map_nil]); first | done | rfl | (simp only [List.length_drop, List.length_take]; rfl)) ?_; (with_reducible refine (z1i.calls s0_0 t101 t102 t103 _ A3.out).mono ?_); rintro e w10 ⟨rfl, hb⟩; refine ⟨_, rfl, ?_⟩; have n0_ := z01.mk (IsS100.below (by repeat (first | (with_reducible first | exact HI0.out | apply IsS100.alloc | apply IsS100.drewN | apply IsS100.drew | apply IsS100.set_0 | apply IsS100.set_1) | exact HI0.out)) hb); have n1_ := z01.mk (KeepBut.trans (by repeat (first | (with_reducible first | exact HK.out | apply KeepBut.set_ | apply z1q | apply z1s | apply z1r) | exact HK.out)) (KeepBut.of_below hb g none) (.inl rfl)); have n2_ := z01.mk (z0i (by repeat (first | (with_reducible first | exact HB.out | apply z03 | apply z05 | apply z04 | refine z08 ?_ (IsS100.ge HI0.out)) | exact HB.out)) hb); clear HI0; clear HK; clear HB; have HI0 := n0_; have HK := n1_; have HB := n2_; clear n0_ n1_ n2_; (try clear hb); (try clear hb2); (try clear hk); (try clear hi); obtain ⟨HGz11, hgz11⟩ := HI0.out; have hcz11_0 := z2i HGz11; have hcz11_1 := z2a HGz11; have hfz11_0 := z02 HGz11 0; have hfz11_1 := z02 HGz11 1; clear HGz11 hgz11))
      go_ret
      exact ⟨by first | rfl | (simp [z0n, z0o] <;> rfl) | (simp [*, z0n, z0o] <;> rfl), by repeat (first | (with_reducible first | exact HI0.out | apply IsS100.alloc | apply IsS100.drewN | apply IsS100.drew | apply IsS100.set_0 | apply IsS100.set_1) | exact HI0.out), by repeat (first | (with_reducible first | exact HB.out | apply z03 | apply z05 | apply z04 | refine z08 ?_ (IsS100.ge HI0.out)) | exact HB.out), by repeat (first | (with_reducible first | exact HK.out | apply KeepBut.set_ | apply z1q | apply z1s | apply z1r) | exact HK.out)⟩
     ·rw [if_neg c8] at H
      exact absurd H (by simp)
    ·rw [if_neg c7] at H
     exact absurd H (by simp)
   ·rw [if_neg c6] at H
    have c6b0 : decide (t101 ≤ a1) = false := decide_eq_false c6
    clear c6
    simp only [Option.some.injEq, Prod.mk.injEq] at H
    try rw [c6b0] at H
    obtain ⟨rfl, rfl, rfl⟩ := H
    obtain ⟨HGz12, hgz12⟩ := HI0.out
    have hcz12_0 := z2i HGz12
    have hcz12_1 := z2a HGz12
    have hfz12_0 := z02 HGz12 0
    have hfz12_1 := z02 HGz12 1
    clear HGz12 hgz12
    go_enter Try.func48, Try.ntmps48
    go_wp2_with (first | ((with_reducible refine z1f (f := 66) rfl ?_); refine z1e (some 13) rfl rfl Try.func66 (by kernel_rfl) rfl #[.string s0_0] rfl (by (try simp only [List.map_toArray, List.map_cons, List.map_nil]); first | done | rfl | (simp only [List.length_drop, List.length_take]; rfl)) ?_; (with_reducible refine (z1i.calls s0_0 t101 t102 t103 _ A3.out).mono ?_); rintro e w13 ⟨rfl, hb⟩; refine ⟨_, rfl, ?_⟩; have n0_ := z01.mk (IsS100.below (by repeat (first | (with_reducible first | exact HI0.out | apply IsS100.alloc | apply IsS100.drewN | apply IsS100.drew | apply IsS100.set_0 | apply IsS100.set_1) | exact HI0.out)) hb); have n1_ := z01.mk (KeepBut.trans (by repeat (first | (with_reducible first | exact HK.out | apply KeepBut.set_ | apply z1q | apply z1s | apply z1r) | exact HK.out)) (KeepBut.of_below hb g none) (.inl rfl)); have n2_ := z01.mk (z0i (by repeat (first | (with_reducible first | exact HB.out | apply z03 | apply z05 | apply z04 | refine z08 ?_ (IsS100.ge HI0.out)) | exact HB.out)) hb); clear HI0; clear HK; clear HB; have HI0 := n0_; have HK := n1_; have HB := n2_; clear n0_ n1_ n2_; (try clear hb); (try clear hb2); (try clear hk); (try clear hi); obtain ⟨HGz14, hgz14⟩ := HI0.out; have hcz14_0 := z2i HGz14; have hcz14_1 := z2a HGz14; have hfz14_0 := z02 HGz14 0; have hfz14_1 := z02 HGz14 1; clear HGz14 hgz14))
    go_ret
    exact ⟨by first | rfl | (simp [z0n, z0o] <;> rfl) | (simp [*, z0n, z0o] <;> rfl), by repeat (first | (with_reducible first | exact HI0.out | apply IsS100.alloc | apply IsS100.drewN | apply IsS100.drew | apply IsS100.set_0 | apply IsS100.set_1) | exact HI0.out), by repeat (first | (with_reducible first | exact HB.out | apply z03 | apply z05 | apply z04 | refine z08 ?_ (IsS100.ge HI0.out)) | exact HB.out), by repeat (first | (with_reducible first | exact HK.out | apply KeepBut.set_ | apply z1q | apply z1s | apply z1r) | exact HK.out)⟩
  ·rw [if_neg c5] at H
   have c5b0 : (t103 == 0) = false := beq_eq_false_iff_ne.mpr c5
   have c5b1 : (t103 != 0) = true := bne_iff_ne.mpr c5
   simp only [Option.some.injEq, Prod.mk.injEq] at H
   obtain ⟨rfl, rfl, rfl⟩ := H
   obtain ⟨HGz15, hgz15⟩ := HI0.out
   have hcz15_0 := z2i HGz15
   have hcz15_1 := z2a HGz15
   have hfz15_0 := z02 HGz15 0
   have hfz15_1 := z02 HGz15 1
   clear HGz15 hgz15
   go_enter Try.func48, Try.ntmps48
   go_wp2_with (first | ((with_reducible refine z1f (f := 66) rfl ?_); refine z1e (some 13) rfl rfl Try.func66 (by kernel_rfl) rfl #[.string s0_0] rfl (by (try simp only [List.map_toArray, List.map_cons, List.map_nil]); first | done | rfl | (simp only [List.length_drop, List.length_take]; rfl)) ?_; (with_reducible refine (z1i.calls s0_0 t101 t102 t103 _ A3.out).mono ?_); rintro e w16 ⟨rfl, hb⟩; refine ⟨_, rfl, ?_⟩; have n0_ := z01.mk (IsS100.below (by repeat (first | (with_reducible first | exact HI0.out | apply IsS100.alloc | apply IsS100.drewN | apply IsS100.drew | apply IsS100.set_0 | apply IsS100.set_1) | exact HI0.out)) hb); have n1_ := z01.mk (KeepBut.trans (by repeat (first | (with_reducible first | exact HK.out | apply KeepBut.set_ | apply z1q | apply z1s | apply z1r) | exact HK.out)) (KeepBut.of_below hb g none) (.inl rfl)); have n2_ := z01.mk (z0i (by repeat (first | (with_reducible first | exact HB.out | apply z03 | apply z05 | apply z04 | refine z08 ?_ (IsS100.ge HI0.out)) | exact HB.out)) hb); clear HI0; clear HK; clear HB; have HI0 := n0_; have HK := n1_; have HB := n2_; clear n0_ n1_ n2_; (try clear hb); (try clear hb2); (try clear hk); (try clear hi); obtain ⟨HGz17, hgz17⟩ := HI0.out; have hcz17_0 := z2i HGz17; have hcz17_1 := z2a HGz17; have hfz17_0 := z02 HGz17 0; have hfz17_1 := z02 HGz17 1; clear HGz17 hgz17))
   go_ret
   exact ⟨by first | rfl | (simp [z0n, z0o] <;> rfl) | (simp [*, z0n, z0o] <;> rfl), by repeat (first | (with_reducible first | exact HI0.out | apply IsS100.alloc | apply IsS100.drewN | apply IsS100.drew | apply IsS100.set_0 | apply IsS100.set_1) | exact HI0.out), by repeat (first | (with_reducible first | exact HB.out | apply z03 | apply z05 | apply z04 | refine z08 ?_ (IsS100.ge HI0.out)) | exact HB.out), by repeat (first | (with_reducible first | exact HK.out | apply KeepBut.set_ | apply z1q | apply z1s | apply z1r) | exact HK.out)⟩
 ·replace c4 := Bool.eq_false_iff.mpr c4
  subst c4
  have H1 : (some (0, s0_0, false)) = some (r1, r2, r3) := by rw [if_neg (show ¬ (false = true) by decide)] at H; exact H
  clear H
  have H := H1
  clear H1
  simp only [Option.some.injEq, Prod.mk.injEq] at H
  obtain ⟨rfl, rfl, rfl⟩ := H
  obtain ⟨HGz18, hgz18⟩ := HI0.out
  have hcz18_0 := z2i HGz18
  have hcz18_1 := z2a HGz18
  have hfz18_0 := z02 HGz18 0
  have hfz18_1 := z02 HGz18 1
  clear HGz18 hgz18
  go_enter Try.func48, Try.ntmps48
  go_wp2_with (first | ((with_reducible refine z1f (f := 66) rfl ?_); refine z1e (some 13) rfl rfl Try.func66 (by kernel_rfl) rfl #[.string s0_0] rfl (by (try simp only [List.map_toArray, List.map_cons, List.map_nil]); first | done | rfl | (simp only [List.length_drop, List.length_take]; rfl)) ?_; (with_reducible refine (z1i.calls s0_0 t101 t102 t103 _ A3.out).mono ?_); rintro e w19 ⟨rfl, hb⟩; refine ⟨_, rfl, ?_⟩; have n0_ := z01.mk (IsS100.below (by repeat (first | (with_reducible first | exact HI0.out | apply IsS100.alloc | apply IsS100.drewN | apply IsS100.drew | apply IsS100.set_0 | apply IsS100.set_1) | exact HI0.out)) hb); have n1_ := z01.mk (KeepBut.trans (by repeat (first | (with_reducible first | exact HK.out | apply KeepBut.set_ | apply z1q | apply z1s | apply z1r) | exact HK.out)) (KeepBut.of_below hb g none) (.inl rfl)); have n2_ := z01.mk (z0i (by repeat (first | (with_reducible first | exact HB.out | apply z03 | apply z05 | apply z04 | refine z08 ?_ (IsS100.ge HI0.out)) | exact HB.out)) hb); clear HI0; clear HK; clear HB; have HI0 := n0_; have HK := n1_; have HB := n2_; clear n0_ n1_ n2_; (try clear hb); (try clear hb2); (try clear hk); (try clear hi); obtain ⟨HGz20, hgz20⟩ := HI0.out; have hcz20_0 := z2i HGz20; have hcz20_1 := z2a HGz20; have hfz20_0 := z02 HGz20 0; have hfz20_1 := z02 HGz20 1; clear HGz20 hgz20))
  go_ret
  exact ⟨by first | rfl | (simp [z0n, z0o] <;> rfl) | (simp [*, z0n, z0o] <;> rfl), by repeat (first | (with_reducible first | exact HI0.out | apply IsS100.alloc | apply IsS100.drewN | apply IsS100.drew | apply IsS100.set_0 | apply IsS100.set_1) | exact HI0.out), by repeat (first | (with_reducible first | exact HB.out | apply z03 | apply z05 | apply z04 | refine z08 ?_ (IsS100.ge HI0.out)) | exact HB.out), by repeat (first | (with_reducible first | exact HK.out | apply KeepBut.set_ | apply z1q | apply z1s | apply z1r) | exact HK.out)⟩
def z16.l0 : Nat → List ByteArray → Int → ByteArray → Bool → Option (List ByteArray × ByteArray × Bool)
 | 0, _, _, _, _ => none
 | k + 1, x3, x4, x1000, x1001 => if x4 > 0 then (if x1001 = true then ((z2j.f x1000 x1001 32).bind fun bt107 => (if x3.length < 8796093022208 then (z16.l0 k (x3 ++ [bt107.1]) (IntKind.u64.wrap (x4 - 1)) bt107.2.1 bt107.2.2) else (none))) else (some (x3, x1000, x1001))) else (some (x3, x1000, x1001))
def z16.f (k : Nat) (s0_0 : ByteArray) (s0_1 : Bool) : Option (List ByteArray × ByteArray × Bool) := (z2d.f s0_0 s0_1 64).bind fun bt104 => (z16.l0 k ([] : List ByteArray) bt104.1 bt104.2.1 bt104.2.2)
theorem z16.mono_l : ∀ k, (∀ y0 y1 y2 y3, LeO (z16.l0 k y0 y1 y2 y3) (z16.l0 (k + 1) y0 y1 y2 y3))
 | 0 => fun _ _ _ _ r h => by simp [z16.l0] at h
 | k + 1 => by
  have ih0 := z16.mono_l k
  ·intro y0 y1 y2 y3
   unfold z16.l0
   repeat' first
   | (with_reducible exact ih0 _ _ _ _)
   | (with_reducible exact LeO.refl _)
   | (with_reducible exact LeO.none _)
   | (with_reducible refine LeO.ite ?_ ?_)
   | (with_reducible refine LeO.bind ?_ (fun _ => ?_))
   | exact ih0 _ _ _ _
   | exact LeO.none _
   | refine LeO.ite ?_ ?_
   | refine LeO.bind ?_ (fun _ => ?_)
theorem z16.mono : ∀ a0 a1 k, LeO (z16.f k a0 a1) (z16.f (k + 1) a0 a1) := by
 intro a0 a1 k
 have ih0 := z16.mono_l k
 unfold z16.f
 repeat' first
   | (with_reducible exact ih0 _ _ _ _)
   | (with_reducible exact LeO.refl _)
   | (with_reducible exact LeO.none _)
   | (with_reducible refine LeO.ite ?_ ?_)
   | (with_reducible refine LeO.bind ?_ (fun _ => ?_))
   | exact ih0 _ _ _ _
   | exact LeO.none _
   | refine LeO.ite ?_ ?_
   | refine LeO.bind ?_ (fun _ => ?_)
set_option maxHeartbeats 8000000 in
set_option maxRecDepth 100000 in
theorem z16.calls (k : Nat) (g : Nat) (s0_0 : ByteArray) (s0_1 : Bool) (r1 : List ByteArray) (r2 : ByteArray) (r3 : Bool) (w0 w : World) (hI : IsS100 w0 w g s0_0 s0_1) (hB : Below w0.heap.size w0 w) (h : z16.f k s0_0 s0_1 = some (r1, r2, r3)) :
  Calls Try.prog 49 #[.pointer (some ⟨g, 0, none⟩)] w fun e w' => ∃ v0_ : Value, e = .returned (v0_) ∧ Kd.R Kd.string 9 w' w.heap.size (fun _ => True) v0_ r1 ∧ IsS100 w0 w' g r2 r3 ∧ Below w0.heap.size w0 w' ∧ KeepBut w w' g none := by
 have HI0 := z01.mk hI
 have HK := z01.mk (KeepBut.refl w g none)
 have HL := z01.mk hB.size
 clear hI
 have HW0 := z01.mk hB.size
 have HB := z01.mk hB
 clear hB
 have H : ((z2d.f s0_0 s0_1 64).bind fun bt104 => (z16.l0 k ([] : List ByteArray) bt104.1 bt104.2.1 bt104.2.2)) = some (r1, r2, r3) := h
 clear h
 replace H := Option.bind_eq_some_iff.mp H
 obtain ⟨⟨t104, t105, t106⟩, A20, H⟩ := H
 replace H : (z16.l0 k ([] : List ByteArray) t104 t105 t106) = some (r1, r2, r3) := H
 have A2 := z01.mk A20
 clear A20
 have H' := z01.mk H
 clear H
 go_enter Try.func49, Try.ntmps49
 go_wp2_with (first | ((with_reducible refine z1f (f := 48) rfl ?_); refine z1e (some 6) rfl rfl Try.func48 (by kernel_rfl) rfl #[.pointer (some ⟨g, 0, none⟩), .int .u64 64] rfl (by (try simp only [List.map_toArray, List.map_cons, List.map_nil]); first | done | rfl | (simp only [List.length_drop, List.length_take]; rfl)) ?_; (with_reducible refine (z2d.calls g s0_0 s0_1 64 t104 t105 t106 w0 _ ?side1 ?side2 A2.out).mono ?_); (case side1 => repeat (first | (with_reducible first | exact HI0.out | apply IsS100.alloc | apply IsS100.drewN | apply IsS100.drew | apply IsS100.set_0 | apply IsS100.set_1) | exact HI0.out)); (case side2 => repeat (first | (with_reducible first | exact HB.out | apply z03 | apply z05 | apply z04 | refine z08 ?_ (IsS100.ge HI0.out)) | exact HB.out)); rintro e w3 ⟨rfl, hi, hb, hk⟩; refine ⟨_, rfl, ?_⟩; have n0_ := z01.mk (KeepBut.trans (by repeat (first | (with_reducible first | exact HK.out | apply KeepBut.set_ | apply z1q | apply z1s | apply z1r) | exact HK.out)) hk (.inl rfl)); have n1_ := z01.mk (hb); have n2_ := z01.mk (hi); clear HK; clear HB; clear HI0; have HK := n0_; have HB := n1_; have HI0 := n2_; clear n0_ n1_ n2_; (try clear hb); (try clear hb2); (try clear hk); (try clear hi)))
 go_loopg [3, 4] k (fun kq v3 v4 w' => ∃ (x3_1 : List ByteArray) (x4_1 : Int) (x1000_1 : ByteArray) (x1001_1 : Bool), v4 = .int .u64 x4_1 ∧ z01 (z16.l0 kq x3_1 x4_1 x1000_1 x1001_1 = some (r1, r2, r3)) ∧ z01 (kq ≤ k) ∧ z01 (Kd.R Kd.string 9 w' w.heap.size (fun _ => True) v3 x3_1) ∧ z01 (IsS100 w0 w' g x1000_1 x1001_1) ∧ z01 (KeepBut w w' g none) ∧ z01 (Below w0.heap.size w0 w'))
 case atStart => exact ⟨(([] : List ByteArray)), (t104), (t105), (t106), (by first | rfl | (simp; done) | (simp [*]; done)), H', ⟨Nat.le_refl _⟩, ⟨by first | exact Kd.R_nil _ _ _ _ _ | exact Kd.N_nil _ _ _ _ _ | exact Kd.V_nil _ _ _ _ _ | exact Kd.Q_nil _ _ _ _ _ | exact Kd.S_nil _ _ _ _ _⟩, ⟨by repeat (first | (with_reducible first | exact HI0.out | apply IsS100.alloc | apply IsS100.drewN | apply IsS100.drew | apply IsS100.set_0 | apply IsS100.set_1) | exact HI0.out)⟩, ⟨by repeat (first | (with_reducible first | exact HK.out | apply KeepBut.set_ | apply z1q | apply z1s | apply z1r) | exact HK.out)⟩, ⟨by repeat (first | (with_reducible first | exact HB.out | apply z03 | apply z05 | apply z04 | refine z08 ?_ (IsS100.ge HI0.out)) | exact HB.out)⟩⟩
 case round =>
  clear H'
  try clear p2
  obtain ⟨x3_1, x4_1, x1000_1, x1001_1, rfl, HA, HK1, HO_3, HI0, HK, HB⟩ := hrel
  cases gk with
  | zero => exact absurd HA.out (by simp [z16.l0])
  | succ k1 =>
   have H := HA.out
   clear HA
   simp only [z16.l0] at H
   by_cases c4 : x4_1 > 0
   ·rw [if_pos c4] at H
    have c4b0 : decide (0 < x4_1) = true := decide_eq_true c4
    clear c4
    by_cases c5 : x1001_1 = true
    ·subst c5
     have H1 : ((z2j.f x1000_1 true 32).bind fun bt107 => (if x3_1.length < 8796093022208 then (z16.l0 k1 (x3_1 ++ [bt107.1]) (IntKind.u64.wrap (x4_1 - 1)) bt107.2.1 bt107.2.2) else (none))) = some (r1, r2, r3) := by rw [if_pos rfl] at H; exact H
     clear H
     have H := H1
     clear H1
     replace H := Option.bind_eq_some_iff.mp H
     obtain ⟨⟨t107, t108, t109⟩, A60, H⟩ := H
     replace H : (if x3_1.length < 8796093022208 then (z16.l0 k1 (x3_1 ++ [t107]) (IntKind.u64.wrap (x4_1 - 1)) t108 t109) else (none)) = some (r1, r2, r3) := H
     have A6 := z01.mk A60
     clear A60
     by_cases c7 : x3_1.length < 8796093022208
     ·rw [if_pos c7] at H
      have LMc7 := z01.mk c7
      clear c7
      obtain ⟨y110, hy110⟩ : ∃ y_ : List ByteArray, y_ = (x3_1 ++ [t107]) := ⟨_, rfl⟩
      replace H : (z16.l0 k1 y110 (IntKind.u64.wrap (x4_1 - 1)) t108 t109) = some (r1, r2, r3) := by first | (rw [hy110]; with_reducible exact H) | (have H2_ := (Option.bind_some _ _).symm.trans H; rw [hy110]; with_reducible exact H2_) | (have H2_ := (Option.bind_some _ _).symm.trans H; with_reducible exact H2_) | with_reducible exact H | (rw [hy110]; exact H) | exact H
      have Ny110 := z01.mk hy110
      clear hy110
      have H' := z01.mk H
      clear H
      obtain ⟨HGz8, hgz8⟩ := HI0.out
      have hcz8_0 := z2i HGz8
      have hcz8_1 := z2a HGz8
      have hfz8_0 := z02 HGz8 0
      have hfz8_1 := z02 HGz8 1
      clear HGz8 hgz8
      go_wp2_with (first | ((with_reducible refine z1f (f := 47) rfl ?_); refine z1e (some 19) rfl rfl Try.func47 (by kernel_rfl) rfl #[.pointer (some ⟨g, 0, none⟩), .int .i64 32] rfl (by (try simp only [List.map_toArray, List.map_cons, List.map_nil]); first | done | rfl | (simp only [List.length_drop, List.length_take]; rfl)) ?_; (with_reducible refine (z2j.calls g x1000_1 true 32 t107 t108 t109 w0 _ ?side1 ?side2 A6.out).mono ?_); (case side1 => repeat (first | (with_reducible first | exact HI0.out | apply IsS100.alloc | apply IsS100.drewN | apply IsS100.drew | apply IsS100.set_0 | apply IsS100.set_1) | exact HI0.out)); (case side2 => repeat (first | (with_reducible first | exact HB.out | apply z03 | apply z05 | apply z04 | refine z08 ?_ (IsS100.ge HI0.out)) | exact HB.out)); rintro e w9 ⟨rfl, hi, hb, hk⟩; refine ⟨_, rfl, ?_⟩; have n0_ := z01.mk (Kd.z1o (Kd.R_keep (IsS100.apart (show IsS100 w0 _ g x1000_1 true from by repeat (first | (with_reducible first | exact HI0.out | apply IsS100.alloc | apply IsS100.drewN | apply IsS100.drew | apply IsS100.set_0 | apply IsS100.set_1) | exact HI0.out)) (by (with_reducible repeat (first | apply Kd.z0p | apply Kd.z0r | apply Kd.z0q)); exact HO_3.out) (by decide)) hk (fun _ h => h.2)) (fun _ h => h.1)); have n1_ := z01.mk (KeepBut.trans (by repeat (first | (with_reducible first | exact HK.out | apply KeepBut.set_ | apply z1q | apply z1s | apply z1r) | exact HK.out)) hk (.inl rfl)); have n2_ := z01.mk (hb); have n3_ := z01.mk (hi); clear HO_3; clear HK; clear HB; clear HI0; have HO_3 := n0_; have HK := n1_; have HB := n2_; have HI0 := n3_; clear n0_ n1_ n2_ n3_; (try clear hb); (try clear hb2); (try clear hk); (try clear hi)) | ((with_reducible refine gate_builtin (b := .append) (xs := #[.tmp 17, .tmp 20]) rfl ?_); at_builtin; refine Kd.R_append Kd.string w.heap.size rfl (.tmp 17) (.tmp 20) 23 9 (.string ⟨#[]⟩) 16 rfl Try.underlying23 info9 rfl (by decide) (by omega) u3 x3_1 t107 [.string t107] (fun _ => True) (fun _ => False) rfl rfl ?aP (fun _ hk => hk.elim) ?aF ?aO (Below.refl _ _) ?aS ?aL ?_; (case aP => exact rfl); (case aF => exact (fun _ _ => trivial)); (case aO => exact (by (with_reducible repeat (first | apply Kd.z0p | apply Kd.z0r | apply Kd.z0q)); exact HO_3.out)); (case aS => exact (keep_size (w := w) (g := g) (row := none) (by repeat (first | (with_reducible first | exact HK.out | apply KeepBut.set_ | apply z1q | apply z1s | apply z1r) | exact HK.out)))); (case aL => have := LMc7.out; omega); intro v111 w10 ho hb hg hat; rw [← Ny110.out] at ho; have n0_ := z01.mk (IsS100.grown (by repeat (first | (with_reducible first | exact HI0.out | apply IsS100.alloc | apply IsS100.drewN | apply IsS100.drew | apply IsS100.set_0 | apply IsS100.set_1) | exact HI0.out)) hg (IsS100.own_ne HI0.out HO_3.out (by decide))); have n1_ := z01.mk (below_weaken (by repeat (first | (with_reducible first | exact HB.out | apply z03 | apply z05 | apply z04 | refine z08 ?_ (IsS100.ge HI0.out)) | exact HB.out)) HL.out hb); have n2_ := z01.mk (KeepBut.trans (by repeat (first | (with_reducible first | exact HK.out | apply KeepBut.set_ | apply z1q | apply z1s | apply z1r) | exact HK.out)) (KeepBut.of_grown hg g) (Kd.R_base2 HO_3.out)); have n3_ := z01.mk (ho); clear HI0; clear HB; clear HK; clear HO_3; have HI0 := n0_; have HB := n1_; have HK := n2_; have HO112 := n3_; clear n0_ n1_ n2_ n3_; clear ho hb hg hat))
      go_roundg k1
      case measure => have := HK1.out; omega
      case rel => exact ⟨(y110), (IntKind.u64.wrap (x4_1 - 1)), (t108), (t109), (by first | rfl | (simp; done) | (simp [*]; done)), H', ⟨by have := HK1.out; omega⟩, ⟨by (with_reducible repeat (first | apply Kd.z0p | apply Kd.z0r | apply Kd.z0q)); exact HO112.out⟩, ⟨by repeat (first | (with_reducible first | exact HI0.out | apply IsS100.alloc | apply IsS100.drewN | apply IsS100.drew | apply IsS100.set_0 | apply IsS100.set_1) | exact HI0.out)⟩, ⟨by repeat (first | (with_reducible first | exact HK.out | apply KeepBut.set_ | apply z1q | apply z1s | apply z1r) | exact HK.out)⟩, ⟨by repeat (first | (with_reducible first | exact HB.out | apply z03 | apply z05 | apply z04 | refine z08 ?_ (IsS100.ge HI0.out)) | exact HB.out)⟩⟩
     ·rw [if_neg c7] at H
      exact absurd H (by simp)
    ·replace c5 := Bool.eq_false_iff.mpr c5
     subst c5
     have H1 : (some (x3_1, x1000_1, false)) = some (r1, r2, r3) := by rw [if_neg (show ¬ (false = true) by decide)] at H; exact H
     clear H
     have H := H1
     clear H1
     simp only [Option.some.injEq, Prod.mk.injEq] at H
     try rw [c4b0] at H
     obtain ⟨rfl, rfl, rfl⟩ := H
     obtain ⟨HGz11, hgz11⟩ := HI0.out
     have hcz11_0 := z2i HGz11
     have hcz11_1 := z2a HGz11
     have hfz11_0 := z02 HGz11 0
     have hfz11_1 := z02 HGz11 1
     clear HGz11 hgz11
     go_wp2
     go_ret
     exact ⟨_, by first | rfl | (simp [z0n, z0o] <;> rfl) | (simp [*, z0n, z0o] <;> rfl), by (with_reducible repeat (first | apply Kd.z0p | apply Kd.z0r | apply Kd.z0q)); exact HO_3.out, by repeat (first | (with_reducible first | exact HI0.out | apply IsS100.alloc | apply IsS100.drewN | apply IsS100.drew | apply IsS100.set_0 | apply IsS100.set_1) | exact HI0.out), by repeat (first | (with_reducible first | exact HB.out | apply z03 | apply z05 | apply z04 | refine z08 ?_ (IsS100.ge HI0.out)) | exact HB.out), by repeat (first | (with_reducible first | exact HK.out | apply KeepBut.set_ | apply z1q | apply z1s | apply z1r) | exact HK.out)⟩
   ·rw [if_neg c4] at H
    have c4b0 : decide (0 < x4_1) = false := decide_eq_false c4
    clear c4
    simp only [Option.some.injEq, Prod.mk.injEq] at H
    try rw [c4b0] at H
    obtain ⟨rfl, rfl, rfl⟩ := H
    go_wp2
    go_ret
    exact ⟨_, by first | rfl | (simp [z0n, z0o] <;> rfl) | (simp [*, z0n, z0o] <;> rfl), by (with_reducible repeat (first | apply Kd.z0p | apply Kd.z0r | apply Kd.z0q)); exact HO_3.out, by repeat (first | (with_reducible first | exact HI0.out | apply IsS100.alloc | apply IsS100.drewN | apply IsS100.drew | apply IsS100.set_0 | apply IsS100.set_1) | exact HI0.out), by repeat (first | (with_reducible first | exact HB.out | apply z03 | apply z05 | apply z04 | refine z08 ?_ (IsS100.ge HI0.out)) | exact HB.out), by repeat (first | (with_reducible first | exact HK.out | apply KeepBut.set_ | apply z1q | apply z1s | apply z1r) | exact HK.out)⟩
def z2n.f (s0_0 : ByteArray) (s0_1 : Bool) (a1 : Int) : Option (ByteArray × ByteArray × Bool) := (z2d.f s0_0 s0_1 (IntKind.u64.wrap (a1))).bind fun bt113 => ((z2j.f bt113.2.1 bt113.2.2 (wrap64 (bt113.1))).bind fun z0l => (some (z0l.1, z0l.2.1, z0l.2.2)))
set_option maxHeartbeats 8000000 in
set_option maxRecDepth 100000 in
theorem z2n.calls (g : Nat) (s0_0 : ByteArray) (s0_1 : Bool) (a1 : Int) (r1 : ByteArray) (r2 : ByteArray) (r3 : Bool) (w0 w : World) (hI : IsS100 w0 w g s0_0 s0_1) (hB : Below w0.heap.size w0 w) (h : z2n.f s0_0 s0_1 a1 = some (r1, r2, r3)) :
  Calls Try.prog 50 #[.pointer (some ⟨g, 0, none⟩), .int .i64 a1] w fun e w' => e = .returned (.string r1) ∧ IsS100 w0 w' g r2 r3 ∧ Below w0.heap.size w0 w' ∧ KeepBut w w' g none := by
 have HI0 := z01.mk hI
 have HK := z01.mk (KeepBut.refl w g none)
 have HL := z01.mk hB.size
 clear hI
 have HW0 := z01.mk hB.size
 have HB := z01.mk hB
 clear hB
 have H : ((z2d.f s0_0 s0_1 (IntKind.u64.wrap (a1))).bind fun bt113 => ((z2j.f bt113.2.1 bt113.2.2 (wrap64 (bt113.1))).bind fun z0l => (some (z0l.1, z0l.2.1, z0l.2.2)))) = some (r1, r2, r3) := h
 clear h
 replace H := Option.bind_eq_some_iff.mp H
 obtain ⟨⟨t113, t114, t115⟩, A30, H⟩ := H
 replace H : ((z2j.f t114 t115 (wrap64 (t113))).bind fun z0l => (some (z0l.1, z0l.2.1, z0l.2.2))) = some (r1, r2, r3) := H
 have A3 := z01.mk A30
 clear A30
 replace H := Option.bind_eq_some_iff.mp H
 obtain ⟨⟨t116, t117, t118⟩, A40, H⟩ := H
 replace H : (some (t116, t117, t118)) = some (r1, r2, r3) := H
 have A4 := z01.mk A40
 clear A40
 simp only [Option.some.injEq, Prod.mk.injEq] at H
 obtain ⟨rfl, rfl, rfl⟩ := H
 go_enter Try.func50, Try.ntmps50
 go_wp2_with (first | ((with_reducible refine z1f (f := 48) rfl ?_); refine z1e (some 9) rfl rfl Try.func48 (by kernel_rfl) rfl #[.pointer (some ⟨g, 0, none⟩), .int .u64 (IntKind.u64.wrap (a1))] rfl (by (try simp only [List.map_toArray, List.map_cons, List.map_nil]); first | done | rfl | (simp only [List.length_drop, List.length_take]; rfl)) ?_; (with_reducible refine (z2d.calls g s0_0 s0_1 (IntKind.u64.wrap (a1)) t113 t114 t115 w0 _ ?side1 ?side2 A3.out).mono ?_); (case side1 => repeat (first | (with_reducible first | exact HI0.out | apply IsS100.alloc | apply IsS100.drewN | apply IsS100.drew | apply IsS100.set_0 | apply IsS100.set_1) | exact HI0.out)); (case side2 => repeat (first | (with_reducible first | exact HB.out | apply z03 | apply z05 | apply z04 | refine z08 ?_ (IsS100.ge HI0.out)) | exact HB.out)); rintro e w5 ⟨rfl, hi, hb, hk⟩; refine ⟨_, rfl, ?_⟩; have n0_ := z01.mk (KeepBut.trans (by repeat (first | (with_reducible first | exact HK.out | apply KeepBut.set_ | apply z1q | apply z1s | apply z1r) | exact HK.out)) hk (.inl rfl)); have n1_ := z01.mk (hb); have n2_ := z01.mk (hi); clear HK; clear HB; clear HI0; have HK := n0_; have HB := n1_; have HI0 := n2_; clear n0_ n1_ n2_; (try clear hb); (try clear hb2); (try clear hk); (try clear hi)) | ((with_reducible refine z1f (f := 47) rfl ?_); refine z1e (some 11) rfl rfl Try.func47 (by kernel_rfl) rfl #[.pointer (some ⟨g, 0, none⟩), .int .i64 (wrap64 (t113))] rfl (by (try simp only [List.map_toArray, List.map_cons, List.map_nil]); first | done | rfl | (simp only [List.length_drop, List.length_take]; rfl)) ?_; (with_reducible refine (z2j.calls g t114 t115 (wrap64 (t113)) t116 t117 t118 w0 _ ?side1 ?side2 A4.out).mono ?_); (case side1 => repeat (first | (with_reducible first | exact HI0.out | apply IsS100.alloc | apply IsS100.drewN | apply IsS100.drew | apply IsS100.set_0 | apply IsS100.set_1) | exact HI0.out)); (case side2 => repeat (first | (with_reducible first | exact HB.out | apply z03 | apply z05 | apply z04 | refine z08 ?_ (IsS100.ge HI0.out)) | exact HB.out)); rintro e w6 ⟨rfl, hi, hb, hk⟩; refine ⟨_, rfl, ?_⟩; have n0_ := z01.mk (KeepBut.trans (by repeat (first | (with_reducible first | exact HK.out | apply KeepBut.set_ | apply z1q | apply z1s | apply z1r) | exact HK.out)) hk (.inl rfl)); have n1_ := z01.mk (hb); have n2_ := z01.mk (hi); clear HK; clear HB; clear HI0; have HK := n0_; have HB := n1_; have HI0 := n2_; clear n0_ n1_ n2_; (try clear hb); (try clear hb2); (try clear hk); (try clear hi)))
 go_ret
 exact ⟨by first | rfl | (simp [z0n, z0o] <;> rfl) | (simp [*, z0n, z0o] <;> rfl), by repeat (first | (with_reducible first | exact HI0.out | apply IsS100.alloc | apply IsS100.drewN | apply IsS100.drew | apply IsS100.set_0 | apply IsS100.set_1) | exact HI0.out), by repeat (first | (with_reducible first | exact HB.out | apply z03 | apply z05 | apply z04 | refine z08 ?_ (IsS100.ge HI0.out)) | exact HB.out), by repeat (first | (with_reducible first | exact HK.out | apply KeepBut.set_ | apply z1q | apply z1s | apply z1r) | exact HK.out)⟩
def z2o.f (a0_0 : Int) (a0_1 : Int) (l0_2 : List ByteArray) (l0_3 : List ByteArray) (l0_4 : List (S91)) (a0_5 : ByteArray) (a0_6 : Int) (a0_7 : Int) (a0_8 : ByteArray) : Option (Int) := some (Mine.checkP ⟨a0_0, a0_1, l0_2, l0_3, l0_4.map fun x => (x.f0, x.f1), a0_5, a0_6, a0_7, a0_8⟩)
theorem z2o.calls (a0_0 : Int) (a0_1 : Int) (A0_2 : Option Addr) (c0_2 : Nat) (l0_2 : List ByteArray) (A0_3 : Option Addr) (c0_3 : Nat) (l0_3 : List ByteArray) (A0_4 : Option Addr) (c0_4 : Nat) (l0_4 : List (S91)) (a0_5 : ByteArray) (a0_6 : Int) (a0_7 : Int) (a0_8 : ByteArray) (r : Int) (w : World) (hr0_2 : Kd.C Kd.string w A0_2 l0_2.length l0_2) (hc0_2 : l0_2.length ≤ c0_2) (hr0_3 : Kd.C Kd.string w A0_3 l0_3.length l0_3) (hc0_3 : l0_3.length ≤ c0_3) (hr0_4 : Kd.C k91 w A0_4 l0_4.length l0_4) (hc0_4 : l0_4.length ≤ c0_4) (h : z2o.f a0_0 a0_1 l0_2 l0_3 l0_4 a0_5 a0_6 a0_7 a0_8 = some r) :
  Calls Try.prog 17 #[.agg #[.int .i64 a0_0, .int .u64 a0_1, .slice A0_2 l0_2.length c0_2, .slice A0_3 l0_3.length c0_3, .slice A0_4 l0_4.length c0_4, .string a0_5, .int .i64 a0_6, .int .i64 a0_7, .string a0_8]] w fun e w' => e = .returned (.int .i64 r) ∧ Below w.heap.size w w' := by
 simp only [z2o.f, Option.some.injEq] at h
 subst h
 refine Mine.frCheck_calls _ _ w ⟨A0_2, c0_2, A0_3, c0_3, A0_4, c0_4, ?_, hr0_2, hc0_2, hr0_3, hc0_3, ?_, ?_⟩
 ·simp
 ·rw [List.length_map]; exact Mine.C_iso hr0_4
 ·rw [List.length_map]; exact hc0_4
def z0k.f (a0 : Int) : Option (ByteArray) := if 0 ≤ a0 ∧ a0 < 18446744073709551616 then some (Mine.sb (Mine.num a0.toNat)) else none
theorem z0k.calls (a0 : Int) (r : ByteArray) (w : World) (h : z0k.f a0 = some r) :
  Calls Try.prog 40 #[.int .u64 a0] w fun e w' => e = .returned (.string r) ∧ Below w.heap.size w w' := by
 unfold z0k.f at h
 split at h
 ·rename_i h0
  simp only [Option.some.injEq] at h
  subst h
  obtain ⟨m, rfl⟩ := Int.eq_ofNat_of_zero_le h0.1
  exact Mine.num_calls m w (by omega)
 ·cases h
def z0z.l0 : Nat → ByteArray → List ByteArray → Int → Int → Option (ByteArray)
 | 0, _, _, _, _ => none
 | k + 1, x3, x10, x11, x12 => if x12 < x11 then (if 0 ≤ x12 then (if x12 < (x10.length : Int) then (if x3.size + (rdOf ByteArray.empty x10 x12).size ≤ 9223372036854775807 then (z0z.l0 k (x3 ++ (rdOf ByteArray.empty x10 x12)) x10 x11 (wrap64 (x12 + 1))) else (none)) else (none)) else (none)) else (some x3)
def z0z.f (k : Nat) (l0 : List ByteArray) : Option (ByteArray) := (z0k.f (IntKind.u64.wrap ((l0.length : Int)))).bind fun t126 => (z0z.l0 k t126 l0 (l0.length : Int) 0)
theorem z0z.mono_l : ∀ k, (∀ y0 y1 y2 y3, LeO (z0z.l0 k y0 y1 y2 y3) (z0z.l0 (k + 1) y0 y1 y2 y3))
 | 0 => fun _ _ _ _ r h => by simp [z0z.l0] at h
 | k + 1 => by
  have ih0 := z0z.mono_l k
  ·intro y0 y1 y2 y3
   unfold z0z.l0
   repeat' first
   | (with_reducible exact ih0 _ _ _ _)
   | (with_reducible exact LeO.refl _)
   | (with_reducible exact LeO.none _)
   | (with_reducible refine LeO.ite ?_ ?_)
   | (with_reducible refine LeO.bind ?_ (fun _ => ?_))
   | exact ih0 _ _ _ _
   | exact LeO.none _
   | refine LeO.ite ?_ ?_
   | refine LeO.bind ?_ (fun _ => ?_)
theorem z0z.mono : ∀ a0 k, LeO (z0z.f k a0) (z0z.f (k + 1) a0) := by
 intro a0 k
 have ih0 := z0z.mono_l k
 unfold z0z.f
 repeat' first
   | (with_reducible exact ih0 _ _ _ _)
   | (with_reducible exact LeO.refl _)
   | (with_reducible exact LeO.none _)
   | (with_reducible refine LeO.ite ?_ ?_)
   | (with_reducible refine LeO.bind ?_ (fun _ => ?_))
   | exact ih0 _ _ _ _
   | exact LeO.none _
   | refine LeO.ite ?_ ?_
   | refine LeO.bind ?_ (fun _ => ?_)
set_option maxHeartbeats 8000000 in
set_option maxRecDepth 100000 in
theorem z0z.calls (k : Nat) (A0 : Option Addr) (c0 : Nat) (l0 : List ByteArray) (r : ByteArray) (w : World) (hr0 : Kd.C Kd.string w A0 l0.length l0) (hc0 : l0.length ≤ c0) (h : z0z.f k l0 = some r) :
  Calls Try.prog 41 #[.slice A0 l0.length c0] w fun e w' => e = .returned (.string r) ∧ Below w.heap.size w w' := by
 have HR0 := z01.mk hr0
 have HC0 := z01.mk hc0
 clear hr0 hc0
 have HB := z01.mk (Below.refl w.heap.size w)
 have H : ((z0k.f (IntKind.u64.wrap ((l0.length : Int)))).bind fun t126 => (z0z.l0 k t126 l0 (l0.length : Int) 0)) = some r := h
 clear h
 replace H := Option.bind_eq_some_iff.mp H
 obtain ⟨t126, A20, H⟩ := H
 replace H : (z0z.l0 k t126 l0 (l0.length : Int) 0) = some r := H
 have A2 := z01.mk A20
 clear A20
 have H' := z01.mk H
 clear H
 go_enter Try.func41, Try.ntmps41
 go_wp2_with (first | ((with_reducible refine z1f (f := 40) rfl ?_); refine z1e (some 9) rfl rfl Try.func40 (by kernel_rfl) rfl #[.int .u64 (IntKind.u64.wrap ((l0.length : Int)))] rfl (by (try simp only [List.map_toArray, List.map_cons, List.map_nil]); first | done | rfl | (simp only [List.length_drop, List.length_take]; rfl)) ?_; (with_reducible refine (z0k.calls (IntKind.u64.wrap ((l0.length : Int))) t126 _ A2.out).mono ?_); rintro e w3 ⟨rfl, hb⟩; refine ⟨_, rfl, ?_⟩; have n0_ := z01.mk (z0i (by repeat (first | (with_reducible first | exact HB.out | apply z03 | apply z05 | apply z04) | exact HB.out | exact Below.refl _ _)) hb); clear HB; have HB := n0_; clear n0_; (try clear hb); (try clear hb2); (try clear hk); (try clear hi)))
 go_loopg [3, 12] k (fun kq v3 v12 w' => ∃ (x3_1 : ByteArray) (x12_1 : Int), v3 = .string x3_1 ∧ v12 = .int .i64 x12_1 ∧ z01 (z0z.l0 kq x3_1 l0 (l0.length : Int) x12_1 = some r) ∧ z01 (kq ≤ k) ∧ z01 (Below w.heap.size w w'))
 case atStart => exact ⟨(t126), (0), (by first | rfl | (simp; done) | (simp [*]; done)), (by first | rfl | (simp; done) | (simp [*]; done)), H', ⟨Nat.le_refl _⟩, ⟨by repeat (first | (with_reducible first | exact HB.out | apply z03 | apply z05 | apply z04) | exact HB.out | exact Below.refl _ _)⟩⟩
 case round =>
  clear H'
  try clear p2
  obtain ⟨x3_1, x12_1, rfl, rfl, HA, HK1, HB⟩ := hrel
  cases gk with
  | zero => exact absurd HA.out (by simp [z0z.l0])
  | succ k1 =>
   have H := HA.out
   clear HA
   simp only [z0z.l0] at H
   by_cases c4 : x12_1 < (l0.length : Int)
   ·rw [if_pos c4] at H
    have c4b0 : decide (x12_1 < (l0.length : Int)) = true := decide_eq_true c4
    clear c4
    by_cases c5 : 0 ≤ x12_1
    ·rw [if_pos c5] at H
     have c5b0 : decide (0 ≤ x12_1) = true := decide_eq_true c5
     clear c5
     by_cases c6 : x12_1 < (l0.length : Int)
     ·rw [if_pos c6] at H
      have c6b0 : decide (x12_1 < (l0.length : Int)) = true := decide_eq_true c6
      clear c6
      by_cases c7 : x3_1.size + (rdOf ByteArray.empty l0 x12_1).size ≤ 9223372036854775807
      ·rw [if_pos c7] at H
       have c7b0 := eq_true c7
       have c7b1 : decide (x3_1.size + (rdOf ByteArray.empty l0 x12_1).size ≤ 9223372036854775807) = true := decide_eq_true c7
       try have c7b2 : (9223372036854775807 < x3_1.size + (rdOf ByteArray.empty l0 x12_1).size) = False := eq_false (Nat.not_lt.2 c7)
       clear c7
       have H' := z01.mk H
       clear H
       have p127 : 0 ≤ (x12_1 : Int) := of_decide_eq_true (by first | (with_reducible assumption) | assumption)
       have q127 : x12_1 < (l0.length : Int) := of_decide_eq_true (by first | (with_reducible assumption) | assumption)
       obtain ⟨ad127, e127, hx127_0⟩ := Kd.at_string HR0.out x12_1 p127 q127
       cases e127
       replace hx127_0 := (HB.out.cell (World.block_lt_of_cell? w _ hx127_0)).trans hx127_0
       replace p127 := eq_true p127
       replace q127 := eq_true q127
       go_wp2
       go_roundg k1
       case measure => have := HK1.out; omega
       case rel => exact ⟨(x3_1 ++ (rdOf ByteArray.empty l0 x12_1)), (wrap64 (x12_1 + 1)), (by first | rfl | (simp; done) | (simp [*]; done)), (by first | rfl | (simp; done) | (simp [*]; done)), H', ⟨by have := HK1.out; omega⟩, ⟨by repeat (first | (with_reducible first | exact HB.out | apply z03 | apply z05 | apply z04) | exact HB.out | exact Below.refl _ _)⟩⟩
      ·rw [if_neg c7] at H
       exact absurd H (by simp)
     ·rw [if_neg c6] at H
      exact absurd H (by simp)
    ·rw [if_neg c5] at H
     exact absurd H (by simp)
   ·rw [if_neg c4] at H
    have c4b0 : decide (x12_1 < (l0.length : Int)) = false := decide_eq_false c4
    clear c4
    obtain rfl := Option.some.inj H
    go_wp2
    go_ret
    exact ⟨by first | rfl | (simp [z0n, z0o] <;> rfl) | (simp [*, z0n, z0o] <;> rfl), by repeat (first | (with_reducible first | exact HB.out | apply z03 | apply z05 | apply z04) | exact HB.out | exact Below.refl _ _)⟩
def z1y.f (a0 : ByteArray) : Option (ByteArray) := if a0.size ≤ 1000000000 then some (Mine.sb (Mine.frame (Mine.bs a0))) else none
theorem z1y.calls (a0 : ByteArray) (r : ByteArray) (w : World) (h : z1y.f a0 = some r) :
  Calls Try.prog 42 #[.string a0] w fun e w' => e = .returned (.string r) ∧ Below w.heap.size w w' := by
 unfold z1y.f at h
 split at h
 ·rename_i h0
  simp only [Option.some.injEq] at h
  subst h
  exact PN.z1y.calls 10 _ _ w (Mine.codeFrame a0 h0 10 (Nat.le_refl _))
 ·cases h
end Go.Proofs.Ytcfdplmapdgfmaa.PG
