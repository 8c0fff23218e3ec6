/- The contract of lz.Press. -/
import Derived.Test.YtjgbodgcbagbnaaLzNote
import Derived.Test.YtjgbodgcbagbnaaMarkBuf
import Derived.Test.YtjgbodgcbagbnaaMakeC
import Derived.Deep.RegionHeld3
import Derived.Deep.DrawnRows
set_option linter.unusedVariables false
set_option linter.unusedSimpArgs false
namespace Go.Proofs.Ytjgbodgcbagbnaa.Mine
open Go.RowKit Go.Proofs.YtjgbodgcbagbnaaW.PrintWords
attribute [local go_sem ↓] Go.wp_at_zero Go.wp_at_succ

/-- What Press holds between its steps: the buffer, the map. -/
structure PS (w0 w : World) (B g m : Nat) (l : List Nat) (j : Nat) (o : List Nat) (v : Value) : Prop where
  buf : MBuf B o v w
  last : LastM w g m l j
  ne : v.ownBlock ≠ some g
  below : Below w0.heap.size w0 w
  gB : w0.heap.size ≤ g
  bB : w0.heap.size ≤ B
  glt : g < w.heap.size
theorem PS.next {w0 w w' : World} {B g m : Nat} {l : List Nat} {j : Nat} {o : List Nat} {v : Value} (h : PS w0 w B g m l j o v) (hb : Below w.heap.size w w') : PS w0 w' B g m l j o v :=
  ⟨h.buf.below hb, h.last.kept (grown_of_below hb) (by simp), h.ne, h.below.trans (hb.mono h.below.size), h.gB, h.bB, Nat.lt_of_lt_of_le h.glt hb.size⟩
theorem PS.app {w0 w w' : World} {B g m : Nat} {l : List Nat} {j : Nat} {o o' : List Nat} {v v' : Value} (h : PS w0 w B g m l j o v) (hm : MBuf B o' v' w') (hg : w.grownBy w' v.ownBlock) (hk : ∀ k, v'.ownBlock = some k → some k = v.ownBlock ∨ w.heap.size ≤ k) : PS w0 w' B g m l j o' v' := by
  refine ⟨hm, h.last.kept hg h.ne.symm, fun e => ?_, h.below.grown hg h.below.size fun k e => Nat.le_trans h.bB (h.buf.lt k e).1, h.gB, h.bB, Nat.lt_of_lt_of_le h.glt hg.size⟩
  rcases hk g e with h1 | h1
  · exact h.ne h1.symm
  · have := h.glt; omega
theorem PS.note {w0 w w' : World} {B g m m' : Nat} {l : List Nat} {j j' : Nat} {o : List Nat} {v : Value} (h : PS w0 w B g m l j o v) (hl : LastM w' g m' l j') (hg : w.grownBy w' (some g)) : PS w0 w' B g m' l j' o v :=
  ⟨h.buf.grown hg (.inl h.ne), hl, h.ne, h.below.grown hg h.below.size fun k e => by cases e; exact h.gB, h.gB, h.bB, Nat.lt_of_lt_of_le h.glt hg.size⟩
theorem u64n (n : Nat) (h : n < 18446744073709551616) : IntKind.u64.wrap (n : Int) = (n : Int) := by rw [IntKind.wrap_u64]; omega
theorem wrapD (a b : Nat) (h : b ≤ a) (ha : a ≤ 1000000000) : IntKind.u64.wrap (IntKind.i64.wrap ((a : Int) - (b : Int))) = ((a - b : Nat) : Int) := by
  rw [IntKind.wrap_i64, show ((a : Int) - (b : Int) + 9223372036854775808) % 18446744073709551616 - 9223372036854775808 = ((a - b : Nat) : Int) from by omega]
  exact u64n _ (by omega)
theorem slice_from (s : ByteArray) (a : Nat) (hb : a ≤ s.size) : ∀ W : World, (Instr.slice 9 (.string s) (some (.int .i64 (a : Int))) none none).run Try.prog W = .ok (.string (s.extract a s.size)) W := by
  intro W
  have h := run_slice_string_from_if (P := Try.prog) (w := W) 9 s .i64 (a : Int) Try.underlying9
  rw [h]
  have h1 : (0 : Int) ≤ (a : Int) ∧ (a : Int) ≤ s.size := by omega
  simp [h1]
set_option maxRecDepth 100000 in
set_option maxHeartbeats 2000000 in
theorem press_calls (s : ByteArray) (w : World) (hs : s.size ≤ 1048576) :
    Calls Try.prog 28 #[.string s] w fun e w' => e = .returned (.tuple #[.string (sb (pressP (bs s))), .int .i64 0]) ∧ Below w.heap.size w w' := by
  have hmm := @run_makeMap Try.prog
  obtain ⟨R, hR⟩ : ∃ R, R = pressP (bs s) := ⟨_, rfl⟩
  rw [← hR]
  have hsb : decide ((s.size : Int) > 1048576) = false := by simp; omega
  go_enter Try.func28, Try.ntmps28
  go_wp2_with fail
  refine (num_calls s.size _ (by omega)).mono ?_
  rintro e w1 ⟨rfl, hb1⟩
  have hnl := num_length s.size (by omega)
  obtain ⟨v2, w2, hcv, hM2, hb2⟩ := conv_M w1 (sb (num s.size)) (by rw [sb_size]; omega)
  rw [bs_sb _ (num_lt _)] at hM2
  have hB2 : Below w.heap.size w w2 := hb1.trans (hb2.mono hb1.size)
  have hB3 := hB2.alloc hB2.size (.map #[] 0)
  have hown := World.ownsMap_made w2 Try.prog 9 (plainElem (H := Unit) Try.prog 3)
  have hne2 : v2.ownBlock ≠ some w2.heap.size := fun e => by have := (hM2.lt _ e).2; omega
  have hP : PS w (w2.alloc (.map #[] 0)) w1.heap.size w2.heap.size 0 (bs s) 0 (num s.size) v2 :=
    ⟨hM2.grown (World.grownBy_alloc w2 _ (some w2.heap.size)) (.inl hne2), ⟨_, hown, MapF.empty⟩, hne2, hB3, hB2.size, hb1.size, by simp⟩
  have HR := Lib.hid hR
  have HP := Lib.hid hP
  clear hnl hM2 hB2 hB3 hown hne2 hP hb1 hb2 hR
  go_wp2_with fail
  go_loopg [4, 6, 7] s.size (fun gg s4 s6 s7 wr => ∃ (o : List Nat) (fr at_ : Nat), fr ≤ at_ ∧ at_ ≤ s.size ∧ gg = s.size - at_ ∧ s6 = .int .i64 fr ∧ s7 = .int .i64 at_ ∧
      Hid (o ++ mkP (bs s) at_ fr = R) ∧ Hid (o.length + (at_ - fr) ≤ 40 + 40 * at_) ∧ Hid (PS w wr w1.heap.size w2.heap.size at_ (bs s) at_ o s4))
  case atStart =>
    exact ⟨num s.size, 0, 0, by omega, by omega, rfl, rfl, rfl, by unfold Hid; rw [HR.out, pressP, bs_length], by unfold Hid; have := num_length s.size (by omega); omega, HP.out⟩
  case round =>
    obtain ⟨o, fr, at_, hfr, hat, hgk, rfl, rfl, HO, HS, HPS⟩ := hrel
    have HG := Lib.hid hgk
    clear hgk
    by_cases hlt : at_ < s.size
    · have hltb : decide ((at_ : Int) < (s.size : Int)) = true := by simp; omega
      go_wp2_with fail
      refine (find_calls s w2.heap.size at_ at_ _ (by omega) hat HPS.out.last).mono ?_
      rintro e w3 ⟨b, n, rfl, hb, hn, hbb⟩
      have HP3 := Lib.hid (HPS.out.next hbb)
      clear hbb HPS
      by_cases h0 : b = 0
      · subst h0
        have HB := Lib.hid hb
        clear hb hn
        go_wp2_with fail
        refine (note_calls s w2.heap.size at_ at_ (at_ + 1) _ (by omega) (by omega) (by omega) (by omega) HP3.out.last).mono ?_
        rintro e w4 ⟨rfl, hl4, hg4⟩
        have HP4 := Lib.hid (HP3.out.note hl4 hg4)
        clear hl4 hg4 HP3
        go_wp2_with fail
        go_roundg (s.size - (at_ + 1))
        case measure => have := HG.out; omega
        case rel =>
          refine ⟨o, fr, at_ + 1, by omega, by omega, rfl, rfl, by go_num, ?_, ?_, ?_⟩
          · unfold Hid
            rw [← HO.out, mkP_none _ _ _ (by rw [bs_length]; exact hlt) HB.out.symm]
          · unfold Hid; have := HS.out; omega
          · have := HP4.out
            rwa [show at_ + (at_ + 1 - at_) = at_ + 1 from by omega] at this
      · have h0b : ((b : Int) == 0) = false := by simp; omega
        obtain ⟨hn4, hnl, hmk⟩ := mkP_some (bs s) at_ fr b n (by rw [bs_length]; exact hlt) hb.symm h0 (hn h0)
        have hbl : b ≤ 32768 := by rw [hb]; exact (backP_ok _ _ (by rw [← hb]; exact h0)).2.2.1
        rw [bs_length] at hnl
        have HMK := Lib.hid hmk
        clear hb hn hmk
        have hsl2 := slice_run s fr at_ (fr : Int) (at_ : Int) rfl rfl hfr (by omega)
        obtain ⟨u, hu⟩ : ∃ u, u = s.extract fr at_ := ⟨_, rfl⟩
        have hub : bs u = ((bs s).drop fr).take (at_ - fr) := by rw [hu, bs_extract]
        have hus : u.size ≤ at_ - fr := by rw [hu, ByteArray.size_extract]; omega
        rw [← hu] at hsl2
        have HU := Lib.hid hub
        clear hub hu
        have hn1 : (sb (num (at_ - fr))).size ≤ 10 := by rw [sb_size]; exact num_length _ (by omega)
        have hn2 : (sb (num b)).size ≤ 10 := by rw [sb_size]; exact num_length _ (by omega)
        have hn3 : (sb (num (n - 4))).size ≤ 10 := by rw [sb_size]; exact num_length _ (by omega)
        obtain ⟨S1, hS1⟩ : ∃ x, x = sb (num (at_ - fr)) := ⟨_, rfl⟩
        obtain ⟨S2, hS2⟩ : ∃ x, x = sb (num b) := ⟨_, rfl⟩
        obtain ⟨S3, hS3⟩ : ∃ x, x = sb (num (n - 4)) := ⟨_, rfl⟩
        have c1 : ∀ w, Calls Try.prog 41 #[.int .u64 (IntKind.u64.wrap (IntKind.i64.wrap ((at_ : Int) - (fr : Int))))] w fun e w' => e = .returned (.string S1) ∧ Below w.heap.size w w' := fun w => by rw [hS1]; exact num_lit _ _ w (wrapD _ _ hfr (by omega)) (by omega)
        have c2 : ∀ w, Calls Try.prog 41 #[.int .u64 (IntKind.u64.wrap (b : Int))] w fun e w' => e = .returned (.string S2) ∧ Below w.heap.size w w' := fun w => by rw [hS2]; exact num_lit _ _ w (u64n b (by omega)) (by omega)
        have c3 : ∀ w, Calls Try.prog 41 #[.int .u64 (IntKind.u64.wrap (IntKind.i64.wrap ((n : Int) - 4)))] w fun e w' => e = .returned (.string S3) ∧ Below w.heap.size w w' := fun w => by rw [hS3]; exact num_lit _ _ w (wrapD n 4 hn4 (by omega)) (by omega)
        rw [← hS1] at hn1
        rw [← hS2] at hn2
        rw [← hS3] at hn3
        have C1 := Lib.hid c1
        have C2 := Lib.hid c2
        have C3 := Lib.hid c3
        have HSS := Lib.hid (And.intro hS1 (And.intro hS2 hS3))
        clear c1 c2 c3 hS1 hS2 hS3
        have hos : o.length ≤ 100000000 := by have := HS.out; omega
        have q1 : (4 : Int) ≤ (n : Int) := by omega
        have q2 : (fr : Int) ≤ (at_ : Int) := by omega
        have y1 : ¬ (S1.size + u.size > 9223372036854775807) := by omega
        have y2 : ¬ (S1.size + u.size + S2.size > 9223372036854775807) := by omega
        have y3 : ¬ (S1.size + u.size + S2.size + S3.size > 9223372036854775807) := by omega
        have y2' : ¬ ((S1 ++ u).size + S2.size > 9223372036854775807) := by rw [ByteArray.size_append]; omega
        have y3' : ¬ ((S1 ++ u ++ S2).size + S3.size > 9223372036854775807) := by rw [ByteArray.size_append, ByteArray.size_append]; omega
        go_wp2_with fail
        go_region_held3 (fun _ => True) (trivial) (first
          | (have hh := HP6.out.buf; refine step_append_strM (by rfl) _ _ (by rfl) w1.heap.size o u4 (by rfl) hh (S1 ++ u ++ S2 ++ S3) (by rfl) (by simp only [ByteArray.size_append]; omega) ?_; intro v8 w8 hb8 hg8 hk8; have HP8 := Lib.hid (HP6.out.app hb8 hg8 hk8); clear hb8 hg8 hk8 hh)
          | (have hh := HP5.out; go_at_call 41; refine (C3.out _).mono ?_; rintro e w7 ⟨rfl, hb7⟩; have HP6 := Lib.hid (hh.next ⟨hb7.os, hb7.tape, hb7.output, hb7.size, hb7.block⟩); clear hb7 hh)
          | (have hh := HP4.out; go_at_call 41; refine (C2.out _).mono ?_; rintro e w6 ⟨rfl, hb6⟩; have HP5 := Lib.hid (hh.next ⟨hb6.os, hb6.tape, hb6.output, hb6.size, hb6.block⟩); clear hb6 hh)
          | (go_at_call 41; refine (C1.out _).mono ?_; rintro e w5 ⟨rfl, hb5⟩; have HP4 := Lib.hid (HP3.out.next ⟨hb5.os, hb5.tape, hb5.output, hb5.size, hb5.block⟩); clear hb5))
        go_wp2_with fail
        refine (note_calls s w2.heap.size at_ at_ (at_ + n) _ (by omega) (by omega) hnl (by omega) HP8.out.last).mono ?_
        rintro e w9 ⟨rfl, hl9, hg9⟩
        have HP9 := Lib.hid (HP8.out.note hl9 hg9)
        clear hl9 hg9 HP8
        go_wp2_with fail
        go_roundg (s.size - (at_ + n))
        case measure => have := HG.out; omega
        case rel =>
          obtain ⟨e1, e2, e3⟩ := HSS.out
          refine ⟨o ++ bs (S1 ++ u ++ S2 ++ S3), at_ + n, at_ + n, by omega, by omega, rfl, by go_num, by go_num, ?_, ?_, ?_⟩
          · unfold Hid
            rw [← HO.out, HMK.out, ← HU.out, e1, e2, e3]
            simp only [bs_append, bs_sb _ (num_lt _), List.append_assoc]
          · unfold Hid
            rw [List.length_append, bs_length]
            simp only [ByteArray.size_append]
            have := HS.out
            omega
          · have := HP9.out
            rwa [show at_ + (at_ + n - at_) = at_ + n from by omega] at this
    · have hltb : decide ((at_ : Int) < (s.size : Int)) = false := by simp; omega
      obtain rfl : at_ = s.size := by omega
      have hO := HO.out
      rw [mkP_end _ _ _ (by rw [bs_length]; exact Nat.le_refl _)] at hO
      by_cases hfl : fr < s.size
      · have hflb : decide ((fr : Int) < (s.size : Int)) = true := by simp; omega
        obtain ⟨u, hu⟩ : ∃ u, u = s.extract fr s.size := ⟨_, rfl⟩
        have hsl2 := slice_from s fr (by omega)
        rw [← hu] at hsl2
        have hub : bs u = (bs s).drop fr := by rw [hu, bs_extract, List.take_of_length_le (by rw [List.length_drop, bs_length]; omega)]
        have hus : u.size ≤ s.size - fr := by rw [hu, ByteArray.size_extract]; omega
        have hne : (bs s).drop fr ≠ [] := fun e => by have := congrArg List.length e; rw [List.length_drop, bs_length] at this; simp at this; omega
        have hn1 : (sb (num (s.size - fr))).size ≤ 10 := by rw [sb_size]; exact num_length _ (by omega)
        obtain ⟨S1, hS1⟩ : ∃ x, x = sb (num (s.size - fr)) := ⟨_, rfl⟩
        have c1 : ∀ w, Calls Try.prog 41 #[.int .u64 (IntKind.u64.wrap (IntKind.i64.wrap ((s.size : Int) - (fr : Int))))] w fun e w' => e = .returned (.string S1) ∧ Below w.heap.size w w' := fun w => by rw [hS1]; exact num_lit _ _ w (wrapD _ _ (by omega) (by omega)) (by omega)
        rw [← hS1] at hn1
        have C1 := Lib.hid c1
        rw [lonesB, if_neg hne, List.length_drop, bs_length, ← hub] at hO
        have HSS := Lib.hid (And.intro hS1 (And.intro hO hu))
        clear c1 hS1 hub hne hO hu
        have hos : o.length ≤ 100000000 := by have := HS.out; omega
        have q2 : (fr : Int) ≤ (s.size : Int) := by omega
        have y1 : ¬ (S1.size + u.size > 9223372036854775807) := by omega
        go_wp2_with fail
        go_region_held3 (fun _ => True) (trivial) (first
          | (have hh := HP6.out.buf; refine step_append_strM (by rfl) _ _ (by rfl) w1.heap.size o u4 (by rfl) hh (S1 ++ u) (by rfl) (by simp only [ByteArray.size_append]; omega) ?_; intro v8 w8 hb8 hg8 hk8; have HP8 := Lib.hid (HP6.out.app hb8 hg8 hk8); clear hb8 hg8 hk8 hh)
          | (go_at_call 41; refine (C1.out _).mono ?_; rintro e w5 ⟨rfl, hb5⟩; have HP6 := Lib.hid (HPS.out.next ⟨hb5.os, hb5.tape, hb5.output, hb5.size, hb5.block⟩); clear hb5))
        have hcv := HP8.out.buf.string
        go_wp2_with fail
        go_ret2
        refine ⟨?_, HP8.out.below⟩
        obtain ⟨e1, e2, _⟩ := HSS.out
        rw [← e2, e1, bs_append, bs_sb _ (num_lt _)]
        rfl
      · have hflb : decide ((fr : Int) < (s.size : Int)) = false := by simp; omega
        rw [List.drop_eq_nil_of_le (by rw [bs_length]; omega), lonesB, if_pos rfl, List.append_nil] at hO
        subst hO
        have hcv := HPS.out.buf.string
        go_wp2_with fail
        go_ret2
        exact ⟨rfl, HPS.out.below⟩
set_option maxRecDepth 100000 in
theorem press_much (s : ByteArray) (w : World) (hs : 1048576 < s.size) :
    Calls Try.prog 28 #[.string s] w fun e w' => e = .returned (.tuple #[.string ⟨#[]⟩, .int .i64 3]) ∧ Below w.heap.size w w' := by
  have hsb : decide ((s.size : Int) > 1048576) = true := by simp; omega
  go_enter Try.func28, Try.ntmps28
  go_wp2_with fail
  go_ret2
  exact ⟨rfl, Below.refl _ _⟩
end Go.Proofs.Ytjgbodgcbagbnaa.Mine
