/- The contract of delta.Apply, over the printed functions of its reader. -/
import Derived.Test.YtjgbodgcbagbnaaPRx
import Derived.Test.YtjgbodgcbagbnaaByteBuf
import Derived.Test.YtjgbodgcbagbnaaLoopKit
import Derived.Lib.Hide
import Derived.Outline
import Derived.Deep.QuietTactic
import Derived.BigQuiet
import Derived.Deep.LoopGhost
set_option linter.unusedVariables false
set_option linter.unusedSimpArgs false
namespace Go.Proofs.Ytjgbodgcbagbnaa.Mine
open Go.RowKit Go.Proofs.YtjgbodgcbagbnaaW.PrintWords Go.Proofs.Ytjgbodgcbagbnaa.PR

theorem below_drewN_ {B : Nat} {a w : World} (h : Below B a w) (n : Nat) : Below B a (w.drewN n) := ⟨h.os, h.tape, h.output, h.size, h.block⟩
def applyL : Nat → ByteArray → Int → ByteArray → ByteArray → Int → Option (ByteArray × ByteArray × Int)
  | 0, _, _, _, _, _ => none
  | k + 1, base, size, out, s, e =>
    if (out.size : Int) < size ∧ e = 0 then
      (delta_reader_part.f 5 s e base (size - out.size)).bind fun r => if out.size + r.1.size ≤ 10000000 then applyL k base size (out ++ r.1) r.2.1 r.2.2 else none
    else some (out, s, e)
def applyF (k : Nat) (base d : ByteArray) (most : Int) : Option (ByteArray × Int) :=
  if base.size ≤ 1000000 ∧ 0 ≤ most ∧ most ≤ 1000000 then
    (delta_reader_num.f d 0).bind fun x => (delta_reader_num.f x.2.1 x.2.2).bind fun y =>
      if 0 ≤ x.1 ∧ 0 ≤ y.1 then
        if y.2.2 = 0 then
          if x.1 = (base.size : Int) then
            if most < y.1 then some (ByteArray.empty, 3)
            else (applyL k base y.1 ByteArray.empty y.2.1 y.2.2).bind fun z => if z.2.2 = 0 then (if z.2.1.size = 0 then some (z.1, 0) else some (ByteArray.empty, 5)) else some (ByteArray.empty, z.2.2)
          else some (ByteArray.empty, 6)
        else some (ByteArray.empty, y.2.2)
      else none
  else none
set_option maxRecDepth 100000 in
set_option maxHeartbeats 1000000 in
theorem apply_calls (k : Nat) (base d : ByteArray) (most : Int) (r1 : ByteArray) (r2 : Int) (w : World) (h : applyF k base d most = some (r1, r2)) :
    Calls Try.prog 24 #[.string base, .string d, .int .i64 most] w fun e w' => e = .returned (.tuple #[.string r1, .int .i64 r2]) ∧ Below w.heap.size w w' := by
  unfold applyF at h
  split at h
  · rename_i hc
    obtain ⟨hbase, hm0, hm1⟩ := hc
    cases hx : delta_reader_num.f d 0 with
    | none => rw [hx] at h; cases h
    | some x =>
      obtain ⟨x1, x2, x3⟩ := x
      rw [hx] at h
      simp only [Option.bind_some] at h
      cases hy : delta_reader_num.f x2 x3 with
      | none => rw [hy] at h; cases h
      | some y =>
        obtain ⟨y1, y2, y3⟩ := y
        rw [hy] at h
        simp only [Option.bind_some] at h
        split at h
        · rename_i hr
          obtain ⟨hx0, hy0⟩ := hr
          have HX := Lib.hid hx
          have HY := Lib.hid hy
          have HH := Lib.hid h
          clear hx hy h
          have hI0 := IsS64.new w w d 0 (Below.refl _ _)
          have hB0 := (Below.refl w.heap.size w).alloc (Nat.le_refl _) (.cells #[.string d, .int .i64 0] 64)
          have HI0 := Lib.hid (And.intro hI0 hB0)
          clear hI0 hB0
          go_enter Try.func24, Try.ntmps24
          go_wp2_with fail
          refine (delta_reader_num.calls w.heap.size d 0 x1 x2 x3 w _ HI0.out.1 HI0.out.2 HX.out).mono ?_
          rintro e w1 ⟨rfl, hI1, hB1, hK1⟩
          have HI1 := Lib.hid (And.intro hI1 hB1)
          clear hI1 hB1 hK1
          go_wp2_with fail
          refine (delta_reader_num.calls w.heap.size x2 x3 y1 y2 y3 w _ HI1.out.1 HI1.out.2 HY.out).mono ?_
          rintro e w2 ⟨rfl, hI2, hB2, hK2⟩
          have HI2 := Lib.hid (And.intro hI2 hB2)
          have c1 := cellS64_1 hI2.1
          have c0 := cellS64_0 hI2.1
          clear hI2 hB2 hK2
          by_cases he : y3 = 0
          · subst he
            have h2 := HH.out
            rw [if_pos rfl] at h2
            by_cases hsz : x1 = (base.size : Int)
            · subst hsz
              rw [if_pos rfl] at h2
              by_cases hmm : most < y1
              · rw [if_pos hmm] at h2
                have H2 := Lib.hid h2
                clear h2
                go_wp2_with fail
                have h3 := H2.out
                simp only [Option.some.injEq, Prod.mk.injEq] at h3
                obtain ⟨rfl, rfl⟩ := h3
                go_ret2
                exact ⟨rfl, HI2.out.2⟩
              · rw [if_neg hmm] at h2
                have H2 := Lib.hid h2
                clear h2
                have hm1' : y1 ≤ most := by omega
                obtain ⟨m, rfl⟩ := Int.eq_ofNat_of_zero_le hy0
                have hmb : m ≤ 1000000 := by omega
                clear hmm
                have hmf : ¬ most < (m : Int) := by omega
                have hmfb : decide (most < (m : Int)) = false := by simpa using hmf
                have hm0b : decide (most < 0) = false := by simpa using hm0
                cases hz : applyL k base (m : Int) ByteArray.empty y2 0 with
                | none => have h3 := H2.out; rw [hz] at h3; cases h3
                | some z =>
                  obtain ⟨z1, z2, z3⟩ := z
                  have h3 := H2.out
                  rw [hz] at h3
                  simp only [Option.bind_some] at h3
                  have H3 := Lib.hid h3
                  have HZ := Lib.hid hz
                  clear h3 hz H2
                  go_wp2_with fail
                  obtain ⟨B, hB⟩ : ∃ B, B = w2.heap.size := ⟨_, rfl⟩
                  have hgB : w.heap.size < B := by rw [hB]; exact HI2.out.1.lt
                  have hb0 : BBuf B (bs ByteArray.empty) (.slice none 0 0) w2 := by rw [hB]; exact BBuf.nil w2
                  have HB0 := Lib.hid hb0
                  clear hB hb0 c0 c1
                  go_loopg [11] k (fun g s11 wr => ∃ (kk n c : Nat) (p : Option Addr) (o s : ByteArray) (e : Int), g = kk ∧ s11 = .slice p n c ∧ Hid (n = o.size) ∧ Hid (BBuf B (bs o) (.slice p n c) wr) ∧
                      Hid (IsS64 w wr w.heap.size s e) ∧ Hid (Below w.heap.size w wr) ∧ Hid (applyL kk base (m : Int) o s e = some (z1, z2, z3)))
                  case atStart =>
                    exact ⟨k, 0, 0, none, ByteArray.empty, y2, 0, rfl, rfl, rfl, HB0.out, HI2.out.1, HI2.out.2, HZ.out⟩
                  case round =>
                    obtain ⟨kk, n, c, p, o, s, e, hg, rfl, HN, HBB, HIr, HBr, HL⟩ := hrel
                    have HG := Lib.hid hg
                    clear hg
                    have c1 := cellS64_1 HIr.out.1
                    have c0 := cellS64_0 HIr.out.1
                    match kk, HL, HG with
                    | 0, HL, _ => have := HL.out; simp [applyL] at this
                    | kk + 1, HL, HG =>
                      have hl := HL.out
                      rw [applyL] at hl
                      by_cases ht : (o.size : Int) < (m : Int) ∧ e = 0
                      · obtain ⟨ht1, rfl⟩ := ht
                        rw [if_pos ⟨ht1, rfl⟩, ← HN.out] at hl
                        have hnm : (n : Int) < (m : Int) := by rw [HN.out]; exact ht1
                        have hnmb : decide (n < m) = true := by simp; omega
                        clear ht1
                        cases hp : delta_reader_part.f 5 s 0 base ((m : Int) - (n : Int)) with
                        | none => rw [hp] at hl; cases hl
                        | some r =>
                          obtain ⟨r1, r2, r3⟩ := r
                          rw [hp] at hl
                          simp only [Option.bind_some] at hl
                          split at hl
                          · rename_i hsz2
                            have HLL := Lib.hid hl
                            have HP := Lib.hid hp
                            clear hl hp
                            go_wp2_with fail
                            refine (delta_reader_part.calls 5 w.heap.size s 0 base ((m : Int) - (n : Int)) r1 r2 r3 w _ HIr.out HBr.out HP.out).mono ?_
                            rintro e w3 ⟨rfl, hI3, hB3, hK3⟩
                            have hbb3 : BBuf B (bs o) (.slice p n c) w3 := HBB.out.kept hK3.1 fun k h1 h2 => hK3.2 k h2 (by omega) (by simp)
                            have HB3 := Lib.hid (And.intro hbb3 (And.intro hI3 hB3))
                            clear hbb3 hI3 hB3 hK3
                            go_wp2_with (at_builtin; refine wpList_append_str rfl _ _ rfl B (bs o) (.slice p n c) rfl HB3.out.1 r1 rfl ?_ ?_; (rw [bs_length, ← HN.out]; omega); intro v4 w4 hb4 hg4; have HB4 := Lib.hid (And.intro hb4 hg4); clear hb4 hg4; obtain ⟨p4, c4, hv4, _⟩ := HB4.out.1.form; rw [List.length_append, bs_length, bs_length, ← HN.out] at hv4; have HV4 := Lib.hid hv4; clear hv4; rw [HV4.out])
                            go_roundg kk
                            case measure => have := HG.out; omega
                            case rel =>
                              refine ⟨kk, n + r1.size, c4, p4, o ++ r1, r2, r3, rfl, rfl, ?_, ?_, HB3.out.2.1.grown HB4.out.2 ?_, ?_, HLL.out⟩
                              · unfold Hid; rw [ByteArray.size_append, HN.out]
                              · have := HB4.out.1
                                rw [HV4.out, ← bs_append] at this
                                exact this
                              · intro e
                                have := (HB3.out.1.lt _ e.symm).1
                                omega
                              · exact HB3.out.2.2.grown HB4.out.2 HB3.out.2.2.size fun k e => by have := (HB3.out.1.lt _ e).1; omega
                          · cases hl
                      · rw [if_neg ht] at hl
                        simp only [Option.some.injEq, Prod.mk.injEq] at hl
                        obtain ⟨rfl, rfl, rfl⟩ := hl
                        by_cases he : e = 0
                        · subst he
                          have hnm : ¬ (n < m) := by have := HN.out; omega
                          have hnmb : decide (n < m) = false := by simpa using hnm
                          clear hnm ht
                          have h4 := H3.out
                          rw [if_pos rfl] at h4
                          by_cases hs0 : s.size = 0
                          · rw [if_pos hs0] at h4
                            have he1 := str_empty' hs0
                            have he2 := str_empty hs0
                            have hcv := HBB.out.string
                            rw [sb_bs] at hcv
                            have H4 := Lib.hid h4
                            clear h4
                            go_wp2_with fail
                            have h5 := H4.out
                            simp only [Option.some.injEq, Prod.mk.injEq] at h5
                            obtain ⟨rfl, rfl⟩ := h5
                            go_ret2
                            exact ⟨rfl, HBr.out⟩
                          · rw [if_neg hs0] at h4
                            have he1 := str_full' hs0
                            have he2 := str_full hs0
                            have H4 := Lib.hid h4
                            clear h4
                            go_wp2_with fail
                            have h5 := H4.out
                            simp only [Option.some.injEq, Prod.mk.injEq] at h5
                            obtain ⟨rfl, rfl⟩ := h5
                            go_ret2
                            exact ⟨rfl, HBr.out⟩
                        · have heb : (e != 0) = true := by simpa using he
                          have heb2 : (e == 0) = false := by simpa using he
                          by_cases hnm : n < m
                          · have hnmb : decide (n < m) = true := by simpa using hnm
                            go_wp2_with fail
                            go_quiet (fail)
                            go_wp2_with fail
                            have h4 := H3.out
                            rw [if_neg he] at h4
                            simp only [Option.some.injEq, Prod.mk.injEq] at h4
                            obtain ⟨rfl, rfl⟩ := h4
                            go_ret2
                            exact ⟨rfl, below_drewN_ HBr.out _⟩
                          · have hnmb : decide (n < m) = false := by simpa using hnm
                            go_wp2_with fail
                            go_quiet (fail)
                            go_wp2_with fail
                            have h4 := H3.out
                            rw [if_neg he] at h4
                            simp only [Option.some.injEq, Prod.mk.injEq] at h4
                            obtain ⟨rfl, rfl⟩ := h4
                            go_ret2
                            exact ⟨rfl, below_drewN_ HBr.out _⟩
            · rw [if_neg hsz] at h2
              have H2 := Lib.hid h2
              clear h2
              have hszb : (x1 != (base.size : Int)) = true := by simpa using hsz
              go_wp2_with fail
              have h3 := H2.out
              simp only [Option.some.injEq, Prod.mk.injEq] at h3
              obtain ⟨rfl, rfl⟩ := h3
              go_ret2
              exact ⟨rfl, HI2.out.2⟩
          · have h2 := HH.out
            rw [if_neg he] at h2
            have H2 := Lib.hid h2
            clear h2
            have heb : (y3 != 0) = true := by simpa using he
            go_wp2_with fail
            go_quiet (fail)
            go_wp2_with fail
            have h3 := H2.out
            simp only [Option.some.injEq, Prod.mk.injEq] at h3
            obtain ⟨rfl, rfl⟩ := h3
            go_ret2
            exact ⟨rfl, below_drewN_ HI2.out.2 _⟩
        · cases h
  · cases h
end Go.Proofs.Ytjgbodgcbagbnaa.Mine
