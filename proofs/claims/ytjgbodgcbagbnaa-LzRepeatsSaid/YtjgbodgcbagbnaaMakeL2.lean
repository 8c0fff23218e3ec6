/- delta.Make: the loop that tells how many bytes are the same. -/
import Derived.Test.YtjgbodgcbagbnaaLoopKit
import Derived.Test.YtjgbodgcbagbnaaStrKit
import Derived.Lib.Hide
import Derived.Outline
import Derived.Deep.QuietTactic
import Derived.BigQuiet
import Derived.Deep.LoopGhost
import Derived.Deep.CutRange
import Derived.Deep.DeepCutAuto
set_option linter.unusedVariables false
set_option linter.unusedSimpArgs false
namespace Go.Proofs.Ytjgbodgcbagbnaa.Mine
open Go.RowKit Go.Proofs.YtjgbodgcbagbnaaW.PrintWords

noncomputable def makeL2 : Code := ((loopsIn ((Try.f22.body).getD .skip))[1]?).getD .skip
set_option maxRecDepth 100000 in
set_option maxHeartbeats 1000000 in
theorem makeL2_wp {Q : Exit → Act → World → Prop} {s2 s3 s4 s5 s6 s7 s10 s12 s13 s14 s15 s16 s17 s18 s19 s20 s21 s22 s23 s24 s25 s26 s27 s28 s29 s30 s31 s32 s33 s34 s35 s36 s37 s38 s39 s40 s41 s42 s43 s44 s45 s46 s47 s48 s49 s50 s51 s52 s53 s54 s55 s56 s57 s58 s59 s60 s61 s62 s63 s64 s65 s66 s67 s68 s69 s70 s71 s72 s73 s74 s75 s76 s77 s78 s79 s80 s81 s82 s83 s84 s85 s86 s87 s88 s89 s90 s91 s92 s93 s94 s95 s96 s97 s98 : Value} (base s : ByteArray) (at_ k n N : Nat) (w : World)
    (hb : base.size ≤ 1000000) (hs : s.size ≤ 1000000) (hat : at_ + n ≤ s.size) (hk : k + n ≤ base.size) (hN : N = n + lcp ((bs s).drop (at_ + n)) ((bs base).drop (k + n)))
    (hexit : ∀ (v42 v43 v44 v45 v46 v47 v48 v49 v50 v51 v52 v53 v54 v55 v56 v57 v58 v59 v60 v61 v62 v63 v64 v65 v66 v67 v68 v69 v70 : Value) (w' : World), Drawn0 w w' → Q (.exit 2) ⟨(.string base :: .string s :: s2 :: s3 :: s4 :: s5 :: s6 :: s7 :: .int .i64 at_ :: .int .i64 k :: s10 :: .int .i64 N :: s12 :: s13 :: s14 :: s15 :: s16 :: s17 :: s18 :: s19 :: s20 :: s21 :: s22 :: s23 :: s24 :: s25 :: s26 :: s27 :: s28 :: s29 :: s30 :: s31 :: s32 :: s33 :: s34 :: s35 :: s36 :: s37 :: s38 :: s39 :: s40 :: s41 :: v42 :: v43 :: v44 :: v45 :: v46 :: v47 :: v48 :: v49 :: v50 :: v51 :: v52 :: v53 :: v54 :: v55 :: v56 :: v57 :: v58 :: v59 :: v60 :: v61 :: v62 :: v63 :: v64 :: v65 :: v66 :: v67 :: v68 :: v69 :: v70 :: s71 :: s72 :: s73 :: s74 :: s75 :: s76 :: s77 :: s78 :: s79 :: s80 :: s81 :: s82 :: s83 :: s84 :: s85 :: s86 :: s87 :: s88 :: s89 :: s90 :: s91 :: s92 :: s93 :: s94 :: s95 :: s96 :: s97 :: s98 :: []).toArray, []⟩ w') :
    Code.wp Try.prog makeL2 Q ⟨(.string base :: .string s :: s2 :: s3 :: s4 :: s5 :: s6 :: s7 :: .int .i64 at_ :: .int .i64 k :: s10 :: .int .i64 n :: s12 :: s13 :: s14 :: s15 :: s16 :: s17 :: s18 :: s19 :: s20 :: s21 :: s22 :: s23 :: s24 :: s25 :: s26 :: s27 :: s28 :: s29 :: s30 :: s31 :: s32 :: s33 :: s34 :: s35 :: s36 :: s37 :: s38 :: s39 :: s40 :: s41 :: s42 :: s43 :: s44 :: s45 :: s46 :: s47 :: s48 :: s49 :: s50 :: s51 :: s52 :: s53 :: s54 :: s55 :: s56 :: s57 :: s58 :: s59 :: s60 :: s61 :: s62 :: s63 :: s64 :: s65 :: s66 :: s67 :: s68 :: s69 :: s70 :: s71 :: s72 :: s73 :: s74 :: s75 :: s76 :: s77 :: s78 :: s79 :: s80 :: s81 :: s82 :: s83 :: s84 :: s85 :: s86 :: s87 :: s88 :: s89 :: s90 :: s91 :: s92 :: s93 :: s94 :: s95 :: s96 :: s97 :: s98 :: []).toArray, []⟩ w := by
  refine wp_mono (Q := OneExit 2 (Q (.exit 2))) ?_ oneExit_of
  conv => arg 2; whnf
  have HEX := Lib.hid hexit
  have HN := Lib.hid hN
  clear hexit hN
  go_loopg [11] (s.size - at_ - n) (fun g s11 wz => ∃ (j : Nat), at_ + j ≤ s.size ∧ k + j ≤ base.size ∧ g = s.size - at_ - j ∧ s11 = .int .i64 j ∧ Hid (N = j + lcp ((bs s).drop (at_ + j)) ((bs base).drop (k + j))) ∧ Hid (Drawn0 w wz))
  case atStart =>
    exact ⟨n, hat, hk, rfl, rfl, HN.out, Drawn0.refl _⟩
  case round =>
    obtain ⟨j, hj1, hj2, hg, rfl, HJ, HD⟩ := hrel
    have HG := Lib.hid hg
    clear hg
    have z1 : IntKind.i64.wrap ((at_ : Int) + j) = (at_ : Int) + j := wrap_at _ (by omega) (by omega)
    have z2 : IntKind.i64.wrap ((k : Int) + j) = (k : Int) + j := wrap_at _ (by omega) (by omega)
    by_cases h1 : at_ + j < s.size
    · have h1b : decide ((at_ : Int) + j < s.size) = true := by simp; omega
      by_cases h2 : k + j < base.size
      · have h2b : decide ((k : Int) + j < base.size) = true := by simp; omega
        obtain ⟨c, hc⟩ : ∃ c, c = (bs s).getD (at_ + j) 0 := ⟨_, rfl⟩
        obtain ⟨d, hd⟩ : ∃ d, d = (bs base).getD (k + j) 0 := ⟨_, rfl⟩
        have hx1 := index_run s (at_ + j) c ((at_ : Int) + j) (by omega) h1 hc
        have hx2 := index_run base (k + j) d ((k : Int) + j) (by omega) h2 hd
        have HC := Lib.hid (And.intro hc hd)
        clear hc hd
        by_cases h3 : c = d
        · subst h3
          go_wp2_with (fail)
          go_quiet (fail)
          go_wp2_with (fail)
          go_roundg (s.size - at_ - (j + 1))
          case measure => have := HG.out; omega
          case rel =>
            refine ⟨j + 1, by omega, by omega, rfl, by go_num, ?_, HD.out.step nq⟩
            have hn := HJ.out
            rw [lcp_at _ _ _ _ (by rw [bs_length]; exact h1) (by rw [bs_length]; exact h2), ← HC.out.1, ← HC.out.2, if_pos rfl] at hn
            unfold Hid
            rw [hn, Nat.add_assoc at_ j 1, Nat.add_assoc k j 1]
            omega
        · have h3b : ((c : Int) == (d : Int)) = false := by simp; omega
          go_wp2_with (fail)
          go_quiet (fail)
          go_wp2_with (fail)
          refine ⟨rfl, ?_⟩
          have hn := HJ.out
          rw [lcp_at _ _ _ _ (by rw [bs_length]; exact h1) (by rw [bs_length]; exact h2), ← HC.out.1, ← HC.out.2, if_neg h3, Nat.add_zero] at hn
          subst hn
          exact HEX.out _ _ _ _ _ _ _ _ _ _ _ _ _ _ _ _ _ _ _ _ _ _ _ _ _ _ _ _ _ _ (HD.out.step nq)
      · have h2b : decide ((k : Int) + j < base.size) = false := by simp; omega
        go_wp2_with (fail)
        go_quiet (fail)
        go_wp2_with (fail)
        refine ⟨rfl, ?_⟩
        have hn := HJ.out
        rw [List.drop_eq_nil_of_le (show (bs base).length ≤ k + j from by rw [bs_length]; omega), lcp_nil_right, Nat.add_zero] at hn
        subst hn
        exact HEX.out _ _ _ _ _ _ _ _ _ _ _ _ _ _ _ _ _ _ _ _ _ _ _ _ _ _ _ _ _ _ (HD.out.step nq)
    · have h1b : decide ((at_ : Int) + j < s.size) = false := by simp; omega
      go_wp2_with (fail)
      go_quiet (fail)
      go_wp2_with (fail)
      refine ⟨rfl, ?_⟩
      have hn := HJ.out
      rw [List.drop_eq_nil_of_le (show (bs s).length ≤ at_ + j from by rw [bs_length]; omega), lcp_nil_left, Nat.add_zero] at hn
      subst hn
      exact HEX.out _ _ _ _ _ _ _ _ _ _ _ _ _ _ _ _ _ _ _ _ _ _ _ _ _ _ _ _ _ _ (HD.out.step nq)
end Go.Proofs.Ytjgbodgcbagbnaa.Mine
