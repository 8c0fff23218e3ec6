import Derived.Test.YtcfdplmapdgfmaaSIxEnc
import Derived.Test.YtcfdplmapdgfmaaSIxRSort
import Derived.Laws.StructEq
set_option linter.unusedVariables false
set_option linter.unusedSimpArgs false
namespace Go.Proofs.Ytcfdplmapdgfmaa.Mine
open Go.RowKit Go.Proofs.YtcfdplmapdgfmaaW.PrintWords
theorem spot_neq (a : ByteArray) (p : Int) (w : World) : (binOp .neq 77 (.agg #[.string a, .int .i64 p]) (.agg #[.string a, .int .i64 p])).run Try.prog w = .ok (.bool false) w := by
 have u3 := Try.underlying3
 have u9 := Try.underlying9
 have hS : Try.prog.underlying 77 = some (.struct (Try.prog.fieldsOf 77)) := by kernel_rfl
 have hp : Try.prog.stoodInHeld 77 = false := by kernel_rfl
 rw [run_neq_struct, show (10000 : Nat) = 9999 + 1 from rfl, run_equalIn_agg w 9999 77 _ _ hS hp]
 simp only [Program.fieldsOf, Try.underlying77]
 go_simp
theorem okP_of {l S : List SpotP} (hp : S.Perm l) (hs : Strict S) (hg : ∀ x ∈ l, goodS x) : OkP l := by
 refine ⟨hg, (hp.map SpotP.id).nodup_iff.1 ?_⟩
 rw [List.nodup_iff_pairwise_ne, List.pairwise_map]
 exact hs.imp fun {a b} h e => by rw [e, (z0e _ _).2 rfl] at h; exact absurd h (by decide)
set_option maxRecDepth 100000 in
set_option maxHeartbeats 1000000 in
theorem indexMakes_calls (pack : ByteArray) (l : List SpotP) (A : Option Addr) (c : Nat) (w : World) (hC : Kd.C spotK w A l.length l) (hl : l.length ≤ 9223372036854775807) :
  Calls Try.prog 8 #[.string pack, .slice A l.length c] w fun e w' => e = .returned (.bool true) ∧ Below w.heap.size w w' := by
 have hct := cut11_calls l A c w hC hl
 obtain ⟨k, hk⟩ : ∃ k, k = l.take 30 := ⟨_, rfl⟩
 have hk30 : k.length ≤ 30 := by rw [hk, List.length_take]; omega
 rw [← hk] at hct
 have HK := Lib.hid hk30
 clear hk hC hl hk30
 go_enter Try.func8, Try.ntmps8
 go_wp2_with fail
 refine hct.mono ?_
 rintro e w1 ⟨A1, c1, A2, c2, rfl, hc1, hc2, hb1⟩
 have H1 := Lib.hid (And.intro hc1 (And.intro hc2 hb1))
 clear hc1 hc2 hb1 hct
 go_wp2_with fail
 by_cases h32 : pack.size = 32
 ·have HP := Lib.hid h32
  clear h32
  refine (ixNew_calls pack k A1 c1 w1 H1.out.1 (by have := HK.out; omega) HP.out).mono ?_
  rintro e w2 ⟨hb2, (⟨rfl, hno⟩ | ⟨g, S, rfl, hp, hst, hgd, hix⟩)⟩
  ·have H2 := Lib.hid (And.intro (Kd.z02 H1.out.2.1 hb2) (H1.out.2.2.trans (hb2.mono H1.out.2.2.size)))
   have HNO := Lib.hid hno
   clear hb2 hno
   go_wp2_with fail
   refine (rsort_calls pack k A2 c2 w2 H2.out.1 (by have := HK.out; omega) HP.out).mono ?_
   rintro e w3 ⟨hb3, (⟨rfl, _⟩ | ⟨A3, c3, S3, rfl, hp3, hst3, hgd3, _⟩)⟩
   ·have H3 := Lib.hid (H2.out.2.trans (hb3.mono H2.out.2.size))
    clear hb3
    go_wp2_with fail
    refine (ixAwake_calls _).mono ?_
    rintro e w4 ⟨rfl, hb4⟩
    have H4 := Lib.hid (H3.out.trans (hb4.mono H3.out.size))
    clear hb4
    go_wp2_with fail
    go_ret
    exact ⟨rfl, H4.out⟩
   ·exact absurd (okP_of hp3 hst3 hgd3) HNO.out
  ·have H2 := Lib.hid (And.intro (Kd.z02 H1.out.2.1 hb2) (H1.out.2.2.trans (hb2.mono H1.out.2.2.size)))
   have HS := Lib.hid (And.intro hp (And.intro hst (And.intro hgd hix)))
   clear hb2 hp hst hgd hix
   go_wp2_with fail
   refine (rsort_calls pack k A2 c2 w2 H2.out.1 (by have := HK.out; omega) HP.out).mono ?_
   rintro e w3 ⟨hb3, (⟨rfl, hno⟩ | ⟨A3, c3, S3, rfl, hp3, hst3, hgd3, hc3⟩)⟩
   ·exact absurd (okP_of HS.out.1 HS.out.2.1 HS.out.2.2.1) hno
   ·obtain rfl : S = S3 := strict_unique (HS.out.1.trans hp3.symm) HS.out.2.1 hst3
    have hSl : S.length ≤ 30 := by rw [HS.out.1.length_eq]; exact HK.out
    have hSg : ∀ x ∈ S, goodS x := fun x hx => HS.out.2.2.1 x (HS.out.1.mem_iff.1 hx)
    have H3 := Lib.hid (And.intro hc3 (And.intro (H2.out.2.trans (hb3.mono H2.out.2.size)) (HS.out.2.2.2.below hb3)))
    have HSG := Lib.hid (And.intro hSg hSl)
    clear hb3 hp3 hst3 hgd3 hc3 hSg hSl
    go_wp2_with fail
    refine (ixAwake_calls _).mono ?_
    rintro e w4 ⟨rfl, hb4⟩
    have H4 := Lib.hid (And.intro (Kd.z02 H3.out.1 hb4) (And.intro (H3.out.2.1.trans (hb4.mono H3.out.2.1.size)) (H3.out.2.2.below hb4)))
    clear hb4
    go_wp2_with fail
    refine (all_calls S pack g w4 H4.out.2.2 (by have := HSG.out.2; omega)).mono ?_
    rintro e w5 ⟨A5, c5, rfl, hc5, hb5⟩
    have H5 := Lib.hid (And.intro (Kd.z02 H4.out.1 hb5) (And.intro (H4.out.2.1.trans (hb5.mono H4.out.2.1.size)) (And.intro (H4.out.2.2.below hb5) hc5)))
    clear hb5 hc5
    go_wp2_with fail
    obtain ⟨R, hR⟩ : ∃ R, R = sb (encI pack S ++ sha (encI pack S)) := ⟨_, rfl⟩
    have he := enc_calls pack S g w5 H5.out.2.2.1 (by have := HSG.out.2; omega) HP.out HSG.out.1
    have hr := fun w (h : Kd.C spotK w A3 S.length S) => rencode_calls pack S A3 c3 w h (by have := HSG.out.2; omega) HP.out HSG.out.1
    rw [← hR] at he hr
    clear hR
    refine he.mono ?_
    rintro e w6 ⟨rfl, hb6⟩
    have H6 := Lib.hid (And.intro (Kd.z02 H5.out.1 hb6) (And.intro (H5.out.2.1.trans (hb6.mono H5.out.2.1.size)) (Kd.z02 H5.out.2.2.2 hb6)))
    clear hb6 he
    go_wp2_with fail
    refine (hr w6 H6.out.1).mono ?_
    rintro e w7 ⟨rfl, hb7⟩
    have H7 := Lib.hid (And.intro (Kd.z02 H6.out.1 hb7) (And.intro (H6.out.2.1.trans (hb7.mono H6.out.2.1.size)) (Kd.z02 H6.out.2.2 hb7)))
    clear hb7 hr
    go_wp2_with fail
    go_loopg [12] S.length (fun gg s12 wr => ∃ j : Nat, j ≤ S.length ∧ gg = S.length - j ∧ s12 = .int .i64 j ∧ Hid (Below w7.heap.size w7 wr))
    case atStart =>
     exact ⟨0, Nat.zero_le _, by omega, by go_num, Below.refl _ _⟩
    case round =>
     obtain ⟨j, hj, hgk, rfl, HB⟩ := hrel
     have HG := Lib.hid hgk
     clear hgk
     have hs30 := HSG.out.2
     by_cases hlt : j < S.length
     ·have hltb : decide ((j : Int) < (S.length : Int)) = true := by simp; omega
      obtain ⟨x1, rfl, a0, a1⟩ := z0b (Kd.z02 H7.out.1 HB.out) j hlt
      obtain ⟨x2, rfl, b0, b1⟩ := z0b (Kd.z02 H7.out.2.2 HB.out) j hlt
      obtain ⟨y, hy⟩ : ∃ y, y = S[j] := ⟨_, rfl⟩
      rw [← hy] at a0 a1 b0 b1
      have hne := fun w => spot_neq y.id y.pos w
      clear hy
      go_wp2_with fail
      go_quiet (fail)
      go_wp2_with fail
      go_roundg (S.length - (j + 1))
      case measure => have := HG.out; omega
      case rel =>
       exact ⟨j + 1, by omega, rfl, by go_num, z0c HB.out _⟩
     ·obtain rfl : j = S.length := by omega
      have hltb : decide ((S.length : Int) < (S.length : Int)) = false := by simp
      go_wp2_with fail
      go_ret
      exact ⟨rfl, H7.out.2.1.trans (HB.out.mono H7.out.2.1.size)⟩
 ·refine (new_bad pack A1 k.length c1 w1 h32).mono ?_
  rintro e w2 ⟨rfl, rfl⟩
  go_wp2_with fail
  refine (rsort_bad pack A2 k.length c2 w1 h32).mono ?_
  rintro e w3 ⟨rfl, rfl⟩
  go_wp2_with fail
  refine (ixAwake_calls _).mono ?_
  rintro e w4 ⟨rfl, hb4⟩
  have H4 := Lib.hid (H1.out.2.2.trans (hb4.mono H1.out.2.2.size))
  clear hb4
  go_wp2_with fail
  go_ret
  exact ⟨rfl, H4.out⟩
end Go.Proofs.Ytcfdplmapdgfmaa.Mine
