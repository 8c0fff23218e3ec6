import Derived.Test.YtcfdplmapdgfmaaQIxREnc
import Derived.Test.YtcfdplmapdgfmaaQShelf3
set_option linter.unusedVariables false
set_option linter.unusedSimpArgs false
namespace Go.Proofs.Ytcfdplmapdgfmaa.Mine
open Go.RowKit Go.Proofs.YtcfdplmapdgfmaaW.PrintWords
def BF (w : World) (b : Nat) (O : ByteArray) : Prop := Lib.IsBuilderF 136 5 b b (Lib.strCells O) w
theorem BF.below {w w' : World} {b : Nat} {O : ByteArray} (h : BF w b O) (hb : Below w.heap.size w w') : BF w' b O := by
 have at_ : ∀ p, Lib.BuilderAtF 136 5 b b p (Lib.strCells O) w → Lib.BuilderAtF 136 5 b b p (Lib.strCells O) w' := by
  rintro p ⟨hB, v, h1, ⟨hl, ho⟩, hne⟩
  refine ⟨hB, v, blk_below h1 hb, ⟨hl, ?_⟩, hne⟩
  rcases ho with hn | ⟨g, x1, x2, x3, e1, e2, hg, rest⟩
  ·exact .inl hn
  ·exact .inr ⟨g, x1, x2, x3, e1, e2, blk_below hg hb, rest⟩
 exact h.elim (fun x => .inl (at_ _ x)) (fun x => .inr (at_ _ x))
theorem strCells_add (O s : ByteArray) : Lib.strCells (O ++ s) = Lib.strCells O ++ Lib.strCells s := by
 rw [Lib.strCells_eq, Lib.strCells_eq, Lib.strCells_eq, ← Lib.byteCells_append]
 exact congrArg Lib.byteCells (by simp)
theorem BF.new (w : World) : BF (w.alloc (.cells #[.pointer none, .slice none 0 0] 136)) w.heap.size ⟨#[]⟩ :=
 .inl ⟨Nat.le_refl _, .slice none 0 0, blk_new _ _, ⟨rfl, .inl ⟨rfl, rfl⟩⟩, by simp [Value.ownBlock]⟩
theorem bw_calls (w : World) (b : Nat) (O s : ByteArray) (h : BF w b O) (hl : O.size + s.size ≤ 1000000000) (hbw : b ≤ w.heap.size) :
  Calls Try.prog 74 #[.pointer (some ⟨b, 0, none⟩), .string s] w fun e w' => e = .returned (.tuple #[.int .i64 s.size, .nilIface]) ∧ BF w' b (O ++ s) ∧ Below b w w' ∧ ∀ k cs t, t ≠ 5 → k ≠ b → w.heap[k]? = some (.cells cs t (0, 0)) → w'.heap[k]? = some (.cells cs t (0, 0)) := by
 refine (Any.Builder_WriteString_k Try.lays166 Try.Builder_Extra_166 b b (Lib.strCells O) s w h (by rw [Lib.strCells_length]; omega) hbw).mono fun e w' ⟨he, h1, h2, h3⟩ => ⟨he, .inr ?_, h2, fun k cs t ht hk hg => h3 k _ hg (fun e => hk (Option.some.inj e)) (fun c fz e => ht (by injection e))⟩
 rw [strCells_add]
 exact h1
theorem BF.lt {w : World} {b : Nat} {O : ByteArray} (h : BF w b O) : b < w.heap.size := by
 rcases h with ⟨_, v, h1, _⟩ | ⟨_, v, h1, _⟩ <;> exact blk_lt h1
theorem bstr_calls (w : World) (b : Nat) (O : ByteArray) (h : BF w b O) (hbw : b ≤ w.heap.size) :
  Calls Try.prog 76 #[.pointer (some ⟨b, 0, none⟩)] w fun e w' => e = .returned (.string O) ∧ BF w' b O ∧ Below b w w' :=
 (Try.Builder_String_any_f b b O.data.toList w h hbw).mono fun e w' ⟨he, h1, h2⟩ => ⟨he, h1, h2⟩
set_option maxRecDepth 100000 in
set_option maxHeartbeats 1000000 in
theorem enc_calls (pack : ByteArray) (S : List SpotP) (g : Nat) (w : World) (hI : IxV w g pack S) (hl : S.length ≤ 2048) (hp : pack.size = 32) (hg : ∀ x ∈ S, goodS x) :
  Calls Try.prog 33 #[.pointer (some ⟨g, 0, none⟩)] w fun e w' => e = .returned (.string (sb (encI pack S ++ sha (encI pack S)))) ∧ Below w.heap.size w w' := by
 obtain ⟨A, c, hx, hr, hc⟩ := hI
 have hs1 : ¬ (9223372036854775807 < (ByteArray.mk #[112, 111, 108, 108, 97, 114, 100, 32, 105, 110, 100, 101, 120, 10]).size + pack.size) := by
  rw [show (ByteArray.mk #[112, 111, 108, 108, 97, 114, 100, 32, 105, 110, 100, 101, 120, 10]).size = 14 from rfl]; omega
 have hpk : ByteArray.mk #[] ++ (ByteArray.mk #[112, 111, 108, 108, 97, 114, 100, 32, 105, 110, 100, 101, 120, 10] ++ pack) = sb (ixHead pack ++ fansB S 0) := by
  rw [show fansB S 0 = [] from rfl, List.append_nil, ixHead, z0b, sb_bs]
  exact ByteArray.empty_append
 have HPK := Lib.hid hpk
 have hps : (ByteArray.mk #[112, 111, 108, 108, 97, 114, 100, 32, 105, 110, 100, 101, 120, 10] ++ pack).size ≤ 100 := by rw [ByteArray.size_append, hp]; decide
 have HPS := Lib.hid hps
 have HX := Lib.hid (And.intro hx hr)
 have HGD := Lib.hid hg
 have hhl : (ixHead pack).length = 46 := by rw [ixHead, List.length_append, z05, hp]; rfl
 have HHL := Lib.hid hhl
 have HLT := Lib.hid (encI_lt pack S)
 have HLE := Lib.hid (encI_len pack S hp hg)
 have p0 : w.cell? ⟨g, 0, none⟩ = some (.string pack) := (z02 hx 0).trans (ixCs_0 _ _ _)
 have p1 : w.cell? ⟨g, 1, none⟩ = some (.slice A S.length c) := (z02 hx 1).trans (ixCs_1 _ _ _)
 have HP1 := Lib.hid p1
 have hgw := blk_lt hx
 clear hx hr hg hpk hhl hp hps
 obtain ⟨R, hR⟩ : ∃ R, R = sb (encI pack S ++ sha (encI pack S)) := ⟨_, rfl⟩
 rw [← hR]
 have HRR := Lib.hid hR
 clear hR
 go_enter Try.func33, Try.ntmps33
 go_upto_region 4 with fail
 obtain ⟨W1, hW1⟩ : ∃ W, W = w.alloc (.cells #[.pointer none, .slice none 0 0] 136) := ⟨_, rfl⟩
 have hbf : BF W1 w.heap.size ⟨#[]⟩ := by rw [hW1]; exact BF.new w
 have hb1 : Below w.heap.size w W1 := by rw [hW1]; exact z01 (Below.refl _ _) _
 rw [← hW1]
 have c0 := z00 hb1 p0
 have HB1 := Lib.hid (And.intro hbf hb1)
 clear hW1 hbf hb1 p0 p1
 go_wp2_with fail
 refine (bw_calls W1 w.heap.size _ _ HB1.out.1 (by have := HPS.out; rw [show (ByteArray.mk #[]).size = 0 from rfl]; omega) HB1.out.2.size).mono ?_
 rintro e w2 ⟨rfl, hbf2, hb2, _⟩
 rw [HPK.out] at hbf2
 have HB2 := Lib.hid (And.intro hbf2 (HB1.out.2.trans hb2))
 clear hbf2 hb2 c0
 go_wp2_with fail
 go_loopg [21] 256 (fun gg s21 wr => ∃ k : Nat, k ≤ 256 ∧ gg = 256 - k ∧ s21 = .int .i64 k ∧ Hid (BF wr w.heap.size (sb (ixHead pack ++ fansB S k))) ∧ Hid (Below w.heap.size w wr))
 case atStart =>
  exact ⟨0, by omega, rfl, by go_num, HB2.out.1, HB2.out.2⟩
 case round =>
  obtain ⟨k, hk, hgk, rfl, HBF, HB⟩ := hrel
  have HG := Lib.hid hgk
  clear hgk
  by_cases hlt : k < 256
  ·have hltb : decide ((k : Int) < 256) = true := by simp; omega
   have hkk := ixCs_at pack (.slice A S.length c) (fanN S) (k + 1) (by omega)
   obtain ⟨m, hm⟩ : ∃ m, m = fanN S (k + 1) := ⟨_, rfl⟩
   have hm2 : m ≤ 2048 := by rw [hm]; have := fan_le S (k + 1); omega
   rw [← hm] at hkk
   have ck0 : w.cell? ⟨g, 2 + (k + 1), none⟩ = some (.int .i64 (m : Int)) := (z02 HX.out.1 (2 + (k + 1))).trans hkk
   have ck := z00 HB.out ck0
   rw [show 2 + (k + 1) = 3 + k from by omega] at ck
   have hf4 := fun w => number_calls m w (by omega)
   obtain ⟨F, hF⟩ : ∃ F, F = sb (fourB m) := ⟨_, rfl⟩
   rw [← hF] at hf4
   have hFs : F.size = 4 := by rw [hF, z09, z0l]
   obtain ⟨O, hO⟩ : ∃ O, O = sb (ixHead pack ++ fansB S k) := ⟨_, rfl⟩
   rw [← hO] at HBF
   have hOs : O.size ≤ 2000 := by rw [hO, z09, List.length_append, fansB_len, HHL.out]; omega
   have hnx : O ++ F = sb (ixHead pack ++ fansB S (k + 1)) := by rw [hO, hF, ← z0b, fansB_step, hm, List.append_assoc]
   have HNX := Lib.hid (And.intro hnx (And.intro hFs hOs))
   clear hkk hm ck0 hF hFs hO hOs hnx
   go_wp2_with fail
   refine (hf4 _).mono ?_
   rintro e w3 ⟨rfl, hb3⟩
   have HBF3 := Lib.hid (HBF.out.below hb3)
   have HB3 := Lib.hid (HB.out.trans (hb3.mono HB.out.size))
   clear hb3
   go_wp2_with fail
   refine (bw_calls w3 w.heap.size O F HBF3.out (by have := HNX.out.2; omega) HB3.out.size).mono ?_
   rintro e w4 ⟨rfl, hbf4, hb4, _⟩
   rw [HNX.out.1] at hbf4
   have H4 := Lib.hid (And.intro hbf4 (HB3.out.trans hb4))
   clear hbf4 hb4
   go_wp2_with fail
   go_roundg (256 - (k + 1))
   case measure => have := HG.out; omega
   case rel =>
    exact ⟨k + 1, by omega, rfl, by go_num, H4.out.1, H4.out.2⟩
  ·obtain rfl : k = 256 := by omega
   have p1 := z00 HB.out HP1.out
   go_wp2_with fail
   clear p1
   have h0 : sb (ixHead pack ++ fansB S 256) = sb (ixHead pack ++ fansB S 256 ++ rowsB (S.take 0)) := by rw [List.take_zero, show rowsB [] = [] from rfl, List.append_nil]
   rw [h0] at HBF
   clear h0
   go_loopg [34] S.length (fun gg s34 wq => ∃ i : Nat, i ≤ S.length ∧ gg = S.length - i ∧ s34 = .int .i64 i ∧ Hid (BF wq w.heap.size (sb (ixHead pack ++ fansB S 256 ++ rowsB (S.take i)))) ∧ Hid (Below w.heap.size w wq))
   case atStart =>
    exact ⟨0, Nat.zero_le _, by omega, by go_num, HBF.out, HB.out⟩
   case round =>
    obtain ⟨i, hi, hgi, rfl, HBFi, HBQ⟩ := hrel
    have HGI := Lib.hid hgi
    clear hgi
    by_cases hil : i < S.length
    ·have hilb : decide ((i : Int) < (S.length : Int)) = true := by simp; omega
     obtain ⟨x, rfl, k0, k1⟩ := spotC_at ((HX.out.2.below HBQ.out).reads (by omega)) i hil
     have hgy := HGD.out _ (List.getElem_mem hil)
     have hstep := rowsB_step S i hil
     obtain ⟨y, hy⟩ : ∃ y, y = S[i] := ⟨_, rfl⟩
     rw [← hy] at k0 k1 hgy hstep
     obtain ⟨n, hn⟩ : ∃ n, n = y.pos.toNat := ⟨_, rfl⟩
     have hn2 : y.pos = (n : Int) := by have := hgy.2.1; omega
     have hn3 : n ≤ 4194304 := by have := hgy.2.2; omega
     rw [hn2] at k1
     rw [← hn] at hstep
     have hf4 := fun w => number_calls n w (by omega)
     obtain ⟨F, hF⟩ : ∃ F, F = sb (fourB n) := ⟨_, rfl⟩
     rw [← hF] at hf4
     obtain ⟨O, hO⟩ : ∃ O, O = sb (ixHead pack ++ fansB S 256 ++ rowsB (S.take i)) := ⟨_, rfl⟩
     rw [← hO] at HBFi
     have hOs : O.size ≤ 80000 := by
      rw [hO, z09, List.length_append, List.length_append, fansB_len, HHL.out, rowsB_len _ (fun z hz => HGD.out z (List.mem_of_mem_take hz)), List.length_take]; omega
     have hnx : O ++ (y.id ++ F) = sb (ixHead pack ++ fansB S 256 ++ rowsB (S.take (i + 1))) := by
      rw [hO, hF, hstep, ← List.append_assoc, z0b (ixHead pack ++ fansB S 256 ++ rowsB (S.take i)), z0b (bs y.id), sb_bs]
     have hFs : F.size = 4 := by rw [hF, z09, z0l]
     have hsz : (y.id ++ F).size = 36 := by rw [ByteArray.size_append, hgy.1, hFs]
     have HNX := Lib.hid (And.intro hnx (And.intro hsz hOs))
     have y1 : ¬ (y.id.size + F.size > 9223372036854775807) := by have := hgy.1; omega
     clear hO hF hn hn2 hstep hgy hy hnx hFs hOs hsz
     go_upto_region 13 with fail
     obtain ⟨V, hV⟩ : ∃ V, V = wr.alloc (.cells #[.string y.id, .int .i64 (n : Int)] 78) := ⟨_, rfl⟩
     have hVb : V.heap[wr.heap.size]? = some (.cells #[.string y.id, .int .i64 (n : Int)] 78 (0, 0)) := by rw [hV]; exact blk_new _ _
     have hBV : Below wr.heap.size wr V := by rw [hV]; exact z01 (Below.refl _ _) _
     rw [← hV]
     obtain ⟨Bx, hBx⟩ : ∃ B, B = wr.heap.size := ⟨_, rfl⟩
     have hBxn : Bx ≠ w.heap.size := by have := HBFi.out.lt; omega
     rw [← hBx] at hVb ⊢
     have HVB := Lib.hid (And.intro hVb hBxn)
     have b0 : V.cell? ⟨Bx, 0, none⟩ = some (.string y.id) := (z02 hVb 0).trans rfl
     have b1 : V.cell? ⟨Bx, 1, none⟩ = some (.int .i64 (n : Int)) := (z02 hVb 1).trans rfl
     have HV := Lib.hid (And.intro (HBFi.out.below hBV) (And.intro (HBQ.out.trans (hBV.mono HBQ.out.size)) (And.intro b0 b1)))
     clear hV hVb hBV hBx hBxn k0 k1
     go_region_held3 (fun w' => w'.cell? ⟨Bx, 0, none⟩ = some (.string y.id) ∧ w'.cell? ⟨Bx, 1, none⟩ = some (.int .i64 (n : Int)))
      (first | exact ⟨(z02 HP9.out.2.2 0).trans rfl, (z02 HP9.out.2.2 1).trans rfl⟩ | exact ⟨z00 HP8.out HV.out.2.2.1, z00 HP8.out HV.out.2.2.2⟩ | exact ⟨z00 (z03 (Below.refl _ _)) HV.out.2.2.1, z00 (z03 (Below.refl _ _)) HV.out.2.2.2⟩ | trivial)
      (first
       | (have hh := HP8.out; go_at_call 74; refine (bw_calls _ w.heap.size O (y.id ++ F) (HV.out.1.below hh) (by have := HNX.out.2; omega) (Nat.le_trans HV.out.2.1.size hh.size)).mono ?_; rintro e w6 ⟨rfl, hbf6, hb6, hk6⟩; have HP9 := Lib.hid (And.intro hbf6 (And.intro (HV.out.2.1.trans ((hh.mono HV.out.2.1.size).trans ⟨hb6.os, hb6.tape, hb6.output, hb6.size, hb6.block⟩)) (hk6 Bx _ _ (by decide) HVB.out.2 (blk_below HVB.out.1 hh)))); clear hbf6 hb6 hk6 hh)
       | (go_at_call 75; refine (hf4 _).mono ?_; rintro e w5 ⟨rfl, hb5⟩; have HP8 := Lib.hid (show Below V.heap.size V w5 from ⟨hb5.os, hb5.tape, hb5.output, hb5.size, hb5.block⟩); clear hb5))
     all_goals go_wp2_with fail
     all_goals (
      go_roundg (S.length - (i + 1))
      case measure => have := HGI.out; omega
      case rel =>
       exact ⟨i + 1, by omega, rfl, by go_num, by unfold Hid; rw [← HNX.out.1]; exact HP9.out.1, HP9.out.2.1⟩)
    ·obtain rfl : i = S.length := by omega
     have hilb : decide ((S.length : Int) < (S.length : Int)) = false := by simp
     rw [List.take_length, show ixHead pack ++ fansB S 256 ++ rowsB S = encI pack S from rfl] at HBFi
     obtain ⟨E, hE⟩ : ∃ E, E = sb (encI pack S) := ⟨_, rfl⟩
     rw [← hE] at HBFi
     have hEs : E.size ≤ 80000 := by rw [hE, z09, HLE.out]; omega
     have hof := fun w => of_calls E w (by omega)
     obtain ⟨T, hT⟩ : ∃ T, T = sb (sha (bs E)) := ⟨_, rfl⟩
     rw [← hT] at hof
     have hTs : T.size = 32 := by rw [hT, z09, sha_length]
     have hss : ¬ (9223372036854775807 < E.size + T.size) := by omega
     have hlast : R = E ++ T := by rw [HRR.out, z0b, ← hE, hT, hE, bs_sb _ HLT.out]
     have HLS := Lib.hid hlast
     clear hE hT hlast hTs
     go_wp2_with fail
     refine (bstr_calls wr w.heap.size E HBFi.out HBQ.out.size).mono ?_
     rintro e w5 ⟨rfl, hbf5, hb5⟩
     have H5 := Lib.hid (And.intro hbf5 (HBQ.out.trans hb5))
     clear hbf5 hb5
     go_wp2_with fail
     refine (bstr_calls w5 w.heap.size E H5.out.1 H5.out.2.size).mono ?_
     rintro e w6 ⟨rfl, hbf6, hb6⟩
     have H6 := Lib.hid (H5.out.2.trans hb6)
     clear hbf6 hb6
     go_wp2_with fail
     refine (hof _).mono ?_
     rintro e w7 ⟨rfl, hb7⟩
     have H7 := Lib.hid (H6.out.trans (hb7.mono H6.out.size))
     clear hb7
     go_wp2_with fail
     go_ret
     exact ⟨by rw [HLS.out]; rfl, H7.out⟩
end Go.Proofs.Ytcfdplmapdgfmaa.Mine
