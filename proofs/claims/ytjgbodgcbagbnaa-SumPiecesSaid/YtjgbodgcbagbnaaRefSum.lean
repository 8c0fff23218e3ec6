/- The contract of the document's Sum. -/
import Derived.Test.YtjgbodgcbagbnaaRefL3
set_option linter.unusedVariables false
set_option linter.unusedSimpArgs false
namespace Go.Proofs.Ytjgbodgcbagbnaa.Mine
open Go.RowKit Go.Proofs.YtjgbodgcbagbnaaW.PrintWords

def refSum (l : List Nat) : List Nat := outB (eat begin8 (pad l l.length)).1
theorem size_snoc (s : ByteArray) (c : UInt8) : (s ++ ⟨#[c]⟩).size = s.size + 1 := by rw [← bs_length, bs_append, List.length_append, bs_length]; rfl
theorem bs_one (c : UInt8) : bs ⟨#[c]⟩ = [c.toNat] := rfl
set_option maxRecDepth 100000 in
set_option maxHeartbeats 1000000 in
theorem refsum_calls (s : ByteArray) (w : World) (hs : s.size ≤ 70368744177664) :
    Calls Try.prog 17 #[.string s] w fun e w' => e = .returned (.string (sb (refSum (bs s)))) ∧ Below w.heap.size w w' := by
  go_enter Try.func17, Try.ntmps17
  go_wp2_with (fail)
  obtain ⟨G, hG⟩ : ∃ x, x = gap s.size := ⟨_, rfl⟩
  have hG64 : G < 64 := by rw [hG]; unfold gap; omega
  have hgn : (s.size + 1 + G) % 64 = 56 := by rw [hG]; unfold gap; omega
  have hgn2 : Hid (∀ i, i < G → (s.size + 1 + i) % 64 ≠ 56) := by rw [hG]; unfold gap; intro i hi; omega
  have HG := Lib.hid hG
  have HGN := Lib.hid hgn
  clear hG hgn
  go_loopg [0] G (fun k s0 wr => ∃ (j : Nat) (t : ByteArray) (m : Nat), j ≤ G ∧ k = G - j ∧ s0 = .string t ∧ m = s.size + 1 + j ∧ Hid (m = t.size ∧ bs t = bs s ++ [128] ++ List.replicate j 0) ∧ Hid (wr = w))
  case atStart =>
    exact ⟨0, s ++ ⟨#[128]⟩, s.size + 1, Nat.zero_le _, rfl, rfl, rfl, ⟨(size_snoc s 128).symm, by rw [bs_append, bs_one]; simp⟩, rfl⟩
  case round =>
    obtain ⟨j, t, m, hj, hk, rfl, hmn, HT, hw⟩ := hrel
    have hw := hw.out.symm
    subst hw
    have hts : t.size = m := HT.out.1.symm
    have HM := Lib.hid hmn
    have HK := Lib.hid hk
    clear hmn hk hw
    have hmb : m ≤ 70368744177800 := by have := HM.out; omega
    by_cases hjl : j < G
    · have ht : (m : Int) % 64 ≠ 56 := by have := hgn2.out j hjl; have := HM.out; omega
      have ht1 : ((m : Int) % 64 != 56) = true := by simpa using ht
      have ht2 : ((m : Int) % 64 == 56) = false := by simpa using ht
      clear ht
      go_wp2_with (fail)
      go_roundg (G - (j + 1))
      case measure => have := HK.out; omega
      case rel =>
        refine ⟨j + 1, t ++ ⟨#[0]⟩, m + 1, by omega, rfl, rfl, by have := HM.out; omega, ⟨by rw [size_snoc]; omega, ?_⟩, rfl⟩
        rw [bs_append, HT.out.2, bs_one, List.append_assoc]
        congr 1
        exact (List.replicate_succ' (n := j)).symm
    · obtain rfl : j = G := by omega
      have ht : (m : Int) % 64 = 56 := by have := HGN.out; have := HM.out; omega
      have ht1 : ((m : Int) % 64 != 56) = false := by simpa using ht
      have ht2 : ((m : Int) % 64 == 56) = true := by simpa using ht
      have HT56 := Lib.hid ht
      clear ht
      go_wp2_with (fail)
      obtain ⟨P1, hP1⟩ : ∃ x, x = bs s ++ [128] ++ List.replicate j 0 := ⟨_, rfl⟩
      have hbt : bs t = P1 := by rw [hP1]; exact HT.out.2
      have HP1 := Lib.hid (And.intro hP1 hbt)
      have HTS := Lib.hid hts
      clear hP1 hbt hts ht1 ht2
      go_loopg [0, 4] 8 (fun k s0 s4 wz => ∃ (i : Nat) (t2 : ByteArray), i ≤ 8 ∧ k = 8 - i ∧ s4 = .int .i64 i ∧ s0 = .string t2 ∧ Hid (bs t2 = P1 ++ (lenB s.size).take i) ∧ Hid (Below w.heap.size w wz))
      case atStart =>
        exact ⟨0, t, by omega, rfl, rfl, rfl, by unfold Hid; simp; exact HP1.out.2, Below.refl _ _⟩
      case round =>
        obtain ⟨i, t2, hi, hk, rfl, rfl, HT2, HB⟩ := hrel
        have HK2 := Lib.hid hk
        clear hk
        by_cases hlt : i < 8
        · have hltb : decide (i < 8) = true := by simpa using hlt
          have hcv := conv_one wr ((s.size : Int) * 8 / 2 ^ (56 - 8 * i) % 256) (s.size * 8 / 2 ^ (56 - 8 * i) % 256) (by simp)
          have hsz1 : (sb [s.size * 8 / 2 ^ (56 - 8 * i) % 256]).size = 1 := by rw [sb_size]; rfl
          have hsz2 : t2.size ≤ 70368744177900 := by rw [← bs_length, HT2.out, List.length_append, take_len8 _ i hi, ← HP1.out.2, bs_length]; have := HTS.out; omega
          go_wp2_with (fail)
          go_roundg (8 - (i + 1))
          case measure => have := HK2.out; omega
          case rel =>
            refine ⟨i + 1, _, by omega, rfl, by go_num, rfl, ?_, HB.out.alloc HB.out.size _⟩
            unfold Hid
            rw [bs_append, HT2.out, bs_sb _ (by intro c hc; simp at hc; omega), take_succ8 _ i hlt, List.append_assoc, show 8 * (7 - i) = 56 - 8 * i from by omega]
        · have hltb : decide (i < 8) = false := by simpa using hlt
          obtain rfl : i = 8 := by omega
          have ht2 := HT2.out
          rw [List.take_of_length_le (by simp [lenB]), HP1.out.1, HG.out] at ht2
          have ht3 : bs t2 = pad (bs s) (bs s).length := by rw [ht2, pad, bs_length]
          have hm64 : t2.size % 64 = 0 := by rw [← bs_length, ht2]; have := HT56.out; have := HM.out; rw [HG.out] at this; simp [lenB, bs_length]; omega
          have HT3 := Lib.hid (And.intro ht3 hm64)
          clear ht2 ht3 hm64 hltb
          go_wp2_with (first
            | (refine wpList_build_as rfl 51 _ rfl (u32a begin8) (by kernel_rfl) ?_)
            | (refine wpList_store_row rfl 51 _ _ rfl wr.heap.size (u32a begin8) rfl rfl 51 _ (heap_alloc_last wr _) (by kernel_rfl) (by kernel_rfl) (by kernel_rfl) ?_; rw [World.setRow_alloc_new])
            | (go_at_call 36; refine (refsalts_calls _).mono ?_; rintro e w3 ⟨rfl, hb3⟩; have HB3 := Lib.hid hb3; clear hb3)
            | (refine wpList_store_row rfl 52 _ _ rfl _ (u32a salts) rfl rfl 52 _ (heap_alloc_last _ _) (by kernel_rfl) (by kernel_rfl) (by kernel_rfl) ?_; rw [World.setRow_alloc_new]))
          have hbw : w.heap.size ≤ wr.heap.size := HB.out.size
          have hah : Arr (w3.alloc (.cells (u32a salts) 52)) wr.heap.size 51 begin8 := ((Arr.new wr 51 begin8).below HB3.out (by simp)).alloc _
          have hak : Arr (w3.alloc (.cells (u32a salts) 52)) w3.heap.size 52 salts := Arr.new w3 _ salts
          have hlt : wr.heap.size < w3.heap.size := by have := HB3.out.size; simp at this; omega
          have hbl : Below w.heap.size w (w3.alloc (.cells (u32a salts) 52)) :=
            ((HB.out.alloc HB.out.size _).trans (HB3.out.mono (by simp; omega))).alloc (by omega) _
          obtain ⟨BH, hBH⟩ : ∃ x, x = wr.heap.size := ⟨_, rfl⟩
          obtain ⟨BK, hBK⟩ : ∃ x, x = w3.heap.size := ⟨_, rfl⟩
          rw [← hBH] at hah hlt hbw
          rw [← hBK] at hak hlt
          rw [← hBH, ← hBK]
          obtain ⟨W4, hW4⟩ : ∃ W, W = w3.alloc (.cells (u32a salts) 52) := ⟨_, rfl⟩
          rw [← hW4] at hah hak hbl
          rw [← hW4]
          have H4 := Lib.hid (And.intro hah (And.intro hak hbl))
          clear hBH hBK hW4 hah hak hbl HB3
          refine refL3_wp (B := w.heap.size) (BH := BH) (BK := BK) (T := t2.size) (t2 := t2) (h0 := begin8) (w0 := w) _ rfl HT3.out.2 ?_ rfl (by unfold Words; decide) hbw hlt H4.out.1 H4.out.2.1 H4.out.2.2 ?_
          · rw [← bs_length, HT3.out.1, pad]; simp [lenB, bs_length]; unfold gap; omega
          intro v7 v8 v9 v10 v11 v12 v13 v14 v15 v16 v17 v18 v19 v51 v52 v53 v54 v55 v56 v57 v58 v59 v60 v61 v62 v63 v64 v65 v66 v67 v68 v69 v70 v71 v72 v73 v74 v75 v76 v77 v78 v79 v80 v81 v82 v83 v84 v85 v86 v87 v88 v89 v90 v91 v92 v93 v94 v95 v96 v97 v98 v99 v100 v101 v102 v103 v104 v105 v106 v107 v108 v109 v110 v111 v112 v113 v114 v115 v116 v117 v118 v119 v120 v121 v122 v123 v124 v125 v126 v127 v128 v129 v130 v131 v132 v133 v134 v135 v136 v137 v138 v139 v140 v141 v142 v143 v144 v145 v146 v147 v148 v149 v150 v151 v152 v153 v154 v155 v156 v157 v158 v159 v160 v161 v162 v163 v164 v165 v166 v167 v168 v169 v170 v171 v172 v173 v174 v175 v176 v177 v178 v179 v180 v181 v182 v183 v184 v185 v186 v187 v188 v189 v190 v191 v192 v193 v194 v195 v196 v197 v198 v199 v200 v201 v202 v203 v204 v205 v206 v207 v208 v209 v210 v211 v212 v213 v214 v215 v216 v217 v218 v219 v220 w5 h hh hl hw ah hb5
          have HH := Lib.hid (And.intro hh (And.intro hl (And.intro hw (And.intro ah hb5))))
          clear hh hl hw ah hb5
          go_wp2_with (fail)
          refine refL8_wp (B := w.heap.size) (BH := BH) (v := h) (w0 := w) _ HH.out.2.1 HH.out.2.2.1 hbw HH.out.2.2.2.1 HH.out.2.2.2.2 ?_
          intro v21 v221 v222 v223 v224 v225 v226 v227 v228 v229 v230 v231 v232 v233 v234 v235 v236 v237 v238 v239 w6 hb6
          have HB6 := Lib.hid hb6
          clear hb6
          go_wp2_with (fail)
          go_ret
          have e : sb (outB h) = sb (refSum (bs s)) := by rw [HH.out.1, HT3.out.1]; rfl
          exact ⟨congrArg (fun x => Ending.returned (.string x)) e, HB6.out⟩
end Go.Proofs.Ytjgbodgcbagbnaa.Mine
