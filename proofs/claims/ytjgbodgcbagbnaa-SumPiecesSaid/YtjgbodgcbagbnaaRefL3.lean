/- The document's Sum: the loop over the spans. -/
import Derived.Test.YtjgbodgcbagbnaaRefL7
set_option linter.unusedVariables false
set_option linter.unusedSimpArgs false
namespace Go.Proofs.Ytjgbodgcbagbnaa.Mine
open Go.RowKit Go.Proofs.YtjgbodgcbagbnaaW.PrintWords

def z64 : List Nat := List.replicate 64 0
theorem extend_words : ∀ (k i : Nat) (W : List Nat), Words W → Words (extend k i W)
  | 0, _, _, h => h
  | k + 1, i, W, h => extend_words k (i + 1) _ (h.set_ _ _ (by unfold wnew; omega))
noncomputable def refL3 : Code := ((loopsOf ((Try.f17.body).getD .skip))[2]?).getD .skip
set_option maxRecDepth 100000 in
set_option maxHeartbeats 2000000 in
theorem refL3_wp {Q : Exit → Act → World → Prop} {s1 s2 s3 s4 s8 s9 s10 s11 s12 s13 s14 s15 s16 s17 s18 s19 s20 s21 s22 s23 s24 s25 s26 s27 s28 s29 s30 s31 s32 s33 s34 s35 s36 s37 s38 s39 s40 s41 s42 s43 s44 s45 s46 s47 s48 s49 s50 s51 s52 s53 s54 s55 s56 s57 s58 s59 s60 s61 s62 s63 s64 s65 s66 s67 s68 s69 s70 s71 s72 s73 s74 s75 s76 s77 s78 s79 s80 s81 s82 s83 s84 s85 s86 s87 s88 s89 s90 s91 s92 s93 s94 s95 s96 s97 s98 s99 s100 s101 s102 s103 s104 s105 s106 s107 s108 s109 s110 s111 s112 s113 s114 s115 s116 s117 s118 s119 s120 s121 s122 s123 s124 s125 s126 s127 s128 s129 s130 s131 s132 s133 s134 s135 s136 s137 s138 s139 s140 s141 s142 s143 s144 s145 s146 s147 s148 s149 s150 s151 s152 s153 s154 s155 s156 s157 s158 s159 s160 s161 s162 s163 s164 s165 s166 s167 s168 s169 s170 s171 s172 s173 s174 s175 s176 s177 s178 s179 s180 s181 s182 s183 s184 s185 s186 s187 s188 s189 s190 s191 s192 s193 s194 s195 s196 s197 s198 s199 s200 s201 s202 s203 s204 s205 s206 s207 s208 s209 s210 s211 s212 s213 s214 s215 s216 s217 s218 s219 s220 s221 s222 s223 s224 s225 s226 s227 s228 s229 s230 s231 s232 s233 s234 s235 s236 s237 s238 s239 s240 : Value} (B BH BK T : Nat) (t2 : ByteArray) (h0 : List Nat) (w0 w : World)
    (hTs : t2.size = T) (hT64 : T % 64 = 0) (hT : T ≤ 70368744177900) (hl : h0.length = 8) (hw : Words h0) (hB : B ≤ BH) (hBK : BH < BK)
    (hah : Arr w BH 51 h0) (hak : Arr w BK 52 salts) (hb : Below B w0 w)
    (hexit : ∀ (v7 v8 v9 v10 v11 v12 v13 v14 v15 v16 v17 v18 v19 v51 v52 v53 v54 v55 v56 v57 v58 v59 v60 v61 v62 v63 v64 v65 v66 v67 v68 v69 v70 v71 v72 v73 v74 v75 v76 v77 v78 v79 v80 v81 v82 v83 v84 v85 v86 v87 v88 v89 v90 v91 v92 v93 v94 v95 v96 v97 v98 v99 v100 v101 v102 v103 v104 v105 v106 v107 v108 v109 v110 v111 v112 v113 v114 v115 v116 v117 v118 v119 v120 v121 v122 v123 v124 v125 v126 v127 v128 v129 v130 v131 v132 v133 v134 v135 v136 v137 v138 v139 v140 v141 v142 v143 v144 v145 v146 v147 v148 v149 v150 v151 v152 v153 v154 v155 v156 v157 v158 v159 v160 v161 v162 v163 v164 v165 v166 v167 v168 v169 v170 v171 v172 v173 v174 v175 v176 v177 v178 v179 v180 v181 v182 v183 v184 v185 v186 v187 v188 v189 v190 v191 v192 v193 v194 v195 v196 v197 v198 v199 v200 v201 v202 v203 v204 v205 v206 v207 v208 v209 v210 v211 v212 v213 v214 v215 v216 v217 v218 v219 v220 : Value) (w' : World) (h : List Nat), h = (eat h0 (bs t2)).1 → h.length = 8 → Words h → Arr w' BH 51 h → Below B w0 w' → Q (.exit 4) ⟨(.string t2 :: s1 :: s2 :: s3 :: s4 :: .pointer (some ⟨BH, 0, none⟩) :: .pointer (some ⟨BK, 0, none⟩) :: v7 :: v8 :: v9 :: v10 :: v11 :: v12 :: v13 :: v14 :: v15 :: v16 :: v17 :: v18 :: v19 :: s20 :: s21 :: s22 :: s23 :: s24 :: s25 :: s26 :: s27 :: s28 :: s29 :: s30 :: s31 :: s32 :: s33 :: s34 :: s35 :: s36 :: s37 :: s38 :: s39 :: s40 :: s41 :: s42 :: s43 :: s44 :: s45 :: s46 :: s47 :: s48 :: s49 :: s50 :: v51 :: v52 :: v53 :: v54 :: v55 :: v56 :: v57 :: v58 :: v59 :: v60 :: v61 :: v62 :: v63 :: v64 :: v65 :: v66 :: v67 :: v68 :: v69 :: v70 :: v71 :: v72 :: v73 :: v74 :: v75 :: v76 :: v77 :: v78 :: v79 :: v80 :: v81 :: v82 :: v83 :: v84 :: v85 :: v86 :: v87 :: v88 :: v89 :: v90 :: v91 :: v92 :: v93 :: v94 :: v95 :: v96 :: v97 :: v98 :: v99 :: v100 :: v101 :: v102 :: v103 :: v104 :: v105 :: v106 :: v107 :: v108 :: v109 :: v110 :: v111 :: v112 :: v113 :: v114 :: v115 :: v116 :: v117 :: v118 :: v119 :: v120 :: v121 :: v122 :: v123 :: v124 :: v125 :: v126 :: v127 :: v128 :: v129 :: v130 :: v131 :: v132 :: v133 :: v134 :: v135 :: v136 :: v137 :: v138 :: v139 :: v140 :: v141 :: v142 :: v143 :: v144 :: v145 :: v146 :: v147 :: v148 :: v149 :: v150 :: v151 :: v152 :: v153 :: v154 :: v155 :: v156 :: v157 :: v158 :: v159 :: v160 :: v161 :: v162 :: v163 :: v164 :: v165 :: v166 :: v167 :: v168 :: v169 :: v170 :: v171 :: v172 :: v173 :: v174 :: v175 :: v176 :: v177 :: v178 :: v179 :: v180 :: v181 :: v182 :: v183 :: v184 :: v185 :: v186 :: v187 :: v188 :: v189 :: v190 :: v191 :: v192 :: v193 :: v194 :: v195 :: v196 :: v197 :: v198 :: v199 :: v200 :: v201 :: v202 :: v203 :: v204 :: v205 :: v206 :: v207 :: v208 :: v209 :: v210 :: v211 :: v212 :: v213 :: v214 :: v215 :: v216 :: v217 :: v218 :: v219 :: v220 :: s221 :: s222 :: s223 :: s224 :: s225 :: s226 :: s227 :: s228 :: s229 :: s230 :: s231 :: s232 :: s233 :: s234 :: s235 :: s236 :: s237 :: s238 :: s239 :: s240 :: []).toArray, []⟩ w') :
    Code.wp Try.prog refL3 Q ⟨(.string t2 :: s1 :: s2 :: s3 :: s4 :: .pointer (some ⟨BH, 0, none⟩) :: .pointer (some ⟨BK, 0, none⟩) :: .int .i64 0 :: s8 :: s9 :: s10 :: s11 :: s12 :: s13 :: s14 :: s15 :: s16 :: s17 :: s18 :: s19 :: s20 :: s21 :: s22 :: s23 :: s24 :: s25 :: s26 :: s27 :: s28 :: s29 :: s30 :: s31 :: s32 :: s33 :: s34 :: s35 :: s36 :: s37 :: s38 :: s39 :: s40 :: s41 :: s42 :: s43 :: s44 :: s45 :: s46 :: s47 :: s48 :: s49 :: s50 :: s51 :: s52 :: s53 :: s54 :: s55 :: s56 :: s57 :: s58 :: s59 :: s60 :: s61 :: s62 :: s63 :: s64 :: s65 :: s66 :: s67 :: s68 :: s69 :: s70 :: s71 :: s72 :: s73 :: s74 :: s75 :: s76 :: s77 :: s78 :: s79 :: s80 :: s81 :: s82 :: s83 :: s84 :: s85 :: s86 :: s87 :: s88 :: s89 :: s90 :: s91 :: s92 :: s93 :: s94 :: s95 :: s96 :: s97 :: s98 :: s99 :: s100 :: s101 :: s102 :: s103 :: s104 :: s105 :: s106 :: s107 :: s108 :: s109 :: s110 :: s111 :: s112 :: s113 :: s114 :: s115 :: s116 :: s117 :: s118 :: s119 :: s120 :: s121 :: s122 :: s123 :: s124 :: s125 :: s126 :: s127 :: s128 :: s129 :: s130 :: s131 :: s132 :: s133 :: s134 :: s135 :: s136 :: s137 :: s138 :: s139 :: s140 :: s141 :: s142 :: s143 :: s144 :: s145 :: s146 :: s147 :: s148 :: s149 :: s150 :: s151 :: s152 :: s153 :: s154 :: s155 :: s156 :: s157 :: s158 :: s159 :: s160 :: s161 :: s162 :: s163 :: s164 :: s165 :: s166 :: s167 :: s168 :: s169 :: s170 :: s171 :: s172 :: s173 :: s174 :: s175 :: s176 :: s177 :: s178 :: s179 :: s180 :: s181 :: s182 :: s183 :: s184 :: s185 :: s186 :: s187 :: s188 :: s189 :: s190 :: s191 :: s192 :: s193 :: s194 :: s195 :: s196 :: s197 :: s198 :: s199 :: s200 :: s201 :: s202 :: s203 :: s204 :: s205 :: s206 :: s207 :: s208 :: s209 :: s210 :: s211 :: s212 :: s213 :: s214 :: s215 :: s216 :: s217 :: s218 :: s219 :: s220 :: s221 :: s222 :: s223 :: s224 :: s225 :: s226 :: s227 :: s228 :: s229 :: s230 :: s231 :: s232 :: s233 :: s234 :: s235 :: s236 :: s237 :: s238 :: s239 :: s240 :: []).toArray, []⟩ w := by
  refine wp_mono (Q := ExitQ 4 (Q (.exit 4))) ?_ exitQ_of
  conv => arg 2; whnf
  have HEX := Lib.hid hexit
  have HA := Lib.hid (And.intro hah hak)
  have HB := Lib.hid hb
  have HL := Lib.hid (And.intro hl hw)
  have HT := Lib.hid hTs
  have HN := Lib.hid (And.intro hB hBK)
  clear hah hak hb hexit hl hw hB hBK
  obtain ⟨E0, hE0⟩ : ∃ x, x = eat h0 (bs t2) := ⟨_, rfl⟩
  have HE0 := Lib.hid hE0
  clear hE0
  go_loopg [7] T (fun k s7 wz => ∃ (at_ : Nat) (h : List Nat), at_ ≤ T ∧ k = T - at_ ∧ at_ % 64 = 0 ∧ s7 = .int .i64 at_ ∧ Hid (h.length = 8 ∧ Words h ∧ eat h ((bs t2).drop at_) = E0) ∧ Hid (Arr wz BH 51 h ∧ Arr wz BK 52 salts) ∧ Hid (Below B w0 wz))
  case atStart =>
    exact ⟨0, h0, Nat.zero_le _, rfl, rfl, rfl, ⟨HL.out.1, HL.out.2, by rw [List.drop_zero]; exact HE0.out.symm⟩, HA.out, HB.out⟩
  case round =>
    obtain ⟨at_, h, hat, hk, ha64, rfl, HH, HAZ, HBz⟩ := hrel
    have HK3 := Lib.hid hk
    have H64 := Lib.hid (And.intro ha64 hT64)
    clear hk ha64 hT64
    by_cases hlt : at_ < T
    · have hltb : decide (at_ < T) = true := by simpa using hlt
      go_wp2_with (first
        | (refine wpList_build_as rfl 52 _ rfl (u32a z64) (by kernel_rfl) ?_)
        | (refine wpList_store_row rfl 52 _ _ rfl wr.heap.size (u32a z64) rfl rfl 52 _ (heap_alloc_last wr _) (by kernel_rfl) (by kernel_rfl) (by kernel_rfl) ?_; rw [World.setRow_alloc_new]))
      obtain ⟨W2, hW2⟩ : ∃ W, W = wr := ⟨_, rfl⟩
      subst hW2
      obtain ⟨B8, hB8⟩ : ∃ x, x = W2.heap.size := ⟨_, rfl⟩
      rw [← hB8]
      have ha8 : Arr (W2.alloc (.cells (u32a z64) 52)) B8 52 z64 := by rw [hB8]; exact Arr.new W2 _ _
      have hh8 := HAZ.out.1.alloc (.cells (u32a z64) 52)
      have hk8 := HAZ.out.2.alloc (.cells (u32a z64) 52)
      have hlt8 : BK < B8 := by rw [hB8]; exact HAZ.out.2.lt
      have hbw := HBz.out.alloc (B := B) (by have := HAZ.out.2.lt; have := HN.out; omega) (.cells (u32a z64) 52)
      obtain ⟨W3, hW3⟩ : ∃ W, W = W2.alloc (.cells (u32a z64) 52) := ⟨_, rfl⟩
      rw [← hW3] at ha8 hh8 hk8 hbw
      rw [← hW3]
      have HA8 := Lib.hid (And.intro ha8 (And.intro hh8 hk8))
      have HBW := Lib.hid hbw
      clear hW3 hB8 ha8 hh8 hk8 hbw hltb
      have h64 : at_ + 64 ≤ T := by have := H64.out; omega
      refine refL4_wp (B := 0) (T := 0) (B8 := B8) (at_ := at_) (t2 := t2) (p := ((bs t2).drop at_).take 64) (w0 := W3) _ (by rw [HT.out]; exact h64) (by rw [HT.out]; exact hT) rfl HA8.out.1 (Below.refl _ _) ?_
      intro v9 v58 v59 v60 v61 v62 v63 v64 v65 v66 v67 v68 v69 v70 v71 v72 v73 v74 v75 v76 w4 ha4 hb4
      go_wp2_with (fail)
      obtain ⟨p, hp⟩ : ∃ x, x = ((bs t2).drop at_).take 64 := ⟨_, rfl⟩
      rw [← hp] at ha4
      have hpl : p.length = 64 := by rw [hp, List.length_take, List.length_drop, bs_length, HT.out]; omega
      have hpb : ∀ c ∈ p, c < 256 := by rw [hp]; intro c hc; exact bs_lt t2 c (List.mem_of_mem_drop (List.mem_of_mem_take hc))
      have hfl : (fill (List.replicate 64 0) p 0).length = 64 := by rw [fill_length]; simp
      have hfw : Words (fill (List.replicate 64 0) p 0) := fill_words _ _ _ (by intro x hx; have := List.eq_of_mem_replicate hx; omega) hpb
      have HP := Lib.hid (And.intro hp hpl)
      have HA4 := Lib.hid (And.intro ha4 hb4)
      clear hp hpl hpb ha4 hb4
      refine refL5_wp (B8 := B8) (W1 := fill (List.replicate 64 0) p 0) (w0 := w4) _ hfl hfw HA4.out.1 (Below.refl _ _) ?_
      intro v10 v11 v12 v77 v78 v79 v80 v81 v82 v83 v84 v85 v86 v87 v88 v89 v90 v91 v92 v93 v94 v95 v96 v97 v98 v99 v100 v101 v102 v103 v104 v105 v106 v107 v108 v109 v110 v111 v112 v113 v114 v115 v116 v117 w5 ha5 hb5
      have h5 : Arr w5 BH 51 h := (HA8.out.2.1.below HA4.out.2 (by have := HN.out; omega)).below hb5 (by have := HN.out; omega)
      have k5 : Arr w5 BK 52 salts := (HA8.out.2.2.below HA4.out.2 (by have := HN.out; omega)).below hb5 (by have := HN.out; omega)
      have b5 : Below B w0 w5 := HBW.out.trans ((HA4.out.2.mono (by have := HN.out; omega)).trans (hb5.mono (by have := HN.out; omega)))
      have hi8 : (Try.prog.info? 51).map (·.size) = some (u32a h).size := by rw [u32a_size, HH.out.1]; kernel_rfl
      have hone8 : (u32a h).all (·.oneCell') = true := by simp [u32a]; intro x _; rfl
      have hz8 : (#[Value.int .u32 0, .int .u32 0, .int .u32 0, .int .u32 0, .int .u32 0, .int .u32 0, .int .u32 0, .int .u32 0] : Array Value).size = (u32a h).size := by rw [u32a_size, HH.out.1]; rfl
      have HI8 := Lib.hid hi8
      have HONE8 := Lib.hid hone8
      have HZ8 := Lib.hid hz8
      have H5 := Lib.hid (And.intro h5 (And.intro k5 (And.intro ha5 b5)))
      have HFW := Lib.hid (And.intro hfl hfw)
      clear hi8 hone8 hz8 h5 k5 ha5 b5 hb5 hfl hfw
      go_wp2_with (first
        | (refine wpList_load_row rfl 51 _ rfl BH rfl 51 (u32a h) (0, 0) _ H5.out.1 Try.underlying51 rfl HI8.out ?_)
        | (refine wpList_store_row rfl 51 _ _ rfl w5.heap.size (u32a h) rfl rfl 51 _ (heap_alloc_last w5 _) HI8.out HZ8.out HONE8.out ?_; rw [World.setRow_alloc_new]))
      obtain ⟨B13, hB13⟩ : ∃ x, x = w5.heap.size := ⟨_, rfl⟩
      rw [← hB13]
      have a13 : Arr (w5.alloc (.cells (u32a h) 51)) B13 51 h := by rw [hB13]; exact Arr.new w5 _ _
      have a8 := H5.out.2.2.1.alloc (.cells (u32a h) 51)
      have ah := H5.out.1.alloc (.cells (u32a h) 51)
      have ak := H5.out.2.1.alloc (.cells (u32a h) 51)
      have hlt13 : B8 < B13 := by rw [hB13]; exact H5.out.2.2.1.lt
      have bb := H5.out.2.2.2.alloc (B := B) (by have := H5.out.2.2.1.lt; have := HN.out; omega) (.cells (u32a h) 51)
      obtain ⟨W6, hW6⟩ : ∃ W, W = w5.alloc (.cells (u32a h) 51) := ⟨_, rfl⟩
      rw [← hW6] at a13 a8 ah ak bb
      rw [← hW6]
      have H6 := Lib.hid (And.intro a13 (And.intro a8 (And.intro ah (And.intro ak bb))))
      clear hW6 hB13 a13 a8 ah ak bb
      refine refL6_wp (B8 := B8) (BK := BK) (B13 := B13) (W := sched p) (x0 := h) (w0 := W6) _ (by unfold sched; rw [extend_length]; exact HFW.out.1) (extend_words _ _ _ HFW.out.2) HH.out.1 HH.out.2.1 hlt13 (by omega) H6.out.2.1 H6.out.2.2.2.1 H6.out.1 (Below.refl _ _) ?_
      intro v14 v15 v16 v17 v18 v119 v120 v121 v122 v123 v124 v125 v126 v127 v128 v129 v130 v131 v132 v133 v134 v135 v136 v137 v138 v139 v140 v141 v142 v143 v144 v145 v146 v147 v148 v149 v150 v151 v152 v153 v154 v155 v156 v157 v158 v159 v160 v161 v162 v163 v164 v165 v166 v167 v168 v169 v170 v171 v172 v173 v174 v175 v176 v177 v178 v179 v180 v181 v182 v183 v184 v185 v186 v187 v188 v189 v190 v191 v192 v193 v194 v195 v196 v197 v198 v199 v200 v201 v202 v203 v204 v205 v206 v207 v208 w7 x hx hxl hxw a7 b7
      have ah7 := H6.out.2.2.1.below b7 (by have := HN.out; omega)
      have ak7 := H6.out.2.2.2.1.below b7 (by omega)
      have bb7 := H6.out.2.2.2.2.trans (b7.mono (by have := HN.out; omega))
      have HX := Lib.hid (And.intro hx (And.intro hxl hxw))
      have H7 := Lib.hid (And.intro a7 (And.intro ah7 (And.intro ak7 bb7)))
      clear hx hxl hxw a7 b7 ah7 ak7 bb7
      go_wp2_with (fail)
      refine refL7_wp (B := B) (BH := BH) (BK := BK) (B13 := B13) (v := h) (x := x) (w0 := w0) _ HH.out.1 HH.out.2.1 HX.out.2.1 HX.out.2.2 HN.out.1 (by have := HN.out; omega) (by have := HN.out; omega) H7.out.2.1 H7.out.2.2.1 H7.out.1 H7.out.2.2.2 ?_
      intro v19 v209 v210 v211 v212 v213 v214 v215 v216 v217 v218 v219 v220 w9 a9 hw9 k9 b9
      have H9 := Lib.hid (And.intro a9 (And.intro hw9 (And.intro k9 b9)))
      clear a9 hw9 k9 b9
      go_wp2_with (fail)
      go_roundg (T - (at_ + 64))
      case measure => have := HK3.out; omega
      case rel =>
        refine ⟨at_ + 64, addv h x, by omega, rfl, by have := H64.out; omega, by go_num, ⟨by simp [addv], H9.out.2.1, ?_⟩, ⟨H9.out.1, H9.out.2.2.1⟩, H9.out.2.2.2⟩
        rw [← HH.out.2.2, eat_step h _ (by rw [List.length_drop, bs_length, HT.out]; omega), List.drop_drop, ← HP.out.1, stir_stirR _ _ HP.out.2, HX.out.1]
        rfl
    · have hltb : decide (at_ < T) = false := by simpa using hlt
      obtain rfl : at_ = T := by omega
      have hts2 : t2.size = at_ := HT.out
      go_wp2_with (fail)
      refine ⟨rfl, ?_⟩
      have hee := HH.out.2.2
      rw [List.drop_eq_nil_of_le (Nat.le_of_eq (by rw [bs_length, HT.out])), eat_end _ _ (by simp)] at hee
      exact HEX.out _ _ _ _ _ _ _ _ _ _ _ _ _ _ _ _ _ _ _ _ _ _ _ _ _ _ _ _ _ _ _ _ _ _ _ _ _ _ _ _ _ _ _ _ _ _ _ _ _ _ _ _ _ _ _ _ _ _ _ _ _ _ _ _ _ _ _ _ _ _ _ _ _ _ _ _ _ _ _ _ _ _ _ _ _ _ _ _ _ _ _ _ _ _ _ _ _ _ _ _ _ _ _ _ _ _ _ _ _ _ _ _ _ _ _ _ _ _ _ _ _ _ _ _ _ _ _ _ _ _ _ _ _ _ _ _ _ _ _ _ _ _ _ _ _ _ _ _ _ _ _ _ _ _ _ _ _ _ _ _ _ _ _ _ _ _ _ _ _ _ _ _ _ _ _ _ _ _ _ _ _ _ _ _ h (by rw [← HE0.out, ← hee]) HH.out.1 HH.out.2.1 HAZ.out.1 HBz.out
end Go.Proofs.Ytjgbodgcbagbnaa.Mine
