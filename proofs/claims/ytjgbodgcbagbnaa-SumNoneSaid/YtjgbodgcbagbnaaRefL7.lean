/- The document's Sum: the loops that add the words and that tell the bytes. -/
import Derived.Test.YtjgbodgcbagbnaaRefL6
set_option linter.unusedVariables false
set_option linter.unusedSimpArgs false
namespace Go.Proofs.Ytjgbodgcbagbnaa.Mine
open Go.RowKit Go.Proofs.YtjgbodgcbagbnaaW.PrintWords

def addv (v x : List Nat) : List Nat := (List.range 8).map fun j => (v.getD j 0 + x.getD j 0) % 4294967296
theorem addv_eq (v x vl : List Nat) (hl : vl.length = 8) (h : ∀ t, vl.getD t 0 = if t < 8 then (v.getD t 0 + x.getD t 0) % 4294967296 else v.getD t 0) : vl = addv v x := by
  unfold addv
  apply List.ext_getElem (by rw [hl]; simp)
  intro t h1 h2
  have ht := h t
  rw [hl] at h1
  rw [if_pos h1, List.getD_eq_getElem?_getD, List.getElem?_eq_getElem (by rw [hl]; exact h1)] at ht
  simp only [Option.getD_some] at ht
  rw [ht, List.getElem_map, List.getElem_range]
noncomputable def refL7 : Code := ((loopsOf ((Try.f17.body).getD .skip))[6]?).getD .skip
set_option maxRecDepth 100000 in
set_option maxHeartbeats 1000000 in
theorem refL7_wp {Q : Exit → Act → World → Prop} {s0 s1 s2 s3 s4 s6 s7 s8 s9 s10 s11 s12 s14 s15 s16 s17 s18 s20 s21 s22 s23 s24 s25 s26 s27 s28 s29 s30 s31 s32 s33 s34 s35 s36 s37 s38 s39 s40 s41 s42 s43 s44 s45 s46 s47 s48 s49 s50 s51 s52 s53 s54 s55 s56 s57 s58 s59 s60 s61 s62 s63 s64 s65 s66 s67 s68 s69 s70 s71 s72 s73 s74 s75 s76 s77 s78 s79 s80 s81 s82 s83 s84 s85 s86 s87 s88 s89 s90 s91 s92 s93 s94 s95 s96 s97 s98 s99 s100 s101 s102 s103 s104 s105 s106 s107 s108 s109 s110 s111 s112 s113 s114 s115 s116 s117 s118 s119 s120 s121 s122 s123 s124 s125 s126 s127 s128 s129 s130 s131 s132 s133 s134 s135 s136 s137 s138 s139 s140 s141 s142 s143 s144 s145 s146 s147 s148 s149 s150 s151 s152 s153 s154 s155 s156 s157 s158 s159 s160 s161 s162 s163 s164 s165 s166 s167 s168 s169 s170 s171 s172 s173 s174 s175 s176 s177 s178 s179 s180 s181 s182 s183 s184 s185 s186 s187 s188 s189 s190 s191 s192 s193 s194 s195 s196 s197 s198 s199 s200 s201 s202 s203 s204 s205 s206 s207 s208 s209 s210 s211 s212 s213 s214 s215 s216 s217 s218 s219 s220 s221 s222 s223 s224 s225 s226 s227 s228 s229 s230 s231 s232 s233 s234 s235 s236 s237 s238 s239 s240 : Value} (B BH BK B13 : Nat) (v x : List Nat) (w0 w : World)
    (hl : v.length = 8) (hw : Words v) (hxl : x.length = 8) (hxw : Words x) (hB : B ≤ BH) (hk : BK ≠ BH) (h13 : B13 ≠ BH)
    (hah : Arr w BH 51 v) (hak : Arr w BK 52 salts) (hax : Arr w B13 51 x) (hb : Below B w0 w)
    (hexit : ∀ (v19 v209 v210 v211 v212 v213 v214 v215 v216 v217 v218 v219 v220 : Value) (w' : World), Arr w' BH 51 (addv v x) → Words (addv v x) → Arr w' BK 52 salts → Below B w0 w' → Q (.exit 12) ⟨(s0 :: s1 :: s2 :: s3 :: s4 :: .pointer (some ⟨BH, 0, none⟩) :: s6 :: s7 :: s8 :: s9 :: s10 :: s11 :: s12 :: .pointer (some ⟨B13, 0, none⟩) :: s14 :: s15 :: s16 :: s17 :: s18 :: v19 :: s20 :: s21 :: s22 :: s23 :: s24 :: s25 :: s26 :: s27 :: s28 :: s29 :: s30 :: s31 :: s32 :: s33 :: s34 :: s35 :: s36 :: s37 :: s38 :: s39 :: s40 :: s41 :: s42 :: s43 :: s44 :: s45 :: s46 :: s47 :: s48 :: s49 :: s50 :: s51 :: s52 :: s53 :: s54 :: s55 :: s56 :: s57 :: s58 :: s59 :: s60 :: s61 :: s62 :: s63 :: s64 :: s65 :: s66 :: s67 :: s68 :: s69 :: s70 :: s71 :: s72 :: s73 :: s74 :: s75 :: s76 :: s77 :: s78 :: s79 :: s80 :: s81 :: s82 :: s83 :: s84 :: s85 :: s86 :: s87 :: s88 :: s89 :: s90 :: s91 :: s92 :: s93 :: s94 :: s95 :: s96 :: s97 :: s98 :: s99 :: s100 :: s101 :: s102 :: s103 :: s104 :: s105 :: s106 :: s107 :: s108 :: s109 :: s110 :: s111 :: s112 :: s113 :: s114 :: s115 :: s116 :: s117 :: s118 :: s119 :: s120 :: s121 :: s122 :: s123 :: s124 :: s125 :: s126 :: s127 :: s128 :: s129 :: s130 :: s131 :: s132 :: s133 :: s134 :: s135 :: s136 :: s137 :: s138 :: s139 :: s140 :: s141 :: s142 :: s143 :: s144 :: s145 :: s146 :: s147 :: s148 :: s149 :: s150 :: s151 :: s152 :: s153 :: s154 :: s155 :: s156 :: s157 :: s158 :: s159 :: s160 :: s161 :: s162 :: s163 :: s164 :: s165 :: s166 :: s167 :: s168 :: s169 :: s170 :: s171 :: s172 :: s173 :: s174 :: s175 :: s176 :: s177 :: s178 :: s179 :: s180 :: s181 :: s182 :: s183 :: s184 :: s185 :: s186 :: s187 :: s188 :: s189 :: s190 :: s191 :: s192 :: s193 :: s194 :: s195 :: s196 :: s197 :: s198 :: s199 :: s200 :: s201 :: s202 :: s203 :: s204 :: s205 :: s206 :: s207 :: s208 :: v209 :: v210 :: v211 :: v212 :: v213 :: v214 :: v215 :: v216 :: v217 :: v218 :: v219 :: v220 :: s221 :: s222 :: s223 :: s224 :: s225 :: s226 :: s227 :: s228 :: s229 :: s230 :: s231 :: s232 :: s233 :: s234 :: s235 :: s236 :: s237 :: s238 :: s239 :: s240 :: []).toArray, []⟩ w') :
    Code.wp Try.prog refL7 Q ⟨(s0 :: s1 :: s2 :: s3 :: s4 :: .pointer (some ⟨BH, 0, none⟩) :: s6 :: s7 :: s8 :: s9 :: s10 :: s11 :: s12 :: .pointer (some ⟨B13, 0, none⟩) :: s14 :: s15 :: s16 :: s17 :: s18 :: .int .i64 0 :: s20 :: s21 :: s22 :: s23 :: s24 :: s25 :: s26 :: s27 :: s28 :: s29 :: s30 :: s31 :: s32 :: s33 :: s34 :: s35 :: s36 :: s37 :: s38 :: s39 :: s40 :: s41 :: s42 :: s43 :: s44 :: s45 :: s46 :: s47 :: s48 :: s49 :: s50 :: s51 :: s52 :: s53 :: s54 :: s55 :: s56 :: s57 :: s58 :: s59 :: s60 :: s61 :: s62 :: s63 :: s64 :: s65 :: s66 :: s67 :: s68 :: s69 :: s70 :: s71 :: s72 :: s73 :: s74 :: s75 :: s76 :: s77 :: s78 :: s79 :: s80 :: s81 :: s82 :: s83 :: s84 :: s85 :: s86 :: s87 :: s88 :: s89 :: s90 :: s91 :: s92 :: s93 :: s94 :: s95 :: s96 :: s97 :: s98 :: s99 :: s100 :: s101 :: s102 :: s103 :: s104 :: s105 :: s106 :: s107 :: s108 :: s109 :: s110 :: s111 :: s112 :: s113 :: s114 :: s115 :: s116 :: s117 :: s118 :: s119 :: s120 :: s121 :: s122 :: s123 :: s124 :: s125 :: s126 :: s127 :: s128 :: s129 :: s130 :: s131 :: s132 :: s133 :: s134 :: s135 :: s136 :: s137 :: s138 :: s139 :: s140 :: s141 :: s142 :: s143 :: s144 :: s145 :: s146 :: s147 :: s148 :: s149 :: s150 :: s151 :: s152 :: s153 :: s154 :: s155 :: s156 :: s157 :: s158 :: s159 :: s160 :: s161 :: s162 :: s163 :: s164 :: s165 :: s166 :: s167 :: s168 :: s169 :: s170 :: s171 :: s172 :: s173 :: s174 :: s175 :: s176 :: s177 :: s178 :: s179 :: s180 :: s181 :: s182 :: s183 :: s184 :: s185 :: s186 :: s187 :: s188 :: s189 :: s190 :: s191 :: s192 :: s193 :: s194 :: s195 :: s196 :: s197 :: s198 :: s199 :: s200 :: s201 :: s202 :: s203 :: s204 :: s205 :: s206 :: s207 :: s208 :: s209 :: s210 :: s211 :: s212 :: s213 :: s214 :: s215 :: s216 :: s217 :: s218 :: s219 :: s220 :: s221 :: s222 :: s223 :: s224 :: s225 :: s226 :: s227 :: s228 :: s229 :: s230 :: s231 :: s232 :: s233 :: s234 :: s235 :: s236 :: s237 :: s238 :: s239 :: s240 :: []).toArray, []⟩ w := by
  refine wp_mono (Q := ExitQ 12 (Q (.exit 12))) ?_ exitQ_of
  conv => arg 2; whnf
  have HEX := Lib.hid hexit
  have HA := Lib.hid (And.intro hah (And.intro hak hax))
  have HB := Lib.hid hb
  have HV := Lib.hid (And.intro hl hw)
  have HX := Lib.hid (And.intro hxl hxw)
  have HN := Lib.hid (And.intro hB (And.intro hk h13))
  clear hah hak hax hb hexit hl hw hxl hxw hB hk h13
  go_loopg [19] 8 (fun k s19 wq => ∃ (j : Nat) (vl : List Nat), j ≤ 8 ∧ k = 8 - j ∧ s19 = .int .i64 j ∧ Hid (vl.length = 8 ∧ Words vl ∧ ∀ t, vl.getD t 0 = if t < j then (v.getD t 0 + x.getD t 0) % 4294967296 else v.getD t 0) ∧
      Hid (Arr wq BH 51 vl ∧ Arr wq BK 52 salts ∧ Arr wq B13 51 x) ∧ Hid (Below B w0 wq))
  case atStart =>
    exact ⟨0, v, by omega, rfl, rfl, ⟨HV.out.1, HV.out.2, fun t => by simp⟩, HA.out, HB.out⟩
  case round =>
    obtain ⟨j, vl, hj, hk, rfl, HVL, HAA, HBB⟩ := hrel
    have HK := Lib.hid hk
    clear hk
    by_cases hlt : j < 8
    · have hltb : decide (j < 8) = true := by simpa using hlt
      obtain ⟨vj, hvj⟩ : ∃ y, y = vl.getD j 0 := ⟨_, rfl⟩
      obtain ⟨xj, hxj⟩ : ∃ y, y = x.getD j 0 := ⟨_, rfl⟩
      have cv := HAA.out.1.cell j (by rw [HVL.out.1]; exact hlt)
      have cx := HAA.out.2.2.cell j (by rw [HX.out.1]; exact hlt)
      have fv := HAA.out.1.frozen j
      have bv := HVL.out.2.1.at_ j
      have bx := HX.out.2.at_ j
      rw [← hvj] at cv bv
      rw [← hxj] at cx bx
      have HVJ := Lib.hid (And.intro hvj hxj)
      clear hvj hxj
      go_upto_region 36 with (fail)
      go_region
      go_wp2_with (fail)
      go_roundg (8 - (j + 1))
      case measure => have := HK.out; omega
      case rel =>
        rw [show (((vj : Int) + (xj : Int)) % 4294967296) = (((vj + xj) % 4294967296 : Nat) : Int) from by omega]
        refine ⟨j + 1, vl.set j ((vj + xj) % 4294967296), by omega, rfl, by go_num, ⟨by simp; exact HVL.out.1, HVL.out.2.1.set_ _ _ (by omega), fun t => ?_⟩, ⟨(HAA.out.1.drewN _).set_ _ _, (HAA.out.2.1.drewN _).far (by simpa using HN.out.2.1) _, (HAA.out.2.2.drewN _).far (by simpa using HN.out.2.2) _⟩, (below_drewN HBB.out _).setCell (p := ⟨BH, j, none⟩) (by simpa using HN.out.1) _⟩
        have h0 := HVL.out.2.2
        rw [List.getD_eq_getElem?_getD, List.getElem?_set]
        by_cases ht : j = t
        · subst ht
          rw [if_pos rfl, if_pos (by rw [HVL.out.1]; exact hlt), if_pos (by omega), HVJ.out.1, HVJ.out.2, h0 j, if_neg (by omega)]; rfl
        · rw [if_neg ht, ← List.getD_eq_getElem?_getD, h0 t]
          by_cases h2 : t < j
          · rw [if_pos h2, if_pos (by omega)]
          · rw [if_neg h2, if_neg (by omega)]
    · have hltb : decide (j < 8) = false := by simpa using hlt
      obtain rfl : j = 8 := by omega
      go_wp2_with (fail)
      refine ⟨rfl, ?_⟩
      have hv := addv_eq v x vl HVL.out.1 HVL.out.2.2
      subst hv
      exact HEX.out _ _ _ _ _ _ _ _ _ _ _ _ _ _ HAA.out.1 HVL.out.2.1 HAA.out.2.1 HBB.out
noncomputable def refL8 : Code := ((loopsOf ((Try.f17.body).getD .skip))[7]?).getD .skip
theorem conv_one (w : World) (z : Int) (c : Nat) (hz : z = (c : Int)) :
    Sem.run Try.prog (convert 46 9 (.slice (some ⟨w.heap.size, 0, none⟩) 1 1)) (w.alloc (.cells #[.int .u8 z] 5)) = .ok (.string (sb [c])) (w.alloc (.cells #[.int .u8 z] 5)) := by
  subst hz
  exact conv_own (P := Try.prog) (base := w.heap.size) (e' := 5) (n := 1) (l := [c]) Try.underlying46 Try.underlying5 Try.underlying9 ⟨rfl, .inr ⟨w.heap.size, 1, #[.int .u8 (c : Int)], rfl, Nat.le_refl _, heap_alloc_new w _, Nat.le_refl _, by decide, rfl, rfl⟩⟩
theorem outB_byte (v : List Nat) (i : Nat) (hi : i < 4 * v.length) : (outB v).take (i + 1) = (outB v).take i ++ [v.getD (i / 4) 0 / 2 ^ (24 - i % 4 * 8) % 256] := by
  rw [List.take_succ_eq_append_getElem (by rw [outB_length]; exact hi)]
  congr 2
  have e : ∀ (k : Nat) (v : List Nat) (i : Nat), i < 4 * k → k ≤ v.length → (outB v)[i]? = some (v.getD (i / 4) 0 / 2 ^ (24 - i % 4 * 8) % 256) := by
    intro k
    induction k with
    | zero => intro v i h; omega
    | succ k ih =>
      intro v i h hk
      match v, hk with
      | a :: v, hk =>
        rw [List.length_cons] at hk
        rw [outB, List.flatMap_cons]
        by_cases h4 : i < 4
        · rw [List.getElem?_append_left (by simp [wordB]; exact h4)]
          have : i / 4 = 0 := by omega
          rw [this, Nat.mod_eq_of_lt h4]
          simp [wordB, h4, Nat.mul_comm]
        · rw [List.getElem?_append_right (by simp [wordB]; omega)]
          have := ih v (i - 4) (by omega) (by omega)
          rw [outB] at this
          rw [show (wordB a).length = 4 from by simp [wordB], this, show i / 4 = (i - 4) / 4 + 1 from by omega, show (i - 4) % 4 = i % 4 from by omega]
          rfl
  have := e v.length v i hi (Nat.le_refl _)
  rw [List.getElem?_eq_getElem (by rw [outB_length]; exact hi)] at this
  exact Option.some.inj this
set_option maxRecDepth 100000 in
set_option maxHeartbeats 1000000 in
theorem refL8_wp {Q : Exit → Act → World → Prop} {s0 s1 s2 s3 s4 s6 s7 s8 s9 s10 s11 s12 s13 s14 s15 s16 s17 s18 s19 s22 s23 s24 s25 s26 s27 s28 s29 s30 s31 s32 s33 s34 s35 s36 s37 s38 s39 s40 s41 s42 s43 s44 s45 s46 s47 s48 s49 s50 s51 s52 s53 s54 s55 s56 s57 s58 s59 s60 s61 s62 s63 s64 s65 s66 s67 s68 s69 s70 s71 s72 s73 s74 s75 s76 s77 s78 s79 s80 s81 s82 s83 s84 s85 s86 s87 s88 s89 s90 s91 s92 s93 s94 s95 s96 s97 s98 s99 s100 s101 s102 s103 s104 s105 s106 s107 s108 s109 s110 s111 s112 s113 s114 s115 s116 s117 s118 s119 s120 s121 s122 s123 s124 s125 s126 s127 s128 s129 s130 s131 s132 s133 s134 s135 s136 s137 s138 s139 s140 s141 s142 s143 s144 s145 s146 s147 s148 s149 s150 s151 s152 s153 s154 s155 s156 s157 s158 s159 s160 s161 s162 s163 s164 s165 s166 s167 s168 s169 s170 s171 s172 s173 s174 s175 s176 s177 s178 s179 s180 s181 s182 s183 s184 s185 s186 s187 s188 s189 s190 s191 s192 s193 s194 s195 s196 s197 s198 s199 s200 s201 s202 s203 s204 s205 s206 s207 s208 s209 s210 s211 s212 s213 s214 s215 s216 s217 s218 s219 s220 s221 s222 s223 s224 s225 s226 s227 s228 s229 s230 s231 s232 s233 s234 s235 s236 s237 s238 s239 s240 : Value} (B BH : Nat) (v : List Nat) (w0 w : World)
    (hl : v.length = 8) (hw : Words v) (hB : B ≤ BH)
    (hah : Arr w BH 51 v) (hb : Below B w0 w)
    (hexit : ∀ (v21 v221 v222 v223 v224 v225 v226 v227 v228 v229 v230 v231 v232 v233 v234 v235 v236 v237 v238 v239 : Value) (w' : World), Below B w0 w' → Q (.exit 14) ⟨(s0 :: s1 :: s2 :: s3 :: s4 :: .pointer (some ⟨BH, 0, none⟩) :: s6 :: s7 :: s8 :: s9 :: s10 :: s11 :: s12 :: s13 :: s14 :: s15 :: s16 :: s17 :: s18 :: s19 :: .string (sb (outB v)) :: v21 :: s22 :: s23 :: s24 :: s25 :: s26 :: s27 :: s28 :: s29 :: s30 :: s31 :: s32 :: s33 :: s34 :: s35 :: s36 :: s37 :: s38 :: s39 :: s40 :: s41 :: s42 :: s43 :: s44 :: s45 :: s46 :: s47 :: s48 :: s49 :: s50 :: s51 :: s52 :: s53 :: s54 :: s55 :: s56 :: s57 :: s58 :: s59 :: s60 :: s61 :: s62 :: s63 :: s64 :: s65 :: s66 :: s67 :: s68 :: s69 :: s70 :: s71 :: s72 :: s73 :: s74 :: s75 :: s76 :: s77 :: s78 :: s79 :: s80 :: s81 :: s82 :: s83 :: s84 :: s85 :: s86 :: s87 :: s88 :: s89 :: s90 :: s91 :: s92 :: s93 :: s94 :: s95 :: s96 :: s97 :: s98 :: s99 :: s100 :: s101 :: s102 :: s103 :: s104 :: s105 :: s106 :: s107 :: s108 :: s109 :: s110 :: s111 :: s112 :: s113 :: s114 :: s115 :: s116 :: s117 :: s118 :: s119 :: s120 :: s121 :: s122 :: s123 :: s124 :: s125 :: s126 :: s127 :: s128 :: s129 :: s130 :: s131 :: s132 :: s133 :: s134 :: s135 :: s136 :: s137 :: s138 :: s139 :: s140 :: s141 :: s142 :: s143 :: s144 :: s145 :: s146 :: s147 :: s148 :: s149 :: s150 :: s151 :: s152 :: s153 :: s154 :: s155 :: s156 :: s157 :: s158 :: s159 :: s160 :: s161 :: s162 :: s163 :: s164 :: s165 :: s166 :: s167 :: s168 :: s169 :: s170 :: s171 :: s172 :: s173 :: s174 :: s175 :: s176 :: s177 :: s178 :: s179 :: s180 :: s181 :: s182 :: s183 :: s184 :: s185 :: s186 :: s187 :: s188 :: s189 :: s190 :: s191 :: s192 :: s193 :: s194 :: s195 :: s196 :: s197 :: s198 :: s199 :: s200 :: s201 :: s202 :: s203 :: s204 :: s205 :: s206 :: s207 :: s208 :: s209 :: s210 :: s211 :: s212 :: s213 :: s214 :: s215 :: s216 :: s217 :: s218 :: s219 :: s220 :: v221 :: v222 :: v223 :: v224 :: v225 :: v226 :: v227 :: v228 :: v229 :: v230 :: v231 :: v232 :: v233 :: v234 :: v235 :: v236 :: v237 :: v238 :: v239 :: s240 :: []).toArray, []⟩ w') :
    Code.wp Try.prog refL8 Q ⟨(s0 :: s1 :: s2 :: s3 :: s4 :: .pointer (some ⟨BH, 0, none⟩) :: s6 :: s7 :: s8 :: s9 :: s10 :: s11 :: s12 :: s13 :: s14 :: s15 :: s16 :: s17 :: s18 :: s19 :: .string ⟨#[]⟩ :: .int .i64 0 :: s22 :: s23 :: s24 :: s25 :: s26 :: s27 :: s28 :: s29 :: s30 :: s31 :: s32 :: s33 :: s34 :: s35 :: s36 :: s37 :: s38 :: s39 :: s40 :: s41 :: s42 :: s43 :: s44 :: s45 :: s46 :: s47 :: s48 :: s49 :: s50 :: s51 :: s52 :: s53 :: s54 :: s55 :: s56 :: s57 :: s58 :: s59 :: s60 :: s61 :: s62 :: s63 :: s64 :: s65 :: s66 :: s67 :: s68 :: s69 :: s70 :: s71 :: s72 :: s73 :: s74 :: s75 :: s76 :: s77 :: s78 :: s79 :: s80 :: s81 :: s82 :: s83 :: s84 :: s85 :: s86 :: s87 :: s88 :: s89 :: s90 :: s91 :: s92 :: s93 :: s94 :: s95 :: s96 :: s97 :: s98 :: s99 :: s100 :: s101 :: s102 :: s103 :: s104 :: s105 :: s106 :: s107 :: s108 :: s109 :: s110 :: s111 :: s112 :: s113 :: s114 :: s115 :: s116 :: s117 :: s118 :: s119 :: s120 :: s121 :: s122 :: s123 :: s124 :: s125 :: s126 :: s127 :: s128 :: s129 :: s130 :: s131 :: s132 :: s133 :: s134 :: s135 :: s136 :: s137 :: s138 :: s139 :: s140 :: s141 :: s142 :: s143 :: s144 :: s145 :: s146 :: s147 :: s148 :: s149 :: s150 :: s151 :: s152 :: s153 :: s154 :: s155 :: s156 :: s157 :: s158 :: s159 :: s160 :: s161 :: s162 :: s163 :: s164 :: s165 :: s166 :: s167 :: s168 :: s169 :: s170 :: s171 :: s172 :: s173 :: s174 :: s175 :: s176 :: s177 :: s178 :: s179 :: s180 :: s181 :: s182 :: s183 :: s184 :: s185 :: s186 :: s187 :: s188 :: s189 :: s190 :: s191 :: s192 :: s193 :: s194 :: s195 :: s196 :: s197 :: s198 :: s199 :: s200 :: s201 :: s202 :: s203 :: s204 :: s205 :: s206 :: s207 :: s208 :: s209 :: s210 :: s211 :: s212 :: s213 :: s214 :: s215 :: s216 :: s217 :: s218 :: s219 :: s220 :: s221 :: s222 :: s223 :: s224 :: s225 :: s226 :: s227 :: s228 :: s229 :: s230 :: s231 :: s232 :: s233 :: s234 :: s235 :: s236 :: s237 :: s238 :: s239 :: s240 :: []).toArray, []⟩ w := by
  refine wp_mono (Q := ExitQ 14 (Q (.exit 14))) ?_ exitQ_of
  conv => arg 2; whnf
  have HEX := Lib.hid hexit
  have HA := Lib.hid hah
  have HB := Lib.hid hb
  have HV := Lib.hid (And.intro hl hw)
  have HN := Lib.hid hB
  clear hah hb hexit hl hw hB
  go_loopg [20, 21] 32 (fun k s20 s21 wq => ∃ (i : Nat) (t : ByteArray), i ≤ 32 ∧ k = 32 - i ∧ s21 = .int .i64 i ∧ s20 = .string t ∧ Hid (bs t = (outB v).take i) ∧
      Hid (Arr wq BH 51 v) ∧ Hid (Below B w0 wq))
  case atStart =>
    exact ⟨0, ⟨#[]⟩, by omega, rfl, rfl, rfl, rfl, HA.out, HB.out⟩
  case round =>
    obtain ⟨i, t, hi, hk, rfl, rfl, HT, HAA, HBB⟩ := hrel
    have HK := Lib.hid hk
    clear hk
    by_cases hlt : i < 32
    · have hltb : decide (i < 32) = true := by simpa using hlt
      obtain ⟨x, hx⟩ : ∃ y, y = v.getD (i / 4) 0 := ⟨_, rfl⟩
      have cx := HAA.out.cell (i / 4) (by rw [HV.out.1]; omega)
      have bx := HV.out.2.at_ (i / 4)
      rw [← hx] at cx bx
      have HX := Lib.hid hx
      clear hx
      have q1 : (0 : Int) ≤ (i : Int) / 4 := by omega
      have q2 : (i : Int) / 4 < 8 := by omega
      have q3 : ((i : Int) / 4).toNat = i / 4 := by omega
      have hcv := conv_one wr ((x : Int) / 2 ^ (24 - i % 4 * 8) % 256) (x / 2 ^ (24 - i % 4 * 8) % 256) (by simp)
      have hsz1 : (sb [x / 2 ^ (24 - i % 4 * 8) % 256]).size = 1 := by rw [sb_size]; rfl
      have hts : t.size ≤ 32 := by rw [← bs_length, HT.out, List.length_take]; omega
      go_wp2_with (fail)
      go_roundg (32 - (i + 1))
      case measure => have := HK.out; omega
      case rel =>
        refine ⟨i + 1, _, by omega, rfl, by go_num, rfl, ?_, HAA.out.alloc _, HBB.out.alloc (Nat.le_of_lt (Nat.lt_of_le_of_lt HN.out HAA.out.lt)) _⟩
        unfold Hid
        rw [bs_append, HT.out, bs_sb _ (by intro c hc; simp at hc; omega), outB_byte v i (by rw [HV.out.1]; omega), HX.out]
    · have hltb : decide (i < 32) = false := by simpa using hlt
      obtain rfl : i = 32 := by omega
      go_wp2_with (fail)
      refine ⟨rfl, ?_⟩
      have ht : t = sb (outB v) := by
        have := HT.out
        rw [List.take_of_length_le (Nat.le_of_eq (by rw [outB_length, HV.out.1]))] at this
        rw [← this, sb_bs]
      subst ht
      exact HEX.out _ _ _ _ _ _ _ _ _ _ _ _ _ _ _ _ _ _ _ _ _ HBB.out
end Go.Proofs.Ytjgbodgcbagbnaa.Mine
