/- The document's Sum: the loop that makes 64 words of sixteen. -/
import Derived.Test.YtjgbodgcbagbnaaRefL4
import Derived.StillTailTactics
set_option linter.unusedVariables false
set_option linter.unusedSimpArgs false
namespace Go.Proofs.Ytjgbodgcbagbnaa.Mine
open Go.RowKit Go.Proofs.YtjgbodgcbagbnaaW.PrintWords

theorem still_tail {P : Program} {id : Nat} {Q : Exit → Act → World → Prop} {a : Act} {w : World} {l : List Oper} (n : Nat) (hm : P.follows .mixedOrders = true) (hB : Region.lexTailB .any l.toArray n = true)
    (h : wpStill P l.toArray w.drew (fun a' => wpList P l.toArray Q (l.drop n) a' w.drew) (l.take n) a) : (Code.region id l.toArray true).wp P Q a w :=
  wp_region_still_tail n hm hB h
theorem wrap_in (x : Int) (h : 0 ≤ x) (h2 : x ≤ 9223372036854775807) : IntKind.i64.wrap x = x := by
  rw [IntKind.wrap_i64]; omega
noncomputable def refL5 : Code := ((loopsOf ((Try.f17.body).getD .skip))[4]?).getD .skip
set_option maxRecDepth 100000 in
set_option maxHeartbeats 400000 in
theorem refL5_wp {Q : Exit → Act → World → Prop} {s0 s1 s2 s3 s4 s5 s6 s7 s9 s11 s12 s13 s14 s15 s16 s17 s18 s19 s20 s21 s22 s23 s24 s25 s26 s27 s28 s29 s30 s31 s32 s33 s34 s35 s36 s37 s38 s39 s40 s41 s42 s43 s44 s45 s46 s47 s48 s49 s50 s51 s52 s53 s54 s55 s56 s57 s58 s59 s60 s61 s62 s63 s64 s65 s66 s67 s68 s69 s70 s71 s72 s73 s74 s75 s76 s77 s78 s79 s80 s81 s82 s83 s84 s85 s86 s87 s88 s89 s90 s91 s92 s93 s94 s95 s96 s97 s98 s99 s100 s101 s102 s103 s104 s105 s106 s107 s108 s109 s110 s111 s112 s113 s114 s115 s116 s117 s118 s119 s120 s121 s122 s123 s124 s125 s126 s127 s128 s129 s130 s131 s132 s133 s134 s135 s136 s137 s138 s139 s140 s141 s142 s143 s144 s145 s146 s147 s148 s149 s150 s151 s152 s153 s154 s155 s156 s157 s158 s159 s160 s161 s162 s163 s164 s165 s166 s167 s168 s169 s170 s171 s172 s173 s174 s175 s176 s177 s178 s179 s180 s181 s182 s183 s184 s185 s186 s187 s188 s189 s190 s191 s192 s193 s194 s195 s196 s197 s198 s199 s200 s201 s202 s203 s204 s205 s206 s207 s208 s209 s210 s211 s212 s213 s214 s215 s216 s217 s218 s219 s220 s221 s222 s223 s224 s225 s226 s227 s228 s229 s230 s231 s232 s233 s234 s235 s236 s237 s238 s239 s240 : Value} (B8 : Nat) (W1 : List Nat) (w0 w : World)
    (hl : W1.length = 64) (hw : Words W1)
    (ha : Arr w B8 52 W1) (hb : Below B8 w0 w)
    (hexit : ∀ (v10 v11 v12 v77 v78 v79 v80 v81 v82 v83 v84 v85 v86 v87 v88 v89 v90 v91 v92 v93 v94 v95 v96 v97 v98 v99 v100 v101 v102 v103 v104 v105 v106 v107 v108 v109 v110 v111 v112 v113 v114 v115 v116 v117 : Value) (w' : World), Arr w' B8 52 (extend 48 16 W1) → Below B8 w0 w' → Q (.exit 8) ⟨(s0 :: s1 :: s2 :: s3 :: s4 :: s5 :: s6 :: s7 :: .pointer (some ⟨B8, 0, none⟩) :: s9 :: v10 :: v11 :: v12 :: s13 :: s14 :: s15 :: s16 :: s17 :: s18 :: s19 :: s20 :: s21 :: s22 :: s23 :: s24 :: s25 :: s26 :: s27 :: s28 :: s29 :: s30 :: s31 :: s32 :: s33 :: s34 :: s35 :: s36 :: s37 :: s38 :: s39 :: s40 :: s41 :: s42 :: s43 :: s44 :: s45 :: s46 :: s47 :: s48 :: s49 :: s50 :: s51 :: s52 :: s53 :: s54 :: s55 :: s56 :: s57 :: s58 :: s59 :: s60 :: s61 :: s62 :: s63 :: s64 :: s65 :: s66 :: s67 :: s68 :: s69 :: s70 :: s71 :: s72 :: s73 :: s74 :: s75 :: s76 :: v77 :: v78 :: v79 :: v80 :: v81 :: v82 :: v83 :: v84 :: v85 :: v86 :: v87 :: v88 :: v89 :: v90 :: v91 :: v92 :: v93 :: v94 :: v95 :: v96 :: v97 :: v98 :: v99 :: v100 :: v101 :: v102 :: v103 :: v104 :: v105 :: v106 :: v107 :: v108 :: v109 :: v110 :: v111 :: v112 :: v113 :: v114 :: v115 :: v116 :: v117 :: s118 :: s119 :: s120 :: s121 :: s122 :: s123 :: s124 :: s125 :: s126 :: s127 :: s128 :: s129 :: s130 :: s131 :: s132 :: s133 :: s134 :: s135 :: s136 :: s137 :: s138 :: s139 :: s140 :: s141 :: s142 :: s143 :: s144 :: s145 :: s146 :: s147 :: s148 :: s149 :: s150 :: s151 :: s152 :: s153 :: s154 :: s155 :: s156 :: s157 :: s158 :: s159 :: s160 :: s161 :: s162 :: s163 :: s164 :: s165 :: s166 :: s167 :: s168 :: s169 :: s170 :: s171 :: s172 :: s173 :: s174 :: s175 :: s176 :: s177 :: s178 :: s179 :: s180 :: s181 :: s182 :: s183 :: s184 :: s185 :: s186 :: s187 :: s188 :: s189 :: s190 :: s191 :: s192 :: s193 :: s194 :: s195 :: s196 :: s197 :: s198 :: s199 :: s200 :: s201 :: s202 :: s203 :: s204 :: s205 :: s206 :: s207 :: s208 :: s209 :: s210 :: s211 :: s212 :: s213 :: s214 :: s215 :: s216 :: s217 :: s218 :: s219 :: s220 :: s221 :: s222 :: s223 :: s224 :: s225 :: s226 :: s227 :: s228 :: s229 :: s230 :: s231 :: s232 :: s233 :: s234 :: s235 :: s236 :: s237 :: s238 :: s239 :: s240 :: []).toArray, []⟩ w') :
    Code.wp Try.prog refL5 Q ⟨(s0 :: s1 :: s2 :: s3 :: s4 :: s5 :: s6 :: s7 :: .pointer (some ⟨B8, 0, none⟩) :: s9 :: .int .i64 16 :: s11 :: s12 :: s13 :: s14 :: s15 :: s16 :: s17 :: s18 :: s19 :: s20 :: s21 :: s22 :: s23 :: s24 :: s25 :: s26 :: s27 :: s28 :: s29 :: s30 :: s31 :: s32 :: s33 :: s34 :: s35 :: s36 :: s37 :: s38 :: s39 :: s40 :: s41 :: s42 :: s43 :: s44 :: s45 :: s46 :: s47 :: s48 :: s49 :: s50 :: s51 :: s52 :: s53 :: s54 :: s55 :: s56 :: s57 :: s58 :: s59 :: s60 :: s61 :: s62 :: s63 :: s64 :: s65 :: s66 :: s67 :: s68 :: s69 :: s70 :: s71 :: s72 :: s73 :: s74 :: s75 :: s76 :: s77 :: s78 :: s79 :: s80 :: s81 :: s82 :: s83 :: s84 :: s85 :: s86 :: s87 :: s88 :: s89 :: s90 :: s91 :: s92 :: s93 :: s94 :: s95 :: s96 :: s97 :: s98 :: s99 :: s100 :: s101 :: s102 :: s103 :: s104 :: s105 :: s106 :: s107 :: s108 :: s109 :: s110 :: s111 :: s112 :: s113 :: s114 :: s115 :: s116 :: s117 :: s118 :: s119 :: s120 :: s121 :: s122 :: s123 :: s124 :: s125 :: s126 :: s127 :: s128 :: s129 :: s130 :: s131 :: s132 :: s133 :: s134 :: s135 :: s136 :: s137 :: s138 :: s139 :: s140 :: s141 :: s142 :: s143 :: s144 :: s145 :: s146 :: s147 :: s148 :: s149 :: s150 :: s151 :: s152 :: s153 :: s154 :: s155 :: s156 :: s157 :: s158 :: s159 :: s160 :: s161 :: s162 :: s163 :: s164 :: s165 :: s166 :: s167 :: s168 :: s169 :: s170 :: s171 :: s172 :: s173 :: s174 :: s175 :: s176 :: s177 :: s178 :: s179 :: s180 :: s181 :: s182 :: s183 :: s184 :: s185 :: s186 :: s187 :: s188 :: s189 :: s190 :: s191 :: s192 :: s193 :: s194 :: s195 :: s196 :: s197 :: s198 :: s199 :: s200 :: s201 :: s202 :: s203 :: s204 :: s205 :: s206 :: s207 :: s208 :: s209 :: s210 :: s211 :: s212 :: s213 :: s214 :: s215 :: s216 :: s217 :: s218 :: s219 :: s220 :: s221 :: s222 :: s223 :: s224 :: s225 :: s226 :: s227 :: s228 :: s229 :: s230 :: s231 :: s232 :: s233 :: s234 :: s235 :: s236 :: s237 :: s238 :: s239 :: s240 :: []).toArray, []⟩ w := by
  refine wp_mono (Q := ExitQ 8 (Q (.exit 8))) ?_ exitQ_of
  conv => arg 2; whnf
  have HEX := Lib.hid hexit
  have HA := Lib.hid ha
  have HB := Lib.hid hb
  have HL := Lib.hid (And.intro hl hw)
  clear ha hb hexit hl hw
  obtain ⟨W0, hW0⟩ : ∃ x, x = extend 48 16 W1 := ⟨_, rfl⟩
  have HW0 := Lib.hid hW0
  clear hW0
  go_loopg [10] 48 (fun k s10 wz => ∃ (i : Nat) (wl : List Nat), 16 ≤ i ∧ i ≤ 64 ∧ k = 64 - i ∧ s10 = .int .i64 i ∧ Hid (wl.length = 64 ∧ Words wl ∧ extend (64 - i) i wl = W0) ∧ Hid (Arr wz B8 52 wl) ∧ Hid (Below B8 w0 wz))
  case atStart =>
    exact ⟨16, W1, by omega, by omega, rfl, rfl, ⟨HL.out.1, HL.out.2, HW0.out.symm⟩, HA.out, HB.out⟩
  case round =>
    obtain ⟨i, wl, hi0, hi, hk, rfl, HWL, HA9, HBE⟩ := hrel
    have HK4 := Lib.hid hk
    clear hk
    by_cases hli : i < 64
    · have hlib : decide (i < 64) = true := by simpa using hli
      have c15 := HA9.out.cell (i - 15) (by rw [HWL.out.1]; omega)
      have c2 := HA9.out.cell (i - 2) (by rw [HWL.out.1]; omega)
      have c16 := HA9.out.cell (i - 16) (by rw [HWL.out.1]; omega)
      have c7 := HA9.out.cell (i - 7) (by rw [HWL.out.1]; omega)
      have c0 := HA9.out.cell i (by rw [HWL.out.1]; omega)
      have f0 := HA9.out.frozen i
      have b15 := HWL.out.2.1.at_ (i - 15)
      have b2 := HWL.out.2.1.at_ (i - 2)
      have b16 := HWL.out.2.1.at_ (i - 16)
      have b7 := HWL.out.2.1.at_ (i - 7)
      obtain ⟨x15, h15⟩ : ∃ x, x = wl.getD (i - 15) 0 := ⟨_, rfl⟩
      obtain ⟨x2, h2⟩ : ∃ x, x = wl.getD (i - 2) 0 := ⟨_, rfl⟩
      obtain ⟨x16, h16⟩ : ∃ x, x = wl.getD (i - 16) 0 := ⟨_, rfl⟩
      obtain ⟨x7, h7⟩ : ∃ x, x = wl.getD (i - 7) 0 := ⟨_, rfl⟩
      rw [← h15] at c15 b15
      rw [← h2] at c2 b2
      rw [← h16] at c16 b16
      rw [← h7] at c7 b7
      have HX := Lib.hid (And.intro h15 (And.intro h2 (And.intro h16 h7)))
      clear h15 h2 h16 h7
      have q1 : (0 : Int) ≤ (i : Int) - 15 := by omega
      have q2 : (i : Int) - 15 < 64 := by omega
      have q3 : ((i : Int) - 15).toNat = i - 15 := by omega
      have r1 : (0 : Int) ≤ (i : Int) - 2 := by omega
      have r2 : (i : Int) - 2 < 64 := by omega
      have r3 : ((i : Int) - 2).toNat = i - 2 := by omega
      have t1 : (0 : Int) ≤ (i : Int) - 16 := by omega
      have t2 : (i : Int) - 16 < 64 := by omega
      have t3 : ((i : Int) - 16).toNat = i - 16 := by omega
      have u1 : (0 : Int) ≤ (i : Int) - 7 := by omega
      have u2 : (i : Int) - 7 < 64 := by omega
      have u3 : ((i : Int) - 7).toNat = i - 7 := by omega
      go_upto_region 22 with (fail)
      go_quiet (fail)
      go_upto_region 23 with (fail)
      have t4 : (16 : Int) ≤ (i : Int) := by omega
      have u4 : (7 : Int) ≤ (i : Int) := by omega
      have z1 : IntKind.i64.wrap ((i : Int) - 16) = (i : Int) - 16 := wrap_in _ (by omega) (by omega)
      have z2 : IntKind.i64.wrap ((i : Int) - 7) = (i : Int) - 7 := wrap_in _ (by omega) (by omega)
      refine still_tail 29 (by kernel_rfl) (by kernel_rfl) ?_
      simp only [List.take_succ_cons, List.take_zero, List.drop_succ_cons, List.drop_zero]
      iterate 11 still_step
      still_call (turn_lit _ _ _ (by decide) (by decide) (by assumption))
      repeat (first | still_step | still_call (turn_lit _ _ _ (by decide) (by decide) (by assumption)))
      refine wpStill_nil ?_
      clear z1 z2 c15 c2 c16 c7 q1 q2 q3 r1 r2 r3 t1 t2 t3 u1 u2 u3
      rw [small_int x15 b15, great_int x2 b2]
      go_wp2_with (fail)
      go_roundg (64 - (i + 1))
      case measure => have := HK4.out; omega
      case rel =>
        rw [show (((x16 : Int) + (x7 : Int) + (small x15 : Nat) + (great x2 : Nat)) % 4294967296) = ((wnew wl i : Nat) : Int) from by
          obtain ⟨e1, e2, e3, e4⟩ := HX.out
          rw [wnew, ← e1, ← e2, ← e3, ← e4]; omega]
        refine ⟨i + 1, wl.set i (wnew wl i), by omega, by omega, rfl, by go_num, ⟨by simp; exact HWL.out.1, HWL.out.2.1.set_ _ _ (by unfold wnew; omega), ?_⟩, (HA9.out.drewN _).set_ _ _, (below_drewN HBE.out _).setCell (p := ⟨B8, i, none⟩) (by simp) _⟩
        rw [← HWL.out.2.2, show 64 - i = (64 - (i + 1)) + 1 from by omega, extend]
    · have hlib : decide (i < 64) = false := by simpa using hli
      obtain rfl : i = 64 := by omega
      go_wp2_with (fail)
      refine ⟨rfl, ?_⟩
      apply HEX.out
      · have := HWL.out.2.2
        rw [← HW0.out, ← this]
        exact HA9.out
      · exact HBE.out
end Go.Proofs.Ytjgbodgcbagbnaa.Mine
