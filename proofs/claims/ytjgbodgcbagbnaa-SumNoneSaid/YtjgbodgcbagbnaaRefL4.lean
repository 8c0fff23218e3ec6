/- The document's Sum: its loops, each by itself. -/
import Derived.Test.YtjgbodgcbagbnaaSumPure
import Derived.Test.YtjgbodgcbagbnaaSumPure2
set_option linter.unusedVariables false
set_option linter.unusedSimpArgs false
namespace Go.Proofs.Ytjgbodgcbagbnaa.Mine
open Go.RowKit Go.Proofs.YtjgbodgcbagbnaaW.PrintWords

/-- The loops of a text, the outer ones first. -/
def loopsOf : Code → List Code
  | .loop c => .loop c :: loopsOf c
  | .seq a b => loopsOf a ++ loopsOf b
  | .block _ c => loopsOf c
  | .scope c => loopsOf c
  | .cond _ a b => loopsOf a ++ loopsOf b
  | _ => []
theorem bs_getD_lt (s : ByteArray) (i : Nat) : (bs s).getD i 0 < 256 := by
  rw [List.getD_eq_getElem?_getD]
  by_cases h : i < (bs s).length
  · rw [List.getElem?_eq_getElem h]; exact bs_lt s _ (List.getElem_mem h)
  · rw [List.getElem?_eq_none (by omega)]; simp
theorem bs_get (s : ByteArray) (j : Nat) (hj : j < s.size) : (bs s)[j]'(by rw [bs_length]; exact hj) = s[j].toNat := by
  unfold bs
  rw [List.getElem_map]
  rfl
theorem run_index_bs (s : ByteArray) (j c : Nat) (z : Int) (hz : z = (j : Int)) (hj : j < s.size) (hc : c = (bs s).getD j 0) :
    ∀ W : World, (Instr.index 9 (.string s) (.int .i64 z)).run Try.prog W = .ok (.int .u8 (c : Int)) W := by
  intro W
  subst hz
  rw [run_index_string _ _ _ _ _ Try.underlying9, dif_pos ⟨by omega, by omega⟩]
  have e : (s[(j : Int).toNat]'(by simpa using hj)).toNat = c := by
    rw [hc, List.getD_eq_getElem?_getD, List.getElem?_eq_getElem (by rw [bs_length]; exact hj)]
    have e0 : s[(j : Int).toNat]'(by simpa using hj) = s[j] := by simp
    rw [e0, bs_get s j hj]
    rfl
  exact congrArg (fun n : Nat => Result.ok (Value.int .u8 (n : Int)) W) e
theorem drop_cut (s : ByteArray) (a i : Nat) (ha : a + 64 ≤ s.size) (hi : i < 64) :
    (((bs s).drop a).take 64).drop i = (bs s).getD (a + i) 0 :: (((bs s).drop a).take 64).drop (i + 1) := by
  have hl : i < (((bs s).drop a).take 64).length := by simp [bs_length]; omega
  rw [List.drop_eq_getElem_cons hl]
  congr 1
  rw [List.getElem_take, List.getElem_drop, List.getD_eq_getElem?_getD, List.getElem?_eq_getElem (by rw [bs_length]; omega)]
  rfl
theorem or_byte (x c : Nat) (hc : c < 256) : ((x : Int) * 256 % 4294967296 + (c : Int)) = (((x * 256 % 4294967296) ||| c : Nat) : Int) := by
  have e : x * 256 % 4294967296 = 2 ^ 8 * (x % 16777216) := by omega
  rw [e, ← Nat.two_pow_add_eq_or_of_lt (by omega : c < 2 ^ 8)]
  omega
/-- A piece of code that ends at one exit alone. -/
def ExitQ (id : Nat) (R : Act → World → Prop) : Exit → Act → World → Prop
  | .exit i, a, w => i = id ∧ R a w
  | _, _, _ => False
theorem exitQ_of {id : Nat} {Q : Exit → Act → World → Prop} : ∀ (e : Exit) (a : Act) (w : World), ExitQ id (Q (.exit id)) e a w → Q e a w
  | .exit _, _, _, ⟨h, q⟩ => by subst h; exact q
noncomputable def refL4 : Code := ((loopsOf ((Try.f17.body).getD .skip))[3]?).getD .skip
set_option maxRecDepth 100000 in
set_option maxHeartbeats 400000 in
theorem refL4_wp {Q : Exit → Act → World → Prop} {s1 s2 s3 s4 s5 s6 s10 s11 s12 s13 s14 s15 s16 s17 s18 s19 s20 s21 s22 s23 s24 s25 s26 s27 s28 s29 s30 s31 s32 s33 s34 s35 s36 s37 s38 s39 s40 s41 s42 s43 s44 s45 s46 s47 s48 s49 s50 s51 s52 s53 s54 s55 s56 s57 s58 s59 s60 s61 s62 s63 s64 s65 s66 s67 s68 s69 s70 s71 s72 s73 s74 s75 s76 s77 s78 s79 s80 s81 s82 s83 s84 s85 s86 s87 s88 s89 s90 s91 s92 s93 s94 s95 s96 s97 s98 s99 s100 s101 s102 s103 s104 s105 s106 s107 s108 s109 s110 s111 s112 s113 s114 s115 s116 s117 s118 s119 s120 s121 s122 s123 s124 s125 s126 s127 s128 s129 s130 s131 s132 s133 s134 s135 s136 s137 s138 s139 s140 s141 s142 s143 s144 s145 s146 s147 s148 s149 s150 s151 s152 s153 s154 s155 s156 s157 s158 s159 s160 s161 s162 s163 s164 s165 s166 s167 s168 s169 s170 s171 s172 s173 s174 s175 s176 s177 s178 s179 s180 s181 s182 s183 s184 s185 s186 s187 s188 s189 s190 s191 s192 s193 s194 s195 s196 s197 s198 s199 s200 s201 s202 s203 s204 s205 s206 s207 s208 s209 s210 s211 s212 s213 s214 s215 s216 s217 s218 s219 s220 s221 s222 s223 s224 s225 s226 s227 s228 s229 s230 s231 s232 s233 s234 s235 s236 s237 s238 s239 s240 : Value} (B B8 at_ T : Nat) (t2 : ByteArray) (p : List Nat) (w0 w : World)
    (hat : at_ + 64 ≤ t2.size) (hT : t2.size ≤ 70368744177900) (hp : p = ((bs t2).drop at_).take 64)
    (ha : Arr w B8 52 (List.replicate 64 0)) (hb : Below B8 w0 w)
    (hexit : ∀ (v9 v58 v59 v60 v61 v62 v63 v64 v65 v66 v67 v68 v69 v70 v71 v72 v73 v74 v75 v76 : Value) (w' : World), Arr w' B8 52 (fill (List.replicate 64 0) p 0) → Below B8 w0 w' → Q (.exit 6) ⟨(.string t2 :: s1 :: s2 :: s3 :: s4 :: s5 :: s6 :: .int .i64 at_ :: .pointer (some ⟨B8, 0, none⟩) :: v9 :: s10 :: s11 :: s12 :: s13 :: s14 :: s15 :: s16 :: s17 :: s18 :: s19 :: s20 :: s21 :: s22 :: s23 :: s24 :: s25 :: s26 :: s27 :: s28 :: s29 :: s30 :: s31 :: s32 :: s33 :: s34 :: s35 :: s36 :: s37 :: s38 :: s39 :: s40 :: s41 :: s42 :: s43 :: s44 :: s45 :: s46 :: s47 :: s48 :: s49 :: s50 :: s51 :: s52 :: s53 :: s54 :: s55 :: s56 :: s57 :: v58 :: v59 :: v60 :: v61 :: v62 :: v63 :: v64 :: v65 :: v66 :: v67 :: v68 :: v69 :: v70 :: v71 :: v72 :: v73 :: v74 :: v75 :: v76 :: s77 :: s78 :: s79 :: s80 :: s81 :: s82 :: s83 :: s84 :: s85 :: s86 :: s87 :: s88 :: s89 :: s90 :: s91 :: s92 :: s93 :: s94 :: s95 :: s96 :: s97 :: s98 :: s99 :: s100 :: s101 :: s102 :: s103 :: s104 :: s105 :: s106 :: s107 :: s108 :: s109 :: s110 :: s111 :: s112 :: s113 :: s114 :: s115 :: s116 :: s117 :: s118 :: s119 :: s120 :: s121 :: s122 :: s123 :: s124 :: s125 :: s126 :: s127 :: s128 :: s129 :: s130 :: s131 :: s132 :: s133 :: s134 :: s135 :: s136 :: s137 :: s138 :: s139 :: s140 :: s141 :: s142 :: s143 :: s144 :: s145 :: s146 :: s147 :: s148 :: s149 :: s150 :: s151 :: s152 :: s153 :: s154 :: s155 :: s156 :: s157 :: s158 :: s159 :: s160 :: s161 :: s162 :: s163 :: s164 :: s165 :: s166 :: s167 :: s168 :: s169 :: s170 :: s171 :: s172 :: s173 :: s174 :: s175 :: s176 :: s177 :: s178 :: s179 :: s180 :: s181 :: s182 :: s183 :: s184 :: s185 :: s186 :: s187 :: s188 :: s189 :: s190 :: s191 :: s192 :: s193 :: s194 :: s195 :: s196 :: s197 :: s198 :: s199 :: s200 :: s201 :: s202 :: s203 :: s204 :: s205 :: s206 :: s207 :: s208 :: s209 :: s210 :: s211 :: s212 :: s213 :: s214 :: s215 :: s216 :: s217 :: s218 :: s219 :: s220 :: s221 :: s222 :: s223 :: s224 :: s225 :: s226 :: s227 :: s228 :: s229 :: s230 :: s231 :: s232 :: s233 :: s234 :: s235 :: s236 :: s237 :: s238 :: s239 :: s240 :: []).toArray, []⟩ w') :
    Code.wp Try.prog refL4 Q ⟨(.string t2 :: s1 :: s2 :: s3 :: s4 :: s5 :: s6 :: .int .i64 at_ :: .pointer (some ⟨B8, 0, none⟩) :: .int .i64 0 :: s10 :: s11 :: s12 :: s13 :: s14 :: s15 :: s16 :: s17 :: s18 :: s19 :: s20 :: s21 :: s22 :: s23 :: s24 :: s25 :: s26 :: s27 :: s28 :: s29 :: s30 :: s31 :: s32 :: s33 :: s34 :: s35 :: s36 :: s37 :: s38 :: s39 :: s40 :: s41 :: s42 :: s43 :: s44 :: s45 :: s46 :: s47 :: s48 :: s49 :: s50 :: s51 :: s52 :: s53 :: s54 :: s55 :: s56 :: s57 :: s58 :: s59 :: s60 :: s61 :: s62 :: s63 :: s64 :: s65 :: s66 :: s67 :: s68 :: s69 :: s70 :: s71 :: s72 :: s73 :: s74 :: s75 :: s76 :: s77 :: s78 :: s79 :: s80 :: s81 :: s82 :: s83 :: s84 :: s85 :: s86 :: s87 :: s88 :: s89 :: s90 :: s91 :: s92 :: s93 :: s94 :: s95 :: s96 :: s97 :: s98 :: s99 :: s100 :: s101 :: s102 :: s103 :: s104 :: s105 :: s106 :: s107 :: s108 :: s109 :: s110 :: s111 :: s112 :: s113 :: s114 :: s115 :: s116 :: s117 :: s118 :: s119 :: s120 :: s121 :: s122 :: s123 :: s124 :: s125 :: s126 :: s127 :: s128 :: s129 :: s130 :: s131 :: s132 :: s133 :: s134 :: s135 :: s136 :: s137 :: s138 :: s139 :: s140 :: s141 :: s142 :: s143 :: s144 :: s145 :: s146 :: s147 :: s148 :: s149 :: s150 :: s151 :: s152 :: s153 :: s154 :: s155 :: s156 :: s157 :: s158 :: s159 :: s160 :: s161 :: s162 :: s163 :: s164 :: s165 :: s166 :: s167 :: s168 :: s169 :: s170 :: s171 :: s172 :: s173 :: s174 :: s175 :: s176 :: s177 :: s178 :: s179 :: s180 :: s181 :: s182 :: s183 :: s184 :: s185 :: s186 :: s187 :: s188 :: s189 :: s190 :: s191 :: s192 :: s193 :: s194 :: s195 :: s196 :: s197 :: s198 :: s199 :: s200 :: s201 :: s202 :: s203 :: s204 :: s205 :: s206 :: s207 :: s208 :: s209 :: s210 :: s211 :: s212 :: s213 :: s214 :: s215 :: s216 :: s217 :: s218 :: s219 :: s220 :: s221 :: s222 :: s223 :: s224 :: s225 :: s226 :: s227 :: s228 :: s229 :: s230 :: s231 :: s232 :: s233 :: s234 :: s235 :: s236 :: s237 :: s238 :: s239 :: s240 :: []).toArray, []⟩ w := by
  refine wp_mono (Q := ExitQ 6 (Q (.exit 6))) ?_ exitQ_of
  conv => arg 2; whnf
  have HEX := Lib.hid hexit
  have HP := Lib.hid hp
  have HA := Lib.hid ha
  have HB := Lib.hid hb
  clear hp ha hb hexit
  obtain ⟨W0, hW0⟩ : ∃ x, x = fill (List.replicate 64 0) p 0 := ⟨_, rfl⟩
  have HW0 := Lib.hid hW0
  clear hW0
  go_loopg [9] 64 (fun k s9 wz => ∃ (i : Nat) (wl : List Nat), i ≤ 64 ∧ k = 64 - i ∧ s9 = .int .i64 i ∧ Hid (wl.length = 64 ∧ Words wl ∧ fill wl (p.drop i) i = W0) ∧ Hid (Arr wz B8 52 wl) ∧ Hid (Below B8 w0 wz))
  case atStart =>
    exact ⟨0, List.replicate 64 0, by omega, rfl, rfl, ⟨by simp, by intro x hx; have := List.eq_of_mem_replicate hx; omega, by rw [List.drop_zero]; exact HW0.out.symm⟩, HA.out, HB.out⟩
  case round =>
    obtain ⟨i, wl, hi, hk, rfl, HWL, HA9, HBE⟩ := hrel
    have HK4 := Lib.hid hk
    clear hk
    by_cases hli : i < 64
    · have hlib : decide (i < 64) = true := by simpa using hli
      obtain ⟨c, hc⟩ : ∃ c, c = (bs t2).getD (at_ + i) 0 := ⟨_, rfl⟩
      have hidx := run_index_bs t2 (at_ + i) c ((at_ : Int) + (i : Int)) (by omega) (by omega) hc
      have hcb : c < 256 := by rw [hc]; exact bs_getD_lt t2 _
      have hd : p.drop i = c :: p.drop (i + 1) := by rw [HP.out, hc]; exact drop_cut t2 at_ i (by omega) hli
      clear hc
      have hc4 := HA9.out.cell (i / 4) (by rw [HWL.out.1]; omega)
      have hf4 := HA9.out.frozen (i / 4)
      have h4 := HWL.out.2.1.at_ (i / 4)
      obtain ⟨x, hx⟩ : ∃ x, x = wl.getD (i / 4) 0 := ⟨_, rfl⟩
      rw [← hx] at hc4 h4
      have HX := Lib.hid (And.intro hx hd)
      clear hx hd
      have q1 : (0 : Int) ≤ (i : Int) / 4 := by omega
      have q2 : (i : Int) / 4 < 64 := by omega
      have q3 : ((i : Int) / 4).toNat = i / 4 := by omega
      go_upto_region 18 with (fail)
      go_region
      go_wp2_with (fail)
      go_roundg (64 - (i + 1))
      case measure => have := HK4.out; omega
      case rel =>
        rw [or_byte x c hcb]
        refine ⟨i + 1, wl.set (i / 4) ((x * 256 % 4294967296) ||| c), by omega, rfl, by go_num, ⟨by simp; exact HWL.out.1, HWL.out.2.1.set_ _ _ (or_lt32 (by omega) (by omega)), ?_⟩, (HA9.out.set_ _ _).drewN 1, below_drewN (HBE.out.setCell (p := ⟨B8, i / 4, none⟩) (by simp) _) 1⟩
        rw [← HWL.out.2.2, HX.out.2, fill, ← HX.out.1]
    · have hlib : decide (i < 64) = false := by simpa using hli
      obtain rfl : i = 64 := by omega
      go_wp2_with (fail)
      refine ⟨rfl, ?_⟩
      apply HEX.out
      · have := HWL.out.2.2
        rw [← HW0.out, ← this, List.drop_eq_nil_of_le (by rw [HP.out]; simp; omega), fill]
        exact HA9.out
      · exact HBE.out
end Go.Proofs.Ytjgbodgcbagbnaa.Mine
