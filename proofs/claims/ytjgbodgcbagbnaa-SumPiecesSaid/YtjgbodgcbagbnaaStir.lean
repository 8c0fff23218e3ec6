/- The contract of sum.stir. -/
import Derived.Test.YtjgbodgcbagbnaaSumArr
import Derived.Test.YtjgbodgcbagbnaaRot
import Derived.Test.YtjgbodgcbagbnaaSalts
import Derived.Test.YtjgbodgcbagbnaaProg
import Derived.Lib.Hide
import Derived.Laws.Rows
import Derived.Outline
import Derived.Deep.QuietTactic
import Derived.BigQuiet
import Derived.RegionTactic
import Derived.BigRegion
import Derived.Deep.LoopGhost
import Derived.Deep.CutRange
import Derived.Deep.DeepCutAuto
import Derived.Laws.CopyOwn
import Derived.Deep.RegionLaw
namespace Go.Proofs.Ytjgbodgcbagbnaa.Mine
open Go.RowKit Go.Proofs.YtjgbodgcbagbnaaW.PrintWords

theorem small_int (a : Nat) (h : a < 4294967296) : bits .xor .u32 (bits .xor .u32 (rotl a 25 : Nat) (rotl a 14 : Nat)) ((a : Int) / 8) = (small a : Nat) := by
  rw [show ((a : Int) / 8) = ((a / 8 : Nat) : Int) from by omega, u32_xor_nat _ _ (rotl_lt _ _ h) (rotl_lt _ _ h), u32_xor_nat _ _ (xor_lt32 (rotl_lt _ _ h) (rotl_lt _ _ h)) (by omega)]; rfl
theorem great_int (a : Nat) (h : a < 4294967296) : bits .xor .u32 (bits .xor .u32 (rotl a 15 : Nat) (rotl a 13 : Nat)) ((a : Int) / 1024) = (great a : Nat) := by
  rw [show ((a : Int) / 1024) = ((a / 1024 : Nat) : Int) from by omega, u32_xor_nat _ _ (rotl_lt _ _ h) (rotl_lt _ _ h), u32_xor_nat _ _ (xor_lt32 (rotl_lt _ _ h) (rotl_lt _ _ h)) (by omega)]; rfl
theorem sig1_int (a : Nat) (h : a < 4294967296) : bits .xor .u32 (bits .xor .u32 (rotl a 26 : Nat) (rotl a 21 : Nat)) (rotl a 7 : Nat) = (sig1 a : Nat) := by
  rw [u32_xor_nat _ _ (rotl_lt _ _ h) (rotl_lt _ _ h), u32_xor_nat _ _ (xor_lt32 (rotl_lt _ _ h) (rotl_lt _ _ h)) (rotl_lt _ _ h)]; rfl
theorem sig0_int (a : Nat) (h : a < 4294967296) : bits .xor .u32 (bits .xor .u32 (rotl a 30 : Nat) (rotl a 19 : Nat)) (rotl a 10 : Nat) = (sig0 a : Nat) := by
  rw [u32_xor_nat _ _ (rotl_lt _ _ h) (rotl_lt _ _ h), u32_xor_nat _ _ (xor_lt32 (rotl_lt _ _ h) (rotl_lt _ _ h)) (rotl_lt _ _ h)]; rfl
def cells (l : List Nat) : List Value := l.map fun (c : Nat) => Value.int .u32 (c : Int)
theorem quiet_two {P : Program} {f : FuncId} {args : Array Value} {w : World} {p q : Nat} {v : Value}
    (h : Calls P f args (w.drewN (p + q)) fun e w' => e = .returned v ∧ w' = w.drewN (p + q)) : Calls P f args (w.drewN (p + q)) fun e w'' => e = .returned v ∧ ∃ m, w'' = w.drewN (p + m) :=
  h.mono fun _ _ ⟨he, hm⟩ => ⟨he, q, hm⟩
theorem salts_length : salts.length = 64 := by decide
theorem stirGo_step (i : Nat) (wl : List Nat) (a b c d e f g h kk : Nat) (hi : i < 64) (hk : kk = salts.getD i 0) :
    stirGo (salts.drop i) i wl [a, b, c, d, e, f, g, h] = stirGo (salts.drop (i + 1)) (i + 1) (roundW wl i)
      [(one e f g h kk ((roundW wl i).getD (i % 16) 0) + two a b c) % 4294967296, a, b, c, (d + one e f g h kk ((roundW wl i).getD (i % 16) 0)) % 4294967296, e, f, g] := by
  have hl : i < salts.length := by rw [salts_length]; exact hi
  rw [List.drop_eq_getElem_cons hl, stirGo, stepX_eq]
  have e1 : salts[i] = kk := by rw [hk, List.getD_eq_getElem?_getD, List.getElem?_eq_getElem hl]; rfl
  rw [e1]
theorem stirGo_end (wl x : List Nat) : stirGo (salts.drop 64) 64 wl x = x := by
  rw [List.drop_eq_nil_of_le (by rw [salts_length]; omega), stirGo]
theorem stir_eq (v p vl x : List Nat) (hl : vl.length = 8) (hx : x = stirGo salts 0 (fill (List.replicate 16 0) p 0) v)
    (h : ∀ t, vl.getD t 0 = if t < 8 then (v.getD t 0 + x.getD t 0) % 4294967296 else v.getD t 0) : vl = stir v p := by
  unfold stir
  rw [← hx]
  apply List.ext_getElem (by rw [hl]; simp)
  intro t h1 h2
  have ht := h t
  rw [hl] at h1
  rw [if_pos h1, List.getD_eq_getElem?_getD, List.getElem?_eq_getElem (by rw [hl]; exact h1)] at ht
  simp only [Option.getD_some] at ht
  rw [ht, List.getElem_map, List.getElem_range]
theorem list8 (v : List Nat) (h : v.length = 8) : ∃ a b c d e f g k, v = [a, b, c, d, e, f, g, k] := by
  match v, h with
  | [a, b, c, d, e, f, g, k], _ => exact ⟨a, b, c, d, e, f, g, k, rfl⟩
theorem below_drewN {B : Nat} {a w : World} (h : Below B a w) (n : Nat) : Below B a (w.drewN n) := ⟨h.os, h.tape, h.output, h.size, h.block⟩
theorem not32 (e : Nat) (he : e < 4294967296) : 4294967295 ^^^ e = 4294967295 - e := by
  apply Nat.eq_of_testBit_eq
  intro i
  have h := Nat.testBit_two_pow_sub_succ (n := 32) (x := e) he i
  rw [show 4294967295 - e = 2 ^ 32 - (e + 1) from by omega, h, Nat.testBit_xor, show (4294967295 : Nat) = 2 ^ 32 - 1 from rfl, Nat.testBit_two_pow_sub_one]
  by_cases hi : i < 32
  · simp [hi]
  · have : e.testBit i = false := Nat.testBit_lt_two_pow (Nat.lt_of_lt_of_le he (show 4294967296 ≤ 2 ^ i from by
      have := Nat.pow_le_pow_right (n := 2) (by omega) (show 32 ≤ i from by omega)
      simpa using this))
    simp [hi, this]
theorem choose_int (e f g : Nat) (he : e < 4294967296) (hf : f < 4294967296) (hg : g < 4294967296) :
    bits .or .u32 (bits .and .u32 (e : Int) (f : Int)) (bits .and .u32 (bits .xor .u32 (if IntKind.u32.signed = true then -1 else IntKind.u32.max) (e : Int)) (g : Int)) = (choose e f g : Nat) := by
  rw [show (if IntKind.u32.signed = true then -1 else IntKind.u32.max) = ((4294967295 : Nat) : Int) from rfl, u32_xor_nat _ _ (by omega) he, not32 e he, u32_and_nat _ _ he hf, u32_and_nat _ _ (by omega) hg,
    u32_or_nat _ _ (and_lt32 he) (and_lt32 (by omega))]; rfl
theorem choose_lt (e f g : Nat) (he : e < 4294967296) : choose e f g < 4294967296 := or_lt32 (and_lt32 he) (and_lt32 (by omega))
theorem most_int (a b c : Nat) (ha : a < 4294967296) (hb : b < 4294967296) (hc : c < 4294967296) :
    bits .xor .u32 (bits .xor .u32 (bits .and .u32 (a : Int) (b : Int)) (bits .and .u32 (a : Int) (c : Int))) (bits .and .u32 (b : Int) (c : Int)) = (most a b c : Nat) := by
  rw [u32_and_nat _ _ ha hb, u32_and_nat _ _ ha hc, u32_and_nat _ _ hb hc, u32_xor_nat _ _ (and_lt32 ha) (and_lt32 ha), u32_xor_nat _ _ (xor_lt32 (and_lt32 ha) (and_lt32 ha)) (and_lt32 hb)]; rfl
theorem most_lt (a b c : Nat) (ha : a < 4294967296) (hb : b < 4294967296) : most a b c < 4294967296 := xor3_lt (and_lt32 ha) (and_lt32 ha) (and_lt32 hb)
theorem one_int (e f g h k y : Nat) (he : e < 4294967296) (hf : f < 4294967296) (hg : g < 4294967296) :
    (((h : Int) + k + y + bits .or .u32 (bits .and .u32 (e : Int) (f : Int)) (bits .and .u32 (bits .xor .u32 (if IntKind.u32.signed = true then -1 else IntKind.u32.max) (e : Int)) (g : Int))) % 4294967296 + (sig1 e : Nat)) % 4294967296 = (one e f g h k y : Nat) := by
  rw [choose_int e f g he hf hg]
  unfold one
  omega
theorem two_int (a b c : Nat) (ha : a < 4294967296) (hb : b < 4294967296) (hc : c < 4294967296) :
    (bits .xor .u32 (bits .xor .u32 (bits .and .u32 (a : Int) (b : Int)) (bits .and .u32 (a : Int) (c : Int))) (bits .and .u32 (b : Int) (c : Int)) + (sig0 a : Nat)) % 4294967296 = (two a b c : Nat) := by
  rw [most_int a b c ha hb hc]
  unfold two
  omega
theorem salts_words : Words salts := by unfold Words; decide
set_option maxRecDepth 100000 in
set_option maxHeartbeats 1000000 in
theorem stir_calls (v p : List Nat) (ad : Addr) (n c : Nat) (w : World) (hv : v.length = 8) (hvw : Words v) (hpl : p.length = 64) (hpb : ∀ x ∈ p, x < 256) (hp : 64 ≤ n) (hnc : n ≤ c) (hc63 : c ≤ 9223372036854775807)
    (hcell : ∀ j, j < 64 → w.cell? (ad.add j) = some (.int .u8 ((p.getD j 0 : Nat) : Int))) (hab : ad.block < w.heap.size) :
    Calls Try.prog 39 #[.agg (u32a v), .slice (some ad) n c] w fun e w' => e = .returned (.agg (u32a (stir v p))) ∧ Below w.heap.size w w' := by
  have HV := Lib.hid hv
  have HVW := Lib.hid hvw
  have HPL := Lib.hid hpl
  have HPB := Lib.hid hpb
  have HCELL := Lib.hid hcell
  clear hv hvw hpl hpb hcell
  obtain ⟨W16, hW⟩ : ∃ x, x = fill (List.replicate 16 0) p 0 := ⟨_, rfl⟩
  have HW := Lib.hid hW
  clear hW
  go_enter Try.func39, Try.ntmps39
  go_wp2
  have hA0 := (Arr.new w 51 v)
  go_loopw [6, 7, 23] (fun _ _ n23 wr => ∃ (i : Nat) (wl : List Nat), i ≤ 64 ∧ n23 = .int .i64 i ∧ Hid (wl.length = 16 ∧ Words wl ∧ fill wl (p.drop i) i = W16) ∧ Hid (Arr wr (w.heap.size + 1 + 1) 79 wl) ∧ Hid (Arr wr w.heap.size 51 v) ∧ Hid (Arr wr (w.heap.size + 1) 51 (List.replicate 8 0)) ∧ Hid (Below w.heap.size w wr) ∧ Hid (wr.heap.size = w.heap.size + 3)) (fun _ _ i _ => 64 - (intOf i).toNat)
  case atStart =>
    have z16 : (Obj.cells #[Value.int .u32 0, .int .u32 0, .int .u32 0, .int .u32 0, .int .u32 0, .int .u32 0, .int .u32 0, .int .u32 0, .int .u32 0, .int .u32 0, .int .u32 0, .int .u32 0, .int .u32 0, .int .u32 0, .int .u32 0, .int .u32 0] 79) = .cells (u32a (List.replicate 16 0)) 79 := rfl
    rw [z16]
    refine ⟨0, List.replicate 16 0, by omega, rfl, ⟨rfl, ?_, HW.out.symm⟩, ?_, (hA0.alloc _).alloc _, ?_, ?_, ?_⟩
    · intro x hx; have := List.eq_of_mem_replicate hx; omega
    · unfold Hid
      have := Arr.new ((w.alloc (.cells (u32a v) 51)).alloc (.cells #[.int .u32 0, .int .u32 0, .int .u32 0, .int .u32 0, .int .u32 0, .int .u32 0, .int .u32 0, .int .u32 0] 51)) 79 (List.replicate 16 0)
      simpa using this
    · unfold Hid
      have z8 : (Obj.cells #[Value.int .u32 0, .int .u32 0, .int .u32 0, .int .u32 0, .int .u32 0, .int .u32 0, .int .u32 0, .int .u32 0] 51) = .cells (u32a (List.replicate 8 0)) 51 := rfl
      rw [z8]
      have := Arr.new (w.alloc (.cells (u32a v) 51)) 51 (List.replicate 8 0)
      have := this.alloc (.cells (u32a (List.replicate 16 0)) 79)
      simpa using this
    · exact (((Below.refl _ w).alloc (Nat.le_refl _) _).alloc (by simp) _).alloc (by simp; omega) _
    · unfold Hid; simp
  case round =>
    obtain ⟨i, wl, hi, rfl, H, hArr, hArr0, hArr1, hbel, hsz⟩ := hrel
    obtain ⟨hwl, hww, hfill⟩ := H
    by_cases hlt : i < 64
    · have hltb : decide (i < 64) = true := by simpa using hlt
      have hcl : wr.cell? (ad.add i) = some (.int .u8 ((p.getD i 0 : Nat) : Int)) := by rw [hbel.out.cell (by rw [Addr.add]; split <;> exact hab)]; exact HCELL.out i hlt
      have hc4 := hArr.out.cell (i / 4) (by omega)
      have hf4 := hArr.out.frozen (i / 4)
      have h4 := hww.at_ (i / 4)
      have hpc : p.getD i 0 < 256 := HPB.out _ (by rw [List.getD_eq_getElem?_getD, List.getElem?_eq_getElem (by rw [HPL.out]; exact hlt)]; exact List.getElem_mem _)
      obtain ⟨x, hx⟩ : ∃ x, x = wl.getD (i / 4) 0 := ⟨_, rfl⟩
      obtain ⟨b, hb⟩ : ∃ b, b = p.getD i 0 := ⟨_, rfl⟩
      rw [← hx] at hc4 h4
      rw [← hb] at hcl hpc
      have HX := Lib.hid hx
      have HBB := Lib.hid hb
      have HWL := Lib.hid hwl
      have HWW := Lib.hid hww
      have HF := Lib.hid hfill
      clear hx hb hwl hww hfill
      have q1 : (0 : Int) ≤ (i : Int) / 4 := by omega
      have q2 : (i : Int) / 4 < 16 := by omega
      have q3 : ((i : Int) / 4).toNat = i / 4 := by omega
      go_wp2
      go_roundw
      case rel =>
        have e : (bits .or .u32 ((x : Int) * 256 % 4294967296) (b : Int)) = (((x * 256 % 4294967296) ||| b : Nat) : Int) := by
          have := u32_or_nat (x * 256 % 4294967296) b (by omega) (by omega)
          rw [← this]; congr 1
        rw [e]
        refine ⟨i + 1, wl.set (i / 4) ((x * 256 % 4294967296) ||| b), by omega, by go_num, ⟨by simp; exact HWL.out, HWW.out.set_ _ _ (or_lt32 (by omega) (by omega)), ?_⟩, hArr.out.set_ _ _, hArr0.out.far (by simp; omega) _, hArr1.out.far (by simp) _, hbel.out.setCell (p := ⟨w.heap.size + 1 + 1, i / 4, none⟩) (by simp; omega) _, ?_⟩
        · rw [← HF.out, List.drop_eq_getElem_cons (i := i) (by rw [HPL.out]; exact hlt), fill, ← HX.out]
          have : p[i]'(by rw [HPL.out]; exact hlt) = b := by rw [HBB.out, List.getD_eq_getElem?_getD, List.getElem?_eq_getElem (by rw [HPL.out]; exact hlt)]; rfl
          rw [this]
        · unfold Hid; simp [World.setCell]; exact hsz.out
      case measure => simp [intOf]; omega
    · have hltb : decide (i < 64) = false := by simpa using hlt
      obtain rfl : i = 64 := by omega
      have hW2 : wl = W16 := by rw [← hfill, List.drop_eq_nil_of_le (by rw [HPL.out]; omega), fill]
      subst hW2
      clear hfill
      have HWL := Lib.hid hwl
      have HWW := Lib.hid hww
      clear hwl hww
      have hi8 : (Try.prog.info? 51).map (·.size) = some (u32a v).size := by rw [u32a_size, HV.out]; kernel_rfl
      have hone8 : (u32a v).all (·.oneCell') = true := by simp [u32a]; intro x _; rfl
      have hz8 : (#[Value.int .u32 0, .int .u32 0, .int .u32 0, .int .u32 0, .int .u32 0, .int .u32 0, .int .u32 0, .int .u32 0] : Array Value).size = (u32a v).size := by rw [u32a_size, HV.out]; rfl
      have HI8 := Lib.hid hi8
      have HONE8 := Lib.hid hone8
      have HZ8 := Lib.hid hz8
      clear hi8 hA0 hltb hone8 hz8
      go_wp2_with (first
        | (refine wpList_load_row rfl 51 _ rfl w.heap.size rfl 51 (u32a v) (0, 0) _ hArr0.out Try.underlying51 rfl HI8.out ?_)
        | (refine wpList_store_row rfl 51 _ _ rfl wr.heap.size (u32a v) rfl rfl 51 _ (heap_alloc_last wr _) HI8.out HZ8.out HONE8.out ?_; rw [World.setRow_alloc_new])
        | (go_at_call 53; refine (salts_calls _).mono ?_; rintro e w2 ⟨rfl, hb2⟩))
      obtain ⟨X64, hX64⟩ : ∃ x, x = stirGo salts 0 wl v := ⟨_, rfl⟩
      have HX64 := Lib.hid hX64
      clear hX64
      have hb64 : wr.heap.size = w.heap.size + 3 := hsz.out
      have hA5 : Arr w2 (w.heap.size + 1 + 1) 79 wl := (hArr.out.alloc _).below hb2 (by simp; omega)
      have hA0' : Arr w2 w.heap.size 51 v := (hArr0.out.alloc _).below hb2 (by simp; omega)
      have hA1' : Arr w2 (w.heap.size + 1) 51 (List.replicate 8 0) := (hArr1.out.alloc _).below hb2 (by simp; omega)
      have hA8' : Arr w2 wr.heap.size 51 v := (Arr.new wr 51 v).below hb2 (by simp)
      have HA5 := Lib.hid hA5
      have HA0 := Lib.hid hA0'
      have HA1 := Lib.hid hA1'
      have HA8 := Lib.hid hA8'
      have HB2 := Lib.hid hb2
      clear hA5 hA0' hA1' hA8' hb2
      obtain ⟨B3, hB3⟩ : ∃ x, x = wr.heap.size := ⟨_, rfl⟩
      rw [← hB3] at HA8 hb64
      rw [← hB3]
      have HB3 := Lib.hid hB3
      clear hB3
      go_loopg [9, 10, 11, 12, 13, 14, 15, 16, 17, 18, 42] 64 (fun k _ _ _ _ _ _ _ _ _ _ s42 wq => ∃ (i : Nat) (wl : List Nat) (a b c d e f g h : Nat), i ≤ 64 ∧ k = 64 - i ∧ s42 = .int .i64 i ∧
          Hid (wl.length = 16 ∧ Words wl ∧ stirGo (salts.drop i) i wl [a, b, c, d, e, f, g, h] = X64) ∧ Hid (Words [a, b, c, d, e, f, g, h]) ∧
          Hid (Arr wq (w.heap.size + 1 + 1) 79 wl ∧ Arr wq B3 51 [a, b, c, d, e, f, g, h]) ∧
          Hid (Arr wq w.heap.size 51 v ∧ Arr wq (w.heap.size + 1) 51 (List.replicate 8 0)) ∧ Hid (Below w.heap.size w wq ∧ B3 < wq.heap.size))
      case atStart =>
        have hv8 := HV.out
        obtain ⟨a, b, c, d, e, f, g, h, rfl⟩ := list8 v hv8
        have hb2 := HB2.out
        have hb64' := hb64
        refine ⟨0, wl, a, b, c, d, e, f, g, h, by omega, rfl, rfl, ⟨HWL.out, HWW.out, by rw [HX64.out, List.drop_zero]⟩, HVW.out, ⟨HA5.out, HA8.out⟩, ⟨HA0.out, HA1.out⟩, ?_, HA8.out.lt⟩
        exact (hbel.out.alloc (by rw [← HB3.out]; omega) _).trans (hb2.mono (by simp; rw [← HB3.out]; omega))
      case round =>
        clear HB2
        obtain ⟨i, wl, a, b, c, d, e, f, g, h, hi, hk, rfl, H, hx, hA, hA2, hB⟩ := hrel
        have HK := Lib.hid hk
        have HB4 := Lib.hid hb64
        clear hk hb64
        by_cases hlt : i < 64
        · have hltb : decide (i < 64) = true := by simpa using hlt
          have hidx := fun w => run_index_arr 52 64 salts i .i64 w rfl rfl hlt
          have hkk : salts.getD i 0 < 4294967296 := salts_words.at_ i
          obtain ⟨kk, hkk2⟩ : ∃ x, x = salts.getD i 0 := ⟨_, rfl⟩
          rw [← hkk2] at hidx hkk
          have HKK := Lib.hid hkk2
          clear hkk2
          go_upto_if 47 with (fail)
          go_cut [11, 12, 13, 14] (fun _ _ _ _ wc => Hid (Arr wc (w.heap.size + 1 + 1) 79 (roundW wl i) ∧ Arr wc B3 51 [a, b, c, d, e, f, g, h]) ∧
              Hid (Arr wc w.heap.size 51 v ∧ Arr wc (w.heap.size + 1) 51 (List.replicate 8 0)) ∧ Hid (Below w.heap.size w wc ∧ B3 < wc.heap.size))
          case first =>
            by_cases h16 : 16 ≤ i
            · have h16b : decide (16 ≤ (i : Int)) = true := by simp; omega
              obtain ⟨y1, hy1⟩ : ∃ x, x = wl.getD ((i + 1) % 16) 0 := ⟨_, rfl⟩
              obtain ⟨y14, hy14⟩ : ∃ x, x = wl.getD ((i + 14) % 16) 0 := ⟨_, rfl⟩
              obtain ⟨y9, hy9⟩ : ∃ x, x = wl.getD ((i + 9) % 16) 0 := ⟨_, rfl⟩
              obtain ⟨y0, hy0⟩ : ∃ x, x = wl.getD (i % 16) 0 := ⟨_, rfl⟩
              have c1 := hA.out.1.cell ((i + 1) % 16) (by rw [H.out.1]; omega)
              have c14 := hA.out.1.cell ((i + 14) % 16) (by rw [H.out.1]; omega)
              have c9 := hA.out.1.cell ((i + 9) % 16) (by rw [H.out.1]; omega)
              have c0 := hA.out.1.cell (i % 16) (by rw [H.out.1]; omega)
              have b1 := H.out.2.1.at_ ((i + 1) % 16)
              have b14 := H.out.2.1.at_ ((i + 14) % 16)
              have b9 := H.out.2.1.at_ ((i + 9) % 16)
              have b0 := H.out.2.1.at_ (i % 16)
              rw [← hy1] at c1 b1
              rw [← hy14] at c14 b14
              rw [← hy9] at c9 b9
              rw [← hy0] at c0 b0
              have HY := Lib.hid (And.intro hy1 (And.intro hy14 (And.intro hy9 hy0)))
              clear hy1 hy14 hy9 hy0
              have q1 : 0 ≤ ((i : Int) + 1) % 16 := by omega
              have q2 : ((i : Int) + 1) % 16 < 16 := by omega
              have q3 : (((i : Int) + 1) % 16).toNat = (i + 1) % 16 := by omega
              have r1 : 0 ≤ ((i : Int) + 14) % 16 := by omega
              have r2 : ((i : Int) + 14) % 16 < 16 := by omega
              have r3 : (((i : Int) + 14) % 16).toNat = (i + 14) % 16 := by omega
              have s1 : 0 ≤ ((i : Int) + 9) % 16 := by omega
              have s2 : ((i : Int) + 9) % 16 < 16 := by omega
              have s3 : (((i : Int) + 9) % 16).toNat = (i + 9) % 16 := by omega
              have t1 : 0 ≤ (i : Int) % 16 := by omega
              have t2 : (i : Int) % 16 < 16 := by omega
              have t3 : ((i : Int) % 16).toNat = i % 16 := by omega
              go_wp2_with (fail)
              go_quiet (fail)
              clear q1 q2 q3 r1 r2 r3 c1 c14
              go_upto_region 15 with (go_at_call 54; refine (rot_lit _ _ _ (by decide) (by decide) (by assumption)).mono ?_; rintro e w' ⟨rfl, hw⟩; replace hw := hw.symm; subst hw)
              rw [small_int y1 b1, great_int y14 b14]
              have hs1 := small_lt y1 b1
              have hg1 := great_lt y14 b14
              obtain ⟨sm, hsm⟩ : ∃ x, x = small y1 := ⟨_, rfl⟩
              obtain ⟨gr, hgr⟩ : ∃ x, x = great y14 := ⟨_, rfl⟩
              rw [← hsm] at hs1
              rw [← hgr] at hg1
              rw [← hsm, ← hgr]
              have HSM := Lib.hid (And.intro hsm hgr)
              clear hsm hgr
              have f0 : wr.frozen? ⟨w.heap.size + 1 + 1, i % 16, none⟩ = false := hA.out.1.frozen _
              go_region
              go_wp2_with (fail)
              go_meet
              have hstep : roundW wl i = wl.set (i % 16) ((y0 + (sm + y9 + gr)) % 4294967296) := by
                obtain ⟨e1, e14, e9, e0⟩ := HY.out
                rw [roundW, if_pos h16, ← e1, ← e14, ← e9, ← e0, ← HSM.out.1, ← HSM.out.2]
              rw [hstep, show (((y0 : Int) + ((sm : Int) + (y9 : Int) + (gr : Int))) % 4294967296) = (((y0 + (sm + y9 + gr)) % 4294967296 : Nat) : Int) from by omega]
              have hb4 := HB4.out
              refine ⟨⟨(hA.out.1.drewN _).set_ _ _, (hA.out.2.drewN _).far (by simp; omega) _⟩, ⟨(hA2.out.1.drewN _).far (by simp; omega) _, (hA2.out.2.drewN _).far (by simp) _⟩, (below_drewN hB.out.1 _).setCell (p := ⟨w.heap.size + 1 + 1, i % 16, none⟩) (by simp; omega) _, ?_⟩
              have := hB.out.2
              simpa [World.setCell] using this
            · have h16b : decide (16 ≤ (i : Int)) = false := by simp; omega
              go_wp2_with (fail)
              go_meet
              rw [show roundW wl i = wl from by rw [roundW, if_neg h16]]
              exact ⟨hA, hA2, hB⟩
          case rest =>
            clear hA hA2 hB
            obtain ⟨hA, hA2, hB⟩ := hcut
            obtain ⟨w3, hw3⟩ : ∃ x, x = roundW wl i := ⟨_, rfl⟩
            have hw3l : w3.length = 16 := by rw [hw3, roundW]; split <;> simp [H.out.1]
            have hw3w : Words w3 := by
              rw [hw3, roundW]; split
              · exact H.out.2.1.set_ _ _ (by omega)
              · exact H.out.2.1
            rw [← hw3] at hA
            obtain ⟨y0, hy0⟩ : ∃ x, x = w3.getD (i % 16) 0 := ⟨_, rfl⟩
            have c0 := hA.out.1.cell (i % 16) (by omega)
            have b0 := hw3w.at_ (i % 16)
            rw [← hy0] at c0 b0
            have HW3 := Lib.hid hw3
            have HW3L := Lib.hid hw3l
            have HW3W := Lib.hid hw3w
            have HY := Lib.hid hy0
            clear hw3 hw3l hw3w hy0
            have t1 : 0 ≤ (i : Int) % 16 := by omega
            have t2 : (i : Int) % 16 < 16 := by omega
            have t3 : ((i : Int) % 16).toNat = i % 16 := by omega
            have x0 : wc.cell? ⟨B3, 0, none⟩ = some (.int .u32 a) := hA.out.2.cell 0 (by simp)
            have x1 : wc.cell? ⟨B3, 1, none⟩ = some (.int .u32 b) := hA.out.2.cell 1 (by simp)
            have x2 : wc.cell? ⟨B3, 2, none⟩ = some (.int .u32 c) := hA.out.2.cell 2 (by simp)
            have x3 : wc.cell? ⟨B3, 3, none⟩ = some (.int .u32 d) := hA.out.2.cell 3 (by simp)
            have x4 : wc.cell? ⟨B3, 4, none⟩ = some (.int .u32 e) := hA.out.2.cell 4 (by simp)
            have x5 : wc.cell? ⟨B3, 5, none⟩ = some (.int .u32 f) := hA.out.2.cell 5 (by simp)
            have x6 : wc.cell? ⟨B3, 6, none⟩ = some (.int .u32 g) := hA.out.2.cell 6 (by simp)
            have x7 : wc.cell? ⟨B3, 7, none⟩ = some (.int .u32 h) := hA.out.2.cell 7 (by simp)
            have ba : a < 4294967296 := hx.out a (by simp)
            have bb : b < 4294967296 := hx.out b (by simp)
            have bc : c < 4294967296 := hx.out c (by simp)
            have bd : d < 4294967296 := hx.out d (by simp)
            have be : e < 4294967296 := hx.out e (by simp)
            have bf : f < 4294967296 := hx.out f (by simp)
            have bg : g < 4294967296 := hx.out g (by simp)
            have bh : h < 4294967296 := hx.out h (by simp)
            go_upto_region 16 with (fail)
            go_quiet (fail)
            go_upto_region 17 with (fail)
            go_quiet ((go_at_call 54; exact quiet_two (rot_lit _ _ _ (by decide) (by decide) (by assumption))))
            rw [sig1_int e be]
            go_upto_region 18 with (fail)
            go_quiet ((go_at_call 54; exact quiet_two (rot_lit _ _ _ (by decide) (by decide) (by assumption))))
            rw [sig0_int a ba]
            rw [one_int e f g h kk y0 be bf bg, two_int a b c ba bb bc]
            have l1 : one e f g h kk y0 < 4294967296 := by unfold one; omega
            have l2 : two a b c < 4294967296 := by unfold two; omega
            obtain ⟨o1, ho1⟩ : ∃ x, x = one e f g h kk y0 := ⟨_, rfl⟩
            obtain ⟨o2, ho2⟩ : ∃ x, x = two a b c := ⟨_, rfl⟩
            rw [← ho1] at l1
            rw [← ho2] at l2
            rw [← ho1, ← ho2]
            have HO := Lib.hid (And.intro ho1 ho2)
            clear ho1 ho2
            go_upto_region 19 with (fail)
            have hcs : Hid (∀ (j : Nat) (y : Value), (cells [a, b, c, d, e, f, g])[j]? = some y → wc.cell? ((⟨B3, 0, none⟩ : Addr).add j) = some y) := by
              intro j y hj
              have hj7 : j < 7 := by
                rcases Nat.lt_or_ge j 7 with h | h
                · exact h
                · rw [List.getElem?_eq_none (by simp [cells]; omega)] at hj; cases hj
              have := hA.out.2.cell j (by simp; omega)
              rw [show (⟨B3, 0, none⟩ : Addr).add j = ⟨B3, j, none⟩ from by simp [Addr.add]; exact Eq.symm]
              rw [this, ← hj]
              have : j = 0 ∨ j = 1 ∨ j = 2 ∨ j = 3 ∨ j = 4 ∨ j = 5 ∨ j = 6 := by omega
              rcases this with rfl | rfl | rfl | rfl | rfl | rfl | rfl <;> rfl
            go_region_law (refine step_copy_splice rfl (.tmp 146) (.tmp 147) 80 80 rfl 50 rfl (by kernel_rfl) _ _ _ _ _ _ rfl rfl B3 1 (cells [a, b, c, d, e, f, g, h]) 51 (hA.out.2) (cells [a, b, c, d, e, f, g]) rfl (fun _ => ⟨rfl, _, rfl, hcs.out⟩) (by simp [cells]) (by simp [cells, Value.oneCell']) B3 _ (Below.refl _ _) (Nat.le_refl _) ?_; intro w4 hg4 hb4)
            have hw3b := hb4
            have hA4 : Arr w4 B3 51 [a, a, b, c, d, e, f, g] := hg4.out
            have hb3 := HB4.out
            have hx4 : w4.cell? ⟨B3, 4, none⟩ = some (.int .u32 d) := hA4.cell 4 (by simp)
            have hx0 : w4.cell? ⟨B3, 0, none⟩ = some (.int .u32 a) := hA4.cell 0 (by simp)
            have hf4 := hA4.frozen 4
            have hf0 := hA4.frozen 0
            have HA4 := Lib.hid hA4
            have HW4 := Lib.hid hb4
            have HB5 := Lib.hid hb3
            clear hA4 hw3b hb4 hb3 hg4 x0 x1 x2 x3 x4 x5 x6 x7 c0 t1 t2 t3
            go_wp2_with (fail)
            go_roundg (64 - (i + 1))
            case measure =>
              have := HK.out
              omega
            case rel =>
              have hb4 := HW4.out
              have hb3 := HB5.out
              have g1 : Arr w4 (w.heap.size + 1 + 1) 79 w3 := by refine Arr.below (B := B3) ?_ hb4 (by omega); exact hA.out.1
              have g2 : Arr w4 w.heap.size 51 v := by refine Arr.below (B := B3) ?_ hb4 (by omega); exact hA2.out.1
              have g3 : Arr w4 (w.heap.size + 1) 51 (List.replicate 8 0) := by refine Arr.below (B := B3) ?_ hb4 (by omega); exact hA2.out.2
              have m4 := hb4.mono (B' := w.heap.size) (by omega)
              have g4 : Below w.heap.size w w4 := by refine Below.trans ?_ m4; exact ⟨hB.out.1.os, hB.out.1.tape, hB.out.1.output, hB.out.1.size, hB.out.1.block⟩
              have g5 : B3 < w4.heap.size := HA4.out.lt
              refine ⟨i + 1, w3, (o1 + o2) % 4294967296, a, b, c, (d + o1) % 4294967296, e, f, g, by omega, rfl, by go_num, ⟨HW3L.out, HW3W.out, ?_⟩, ?_, ⟨(g1.far (by simp; omega) _).far (by simp; omega) _, ?_⟩, ⟨(g2.far (by simp; omega) _).far (by simp; omega) _, (g3.far (by simp; omega) _).far (by simp; omega) _⟩,
                ⟨(g4.setCell (p := ⟨B3, 4, none⟩) (by simp; omega) _).setCell (p := ⟨B3, 0, none⟩) (by simp; omega) _, by simpa [World.setCell] using g5⟩⟩
              · rw [← H.out.2.2, stirGo_step i wl _ _ _ _ _ _ _ _ kk hlt HKK.out, ← HW3.out, ← HY.out, ← HO.out.1, ← HO.out.2]
              · intro x hx
                simp only [List.mem_cons, List.not_mem_nil, or_false] at hx
                omega
              · rw [show (((d : Int) + (o1 : Int)) % 4294967296) = (((d + o1) % 4294967296 : Nat) : Int) from by omega, show (((o1 : Int) + (o2 : Int)) % 4294967296) = (((o1 + o2) % 4294967296 : Nat) : Int) from by omega]
                exact (HA4.out.set_ 4 _).set_ 0 _
        · have hltb : decide (i < 64) = false := by simpa using hlt
          obtain rfl : i = 64 := by omega
          have hX : [a, b, c, d, e, f, g, h] = X64 := by rw [← H.out.2.2, stirGo_end]
          obtain ⟨x, hxl⟩ : ∃ x, x = [a, b, c, d, e, f, g, h] := ⟨_, rfl⟩
          have hxlen : x.length = 8 := by rw [hxl]; rfl
          rw [← hxl] at hX
          have hx' := hx.out
          have hAx := hA.out.2
          rw [← hxl] at hx' hAx
          subst hX
          have HX := Lib.hid hxlen
          have HXW := Lib.hid hx'
          have HAX := Lib.hid hAx
          clear hxl hxlen hx' hAx hx hltb hlt H HK
          have hA0 := hA2.out.1
          have hA1 := hA2.out.2
          have HA0 := Lib.hid hA0
          have HA1 := Lib.hid hA1
          clear hA hA2 hA0 hA1
          go_wp2_with (fail)
          go_loopg [19, 159] 8 (fun k _ s159 wq => ∃ (j : Nat) (vl : List Nat), j ≤ 8 ∧ k = 8 - j ∧ s159 = .int .i64 j ∧ Hid (vl.length = 8 ∧ Words vl ∧ ∀ t, vl.getD t 0 = if t < j then (v.getD t 0 + x.getD t 0) % 4294967296 else v.getD t 0) ∧
            Hid (Arr wq w.heap.size 51 vl ∧ Arr wq B3 51 x ∧ Arr wq (w.heap.size + 1) 51 (List.replicate 8 0)) ∧ Hid (Below w.heap.size w wq))
          case atStart =>
            refine ⟨0, v, by omega, rfl, rfl, ⟨HV.out, HVW.out, fun t => by simp⟩, ⟨HA0.out, HAX.out, HA1.out⟩, hB.out.1⟩
          case round =>
            have HB0 := hB
            clear hB
            obtain ⟨j, vl, hj, hk, rfl, HVL, HAA, HBB⟩ := hrel
            have HK := Lib.hid hk
            clear hk
            have hb3 : w.heap.size + 3 ≤ B3 := by have := HB4.out; omega
            by_cases hlt : j < 8
            · have hltb : decide (j < 8) = true := by simpa using hlt
              obtain ⟨vj, hvj⟩ : ∃ y, y = vl.getD j 0 := ⟨_, rfl⟩
              obtain ⟨xj, hxj⟩ : ∃ y, y = x.getD j 0 := ⟨_, rfl⟩
              have cv := HAA.out.1.cell j (by rw [HVL.out.1]; exact hlt)
              have cx := HAA.out.2.1.cell j (by rw [HX.out]; exact hlt)
              have fv := HAA.out.1.frozen j
              have bv := HVL.out.2.1.at_ j
              have bx := HXW.out.at_ j
              rw [← hvj] at cv bv
              rw [← hxj] at cx bx
              have HVJ := Lib.hid (And.intro hvj hxj)
              clear hvj hxj
              go_upto_region 26 with (fail)
              go_region
              go_wp2_with (fail)
              go_roundg (8 - (j + 1))
              case measure => have := HK.out; omega
              case rel =>
                rw [show (((vj : Int) + (xj : Int)) % 4294967296) = (((vj + xj) % 4294967296 : Nat) : Int) from by omega]
                refine ⟨j + 1, vl.set j ((vj + xj) % 4294967296), by omega, rfl, by go_num, ⟨by simp; exact HVL.out.1, HVL.out.2.1.set_ _ _ (by omega), fun t => ?_⟩, ⟨(HAA.out.1.drewN _).set_ _ _, (HAA.out.2.1.drewN _).far (by simp; omega) _, (HAA.out.2.2.drewN _).far (by simp) _⟩, (below_drewN HBB.out _).setCell (p := ⟨w.heap.size, j, none⟩) (by simp) _⟩
                have h0 := HVL.out.2.2
                rw [List.getD_eq_getElem?_getD, List.getElem?_set]
                by_cases ht : j = t
                · subst ht
                  rw [if_pos rfl, if_pos (by rw [HVL.out.1]; exact hlt), if_pos (by omega), HVJ.out.1, HVJ.out.2, h0 j, if_neg (by omega)]; rfl
                · rw [if_neg ht, ← List.getD_eq_getElem?_getD, h0 t]
                  by_cases h2 : t < j
                  · rw [if_pos h2, if_pos (by omega)]
                  · rw [if_neg h2, if_neg (by omega)]
            · have hltb : decide (j < 8) = false := by simpa using hlt
              obtain rfl : j = 8 := by omega
              have hi8 : (Try.prog.info? 51).map (·.size) = some (u32a vl).size := by rw [u32a_size, HVL.out.1]; kernel_rfl
              have hone8 : (u32a vl).all (·.oneCell') = true := by simp [u32a]; intro x _; rfl
              have hz8 : (u32a (List.replicate 8 0)).size = (u32a vl).size := by rw [u32a_size, u32a_size, HVL.out.1]; rfl
              have HJ8 := Lib.hid hi8
              have HONE9 := Lib.hid hone8
              have HZ9 := Lib.hid hz8
              clear hi8 hone8 hz8 hltb
              go_wp2_with (first
                | (refine wpList_load_row rfl 51 _ rfl w.heap.size rfl 51 (u32a vl) (0, 0) _ HAA.out.1 Try.underlying51 rfl HJ8.out ?_)
                | (refine wpList_store_row rfl 51 _ _ rfl (w.heap.size + 1) (u32a vl) rfl rfl 51 _ HAA.out.2.2 HJ8.out HZ9.out HONE9.out ?_))
              have hst : vl = stir v p := stir_eq v p vl x HVL.out.1 (by rw [HX64.out, HW.out]) HVL.out.2.2
              have hsz8 : (Try.prog.info? 51).map (·.size) = some (u32a (stir v p)).size := by rw [u32a_size, show (stir v p).length = 8 from by simp [stir]]; exact size8
              subst hst
              exact bodyPost_ret (v := .agg (u32a (stir v p))) (results_cell_row rfl _ _ (w.heap.size + 1) 51 (u32a (stir v p)) (0, 0) _ rfl (setRow_heap wr (w.heap.size + 1) _ _ _ _ HAA.out.2.2) Try.underlying51 rfl hsz8) rfl ⟨rfl, below_setRow HBB.out (by omega) _⟩
end Go.Proofs.Ytjgbodgcbagbnaa.Mine
