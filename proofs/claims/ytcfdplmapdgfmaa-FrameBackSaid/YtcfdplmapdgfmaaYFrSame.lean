import Derived.Test.YtcfdplmapdgfmaaYFrAw
import Derived.Test.YtcfdplmapdgfmaaYFrTakeF
set_option linter.unusedVariables false
set_option linter.unusedSimpArgs false
namespace Go.Proofs.Ytcfdplmapdgfmaa.Mine
open List renaming setIfInBounds_toArray → q1, set_cons_zero → q2, set_cons_succ → q3
open Go.RowKit Go.Proofs.YtcfdplmapdgfmaaW.PrintWords
theorem rfEncode_calls (x : SayP) (v : Value) (w : World) (hv : SayV w v x) (ha : 0 ≤ x.ask) (hc : checkP x = 0) :
  Calls Try.prog 19 #[v] w fun e w' => e = .returned (.string (sb (encP x))) ∧ Below w.heap.size w w' := by
 obtain ⟨A2, c2, A3, c3, A4, c4, rfl, h2, l2, h3, l3, h4, l4⟩ := hv
 have hl : (x.refs.map fromP94).length = x.refs.length := List.length_map _
 have hb := refs_back toP94 fromP94 (fun _ => rfl) x.refs
 have h4' : Kd.C PF.k94 w A4 (x.refs.map fromP94).length (x.refs.map fromP94) := by
  rw [hl]
  refine C_iso' (d := Kd.pair Kd.string Kd.string) (f := fun y : PF.S94 => (y.f0, y.f1)) ?_
  have : (x.refs.map fromP94).map (fun y : PF.S94 => (y.f0, y.f1)) = x.refs := hb.symm
  rw [this]; exact h4
 have := PF.z0t.calls 300 x.kind x.ask A2 c2 x.ids A3 c3 x.no A4 c4 (x.refs.map fromP94) x.ticket x.n x.of x.data _ w h2 l2 h3 l3 h4' (by rw [hl]; exact l4) (rf_encode x _ hb ha hc 300 (Nat.le_refl _))
 rw [hl] at this
 exact this
theorem rfCheck_calls (x : SayP) (v : Value) (w : World) (hv : SayV w v x) (hs : SmallR x.refs) :
  Calls Try.prog 14 #[v] w fun e w' => e = .returned (.int .i64 (checkP x)) ∧ Below w.heap.size w w' := by
 obtain ⟨A2, c2, A3, c3, A4, c4, rfl, h2, l2, h3, l3, h4, l4⟩ := hv
 have hl : (x.refs.map fromP94).length = x.refs.length := List.length_map _
 have hb := refs_back toP94 fromP94 (fun _ => rfl) x.refs
 have h4' : Kd.C PF.k94 w A4 (x.refs.map fromP94).length (x.refs.map fromP94) := by
  rw [hl]
  refine C_iso' (d := Kd.pair Kd.string Kd.string) (f := fun y : PF.S94 => (y.f0, y.f1)) ?_
  have : (x.refs.map fromP94).map (fun y : PF.S94 => (y.f0, y.f1)) = x.refs := hb.symm
  rw [this]; exact h4
 have := PF.z0f.calls 410 x.kind x.ask A2 c2 x.ids A3 c3 x.no A4 c4 (x.refs.map fromP94) x.ticket x.n x.of x.data _ w h2 l2 h3 l3 h4' (by rw [hl]; exact l4) (rf_check x _ hb (by
  intro y hy
  obtain ⟨z, hz, rfl⟩ := List.mem_map.1 hy
  exact hs z hz) 410 (Nat.le_refl _))
 rw [hl] at this
 exact this
theorem texts_l0 (l : List ByteArray) (hl : l.length ≤ 1000000000) (d : Nat) : ∀ (i k : Nat), i + d = l.length → d < k → PF.z1h.l0 k l l (i : Int) = some true := by
 induction d with
 | zero =>
  intro i k hi hk
  obtain ⟨k, rfl⟩ : ∃ m, k = m + 1 := ⟨k - 1, by omega⟩
  simp only [PF.z1h.l0]
  rw [if_neg (by omega)]
 | succ d ih =>
  intro i k hi hk
  obtain ⟨k, rfl⟩ : ∃ m, k = m + 1 := ⟨k - 1, by omega⟩
  simp only [PF.z1h.l0]
  rw [if_pos (by omega), if_pos (by omega), if_pos (by omega), if_pos True.intro, show wrap64 ((i : Int) + 1) = ((i + 1 : Nat) : Int) from by unfold wrap64; omega]
  exact ih (i + 1) k (by omega) (by omega)
theorem texts_calls (l : List ByteArray) (A A' : Option Addr) (c c' : Nat) (w : World) (hl : l.length ≤ 1000000000) (h : Kd.C Kd.string w A l.length l) (hc : l.length ≤ c) (h' : Kd.C Kd.string w A' l.length l) (hc' : l.length ≤ c') :
  Calls Try.prog 55 #[.slice A l.length c, .slice A' l.length c'] w fun e w' => e = .returned (.bool true) ∧ Below w.heap.size w w' :=
 (PF.z1h.calls (l.length + 1) A c l A' c' l true w h hc h' hc' (by
  unfold PF.z1h.f
  rw [if_pos rfl]
  exact texts_l0 l hl l.length 0 _ (by omega) (by omega))).mono fun e w' h => ⟨h.1, h.2.below⟩
set_option maxRecDepth 100000 in
set_option maxHeartbeats 2000000 in
theorem same_calls (x : SayP) (v v' : Value) (w : World) (hv : SayV w v x) (hv' : SayV w v' x) (h1 : x.ids.length ≤ 100000) (h2 : x.no.length ≤ 100000) (h3 : x.refs.length ≤ 100000) :
  Calls Try.prog 20 #[v, v'] w fun e w' => e = .returned (.bool true) ∧ Below w.heap.size w w' := by
 obtain ⟨A2, c2, A3, c3, A4, c4, rfl, p2, l2, p3, l3, p4, l4⟩ := hv
 obtain ⟨B2, d2, B3, d3, B4, d4, rfl, q2, m2, q3, m3, q4, m4⟩ := hv'
 obtain ⟨kind, ask, ids, no, refs, ticket, n, of, data⟩ := x
 dsimp only at *
 have HP := Lib.hid (And.intro p2 (And.intro p3 p4))
 have HQ := Lib.hid (And.intro q2 (And.intro q3 q4))
 clear p2 p3 p4 q2 q3 q4
 have e4 : ((refs.length : Int) != (refs.length : Int)) = false := by simp
 have e4' : (refs.length != refs.length) = false := by simp
 go_enter Try.func20, Try.ntmps20
 go_wp2_with fail
 have hW : Below w.heap.size w ((w.alloc (.cells (sayC kind ask (.slice A2 ids.length c2) (.slice A3 no.length c3) (.slice A4 refs.length c4) ticket n of data) 26)).alloc (.cells (sayC kind ask (.slice B2 ids.length d2) (.slice B3 no.length d3) (.slice B4 refs.length d4) ticket n of data) 34)) := ((Below.refl _ _).alloc (Nat.le_refl _) _).alloc (by simp) _
 have hba : ((w.alloc (.cells (sayC kind ask (.slice A2 ids.length c2) (.slice A3 no.length c3) (.slice A4 refs.length c4) ticket n of data) 26)).alloc (.cells (sayC kind ask (.slice B2 ids.length d2) (.slice B3 no.length d3) (.slice B4 refs.length d4) ticket n of data) 34)).heap[w.heap.size]? = some (.cells (sayC kind ask (.slice A2 ids.length c2) (.slice A3 no.length c3) (.slice A4 refs.length c4) ticket n of data) 26 (0, 0)) := z0a (blk_new w _) _
 have hbb : ((w.alloc (.cells (sayC kind ask (.slice A2 ids.length c2) (.slice A3 no.length c3) (.slice A4 refs.length c4) ticket n of data) 26)).alloc (.cells (sayC kind ask (.slice B2 ids.length d2) (.slice B3 no.length d3) (.slice B4 refs.length d4) ticket n of data) 34)).heap[w.heap.size + 1]? = some (.cells (sayC kind ask (.slice B2 ids.length d2) (.slice B3 no.length d3) (.slice B4 refs.length d4) ticket n of data) 34 (0, 0)) := by
  have := blk_new (w.alloc (.cells (sayC kind ask (.slice A2 ids.length c2) (.slice A3 no.length c3) (.slice A4 refs.length c4) ticket n of data) 26)) (.cells (sayC kind ask (.slice B2 ids.length d2) (.slice B3 no.length d3) (.slice B4 refs.length d4) ticket n of data) 34)
  rwa [show (w.alloc (.cells (sayC kind ask (.slice A2 ids.length c2) (.slice A3 no.length c3) (.slice A4 refs.length c4) ticket n of data) 26)).heap.size = w.heap.size + 1 from by simp] at this
 have HW := Lib.hid (And.intro hW (And.intro hba hbb))
 clear hW hba hbb
 refine (texts_calls ids A2 B2 c2 d2 _ (by omega) (Kd.z12 HP.out.1 HW.out.1) l2 (Kd.z12 HQ.out.1 HW.out.1) m2).mono ?_
 rintro e1 w1 ⟨rfl, hb1⟩
 have hW1 : Below w.heap.size w w1 := z0i HW.out.1 hb1
 have hba := z0m HW.out.2.1 hb1
 have hbb := z0m HW.out.2.2 hb1
 have ca := (z11 hba).2.2.2.1
 have cb := (z11 hbb).2.2.2.1
 have HW1 := Lib.hid (And.intro hW1 (And.intro hba hbb))
 clear hb1 hW1 hba hbb HW
 go_wp2_with fail
 refine (texts_calls no A3 B3 c3 d3 _ (by omega) (Kd.z12 HP.out.2.1 HW1.out.1) l3 (Kd.z12 HQ.out.2.1 HW1.out.1) m3).mono ?_
 rintro e2 w2 ⟨rfl, hb2⟩
 have hW2 : Below w.heap.size w w2 := z0i HW1.out.1 hb2
 have HW2 := Lib.hid (And.intro hW2 (And.intro (z0m HW1.out.2.1 hb2) (z0m HW1.out.2.2 hb2)))
 clear hb2 hW2 HW1 ca cb
 go_wp2_with fail
 go_loopg [5] refs.length (fun gg s5 wr => ∃ j : Nat, j ≤ refs.length ∧ gg = refs.length - j ∧ s5 = .int .i64 j ∧ Hid (Below w.heap.size w wr ∧ wr.heap[w.heap.size]? = some (.cells (sayC kind ask (.slice A2 ids.length c2) (.slice A3 no.length c3) (.slice A4 refs.length c4) ticket n of data) 26 (0, 0)) ∧ wr.heap[w.heap.size + 1]? = some (.cells (sayC kind ask (.slice B2 ids.length d2) (.slice B3 no.length d3) (.slice B4 refs.length d4) ticket n of data) 34 (0, 0))))
 case atStart => exact ⟨0, Nat.zero_le _, rfl, rfl, HW2.out⟩
 case round =>
  obtain ⟨j, hj, hgg, rfl, HR⟩ := hrel
  have HG := Lib.hid hgg
  clear hgg HW2
  obtain ⟨ca0, ca1, ca2, ca3, ca4, ca5, ca6, ca7, ca8⟩ := z11 HR.out.2.1
  obtain ⟨cb0, cb1, cb2, cb3, cb4, cb5, cb6, cb7, cb8⟩ := z11 HR.out.2.2
  by_cases hlt : j < refs.length
  ·have hjb : decide (j < refs.length) = true := by simpa using hlt
   have hjb2 : decide ((j : Int) < (refs.length : Int)) = true := by simp; omega
   have hi0 : (0 : Int) ≤ (j : Int) := by omega
   have hi1 : (j : Int) < (refs.length : Int) := by omega
   obtain ⟨x, rfl, hx0, hx1⟩ := refC_at HP.out.2.2 j hlt
   obtain ⟨y, rfl, hy0, hy1⟩ := refC_at HQ.out.2.2 j hlt
   have hx0 := z14 HR.out.1 hx0
   have hx1 := z14 HR.out.1 hx1
   have hy0 := z14 HR.out.1 hy0
   have hy1 := z14 HR.out.1 hy1
   rw [add_field _ _ _ (by omega)] at hx1 hy1
   obtain ⟨nm, hnm⟩ : ∃ nm, nm = (refs[j]).1 := ⟨_, rfl⟩
   obtain ⟨d, hd⟩ : ∃ d, d = (refs[j]).2 := ⟨_, rfl⟩
   rw [← hnm] at hx0 hy0
   rw [← hd] at hx1 hy1
   clear hnm hd ca0 ca1 ca2 ca3 ca5 ca6 ca7 ca8 cb0 cb1 cb2 cb3 cb5 cb6 cb7 cb8
   go_wp2_with fail
   go_quiet (fail)
   go_wp2_with fail
   go_roundg (refs.length - (j + 1))
   case measure => have := HG.out; omega
   case rel => exact ⟨j + 1, by omega, rfl, by go_num, z05 HR.out.1 _, HR.out.2.1, HR.out.2.2⟩
  ·have hjb : decide (j < refs.length) = false := by simpa using hlt
   have hjb2 : decide ((j : Int) < (refs.length : Int)) = false := by simp; omega
   go_wp2_with fail
   go_ret
   exact ⟨by simp, HR.out.1⟩
end Go.Proofs.Ytcfdplmapdgfmaa.Mine
