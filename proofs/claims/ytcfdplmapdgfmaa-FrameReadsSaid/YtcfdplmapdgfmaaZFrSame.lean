import Derived.Test.YtcfdplmapdgfmaaZFrAw
import Derived.Test.YtcfdplmapdgfmaaZFrTakeF
set_option linter.unusedVariables false
set_option linter.unusedSimpArgs false
namespace Go.Proofs.Ytcfdplmapdgfmaa.Mine
open List renaming setIfInBounds_toArray → q1, set_cons_zero → q2, set_cons_succ → q3
open Go.RowKit Go.Proofs.YtcfdplmapdgfmaaW.PrintWords
theorem rfEncode_calls (x : SayP) (v : Value) (w : World) (hv : SayV w v x) (ha : 0 ≤ x.ask) (hc : checkP x = 0) :
  Calls Try.prog 19 #[v] w fun e w' => e = .returned (.string (sb (encP x))) ∧ Below w.heap.size w w' := by
 obtain ⟨A2, c2, A3, c3, A4, c4, rfl, h2, l2, h3, l3, h4, l4⟩ := hv
 have hl : (x.refs.map fromP94).length = x.refs.length := List.length_map _
 have hb := refs_back toP94 fromP94 (fun _ => rfl) x.refs
 have h4' : Kd.C PF.k94 w A4 (x.refs.map fromP94).length (x.refs.map fromP94) := by
  rw [hl]
  refine C_iso' (d := Kd.pair Kd.string Kd.string) (f := fun y : PF.S94 => (y.f0, y.f1)) ?_
  have : (x.refs.map fromP94).map (fun y : PF.S94 => (y.f0, y.f1)) = x.refs := hb.symm
  rw [this]; exact h4
 have := PF.z16.calls 300 x.kind x.ask A2 c2 x.ids A3 c3 x.no A4 c4 (x.refs.map fromP94) x.ticket x.n x.of x.data _ w h2 l2 h3 l3 h4' (by rw [hl]; exact l4) (rf_encode x _ hb ha hc 300 (Nat.le_refl _))
 rw [hl] at this
 exact this
theorem rfDecode_calls (b : ByteArray) (w : World) (hb : b.size ≤ 1000000) :
  Calls Try.prog 21 #[.string b] w fun e w' => ∃ v, e = .returned (.tuple #[v, .int .i64 (decP (bs b)).2]) ∧ SayV w' v (decP (bs b)).1 ∧ Below w.heap.size w w' := by
 have h := rf_decode b hb
 generalize decP (bs b) = R at h ⊢
 obtain ⟨x, r⟩ := R
 refine (PF.z0z.calls 1000 b _ _ _ _ _ _ _ _ _ _ w h).mono ?_
 rintro e w' ⟨v2, v3, v4, rfl, h2, h3, h4, hbel⟩
 obtain ⟨A2, c2, rfl, l2, r2⟩ := Kd.R_reads h2
 obtain ⟨A3, c3, rfl, l3, r3⟩ := Kd.R_reads h3
 obtain ⟨A4, c4, rfl, l4, r4⟩ := Kd.R_reads h4
 have hl : (x.refs.map fromP94).length = x.refs.length := List.length_map _
 have r4' := C_iso (d := Kd.pair Kd.string Kd.string) (f := fun y : PF.S94 => (y.f0, y.f1)) r4
 have e4 : (x.refs.map fromP94).map (fun y : PF.S94 => (y.f0, y.f1)) = x.refs := (refs_back toP94 fromP94 (fun _ => rfl) x.refs).symm
 dsimp only at *
 rw [e4, hl] at r4'
 rw [hl] at l4
 rw [hl]
 exact ⟨_, rfl, ⟨A2, c2, A3, c3, A4, c4, rfl, r2, l2, r3, l3, r4', l4⟩, hbel⟩
theorem texts_l0 (l : List ByteArray) (hl : l.length ≤ 1000000000) (d : Nat) : ∀ (i k : Nat), i + d = l.length → d < k → PF.z28.l0 k l l (i : Int) = some true := by
 induction d with
 | zero =>
  intro i k hi hk
  obtain ⟨k, rfl⟩ : ∃ m, k = m + 1 := ⟨k - 1, by omega⟩
  simp only [PF.z28.l0]
  rw [if_neg (by omega)]
 | succ d ih =>
  intro i k hi hk
  obtain ⟨k, rfl⟩ : ∃ m, k = m + 1 := ⟨k - 1, by omega⟩
  simp only [PF.z28.l0]
  rw [if_pos (by omega), if_pos (by omega), if_pos (by omega), if_pos True.intro, show wrap64 ((i : Int) + 1) = ((i + 1 : Nat) : Int) from by unfold wrap64; omega]
  exact ih (i + 1) k (by omega) (by omega)
theorem texts_calls (l : List ByteArray) (A A' : Option Addr) (c c' : Nat) (w : World) (hl : l.length ≤ 1000000000) (h : Kd.C Kd.string w A l.length l) (hc : l.length ≤ c) (h' : Kd.C Kd.string w A' l.length l) (hc' : l.length ≤ c') :
  Calls Try.prog 55 #[.slice A l.length c, .slice A' l.length c'] w fun e w' => e = .returned (.bool true) ∧ Below w.heap.size w w' :=
 (PF.z28.calls (l.length + 1) A c l A' c' l true w h hc h' hc' (by
  unfold PF.z28.f
  rw [if_pos rfl]
  exact texts_l0 l hl l.length 0 _ (by omega) (by omega))).mono fun e w' h => ⟨h.1, h.2.below⟩
set_option maxRecDepth 100000 in
set_option maxHeartbeats 2000000 in
theorem same_calls (x : SayP) (v v' : Value) (w : World) (hv : SayV w v x) (hv' : SayV w v' x) (h1 : x.ids.length ≤ 100000) (h2 : x.no.length ≤ 100000) (h3 : x.refs.length ≤ 100000) :
  Calls Try.prog 20 #[v, v'] w fun e w' => e = .returned (.bool true) ∧ Below w.heap.size w w' := by
 obtain ⟨A2, c2, A3, c3, A4, c4, rfl, p2, l2, p3, l3, p4, l4⟩ := hv
 obtain ⟨B2, d2, B3, d3, B4, d4, rfl, q2, m2, q3, m3, q4, m4⟩ := hv'
 obtain ⟨kind, ask, ids, no, refs, ticket, n, of, data⟩ := x
 dsimp only at *
 have HP := Lib.hid (And.intro p2 (And.intro p3 p4))
 have HQ := Lib.hid (And.intro q2 (And.intro q3 q4))
 clear p2 p3 p4 q2 q3 q4
 have e4 : ((refs.length : Int) != (refs.length : Int)) = false := by simp
 have e4' : (refs.length != refs.length) = false := by simp
 go_enter Try.func20, Try.ntmps20
 go_wp2_with fail
 have hW : Below w.heap.size w ((w.alloc (.cells (sayC kind ask (.slice A2 ids.length c2) (.slice A3 no.length c3) (.slice A4 refs.length c4) ticket n of data) 26)).alloc (.cells (sayC kind ask (.slice B2 ids.length d2) (.slice B3 no.length d3) (.slice B4 refs.length d4) ticket n of data) 34)) := ((Below.refl _ _).alloc (Nat.le_refl _) _).alloc (by simp) _
 have hba : ((w.alloc (.cells (sayC kind ask (.slice A2 ids.length c2) (.slice A3 no.length c3) (.slice A4 refs.length c4) ticket n of data) 26)).alloc (.cells (sayC kind ask (.slice B2 ids.length d2) (.slice B3 no.length d3) (.slice B4 refs.length d4) ticket n of data) 34)).heap[w.heap.size]? = some (.cells (sayC kind ask (.slice A2 ids.length c2) (.slice A3 no.length c3) (.slice A4 refs.length c4) ticket n of data) 26 (0, 0)) := z02 (blk_new w _) _
 have hbb : ((w.alloc (.cells (sayC kind ask (.slice A2 ids.length c2) (.slice A3 no.length c3) (.slice A4 refs.length c4) ticket n of data) 26)).alloc (.cells (sayC kind ask (.slice B2 ids.length d2) (.slice B3 no.length d3) (.slice B4 refs.length d4) ticket n of data) 34)).heap[w.heap.size + 1]? = some (.cells (sayC kind ask (.slice B2 ids.length d2) (.slice B3 no.length d3) (.slice B4 refs.length d4) ticket n of data) 34 (0, 0)) := by
  have := blk_new (w.alloc (.cells (sayC kind ask (.slice A2 ids.length c2) (.slice A3 no.length c3) (.slice A4 refs.length c4) ticket n of data) 26)) (.cells (sayC kind ask (.slice B2 ids.length d2) (.slice B3 no.length d3) (.slice B4 refs.length d4) ticket n of data) 34)
  rwa [show (w.alloc (.cells (sayC kind ask (.slice A2 ids.length c2) (.slice A3 no.length c3) (.slice A4 refs.length c4) ticket n of data) 26)).heap.size = w.heap.size + 1 from by simp] at this
 have HW := Lib.hid (And.intro hW (And.intro hba hbb))
 clear hW hba hbb
 refine (texts_calls ids A2 B2 c2 d2 _ (by omega) (Kd.z1r HP.out.1 HW.out.1) l2 (Kd.z1r HQ.out.1 HW.out.1) m2).mono ?_
 rintro e1 w1 ⟨rfl, hb1⟩
 have hW1 : Below w.heap.size w w1 := z0l HW.out.1 hb1
 have hba := z0f HW.out.2.1 hb1
 have hbb := z0f HW.out.2.2 hb1
 have ca := (z21 hba).2.2.2.1
 have cb := (z21 hbb).2.2.2.1
 have HW1 := Lib.hid (And.intro hW1 (And.intro hba hbb))
 clear hb1 hW1 hba hbb HW
 go_wp2_with fail
 refine (texts_calls no A3 B3 c3 d3 _ (by omega) (Kd.z1r HP.out.2.1 HW1.out.1) l3 (Kd.z1r HQ.out.2.1 HW1.out.1) m3).mono ?_
 rintro e2 w2 ⟨rfl, hb2⟩
 have hW2 : Below w.heap.size w w2 := z0l HW1.out.1 hb2
 have HW2 := Lib.hid (And.intro hW2 (And.intro (z0f HW1.out.2.1 hb2) (z0f HW1.out.2.2 hb2)))
 clear hb2 hW2 HW1 ca cb
 go_wp2_with fail
 go_loopg [5] refs.length (fun gg s5 wr => ∃ j : Nat, j ≤ refs.length ∧ gg = refs.length - j ∧ s5 = .int .i64 j ∧ Hid (Below w.heap.size w wr ∧ wr.heap[w.heap.size]? = some (.cells (sayC kind ask (.slice A2 ids.length c2) (.slice A3 no.length c3) (.slice A4 refs.length c4) ticket n of data) 26 (0, 0)) ∧ wr.heap[w.heap.size + 1]? = some (.cells (sayC kind ask (.slice B2 ids.length d2) (.slice B3 no.length d3) (.slice B4 refs.length d4) ticket n of data) 34 (0, 0))))
 case atStart => exact ⟨0, Nat.zero_le _, rfl, rfl, HW2.out⟩
 case round =>
  obtain ⟨j, hj, hgg, rfl, HR⟩ := hrel
  have HG := Lib.hid hgg
  clear hgg HW2
  obtain ⟨ca0, ca1, ca2, ca3, ca4, ca5, ca6, ca7, ca8⟩ := z21 HR.out.2.1
  obtain ⟨cb0, cb1, cb2, cb3, cb4, cb5, cb6, cb7, cb8⟩ := z21 HR.out.2.2
  by_cases hlt : j < refs.length
  ·have hjb : decide (j < refs.length) = true := by simpa using hlt
   have hjb2 : decide ((j : Int) < (refs.length : Int)) = true := by simp; omega
   have hi0 : (0 : Int) ≤ (j : Int) := by omega
   have hi1 : (j : Int) < (refs.length : Int) := by omega
   obtain ⟨x, rfl, hx0, hx1⟩ := refC_at HP.out.2.2 j hlt
   obtain ⟨y, rfl, hy0, hy1⟩ := refC_at HQ.out.2.2 j hlt
   have hx0 := z32 HR.out.1 hx0
   have hx1 := z32 HR.out.1 hx1
   have hy0 := z32 HR.out.1 hy0
   have hy1 := z32 HR.out.1 hy1
   rw [add_field _ _ _ (by omega)] at hx1 hy1
   obtain ⟨nm, hnm⟩ : ∃ nm, nm = (refs[j]).1 := ⟨_, rfl⟩
   obtain ⟨d, hd⟩ : ∃ d, d = (refs[j]).2 := ⟨_, rfl⟩
   rw [← hnm] at hx0 hy0
   rw [← hd] at hx1 hy1
   clear hnm hd ca0 ca1 ca2 ca3 ca5 ca6 ca7 ca8 cb0 cb1 cb2 cb3 cb5 cb6 cb7 cb8
   go_wp2_with fail
   go_quiet (fail)
   go_wp2_with fail
   go_roundg (refs.length - (j + 1))
   case measure => have := HG.out; omega
   case rel => exact ⟨j + 1, by omega, rfl, by go_num, z09 HR.out.1 _, HR.out.2.1, HR.out.2.2⟩
  ·have hjb : decide (j < refs.length) = false := by simpa using hlt
   have hjb2 : decide ((j : Int) < (refs.length : Int)) = false := by simp; omega
   go_wp2_with fail
   go_ret
   exact ⟨by simp, HR.out.1⟩
end Go.Proofs.Ytcfdplmapdgfmaa.Mine
