import Derived.Test.YtcfdplmapdgfmaaYFrAw
set_option linter.unusedVariables false
set_option linter.unusedSimpArgs false
namespace Go.Proofs.Ytcfdplmapdgfmaa.Mine
open Go.RowKit Go.Proofs.YtcfdplmapdgfmaaW.PrintWords
def cutP (x : SayP) : SayP := ⟨x.kind, x.ask, x.ids.take 66, x.no.take 66, x.refs.take 258, x.ticket, x.n, x.of, if 702 < x.data.size then x.data.extract 0 702 else x.data⟩
theorem takeC {α : Type} {k : Kd α} {w : World} {A : Option Addr} {xs : List α} {m : Nat} (h : Kd.C k w A xs.length xs) (hm : m ≤ xs.length) : Kd.C k w A m (xs.take m) := by
 have := Kd.C_take h hm
 rwa [List.length_take, Nat.min_eq_left hm] at this
set_option maxRecDepth 100000 in
set_option maxHeartbeats 4000000 in
theorem cut_calls (x : SayP) (v : Value) (w : World) (hv : SayV w v x) :
  Calls Try.prog 12 #[v] w fun e w' => ∃ v', e = .returned v' ∧ SayV w' v' (cutP x) ∧ Below w.heap.size w w' := by
 obtain ⟨A2, c2, A3, c3, A4, c4, rfl, h2, l2, h3, l3, h4, l4⟩ := hv
 obtain ⟨kind, ask, ids, no, refs, ticket, n, of, data⟩ := x
 dsimp only at *
 obtain ⟨n2, hn2⟩ : ∃ n2, n2 = min 66 ids.length := ⟨_, rfl⟩
 obtain ⟨n3, hn3⟩ : ∃ n3, n3 = min 66 no.length := ⟨_, rfl⟩
 obtain ⟨n4, hn4⟩ : ∃ n4, n4 = min 258 refs.length := ⟨_, rfl⟩
 obtain ⟨dt, hdt⟩ : ∃ dt, dt = if 702 < data.size then data.extract 0 702 else data := ⟨_, rfl⟩
 have H := Lib.hid (And.intro h2 (And.intro h3 h4))
 have HN := Lib.hid (And.intro hn2 (And.intro hn3 (And.intro hn4 hdt)))
 clear h2 h3 h4 hn2 hn3 hn4 hdt
 go_enter Try.func12, Try.ntmps12
 go_upto_if 6 with (fail)
 go_cut [6] from 7 to 10 (fun s6 wz => wz = (w.alloc (.cells #[.int .i64 kind, .int .u64 ask, .slice A2 n2 c2, .slice A3 no.length c3, .slice A4 refs.length c4, .string ticket, .int .i64 n, .int .i64 of, .string data] 26)).alloc (.cells #[.int .i64 0, .int .u64 0, .slice none 0 0, .slice none 0 0, .slice none 0 0, .string ⟨#[]⟩, .int .i64 0, .int .i64 0, .string ⟨#[]⟩] 26))
 case first =>
  by_cases hb : 66 < ids.length
  ·have b1 : decide ((ids.length : Int) > 66) = true := by simp; omega
   have b2 : (66 : Int) ≤ (c2 : Int) := by omega
   have e2 : n2 = 66 := by rw [HN.out.1]; omega
   subst e2
   go_wp2_with fail
   go_meet
   rfl
  ·have b1 : decide ((ids.length : Int) > 66) = false := by simp; omega
   have e2 : n2 = ids.length := by rw [HN.out.1]; omega
   subst e2
   go_wp2_with fail
   go_meet
   rfl
 case rest =>
 subst hcut
 go_upto_if 14 with (fail)
 go_cut [14] from 15 to 18 (fun s14 wz => wz = (w.alloc (.cells #[.int .i64 kind, .int .u64 ask, .slice A2 n2 c2, .slice A3 n3 c3, .slice A4 refs.length c4, .string ticket, .int .i64 n, .int .i64 of, .string data] 26)).alloc (.cells #[.int .i64 0, .int .u64 0, .slice none 0 0, .slice none 0 0, .slice none 0 0, .string ⟨#[]⟩, .int .i64 0, .int .i64 0, .string ⟨#[]⟩] 26))
 case first =>
  by_cases hb : 66 < no.length
  ·have b1 : decide ((no.length : Int) > 66) = true := by simp; omega
   have b2 : (66 : Int) ≤ (c3 : Int) := by omega
   have e2 : n3 = 66 := by rw [HN.out.2.1]; omega
   subst e2
   go_wp2_with fail
   go_meet
   rfl
  ·have b1 : decide ((no.length : Int) > 66) = false := by simp; omega
   have e2 : n3 = no.length := by rw [HN.out.2.1]; omega
   subst e2
   go_wp2_with fail
   go_meet
   rfl
 case rest =>
 subst hcut
 go_upto_if 22 with (fail)
 go_cut [22] from 23 to 26 (fun s22 wz => wz = (w.alloc (.cells #[.int .i64 kind, .int .u64 ask, .slice A2 n2 c2, .slice A3 n3 c3, .slice A4 n4 c4, .string ticket, .int .i64 n, .int .i64 of, .string data] 26)).alloc (.cells #[.int .i64 0, .int .u64 0, .slice none 0 0, .slice none 0 0, .slice none 0 0, .string ⟨#[]⟩, .int .i64 0, .int .i64 0, .string ⟨#[]⟩] 26))
 case first =>
  by_cases hb : 258 < refs.length
  ·have b1 : decide ((refs.length : Int) > 258) = true := by simp; omega
   have b2 : (258 : Int) ≤ (c4 : Int) := by omega
   have e2 : n4 = 258 := by rw [HN.out.2.2.1]; omega
   subst e2
   go_wp2_with fail
   go_meet
   rfl
  ·have b1 : decide ((refs.length : Int) > 258) = false := by simp; omega
   have e2 : n4 = refs.length := by rw [HN.out.2.2.1]; omega
   subst e2
   go_wp2_with fail
   go_meet
   rfl
 case rest =>
 subst hcut
 go_upto_if 30 with (fail)
 go_cut [30] from 31 to 34 (fun s30 wz => wz = (w.alloc (.cells #[.int .i64 kind, .int .u64 ask, .slice A2 n2 c2, .slice A3 n3 c3, .slice A4 n4 c4, .string ticket, .int .i64 n, .int .i64 of, .string dt] 26)).alloc (.cells #[.int .i64 0, .int .u64 0, .slice none 0 0, .slice none 0 0, .slice none 0 0, .string ⟨#[]⟩, .int .i64 0, .int .i64 0, .string ⟨#[]⟩] 26))
 case first =>
  by_cases hb : 702 < data.size
  ·have b1 : decide ((data.size : Int) > 702) = true := by simp; omega
   have e2 : dt = data.extract 0 702 := by rw [HN.out.2.2.2, if_pos hb]
   subst e2
   go_wp2_with fail
   go_meet
   rfl
  ·have b1 : decide ((data.size : Int) > 702) = false := by simp; omega
   have e2 : dt = data := by rw [HN.out.2.2.2, if_neg hb]
   subst e2
   go_wp2_with fail
   go_meet
   rfl
 case rest =>
 subst hcut
 go_wp2_with fail
 have hsize : ((w.alloc (.cells (sayC kind ask (.slice A2 n2 c2) (.slice A3 n3 c3) (.slice A4 n4 c4) ticket n of dt) 26)).alloc (.cells (sayC kind ask (.slice A2 n2 c2) (.slice A3 n3 c3) (.slice A4 n4 c4) ticket n of dt) 26)).heap[w.heap.size + 1]? = some (.cells (sayC kind ask (.slice A2 n2 c2) (.slice A3 n3 c3) (.slice A4 n4 c4) ticket n of dt) 26 (0, 0)) := by
  have := blk_new (w.alloc (.cells (sayC kind ask (.slice A2 n2 c2) (.slice A3 n3 c3) (.slice A4 n4 c4) ticket n of dt) 26)) (.cells (sayC kind ask (.slice A2 n2 c2) (.slice A3 n3 c3) (.slice A4 n4 c4) ticket n of dt) 26)
  rwa [show (w.alloc (.cells (sayC kind ask (.slice A2 n2 c2) (.slice A3 n3 c3) (.slice A4 n4 c4) ticket n of dt) 26)).heap.size = w.heap.size + 1 from by simp] at this
 refine bodyPost_ret (v := .agg (sayC kind ask (.slice A2 n2 c2) (.slice A3 n3 c3) (.slice A4 n4 c4) ticket n of dt)) (results_cell_row rfl _ _ (w.heap.size + 1) 26 _ (0, 0) _ rfl hsize Try.underlying26 rfl (say_size.trans rfl)) rfl ?_
 have hbel : Below w.heap.size w ((w.alloc (.cells (sayC kind ask (.slice A2 n2 c2) (.slice A3 n3 c3) (.slice A4 n4 c4) ticket n of dt) 26)).alloc (.cells (sayC kind ask (.slice A2 n2 c2) (.slice A3 n3 c3) (.slice A4 n4 c4) ticket n of dt) 26)) := ((Below.refl _ _).alloc (Nat.le_refl _) _).alloc (by simp) _
 refine ⟨_, rfl, ?_, hbel⟩
 have e2 : (ids.take 66).length = n2 := by rw [List.length_take, HN.out.1]
 have e3 : (no.take 66).length = n3 := by rw [List.length_take, HN.out.2.1]
 have e4 : (refs.take 258).length = n4 := by rw [List.length_take, HN.out.2.2.1]
 have t2 : ids.take 66 = ids.take n2 := by rw [HN.out.1]; exact (List.take_eq_take_iff.2 (by omega))
 have t3 : no.take 66 = no.take n3 := by rw [HN.out.2.1]; exact (List.take_eq_take_iff.2 (by omega))
 have t4 : refs.take 258 = refs.take n4 := by rw [HN.out.2.2.1]; exact (List.take_eq_take_iff.2 (by omega))
 have ed : (if 702 < data.size then data.extract 0 702 else data) = dt := HN.out.2.2.2.symm
 unfold cutP
 dsimp only
 rw [ed]
 refine ⟨A2, c2, A3, c3, A4, c4, ?_, ?_, ?_, ?_, ?_, ?_, ?_⟩
 ·dsimp only; rw [e2, e3, e4]; rfl
 ·dsimp only; rw [e2, t2]; exact takeC (Kd.z12 H.out.1 hbel) (by rw [HN.out.1]; omega)
 ·dsimp only; rw [e2, HN.out.1]; omega
 ·dsimp only; rw [e3, t3]; exact takeC (Kd.z12 H.out.2.1 hbel) (by rw [HN.out.2.1]; omega)
 ·dsimp only; rw [e3, HN.out.2.1]; omega
 ·dsimp only; rw [e4, t4]; exact takeC (Kd.z12 H.out.2.2 hbel) (by rw [HN.out.2.2.1]; omega)
 ·dsimp only; rw [e4, HN.out.2.2.1]; omega
end Go.Proofs.Ytcfdplmapdgfmaa.Mine
