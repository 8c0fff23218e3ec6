import Derived.Test.YtcfdplmapdgfmaaYFrP
import Derived.Deep.LoopGhost
set_option linter.unusedVariables false
set_option linter.unusedSimpArgs false
namespace Go.Proofs.Ytcfdplmapdgfmaa.Mine
open List renaming setIfInBounds_toArray → q1, set_cons_zero → q2, set_cons_succ → q3
open Go.RowKit Go.Proofs.YtcfdplmapdgfmaaW.PrintWords Go.Proofs.Ytcfdplmapdgfmaa.PG
theorem unframe_calls (s : ByteArray) (w : World) (hs : s.size ≤ 140737488351232) :
  Calls Try.prog 46 #[.string s] w fun e w' => e = .returned (.tuple #[.string (sb (unframe (bs s)).1), .int .i64 (unframe (bs s)).2.1, .int .i64 (unframe (bs s)).2.2]) ∧ Below w.heap.size w w' :=
 PN.z2c.calls s _ _ _ w (codeUnframe s hs)
def sayC (kind ask : Int) (v2 v3 v4 : Value) (ticket : ByteArray) (n of : Int) (data : ByteArray) : Array Value := #[.int .i64 kind, .int .u64 ask, v2, v3, v4, .string ticket, .int .i64 n, .int .i64 of, .string data]
def nilV : Value := .slice none 0 0
def zeroC : Array Value := sayC 0 0 nilV nilV nilV ⟨#[]⟩ 0 0 ⟨#[]⟩
structure DW (w W : World) (B G O : Nat) (a : St) (cs : Array Value) : Prop where
 tk : IsS100 w W G (sb a.1) a.2
 rb : W.heap[B]? = some (.cells zeroC 26 (0, 0))
 ob : W.heap[O]? = some (.cells cs 26 (0, 0))
 bel : Below w.heap.size w W
 bge : w.heap.size ≤ B
 oge : w.heap.size ≤ O
 ne : B ≠ O
theorem DW.call {w W W' : World} {B G O : Nat} {a a' : St} {cs : Array Value} (h : DW w W B G O a cs) (hI : IsS100 w W' G (sb a'.1) a'.2) (hB : Below w.heap.size w W') (hK : KeepBut W W' G none) : DW w W' B G O a' cs :=
 ⟨hI, hK.blk h.rb (fun e => h.tk.ne_blk h.rb (by decide) e.symm) (by simp), hK.blk h.ob (fun e => h.tk.ne_blk h.ob (by decide) e.symm) (by simp), hB, h.bge, h.oge, h.ne⟩
theorem DW.set {w W : World} {B G O : Nat} {a : St} {cs : Array Value} (h : DW w W B G O a cs) (j : Nat) (u : Value) : DW w (W.setCell ⟨O, j, none⟩ u) B G O a (cs.setIfInBounds j u) :=
 ⟨h.tk.far (h.tk.ne_blk h.ob (by decide)) u, blk_far h.rb h.ne u, blk_set h.ob j u, z08 h.bel h.oge, h.bge, h.oge, h.ne⟩
theorem DW.other {w W : World} {B G O : Nat} {a : St} {cs : Array Value} (h : DW w W B G O a cs) {p : Addr} (u : Value) (hp : W.heap.size = p.block ∨ ∃ t c, W.heap[p.block]? = some (.cells c t (0, 0)) ∧ t = 91) (hge : w.heap.size ≤ p.block) : DW w (W.setCell p u) B G O a cs := by
 have n1 : G ≠ p.block := by
  rcases hp with hp | ⟨t, c, hc, rfl⟩
  ·have := h.tk.lt; omega
  ·exact h.tk.ne_blk hc (by decide)
 have n2 : B ≠ p.block := by
  rcases hp with hp | ⟨t, c, hc, rfl⟩
  ·have := blk_lt h.rb; omega
  ·exact blk_ne h.rb hc (by decide)
 have n3 : O ≠ p.block := by
  rcases hp with hp | ⟨t, c, hc, rfl⟩
  ·have := blk_lt h.ob; omega
  ·exact blk_ne h.ob hc (by decide)
 exact ⟨h.tk.far n1 u, blk_far h.rb n2 u, blk_far h.ob n3 u, h.bel.setCell hge u, h.bge, h.oge, h.ne⟩
theorem DW.below {w W W' : World} {B G O : Nat} {a : St} {cs : Array Value} (h : DW w W B G O a cs) (hb : Below W.heap.size W W') : DW w W' B G O a cs :=
 ⟨h.tk.below hb, (hb.block _ (blk_lt h.rb)).trans h.rb, (hb.block _ (blk_lt h.ob)).trans h.ob, z0i h.bel hb, h.bge, h.oge, h.ne⟩
theorem DW.alloc {w W : World} {B G O : Nat} {a : St} {cs : Array Value} (h : DW w W B G O a cs) (o : Obj) : DW w (W.alloc o) B G O a cs := h.below (z03 (Below.refl _ _) o)
def IdR (w W : World) (v : Value) (l : List ByteArray) : Prop := Kd.R Kd.string 9 W w.heap.size (fun _ => True) v l
def RefR (w W : World) (v : Value) (l : List RefP) : Prop := Kd.R refK 91 W w.heap.size (fun _ => True) v l
theorem idE : ∀ q, q ∈ 9 :: Kd.string.E → q = 9 := by intro q hq; simpa [Kd.string, Kd.scalar] using hq
theorem refE : ∀ q, q ∈ 91 :: refK.E → q = 91 := by intro q hq; simpa [refK, Kd.pair, Kd.string, Kd.scalar] using hq
section
variable {w W W' : World} {B G O : Nat} {a : St} {cs : Array Value} {v : Value} {l : List ByteArray} {r : List RefP}
theorem IdR.call (h : IdR w W v l) (D : DW w W B G O a cs) (hK : KeepBut W W' G none) : IdR w W' v l :=
 Kd.z1o (Kd.R_keep (D.tk.apart h (fun q hq => by rw [idE q hq]; decide)) hK (fun _ hk => hk.2)) (fun _ _ => trivial)
theorem RefR.call (h : RefR w W v r) (D : DW w W B G O a cs) (hK : KeepBut W W' G none) : RefR w W' v r :=
 Kd.z1o (Kd.R_keep (D.tk.apart h (fun q hq => by rw [refE q hq]; decide)) hK (fun _ hk => hk.2)) (fun _ _ => trivial)
theorem IdR.set (h : IdR w W v l) (D : DW w W B G O a cs) (j : Nat) (u : Value) : IdR w (W.setCell ⟨O, j, none⟩ u) v l := Kd.R_set h D.ob (fun q hq => by rw [idE q hq]; decide) j u
theorem RefR.set (h : RefR w W v r) (D : DW w W B G O a cs) (j : Nat) (u : Value) : RefR w (W.setCell ⟨O, j, none⟩ u) v r := Kd.R_set h D.ob (fun q hq => by rw [refE q hq]; decide) j u
theorem IdR.below (h : IdR w W v l) (hb : Below W.heap.size W W') : IdR w W' v l := Kd.z1p h hb
theorem RefR.below (h : RefR w W v r) (hb : Below W.heap.size W W') : RefR w W' v r := Kd.z1p h hb
theorem IdR.nil (w W : World) : IdR w W nilV [] := Kd.R_nil _ _ _ _ _
theorem RefR.nil (w W : World) : RefR w W nilV [] := Kd.R_nil _ _ _ _ _
end
def nine (W : World) (B : Nat) (u0 u1 u2 u3 u4 u5 u6 u7 u8 : Value) : World :=
 ((((((((W.setCell ⟨B, 0, none⟩ u0).setCell ⟨B, 1, none⟩ u1).setCell ⟨B, 2, none⟩ u2).setCell ⟨B, 3, none⟩ u3).setCell ⟨B, 4, none⟩ u4).setCell ⟨B, 5, none⟩ u5).setCell ⟨B, 6, none⟩ u6).setCell ⟨B, 7, none⟩ u7).setCell ⟨B, 8, none⟩ u8
theorem nine_blk' {W : World} {B : Nat} {t : TypeId} {x0 x1 x2 x3 x4 x5 x6 x7 x8 : Value} (h : W.heap[B]? = some (.cells #[x0, x1, x2, x3, x4, x5, x6, x7, x8] t (0, 0))) (u0 u1 u2 u3 u4 u5 u6 u7 u8 : Value) :
  (((((((((W.setCell ⟨B, 0, none⟩ u0).setCell ⟨B, 1, none⟩ u1).setCell ⟨B, 2, none⟩ u2).setCell ⟨B, 3, none⟩ u3).setCell ⟨B, 4, none⟩ u4).setCell ⟨B, 5, none⟩ u5).setCell ⟨B, 6, none⟩ u6).setCell ⟨B, 7, none⟩ u7).setCell ⟨B, 8, none⟩ u8).heap[B]? = some (.cells #[u0, u1, u2, u3, u4, u5, u6, u7, u8] t (0, 0)) := by
 have h0 : (W.setCell ⟨B, 0, none⟩ u0).heap[B]? = some (.cells #[u0, x1, x2, x3, x4, x5, x6, x7, x8] t (0, 0)) := blk_put h 0 u0 rfl
 have h1 : ((W.setCell ⟨B, 0, none⟩ u0).setCell ⟨B, 1, none⟩ u1).heap[B]? = some (.cells #[u0, u1, x2, x3, x4, x5, x6, x7, x8] t (0, 0)) := blk_put h0 1 u1 rfl
 have h2 : (((W.setCell ⟨B, 0, none⟩ u0).setCell ⟨B, 1, none⟩ u1).setCell ⟨B, 2, none⟩ u2).heap[B]? = some (.cells #[u0, u1, u2, x3, x4, x5, x6, x7, x8] t (0, 0)) := blk_put h1 2 u2 rfl
 have h3 : ((((W.setCell ⟨B, 0, none⟩ u0).setCell ⟨B, 1, none⟩ u1).setCell ⟨B, 2, none⟩ u2).setCell ⟨B, 3, none⟩ u3).heap[B]? = some (.cells #[u0, u1, u2, u3, x4, x5, x6, x7, x8] t (0, 0)) := blk_put h2 3 u3 rfl
 have h4 : (((((W.setCell ⟨B, 0, none⟩ u0).setCell ⟨B, 1, none⟩ u1).setCell ⟨B, 2, none⟩ u2).setCell ⟨B, 3, none⟩ u3).setCell ⟨B, 4, none⟩ u4).heap[B]? = some (.cells #[u0, u1, u2, u3, u4, x5, x6, x7, x8] t (0, 0)) := blk_put h3 4 u4 rfl
 have h5 : ((((((W.setCell ⟨B, 0, none⟩ u0).setCell ⟨B, 1, none⟩ u1).setCell ⟨B, 2, none⟩ u2).setCell ⟨B, 3, none⟩ u3).setCell ⟨B, 4, none⟩ u4).setCell ⟨B, 5, none⟩ u5).heap[B]? = some (.cells #[u0, u1, u2, u3, u4, u5, x6, x7, x8] t (0, 0)) := blk_put h4 5 u5 rfl
 have h6 : (((((((W.setCell ⟨B, 0, none⟩ u0).setCell ⟨B, 1, none⟩ u1).setCell ⟨B, 2, none⟩ u2).setCell ⟨B, 3, none⟩ u3).setCell ⟨B, 4, none⟩ u4).setCell ⟨B, 5, none⟩ u5).setCell ⟨B, 6, none⟩ u6).heap[B]? = some (.cells #[u0, u1, u2, u3, u4, u5, u6, x7, x8] t (0, 0)) := blk_put h5 6 u6 rfl
 have h7 : ((((((((W.setCell ⟨B, 0, none⟩ u0).setCell ⟨B, 1, none⟩ u1).setCell ⟨B, 2, none⟩ u2).setCell ⟨B, 3, none⟩ u3).setCell ⟨B, 4, none⟩ u4).setCell ⟨B, 5, none⟩ u5).setCell ⟨B, 6, none⟩ u6).setCell ⟨B, 7, none⟩ u7).heap[B]? = some (.cells #[u0, u1, u2, u3, u4, u5, u6, u7, x8] t (0, 0)) := blk_put h6 7 u7 rfl
 have h8 : (((((((((W.setCell ⟨B, 0, none⟩ u0).setCell ⟨B, 1, none⟩ u1).setCell ⟨B, 2, none⟩ u2).setCell ⟨B, 3, none⟩ u3).setCell ⟨B, 4, none⟩ u4).setCell ⟨B, 5, none⟩ u5).setCell ⟨B, 6, none⟩ u6).setCell ⟨B, 7, none⟩ u7).setCell ⟨B, 8, none⟩ u8).heap[B]? = some (.cells #[u0, u1, u2, u3, u4, u5, u6, u7, u8] t (0, 0)) := blk_put h7 8 u8 rfl
 exact h8
theorem nine_blk {W : World} {B : Nat} {t : TypeId} (a b : Int) (v2 v3 v4 : Value) (c : ByteArray) (d e : Int) (f : ByteArray) (h : W.heap[B]? = some (.cells (sayC a b v2 v3 v4 c d e f) t (0, 0))) (u0 u1 u2 u3 u4 u5 u6 u7 u8 : Value) :
  (nine W B u0 u1 u2 u3 u4 u5 u6 u7 u8).heap[B]? = some (.cells #[u0, u1, u2, u3, u4, u5, u6, u7, u8] t (0, 0)) := by
 unfold nine
 exact nine_blk' h u0 u1 u2 u3 u4 u5 u6 u7 u8
theorem nine_keep (W : World) (B : Nat) (u0 u1 u2 u3 u4 u5 u6 u7 u8 : Value) : KeepBut W (nine W B u0 u1 u2 u3 u4 u5 u6 u7 u8) B none := by
 unfold nine
 exact ((((((((((KeepBut.refl W B none).set_ 0 u0).set_ 1 u1).set_ 2 u2).set_ 3 u3).set_ 4 u4).set_ 5 u5).set_ 6 u6).set_ 7 u7).set_ 8 u8)
theorem nine_below {w W : World} {B : Nat} (h : Below w.heap.size w W) (hB : w.heap.size ≤ B) (u0 u1 u2 u3 u4 u5 u6 u7 u8 : Value) : Below w.heap.size w (nine W B u0 u1 u2 u3 u4 u5 u6 u7 u8) := by
 unfold nine
 exact z08 (z08 (z08 (z08 (z08 (z08 (z08 (z08 (z08 h hB) hB) hB) hB) hB) hB) hB) hB) hB
theorem z11 {W : World} {B : Nat} {t : TypeId} {a b : Int} {v2 v3 v4 : Value} {c : ByteArray} {d e : Int} {f : ByteArray} (h : W.heap[B]? = some (.cells (sayC a b v2 v3 v4 c d e f) t (0, 0))) :
  W.cell? ⟨B, 0, none⟩ = some (.int .i64 a) ∧ W.cell? ⟨B, 1, none⟩ = some (.int .u64 b) ∧ W.cell? ⟨B, 2, none⟩ = some v2 ∧ W.cell? ⟨B, 3, none⟩ = some v3 ∧ W.cell? ⟨B, 4, none⟩ = some v4 ∧ W.cell? ⟨B, 5, none⟩ = some (.string c) ∧ W.cell? ⟨B, 6, none⟩ = some (.int .i64 d) ∧ W.cell? ⟨B, 7, none⟩ = some (.int .i64 e) ∧ W.cell? ⟨B, 8, none⟩ = some (.string f) :=
 ⟨(z00 h 0).trans rfl, (z00 h 1).trans rfl, (z00 h 2).trans rfl, (z00 h 3).trans rfl, (z00 h 4).trans rfl, (z00 h 5).trans rfl, (z00 h 6).trans rfl, (z00 h 7).trans rfl, (z00 h 8).trans rfl⟩
theorem zero_say (w : World) : SayV w (.agg zeroC) SayP.zero :=
 ⟨none, 0, none, 0, none, 0, rfl, ⟨rfl, by simp [SayP.zero], fun h => absurd h (Nat.lt_irrefl 0)⟩, Nat.le_refl _, ⟨rfl, by simp [SayP.zero], fun h => absurd h (Nat.lt_irrefl 0)⟩, Nat.le_refl _, ⟨rfl, by simp [SayP.zero], fun h => absurd h (Nat.lt_irrefl 0)⟩, Nat.le_refl _⟩
theorem row_say {w W : World} {v2 v3 v4 : Value} {x : SayP} (h2 : IdR w W v2 x.ids) (h3 : IdR w W v3 x.no) (h4 : RefR w W v4 x.refs) : SayV W (.agg (sayC x.kind x.ask v2 v3 v4 x.ticket x.n x.of x.data)) x := by
 obtain ⟨A2, c2, rfl, l2, r2⟩ := Kd.R_reads h2
 obtain ⟨A3, c3, rfl, l3, r3⟩ := Kd.R_reads h3
 obtain ⟨A4, c4, rfl, l4, r4⟩ := Kd.R_reads h4
 exact ⟨A2, c2, A3, c3, A4, c4, rfl, r2, l2, r3, l3, r4, l4⟩
theorem id_nine {w W W' : World} {v : Value} {l : List ByteArray} {B : Nat} {cs : Array Value} (h : IdR w W v l) (hb : W.heap[B]? = some (.cells cs 26 (0, 0))) (hK : KeepBut W W' B none) : IdR w W' v l :=
 Kd.z1o (Kd.R_keep (Kd.R_types h hb (fun q hq => by rw [idE q hq]; decide)) hK (fun _ hk => hk.2)) (fun _ _ => trivial)
theorem ref_nine {w W W' : World} {v : Value} {l : List RefP} {B : Nat} {cs : Array Value} (h : RefR w W v l) (hb : W.heap[B]? = some (.cells cs 26 (0, 0))) (hK : KeepBut W W' B none) : RefR w W' v l :=
 Kd.z1o (Kd.R_keep (Kd.R_types h hb (fun q hq => by rw [refE q hq]; decide)) hK (fun _ hk => hk.2)) (fun _ _ => trivial)
theorem R_callD {α : Type} {d : Kd α} {e : Nat} {w W W' : World} {B G O : Nat} {a : St} {cs : Array Value} {base : Nat} {ok : Nat → Prop} {v : Value} {xs : List α} (h : d.R e W base ok v xs) (D : DW w W B G O a cs) (ht : ∀ q, q ∈ e :: d.E → q ≠ 100) (hK : KeepBut W W' G none) : d.R e W' base ok v xs :=
 Kd.z1o (Kd.R_keep (D.tk.apart h ht) hK (fun _ hk => hk.2)) (fun _ hk => hk.1)
theorem RefR.fresh {w W : World} {v : Value} {l : List RefP} (h : RefR w W v l) : Kd.R refK 91 W w.heap.size (fun k => k ≠ W.heap.size) v l :=
 Kd.z1o (Kd.R_bound h) (fun k hk => by have := hk.2.2.1; omega)
theorem info_ref : (Try.prog.info? 91).map (fun i => (i.zero, i.size, i.bytes)) = some (some (.agg #[(.string ⟨#[]⟩), (.string ⟨#[]⟩)]), refK.sz, 32) := by kernel_rfl
theorem DW.grown {w W W' : World} {B G O : Nat} {a : St} {cs : Array Value} {v : Value} {l : List RefP} (h : DW w W B G O a cs) (hr : RefR w W v l) (hg : W.grownBy W' v.ownBlock) (hb : Below w.heap.size w W') : DW w W' B G O a cs :=
 ⟨h.tk.grown hg (h.tk.own_ne hr (by decide)), blk_grown h.rb hg (Kd.R_ne hr h.rb (by decide)), blk_grown h.ob hg (Kd.R_ne hr h.ob (by decide)), hb, h.bge, h.oge, h.ne⟩
theorem IdR.grown {w W W' : World} {v u : Value} {l : List RefP} {x : List ByteArray} (h : IdR w W u x) (hr : RefR w W v l) (hg : W.grownBy W' v.ownBlock) : IdR w W' u x :=
 Kd.R_over' h (Kd.R_typed hr) (fun q hq => by rw [idE q hq]; decide) hg
theorem set_size (w : World) (p : Addr) (u : Value) : (w.setCell p u).heap.size = w.heap.size := by simp [World.setCell]
theorem say_size : (Try.prog.info? 26).map (·.size) = some 9 := by kernel_rfl
theorem zero_end {fr : Act} {w W : World} {B : Nat} {R : SayP × Int} {r : Int} (h2 : fr.tmps.getD 2 undef = .pointer (some ⟨B, 0, none⟩)) (h3 : fr.tmps.getD 3 undef = .int .i64 r) (hd : fr.defers = []) (hb : W.heap[B]? = some (.cells zeroC 26 (0, 0))) (hbel : Below w.heap.size w W) (hge : w.heap.size ≤ B) (hR : R = (SayP.zero, r)) :
  bodyPost Try.prog Try.f18 (fun e w' => ∃ v, e = Ending.returned (.tuple #[v, .int .i64 R.2]) ∧ SayV w' v R.1 ∧ Below w.heap.size w w') .ret fr (nine W B (.int .i64 0) (.int .u64 0) nilV nilV nilV (.string ⟨#[]⟩) (.int .i64 0) (.int .i64 0) (.string ⟨#[]⟩)) := by
 subst hR
 refine bodyPost_ret (results_ct rfl _ _ B 26 zeroC (0, 0) _ h2 (nine_blk _ _ _ _ _ _ _ _ _ hb _ _ _ _ _ _ _ _ _) Try.underlying26 rfl (say_size.trans rfl)) hd ?_
 rw [h3]
 exact ⟨.agg zeroC, rfl, zero_say _, nine_below hbel hge _ _ _ _ _ _ _ _ _⟩
theorem say_end {fr : Act} {w W : World} {B : Nat} {R : SayP × Int} {x : SayP} {v2 v3 v4 : Value} (h2 : fr.tmps.getD 2 undef = .pointer (some ⟨B, 0, none⟩)) (h3 : fr.tmps.getD 3 undef = .int .i64 0) (hd : fr.defers = []) (hb : W.heap[B]? = some (.cells zeroC 26 (0, 0))) (hbel : Below w.heap.size w W) (hge : w.heap.size ≤ B) (r2 : IdR w W v2 x.ids) (r3 : IdR w W v3 x.no) (r4 : RefR w W v4 x.refs) (hR : R = (x, 0)) :
  bodyPost Try.prog Try.f18 (fun e w' => ∃ v, e = Ending.returned (.tuple #[v, .int .i64 R.2]) ∧ SayV w' v R.1 ∧ Below w.heap.size w w') .ret fr (nine W B (.int .i64 x.kind) (.int .u64 x.ask) v2 v3 v4 (.string x.ticket) (.int .i64 x.n) (.int .i64 x.of) (.string x.data)) := by
 subst hR
 have hK := nine_keep W B (.int .i64 x.kind) (.int .u64 x.ask) v2 v3 v4 (.string x.ticket) (.int .i64 x.n) (.int .i64 x.of) (.string x.data)
 refine bodyPost_ret (results_ct rfl _ _ B 26 (sayC x.kind x.ask v2 v3 v4 x.ticket x.n x.of x.data) (0, 0) _ h2 (nine_blk _ _ _ _ _ _ _ _ _ hb _ _ _ _ _ _ _ _ _) Try.underlying26 rfl (say_size.trans rfl)) hd ?_
 rw [h3]
 exact ⟨_, rfl, row_say (id_nine r2 hb hK) (id_nine r3 hb hK) (ref_nine r4 hb hK), nine_below hbel hge _ _ _ _ _ _ _ _ _⟩
set_option maxRecDepth 100000 in
set_option maxHeartbeats 8000000 in
theorem frDecode_calls (b : ByteArray) (w : World) (hs : b.size ≤ 1000000) :
  Calls Try.prog 18 #[.string b] w fun e w' => ∃ v, e = .returned (.tuple #[v, .int .i64 (decP (bs b)).2]) ∧ SayV w' v (decP (bs b)).1 ∧ Below w.heap.size w w' := by
 obtain ⟨u, hu⟩ : ∃ u, u = unframe (bs b) := ⟨_, rfl⟩
 have hok := unframe_okl (bs b) (okl_bs b (by omega))
 have hdec : decP (bs b) = if u.2.2 ≠ 0 then (SayP.zero, (u.2.2 : Int)) else if u.2.1 ≠ b.size then (SayP.zero, 5) else if (takeAll u.1).good then ((takeAll u.1).say, 0) else (SayP.zero, 230) := by
  rw [hu, ← z17]; rfl
 rw [← hu] at hok
 generalize decP (bs b) = R at hdec ⊢
 obtain ⟨t, n, e⟩ := u
 dsimp only at *
 have HU := Lib.hid hu
 have HD := Lib.hid hdec
 have HOK := Lib.hid hok
 clear hu hdec hok
 go_enter Try.func18, Try.ntmps18
 go_wp2_with fail
 refine (unframe_calls b _ (by omega)).mono ?_
 rintro e1 w1 ⟨rfl, hb1⟩
 rw [← HU.out]
 have hblk : w1.heap[w.heap.size]? = some (.cells zeroC 26 (0, 0)) := z0m (blk_new w _) hb1
 have hbel : Below w.heap.size w w1 := ((Below.refl _ w).alloc (Nat.le_refl _) _).trans (hb1.mono (by simp))
 have HB1 := Lib.hid (And.intro hblk hbel)
 have HC1 := Lib.hid (z11 hblk)
 have HF1 := Lib.hid (z02 hblk)
 clear hb1 hblk hbel
 by_cases he : e = 0
 case neg =>
  have heb : ((e : Int) != 0) = true := by simp; omega
  have HR : Hid (R = (SayP.zero, (e : Int))) := by unfold Hid; rw [HD.out, if_pos he]
  clear he HD
  obtain ⟨c0, c1, c2, c3, c4, c5, c6, c7, c8⟩ := HC1.out
  have f0 := HF1.out 0
  have f1 := HF1.out 1
  have f2 := HF1.out 2
  have f3 := HF1.out 3
  have f4 := HF1.out 4
  have f5 := HF1.out 5
  have f6 := HF1.out 6
  have f7 := HF1.out 7
  have f8 := HF1.out 8
  unfold nilV at c2 c3 c4
  go_wp2_with fail
  exact zero_end rfl rfl rfl HB1.out.1 HB1.out.2 (Nat.le_refl _) HR.out
 case pos =>
 subst he
 have heb : (((0 : Nat) : Int) != 0) = false := by rfl
 by_cases hn : n = b.size
 case neg =>
  have hnb : ((n : Int) != (b.size : Int)) = true := by simp; omega
  have hnb' : (n != b.size) = true := by simpa using hn
  have HR : Hid (R = (SayP.zero, 5)) := by unfold Hid; rw [HD.out, if_neg (by decide), if_pos hn]
  clear hn HD
  obtain ⟨c0, c1, c2, c3, c4, c5, c6, c7, c8⟩ := HC1.out
  have f0 := HF1.out 0
  have f1 := HF1.out 1
  have f2 := HF1.out 2
  have f3 := HF1.out 3
  have f4 := HF1.out 4
  have f5 := HF1.out 5
  have f6 := HF1.out 6
  have f7 := HF1.out 7
  have f8 := HF1.out 8
  unfold nilV at c2 c3 c4
  go_wp2_with fail
  exact zero_end rfl rfl rfl HB1.out.1 HB1.out.2 (Nat.le_refl _) HR.out
 case pos =>
 have hnb : ((n : Int) != (b.size : Int)) = false := by simp; omega
 have hnb' : (n != b.size) = false := by simpa using hn
 have HR : Hid (R = if (takeAll t).good then ((takeAll t).say, 0) else (SayP.zero, 230)) := by unfold Hid; rw [HD.out, if_neg (by decide), if_neg (by simpa using hn)]
 clear hn HD
 have hch := chain_all t
 have hO := hch.ok HOK.out
 generalize takeAll t = T at HR hch hO
 have hx0 := fr_bytes (t, true) 1
 rw [show ((1 : Nat) : Int) = 1 from rfl, hch.e0] at hx0
 have HX0 := Lib.hid hx0
 have HCH := Lib.hid hch
 have HO := Lib.hid hO
 clear hx0 hch hO
 have hI0 := IsS100.new w w1 (sb t) true HB1.out.2
 have hB0 := z03 HB1.out.2 (.cells #[.string (sb t), .bool true] 100)
 have hrb0 := z0a HB1.out.1 (.cells #[.string (sb t), .bool true] 100)
 have hlt : w.heap.size < w1.heap.size := blk_lt HB1.out.1
 have H0 := Lib.hid (And.intro hI0 (And.intro hB0 (And.intro hrb0 hlt)))
 clear hI0 hB0 hrb0 hlt HC1 HF1
 go_wp2_with fail
 refine (z2j.calls w1.heap.size (sb t) true 1 (sb T.k) (sb T.a0.1) T.a0.2 w _ H0.out.1 H0.out.2.1 HX0.out).mono ?_
 rintro e2 w2 ⟨rfl, hI, hB, hK⟩
 have hD : ∀ cs, DW w (w2.alloc (.cells cs 26)) w.heap.size w1.heap.size w2.heap.size T.a0 cs := fun cs =>
  ⟨hI.alloc _, z0a (hK.blk H0.out.2.2.1 (by have := H0.out.2.2.2; omega) (by simp)) _, blk_new w2 _, z03 hB _, Nat.le_refl _, hB.size, by have := H0.out.2.2.2; have := hI.lt; omega⟩
 have HD0 := Lib.hid hD
 clear hI hB hK hD H0
 have cok : (w2.alloc (.cells #[.int .i64 0, .int .u64 0, .slice none 0 0, .slice none 0 0, .slice none 0 0, .string ⟨#[]⟩, .int .i64 0, .int .i64 0, .string ⟨#[]⟩] 26)).cell? ⟨w1.heap.size, 1, none⟩ = some (.bool T.a0.2) := z2a (HD0.out _).tk.1
 have heb2 := heb
 go_upto_if 35 with (fail)
 go_cut [35] from 36 to 39 (fun s35 wx => Hid (DW w wx w.heap.size w1.heap.size w2.heap.size T.a0 (sayC ((if T.a0.2 = true then T.k.headD 0 else 0 : Nat) : Int) 0 nilV nilV nilV ⟨#[]⟩ 0 0 ⟨#[]⟩)))
 case first =>
  by_cases h0 : T.a0.2 = true
  ·rw [h0] at cok
   have lk := (bytesS_inv' HCH.out.e0 h0).2.2
   have hsz : 0 < (sb T.k).size := by rw [z0y]; omega
   have hv : ∀ h : 0 < (sb T.k).size, wrap64 ((((sb T.k)[0]'h).toNat : Nat) : Int) = ((if T.a0.2 = true then T.k.headD 0 else 0 : Nat) : Int) := by
    intro h
    rw [if_pos h0]
    obtain ⟨c, hcc⟩ : ∃ c, T.k = [c] := by
     match T.k, lk with
     | [c], _ => exact ⟨c, rfl⟩
    have hc256 : c < 256 := HO.out.gk.1 c (by rw [hcc]; simp)
    have e1 : (((sb T.k)[0]'h).toNat : Int) = bt (sb T.k) 0 := bt_at (sb T.k) 0 h
    rw [e1, hcc]
    obtain ⟨c', _, hd', hb'⟩ := bt_bs (sb [c]) 0 (by rw [z0y]; exact Nat.one_pos)
    rw [bs_sb [c] (by intro x hx; rw [List.mem_singleton] at hx; omega)] at hd'
    simp only [List.drop_zero, List.cons.injEq] at hd'
    rw [show ((0 : Nat) : Int) = 0 from rfl, ← hd'.1] at hb'
    rw [hb', w64n c (by omega)]; rfl
   have HV := Lib.hid hv
   clear hv lk
   go_wp2_with fail
   all_goals first
    | (exfalso; rename_i hz; rw [h0] at hz; exact (Bool.noConfusion hz : False))
    | (go_meet; unfold Hid; rw [HV.out]; exact HD0.out _)
  ·have h0' : T.a0.2 = false := by simpa using h0
   rw [h0'] at cok
   go_wp2_with fail
   all_goals first
    | (exfalso; rename_i hz; rw [h0'] at hz; exact (Bool.noConfusion hz : False))
    | (go_meet; unfold Hid; rw [if_neg h0]; exact HD0.out _)
 case rest =>
  have HDa := hcut
  have heb3 := heb
  clear hcut heb heb2 heb3 hnb hnb' HX0 HD0 cok HOK HU HB1
  obtain ⟨kd, hkd⟩ : ∃ kd : Nat, kd = if T.a0.2 = true then T.k.headD 0 else 0 := ⟨_, rfl⟩
  rw [← hkd] at HDa
  have HKD := Lib.hid hkd
  clear hkd
  -- Ask
  have hx1 := fr_num T.a0 4611686018427387904 HO.out.g0
  rw [HCH.out.e1, show ((4611686018427387904 : Nat) : Int) = 4611686018427387904 from rfl] at hx1
  have hx2 := fr_ids T.a1 HO.out.g1
  rw [HCH.out.e2] at hx2
  have hx3 := fr_ids T.a2 HO.out.g2
  rw [HCH.out.e3] at hx3
  have hx4 := fr_num T.a3 256 HO.out.g3
  rw [HCH.out.e4, show ((256 : Nat) : Int) = 256 from rfl] at hx4
  have HX1 := Lib.hid hx1
  have HX2 := Lib.hid hx2
  have HX3 := Lib.hid hx3
  have HX4 := Lib.hid hx4
  clear hx1 hx2 hx3 hx4
  go_wp2_with fail
  refine (z2d.calls w1.heap.size (sb T.a0.1) T.a0.2 4611686018427387904 T.ask (sb T.a1.1) T.a1.2 w _ HDa.out.tk HDa.out.bel HX1.out).mono ?_
  rintro e3 w3 ⟨rfl, hI, hB, hK⟩
  have hD := HDa.out.call hI hB hK
  have c1 := (z11 hD.ob).2.1
  have f1 := z02 hD.ob 1
  have hS : DW w (w3.setCell ⟨w2.heap.size, 1, none⟩ (.int .u64 T.ask)) w.heap.size w1.heap.size w2.heap.size T.a1 (sayC kd T.ask nilV nilV nilV ⟨#[]⟩ 0 0 ⟨#[]⟩) := hD.set 1 (.int .u64 T.ask)
  have HDb := Lib.hid hS
  clear hI hB hK hD hS HDa HX1
  go_wp2_with fail
  refine (z16.calls 100 w1.heap.size (sb T.a1.1) T.a1.2 T.ids (sb T.a2.1) T.a2.2 w _ HDb.out.tk HDb.out.bel HX2.out).mono ?_
  rintro e4 w4 ⟨v2, rfl, hr2, hI, hB, hK⟩
  obtain ⟨A2, k2, rfl, l2, _⟩ := Kd.R_reads hr2
  have HD4 := Lib.hid (HDb.out.call hI hB hK)
  have H2 : Hid (IdR w w4 (.slice A2 T.ids.length k2) T.ids) := Kd.z20 hr2 HDb.out.bel.size
  clear hr2 hI hB hK HDb HX2 c1 f1
  go_wp2_with fail
  refine (z16.calls 100 w1.heap.size (sb T.a2.1) T.a2.2 T.no (sb T.a3.1) T.a3.2 w _ HD4.out.tk HD4.out.bel HX3.out).mono ?_
  rintro e5 w5 ⟨v3, rfl, hr3, hI, hB, hK⟩
  obtain ⟨A3, k3, rfl, l3, _⟩ := Kd.R_reads hr3
  have hD := HD4.out.call hI hB hK
  have h3 : IdR w w5 (.slice A3 T.no.length k3) T.no := Kd.z20 hr3 HD4.out.bel.size
  have h2 := H2.out.call HD4.out hK
  have c2 := (z11 hD.ob).2.2.1
  have c3 := (z11 hD.ob).2.2.2.1
  have f2 := z02 hD.ob 2
  have f3 := z02 hD.ob 3
  unfold nilV at c2 c3
  have hS : DW w ((w5.setCell ⟨w2.heap.size, 2, none⟩ (.slice A2 T.ids.length k2)).setCell ⟨w2.heap.size, 3, none⟩ (.slice A3 T.no.length k3)) w.heap.size w1.heap.size w2.heap.size T.a3 (sayC kd T.ask (.slice A2 T.ids.length k2) (.slice A3 T.no.length k3) nilV ⟨#[]⟩ 0 0 ⟨#[]⟩) := (hD.set 2 (.slice A2 T.ids.length k2)).set 3 (.slice A3 T.no.length k3)
  have HD5 := Lib.hid hS
  have H2b := Lib.hid ((h2.set hD 2 (.slice A2 T.ids.length k2)).set (hD.set 2 (.slice A2 T.ids.length k2)) 3 (.slice A3 T.no.length k3))
  have H3b := Lib.hid ((h3.set hD 2 (.slice A2 T.ids.length k2)).set (hD.set 2 (.slice A2 T.ids.length k2)) 3 (.slice A3 T.no.length k3))
  clear hr3 hI hB hK hD hS h2 h3 HD4 H2 HX3
  go_wp2_with fail
  refine (z2d.calls w1.heap.size (sb T.a3.1) T.a3.2 256 T.many (sb T.a4.1) T.a4.2 w _ HD5.out.tk HD5.out.bel HX4.out).mono ?_
  rintro e6 w6 ⟨rfl, hI, hB, hK⟩
  have HD6 := Lib.hid (HD5.out.call hI hB hK)
  have H2c := Lib.hid (H2b.out.call HD5.out hK)
  have H3c := Lib.hid (H3b.out.call HD5.out hK)
  clear hI hB hK HD5 H2b H3b HX4 c2 c3 f2 f3
  have hm256 := numS_le T.a3 256
  rw [HCH.out.e4] at hm256
  go_wp2_with fail
  go_loopg [10] T.many (fun gg s10 wr => ∃ (d : Nat) (a : St) (out : List RefP) (p4 : Option Addr) (k4 : Nat), gg = d ∧ s10 = .int .u64 d ∧ d ≤ 256 ∧ Hid (refsGo d a out = (T.a5, T.refs)) ∧ Hid (d + out.length ≤ 256) ∧ Hid (Okl a.1) ∧
    Hid (DW w wr w.heap.size w1.heap.size w2.heap.size a (sayC kd T.ask (.slice A2 T.ids.length k2) (.slice A3 T.no.length k3) (.slice p4 out.length k4) ⟨#[]⟩ 0 0 ⟨#[]⟩)) ∧ Hid (IdR w wr (.slice A2 T.ids.length k2) T.ids) ∧ Hid (IdR w wr (.slice A3 T.no.length k3) T.no) ∧ Hid (RefR w wr (.slice p4 out.length k4) out))
  case atStart => exact ⟨T.many, T.a4, [], none, 0, rfl, rfl, hm256, HCH.out.e5, (by unfold Hid; simpa using hm256), HO.out.g4, HD6.out, H2c.out, H3c.out, RefR.nil _ _⟩
  case round =>
   obtain ⟨d, a, out, p4, k4, hgg, rfl, hd256, HG, HL, HA, HDr, H2r, H3r, H4r⟩ := hrel
   have HGG := Lib.hid hgg
   clear hgg HD6 H2c H3c
   have hcok := z2a HDr.out.tk.1
   by_cases hgo : d ≠ 0 ∧ a.2 = true
   case neg =>
    have hout : a = T.a5 ∧ out = T.refs := by
     have hq := HG.out
     cases d with
     | zero => rw [refsGo, Prod.mk.injEq] at hq; exact hq
     | succ d =>
      have ha : ¬ a.2 = true := fun h => hgo ⟨by omega, h⟩
      rw [refsGo, if_neg ha, Prod.mk.injEq] at hq; exact hq
    obtain ⟨rfl, rfl⟩ := hout
    clear HG HL HA HGG
    have hx5 := fr_text T.a5 32 (by omega) HO.out.g5
    rw [HCH.out.e6, show ((32 : Nat) : Int) = 32 from rfl] at hx5
    have hx6 := fr_num T.a6 4194304 HO.out.g6
    rw [HCH.out.e7, show ((4194304 : Nat) : Int) = 4194304 from rfl] at hx6
    have hx7 := fr_num T.a7 4194304 HO.out.g7
    rw [HCH.out.e8, show ((4194304 : Nat) : Int) = 4194304 from rfl] at hx7
    have hx8 := fr_text T.a8 700 (by omega) HO.out.g8
    rw [HCH.out.e9, show ((700 : Nat) : Int) = 700 from rfl] at hx8
    have hn7 := numS_le T.a6 4194304
    rw [HCH.out.e7] at hn7
    have hn8 := numS_le T.a7 4194304
    rw [HCH.out.e8] at hn8
    dsimp only at hn7 hn8
    have HX5 := Lib.hid hx5
    have HX6 := Lib.hid hx6
    have HX7 := Lib.hid hx7
    have HX8 := Lib.hid hx8
    clear hx5 hx6 hx7 hx8
    have hcase : d = 0 ∨ (0 < d ∧ T.a5.2 = false) := by
     by_cases hd0 : d = 0
     ·exact .inl hd0
     ·exact .inr ⟨by omega, by cases h : T.a5.2 with | false => rfl | true => exact absurd ⟨hd0, h⟩ hgo⟩
    clear hgo
    rcases hcase with rfl | ⟨hd1, hd2⟩
    ·clear hcok
     go_wp2_with fail
     refine (z2n.calls w1.heap.size (sb T.a5.1) T.a5.2 32 (sb T.ticket) (sb T.a6.1) T.a6.2 w _ HDr.out.tk HDr.out.bel HX5.out).mono ?_
     rintro e11 w11 ⟨rfl, hI, hB, hK⟩
     have hD := HDr.out.call hI hB hK
     have c5 := (z11 hD.ob).2.2.2.2.2.1
     have f5 := z02 hD.ob 5
     have hS : DW w (w11.setCell ⟨w2.heap.size, 5, none⟩ (.string (sb T.ticket))) w.heap.size w1.heap.size w2.heap.size T.a6 (sayC kd T.ask (.slice A2 T.ids.length k2) (.slice A3 T.no.length k3) (.slice p4 T.refs.length k4) (sb T.ticket) 0 0 ⟨#[]⟩) := hD.set 5 (.string (sb T.ticket))
     have HD11 := Lib.hid hS
     have H211 := Lib.hid ((H2r.out.call HDr.out hK).set hD 5 (.string (sb T.ticket)))
     have H311 := Lib.hid ((H3r.out.call HDr.out hK).set hD 5 (.string (sb T.ticket)))
     have H411 := Lib.hid ((H4r.out.call HDr.out hK).set hD 5 (.string (sb T.ticket)))
     clear hI hB hK hD hS HDr H2r H3r H4r HX5
     go_wp2_with fail
     refine (z2d.calls w1.heap.size (sb T.a6.1) T.a6.2 4194304 T.n (sb T.a7.1) T.a7.2 w _ HD11.out.tk HD11.out.bel HX6.out).mono ?_
     rintro e12 w12 ⟨rfl, hI, hB, hK⟩
     have HD12 := Lib.hid (HD11.out.call hI hB hK)
     have H212 := Lib.hid (H211.out.call HD11.out hK)
     have H312 := Lib.hid (H311.out.call HD11.out hK)
     have H412 := Lib.hid (H411.out.call HD11.out hK)
     clear hI hB hK HD11 H211 H311 H411 HX6 c5 f5
     go_wp2_with fail
     refine (z2d.calls w1.heap.size (sb T.a7.1) T.a7.2 4194304 T.of (sb T.a8.1) T.a8.2 w _ HD12.out.tk HD12.out.bel HX7.out).mono ?_
     rintro e13 w13 ⟨rfl, hI, hB, hK⟩
     have hD := HD12.out.call hI hB hK
     have h2 := H212.out.call HD12.out hK
     have h3 := H312.out.call HD12.out hK
     have h4 := H412.out.call HD12.out hK
     have c6 := (z11 hD.ob).2.2.2.2.2.2.1
     have c7 := (z11 hD.ob).2.2.2.2.2.2.2.1
     have f6 := z02 hD.ob 6
     have f7 := z02 hD.ob 7
     have hS : DW w ((w13.setCell ⟨w2.heap.size, 6, none⟩ (.int .i64 T.n)).setCell ⟨w2.heap.size, 7, none⟩ (.int .i64 T.of)) w.heap.size w1.heap.size w2.heap.size T.a8 (sayC kd T.ask (.slice A2 T.ids.length k2) (.slice A3 T.no.length k3) (.slice p4 T.refs.length k4) (sb T.ticket) T.n T.of ⟨#[]⟩) := (hD.set 6 (.int .i64 T.n)).set 7 (.int .i64 T.of)
     have HD13 := Lib.hid hS
     have H213 := Lib.hid ((h2.set hD 6 (.int .i64 T.n)).set (hD.set 6 (.int .i64 T.n)) 7 (.int .i64 T.of))
     have H313 := Lib.hid ((h3.set hD 6 (.int .i64 T.n)).set (hD.set 6 (.int .i64 T.n)) 7 (.int .i64 T.of))
     have H413 := Lib.hid ((h4.set hD 6 (.int .i64 T.n)).set (hD.set 6 (.int .i64 T.n)) 7 (.int .i64 T.of))
     clear hI hB hK hD hS h2 h3 h4 HD12 H212 H312 H412 HX7
     go_wp2_with fail
     refine (z2n.calls w1.heap.size (sb T.a8.1) T.a8.2 700 (sb T.data) (sb T.a9.1) T.a9.2 w _ HD13.out.tk HD13.out.bel HX8.out).mono ?_
     rintro e14 w14 ⟨rfl, hI, hB, hK⟩
     have hD := HD13.out.call hI hB hK
     have c8 := (z11 hD.ob).2.2.2.2.2.2.2.2
     have f8 := z02 hD.ob 8
     have hS : DW w (w14.setCell ⟨w2.heap.size, 8, none⟩ (.string (sb T.data))) w.heap.size w1.heap.size w2.heap.size T.a9 (sayC kd T.ask (.slice A2 T.ids.length k2) (.slice A3 T.no.length k3) (.slice p4 T.refs.length k4) (sb T.ticket) T.n T.of (sb T.data)) := hD.set 8 (.string (sb T.data))
     have H214 := Lib.hid ((H213.out.call HD13.out hK).set hD 8 (.string (sb T.data)))
     have H314 := Lib.hid ((H313.out.call HD13.out hK).set hD 8 (.string (sb T.data)))
     have H414 := Lib.hid ((H413.out.call HD13.out hK).set hD 8 (.string (sb T.data)))
     have g0 := z2i hS.tk.1
     have g1 := z2a hS.tk.1
     have HC := Lib.hid (z11 hS.rb)
     have HF := Lib.hid (z02 hS.rb)
     have HOC := Lib.hid (z11 hS.ob)
     have HD14 := Lib.hid hS
     clear hI hB hK hD hS HD13 H213 H313 H413 HX8 c6 c7 f6 f7
     by_cases hz9 : T.a9.2 = true ∧ T.a9.1 = []
     case neg =>
      have HR2 : Hid (R = (SayP.zero, 230)) := by
       unfold Hid; rw [HR.out, if_neg]
       intro h
       unfold Took.good at h
       rw [Bool.and_eq_true, Bool.and_eq_true] at h
       exact hz9 ⟨h.1.1, List.isEmpty_iff.1 h.1.2⟩
      obtain ⟨d0, d1, d2, d3, d4, d5, d6, d7, d8⟩ := HC.out
      unfold nilV at d2 d3 d4
      have f0 := HF.out 0
      have f1 := HF.out 1
      have f2 := HF.out 2
      have f3 := HF.out 3
      have f4 := HF.out 4
      have f5 := HF.out 5
      have f6 := HF.out 6
      have f7 := HF.out 7
      have f8 := HF.out 8
      by_cases ho : T.a9.2 = true
      ·have hne : (sb T.a9.1).size ≠ 0 := by
        rw [z0y]; intro h0; exact hz9 ⟨ho, List.length_eq_zero_iff.1 h0⟩
       have q1 := str_full' hne
       have q2 := str_full hne
       rw [ho] at g1
       clear hz9 ho hne
       go_wp2_with fail
       exact zero_end rfl rfl rfl HD14.out.rb HD14.out.bel (Nat.le_refl _) HR2.out
      ·have ho' : T.a9.2 = false := by simpa using ho
       rw [ho'] at g1
       clear hz9 ho ho'
       go_wp2_with fail
       exact zero_end rfl rfl rfl HD14.out.rb HD14.out.bel (Nat.le_refl _) HR2.out
     case pos =>
      obtain ⟨ho, hn9⟩ := hz9
      rw [ho] at g1
      rw [hn9] at g0
      have q1 := str_empty' (s := sb []) rfl
      have q2 := str_empty (s := sb []) rfl
      have hsay : T.say = (⟨(kd : Int), (T.ask : Int), T.ids, T.no, T.refs, sb T.ticket, (T.n : Int), (T.of : Int), sb T.data⟩ : SayP) := by
       have := HKD.out
       unfold Took.say
       rw [← this]
      have HR2 : Hid (R = if checkP (⟨(kd : Int), (T.ask : Int), T.ids, T.no, T.refs, sb T.ticket, (T.n : Int), (T.of : Int), sb T.data⟩ : SayP) = 0 then ((⟨(kd : Int), (T.ask : Int), T.ids, T.no, T.refs, sb T.ticket, (T.n : Int), (T.of : Int), sb T.data⟩ : SayP), 0) else (SayP.zero, 230)) := by
       unfold Hid; rw [HR.out]
       have hgd : T.good = (checkP (⟨(kd : Int), (T.ask : Int), T.ids, T.no, T.refs, sb T.ticket, (T.n : Int), (T.of : Int), sb T.data⟩ : SayP) == 0) := by
        unfold Took.good
        rw [ho, hn9, hsay]; rfl
       rw [hgd, hsay]
       by_cases h : checkP (⟨(kd : Int), (T.ask : Int), T.ids, T.no, T.refs, sb T.ticket, (T.n : Int), (T.of : Int), sb T.data⟩ : SayP) = 0
       ·rw [if_pos h, if_pos (by rw [h]; rfl)]
       ·rw [if_neg h, if_neg (by simpa using h)]
      clear ho hn9 hsay
      obtain ⟨o0, o1, o2, o3, o4, o5, o6, o7, o8⟩ := HOC.out
      go_wp2_with fail
      refine (frCheck_calls (⟨(kd : Int), (T.ask : Int), T.ids, T.no, T.refs, sb T.ticket, (T.n : Int), (T.of : Int), sb T.data⟩ : SayP) _ _ (row_say (x := (⟨(kd : Int), (T.ask : Int), T.ids, T.no, T.refs, sb T.ticket, (T.n : Int), (T.of : Int), sb T.data⟩ : SayP)) H214.out H314.out H414.out)).mono ?_
      rintro e15 w15 ⟨rfl, hb15⟩
      have hD := HD14.out.below hb15
      have h2 := H214.out.below hb15
      have h3 := H314.out.below hb15
      have h4 := H414.out.below hb15
      clear c8 f8
      obtain ⟨d0, d1, d2, d3, d4, d5, d6, d7, d8⟩ := z11 hD.rb
      unfold nilV at d2 d3 d4
      have f0 := z02 hD.rb 0
      have f1 := z02 hD.rb 1
      have f2 := z02 hD.rb 2
      have f3 := z02 hD.rb 3
      have f4 := z02 hD.rb 4
      have f5 := z02 hD.rb 5
      have f6 := z02 hD.rb 6
      have f7 := z02 hD.rb 7
      have f8 := z02 hD.rb 8
      obtain ⟨y0, y1, y2, y3, y4, y5, y6, y7, y8⟩ := z11 hD.ob
      have HD15 := Lib.hid hD
      have H215 := Lib.hid h2
      have H315 := Lib.hid h3
      have H415 := Lib.hid h4
      clear hb15 hD h2 h3 h4 HD14 H214 H314 H414 HC HF HOC o0 o1 o2 o3 o4 o5 o6 o7 o8 g0 g1
      obtain ⟨z, hz⟩ : ∃ z, z = checkP (⟨(kd : Int), (T.ask : Int), T.ids, T.no, T.refs, sb T.ticket, (T.n : Int), (T.of : Int), sb T.data⟩ : SayP) := ⟨_, rfl⟩
      rw [← hz] at HR2
      rw [← hz]
      clear hz
      by_cases h0 : z = 0
      ·have HR3 : Hid (R = ((⟨(kd : Int), (T.ask : Int), T.ids, T.no, T.refs, sb T.ticket, (T.n : Int), (T.of : Int), sb T.data⟩ : SayP), 0)) := by unfold Hid; rw [HR2.out, if_pos h0]
       subst h0
       go_wp2_with fail
       exact say_end (x := (⟨(kd : Int), (T.ask : Int), T.ids, T.no, T.refs, sb T.ticket, (T.n : Int), (T.of : Int), sb T.data⟩ : SayP)) rfl rfl rfl HD15.out.rb HD15.out.bel (Nat.le_refl _) H215.out H315.out H415.out HR3.out
      ·have HR3 : Hid (R = (SayP.zero, 230)) := by unfold Hid; rw [HR2.out, if_neg h0]
       have hzb : (z != 0) = true := by simpa using h0
       clear h0
       go_wp2_with fail
       exact zero_end rfl rfl rfl HD15.out.rb HD15.out.bel (Nat.le_refl _) HR3.out
    ·rw [hd2] at hcok
     have hdb : decide ((d : Int) > 0) = true := by simp <;> omega
     have hdb1 : decide (0 < (d : Int)) = true := by simp <;> omega
     have hdb2 : decide (0 < d) = true := by simp <;> omega
     clear hd2
     go_wp2_with fail
     clear hcok
     refine (z2n.calls w1.heap.size (sb T.a5.1) T.a5.2 32 (sb T.ticket) (sb T.a6.1) T.a6.2 w _ HDr.out.tk HDr.out.bel HX5.out).mono ?_
     rintro e11 w11 ⟨rfl, hI, hB, hK⟩
     have hD := HDr.out.call hI hB hK
     have c5 := (z11 hD.ob).2.2.2.2.2.1
     have f5 := z02 hD.ob 5
     have hS : DW w (w11.setCell ⟨w2.heap.size, 5, none⟩ (.string (sb T.ticket))) w.heap.size w1.heap.size w2.heap.size T.a6 (sayC kd T.ask (.slice A2 T.ids.length k2) (.slice A3 T.no.length k3) (.slice p4 T.refs.length k4) (sb T.ticket) 0 0 ⟨#[]⟩) := hD.set 5 (.string (sb T.ticket))
     have HD11 := Lib.hid hS
     have H211 := Lib.hid ((H2r.out.call HDr.out hK).set hD 5 (.string (sb T.ticket)))
     have H311 := Lib.hid ((H3r.out.call HDr.out hK).set hD 5 (.string (sb T.ticket)))
     have H411 := Lib.hid ((H4r.out.call HDr.out hK).set hD 5 (.string (sb T.ticket)))
     clear hI hB hK hD hS HDr H2r H3r H4r HX5
     go_wp2_with fail
     refine (z2d.calls w1.heap.size (sb T.a6.1) T.a6.2 4194304 T.n (sb T.a7.1) T.a7.2 w _ HD11.out.tk HD11.out.bel HX6.out).mono ?_
     rintro e12 w12 ⟨rfl, hI, hB, hK⟩
     have HD12 := Lib.hid (HD11.out.call hI hB hK)
     have H212 := Lib.hid (H211.out.call HD11.out hK)
     have H312 := Lib.hid (H311.out.call HD11.out hK)
     have H412 := Lib.hid (H411.out.call HD11.out hK)
     clear hI hB hK HD11 H211 H311 H411 HX6 c5 f5
     go_wp2_with fail
     refine (z2d.calls w1.heap.size (sb T.a7.1) T.a7.2 4194304 T.of (sb T.a8.1) T.a8.2 w _ HD12.out.tk HD12.out.bel HX7.out).mono ?_
     rintro e13 w13 ⟨rfl, hI, hB, hK⟩
     have hD := HD12.out.call hI hB hK
     have h2 := H212.out.call HD12.out hK
     have h3 := H312.out.call HD12.out hK
     have h4 := H412.out.call HD12.out hK
     have c6 := (z11 hD.ob).2.2.2.2.2.2.1
     have c7 := (z11 hD.ob).2.2.2.2.2.2.2.1
     have f6 := z02 hD.ob 6
     have f7 := z02 hD.ob 7
     have hS : DW w ((w13.setCell ⟨w2.heap.size, 6, none⟩ (.int .i64 T.n)).setCell ⟨w2.heap.size, 7, none⟩ (.int .i64 T.of)) w.heap.size w1.heap.size w2.heap.size T.a8 (sayC kd T.ask (.slice A2 T.ids.length k2) (.slice A3 T.no.length k3) (.slice p4 T.refs.length k4) (sb T.ticket) T.n T.of ⟨#[]⟩) := (hD.set 6 (.int .i64 T.n)).set 7 (.int .i64 T.of)
     have HD13 := Lib.hid hS
     have H213 := Lib.hid ((h2.set hD 6 (.int .i64 T.n)).set (hD.set 6 (.int .i64 T.n)) 7 (.int .i64 T.of))
     have H313 := Lib.hid ((h3.set hD 6 (.int .i64 T.n)).set (hD.set 6 (.int .i64 T.n)) 7 (.int .i64 T.of))
     have H413 := Lib.hid ((h4.set hD 6 (.int .i64 T.n)).set (hD.set 6 (.int .i64 T.n)) 7 (.int .i64 T.of))
     clear hI hB hK hD hS h2 h3 h4 HD12 H212 H312 H412 HX7
     go_wp2_with fail
     refine (z2n.calls w1.heap.size (sb T.a8.1) T.a8.2 700 (sb T.data) (sb T.a9.1) T.a9.2 w _ HD13.out.tk HD13.out.bel HX8.out).mono ?_
     rintro e14 w14 ⟨rfl, hI, hB, hK⟩
     have hD := HD13.out.call hI hB hK
     have c8 := (z11 hD.ob).2.2.2.2.2.2.2.2
     have f8 := z02 hD.ob 8
     have hS : DW w (w14.setCell ⟨w2.heap.size, 8, none⟩ (.string (sb T.data))) w.heap.size w1.heap.size w2.heap.size T.a9 (sayC kd T.ask (.slice A2 T.ids.length k2) (.slice A3 T.no.length k3) (.slice p4 T.refs.length k4) (sb T.ticket) T.n T.of (sb T.data)) := hD.set 8 (.string (sb T.data))
     have H214 := Lib.hid ((H213.out.call HD13.out hK).set hD 8 (.string (sb T.data)))
     have H314 := Lib.hid ((H313.out.call HD13.out hK).set hD 8 (.string (sb T.data)))
     have H414 := Lib.hid ((H413.out.call HD13.out hK).set hD 8 (.string (sb T.data)))
     have g0 := z2i hS.tk.1
     have g1 := z2a hS.tk.1
     have HC := Lib.hid (z11 hS.rb)
     have HF := Lib.hid (z02 hS.rb)
     have HOC := Lib.hid (z11 hS.ob)
     have HD14 := Lib.hid hS
     clear hI hB hK hD hS HD13 H213 H313 H413 HX8 c6 c7 f6 f7
     by_cases hz9 : T.a9.2 = true ∧ T.a9.1 = []
     case neg =>
      have HR2 : Hid (R = (SayP.zero, 230)) := by
       unfold Hid; rw [HR.out, if_neg]
       intro h
       unfold Took.good at h
       rw [Bool.and_eq_true, Bool.and_eq_true] at h
       exact hz9 ⟨h.1.1, List.isEmpty_iff.1 h.1.2⟩
      obtain ⟨d0, d1, d2, d3, d4, d5, d6, d7, d8⟩ := HC.out
      unfold nilV at d2 d3 d4
      have f0 := HF.out 0
      have f1 := HF.out 1
      have f2 := HF.out 2
      have f3 := HF.out 3
      have f4 := HF.out 4
      have f5 := HF.out 5
      have f6 := HF.out 6
      have f7 := HF.out 7
      have f8 := HF.out 8
      by_cases ho : T.a9.2 = true
      ·have hne : (sb T.a9.1).size ≠ 0 := by
        rw [z0y]; intro h0; exact hz9 ⟨ho, List.length_eq_zero_iff.1 h0⟩
       have q1 := str_full' hne
       have q2 := str_full hne
       rw [ho] at g1
       clear hz9 ho hne
       go_wp2_with fail
       exact zero_end rfl rfl rfl HD14.out.rb HD14.out.bel (Nat.le_refl _) HR2.out
      ·have ho' : T.a9.2 = false := by simpa using ho
       rw [ho'] at g1
       clear hz9 ho ho'
       go_wp2_with fail
       exact zero_end rfl rfl rfl HD14.out.rb HD14.out.bel (Nat.le_refl _) HR2.out
     case pos =>
      obtain ⟨ho, hn9⟩ := hz9
      rw [ho] at g1
      rw [hn9] at g0
      have q1 := str_empty' (s := sb []) rfl
      have q2 := str_empty (s := sb []) rfl
      have hsay : T.say = (⟨(kd : Int), (T.ask : Int), T.ids, T.no, T.refs, sb T.ticket, (T.n : Int), (T.of : Int), sb T.data⟩ : SayP) := by
       have := HKD.out
       unfold Took.say
       rw [← this]
      have HR2 : Hid (R = if checkP (⟨(kd : Int), (T.ask : Int), T.ids, T.no, T.refs, sb T.ticket, (T.n : Int), (T.of : Int), sb T.data⟩ : SayP) = 0 then ((⟨(kd : Int), (T.ask : Int), T.ids, T.no, T.refs, sb T.ticket, (T.n : Int), (T.of : Int), sb T.data⟩ : SayP), 0) else (SayP.zero, 230)) := by
       unfold Hid; rw [HR.out]
       have hgd : T.good = (checkP (⟨(kd : Int), (T.ask : Int), T.ids, T.no, T.refs, sb T.ticket, (T.n : Int), (T.of : Int), sb T.data⟩ : SayP) == 0) := by
        unfold Took.good
        rw [ho, hn9, hsay]; rfl
       rw [hgd, hsay]
       by_cases h : checkP (⟨(kd : Int), (T.ask : Int), T.ids, T.no, T.refs, sb T.ticket, (T.n : Int), (T.of : Int), sb T.data⟩ : SayP) = 0
       ·rw [if_pos h, if_pos (by rw [h]; rfl)]
       ·rw [if_neg h, if_neg (by simpa using h)]
      clear ho hn9 hsay
      obtain ⟨o0, o1, o2, o3, o4, o5, o6, o7, o8⟩ := HOC.out
      go_wp2_with fail
      refine (frCheck_calls (⟨(kd : Int), (T.ask : Int), T.ids, T.no, T.refs, sb T.ticket, (T.n : Int), (T.of : Int), sb T.data⟩ : SayP) _ _ (row_say (x := (⟨(kd : Int), (T.ask : Int), T.ids, T.no, T.refs, sb T.ticket, (T.n : Int), (T.of : Int), sb T.data⟩ : SayP)) H214.out H314.out H414.out)).mono ?_
      rintro e15 w15 ⟨rfl, hb15⟩
      have hD := HD14.out.below hb15
      have h2 := H214.out.below hb15
      have h3 := H314.out.below hb15
      have h4 := H414.out.below hb15
      clear c8 f8
      obtain ⟨d0, d1, d2, d3, d4, d5, d6, d7, d8⟩ := z11 hD.rb
      unfold nilV at d2 d3 d4
      have f0 := z02 hD.rb 0
      have f1 := z02 hD.rb 1
      have f2 := z02 hD.rb 2
      have f3 := z02 hD.rb 3
      have f4 := z02 hD.rb 4
      have f5 := z02 hD.rb 5
      have f6 := z02 hD.rb 6
      have f7 := z02 hD.rb 7
      have f8 := z02 hD.rb 8
      obtain ⟨y0, y1, y2, y3, y4, y5, y6, y7, y8⟩ := z11 hD.ob
      have HD15 := Lib.hid hD
      have H215 := Lib.hid h2
      have H315 := Lib.hid h3
      have H415 := Lib.hid h4
      clear hb15 hD h2 h3 h4 HD14 H214 H314 H414 HC HF HOC o0 o1 o2 o3 o4 o5 o6 o7 o8 g0 g1
      obtain ⟨z, hz⟩ : ∃ z, z = checkP (⟨(kd : Int), (T.ask : Int), T.ids, T.no, T.refs, sb T.ticket, (T.n : Int), (T.of : Int), sb T.data⟩ : SayP) := ⟨_, rfl⟩
      rw [← hz] at HR2
      rw [← hz]
      clear hz
      by_cases h0 : z = 0
      ·have HR3 : Hid (R = ((⟨(kd : Int), (T.ask : Int), T.ids, T.no, T.refs, sb T.ticket, (T.n : Int), (T.of : Int), sb T.data⟩ : SayP), 0)) := by unfold Hid; rw [HR2.out, if_pos h0]
       subst h0
       go_wp2_with fail
       exact say_end (x := (⟨(kd : Int), (T.ask : Int), T.ids, T.no, T.refs, sb T.ticket, (T.n : Int), (T.of : Int), sb T.data⟩ : SayP)) rfl rfl rfl HD15.out.rb HD15.out.bel (Nat.le_refl _) H215.out H315.out H415.out HR3.out
      ·have HR3 : Hid (R = (SayP.zero, 230)) := by unfold Hid; rw [HR2.out, if_neg h0]
       have hzb : (z != 0) = true := by simpa using h0
       clear h0
       go_wp2_with fail
       exact zero_end rfl rfl rfl HD15.out.rb HD15.out.bel (Nat.le_refl _) HR3.out
   case pos =>
    obtain ⟨hd0, ha⟩ := hgo
    obtain ⟨d, rfl⟩ : ∃ m, d = m + 1 := ⟨d - 1, by omega⟩
    have hdb : decide (((d + 1 : Nat) : Int) > 0) = true := by simp <;> omega
    have hdb1 : decide (0 < ((d + 1 : Nat) : Int)) = true := by simp <;> omega
    have hdb2 : decide (0 < d + 1) = true := by simp
    rw [ha] at hcok
    have hg2 := HG.out
    rw [refsGo, if_pos ha] at hg2
    have hxb := fr_bytes a 32
    rw [show ((32 : Nat) : Int) = 32 from rfl] at hxb
    have hxt := fr_text (bytesS a 32).1 128 (by omega) (bytesS_ok HA.out)
    rw [show ((128 : Nat) : Int) = 128 from rfl] at hxt
    have hok2 := textS_ok (n := 128) (bytesS_ok (n := 32) HA.out)
    obtain ⟨a1, ha1⟩ : ∃ a1, a1 = (bytesS a 32).1 := ⟨_, rfl⟩
    obtain ⟨idb, hidb⟩ : ∃ x, x = sb (bytesS a 32).2 := ⟨_, rfl⟩
    rw [← ha1] at hxb hxt hg2 hok2
    rw [← hidb] at hxb hg2
    obtain ⟨a2, ha2⟩ : ∃ a2, a2 = (textS a1 128).1 := ⟨_, rfl⟩
    obtain ⟨nm, hnm⟩ : ∃ x, x = sb (textS a1 128).2 := ⟨_, rfl⟩
    rw [← ha2] at hxt hg2 hok2
    rw [← hnm] at hxt hg2
    have HG2 := Lib.hid hg2
    have HXB := Lib.hid hxb
    have HXT := Lib.hid hxt
    have HOK2 := Lib.hid hok2
    clear ha1 hidb ha2 hnm hg2 hxb hxt hok2 hd0 HG HA ha
    go_wp2_with fail
    refine (z2j.calls w1.heap.size (sb a.1) a.2 32 idb (sb a1.1) a1.2 w _ HDr.out.tk HDr.out.bel HXB.out).mono ?_
    rintro e7 w7 ⟨rfl, hI, hB, hK⟩
    have HD7 := Lib.hid (HDr.out.call hI hB hK)
    have H2s := Lib.hid (H2r.out.call HDr.out hK)
    have H3s := Lib.hid (H3r.out.call HDr.out hK)
    have H4s := Lib.hid (H4r.out.call HDr.out hK)
    clear hI hB hK hcok HDr H2r H3r H4r HXB
    go_wp2_with fail
    refine (z2n.calls w1.heap.size (sb a1.1) a1.2 128 nm (sb a2.1) a2.2 w _ (HD7.out.alloc (.cells #[.string ⟨#[]⟩, .string idb] 91)).tk (HD7.out.alloc (.cells #[.string ⟨#[]⟩, .string idb] 91)).bel HXT.out).mono ?_
    rintro e8 w8 ⟨rfl, hI, hB, hK⟩
    have hbw := z03 (Below.refl w7.heap.size w7) (.cells #[.string ⟨#[]⟩, .string idb] 91)
    have hDa := HD7.out.alloc (.cells #[.string ⟨#[]⟩, .string idb] 91)
    have hX : w8.heap[w7.heap.size]? = some (.cells #[.string ⟨#[]⟩, .string idb] 91 (0, 0)) := hK.blk (blk_new w7 _) (by have := HD7.out.tk.lt; omega) (by simp)
    have hD8 := hDa.call hI hB hK
    have h2 := (H2s.out.below hbw).call hDa hK
    have h3 := (H3s.out.below hbw).call hDa hK
    have h4 := R_callD (Kd.z1p H4s.out.fresh hbw) hDa (fun q hq => by rw [refE q hq]; decide) hK
    have hX9 := blk_put hX 0 (.string nm) (cs' := #[.string nm, .string idb]) rfl
    have hD9 : DW w (w8.setCell ⟨w7.heap.size, 0, none⟩ (.string nm)) w.heap.size w1.heap.size w2.heap.size a2 (sayC kd T.ask (.slice A2 T.ids.length k2) (.slice A3 T.no.length k3) (.slice p4 out.length k4) ⟨#[]⟩ 0 0 ⟨#[]⟩) :=
     hD8.other (.string nm) (Or.inr ⟨_, _, hX, rfl⟩) HD7.out.bel.size
    have h29 : IdR w (w8.setCell ⟨w7.heap.size, 0, none⟩ (.string nm)) _ _ := Kd.R_set h2 hX (fun q hq => by rw [idE q hq]; decide) 0 (.string nm)
    have h39 : IdR w (w8.setCell ⟨w7.heap.size, 0, none⟩ (.string nm)) _ _ := Kd.R_set h3 hX (fun q hq => by rw [idE q hq]; decide) 0 (.string nm)
    have h49 : RefR w (w8.setCell ⟨w7.heap.size, 0, none⟩ (.string nm)) _ _ := Kd.z1o (Kd.R_far h4 (p := ⟨w7.heap.size, 0, none⟩) (fun _ hk => hk) (.string nm)) (fun _ _ => trivial)
    have cx0 : w8.cell? ⟨w7.heap.size, 0, none⟩ = some (.string ⟨#[]⟩) := z00 hX 0
    have fx0 := z02 hX 0
    have cy0 : (w8.setCell ⟨w7.heap.size, 0, none⟩ (.string nm)).cell? ⟨w7.heap.size, 0, none⟩ = some (.string nm) := z00 hX9 0
    have cy1 : (w8.setCell ⟨w7.heap.size, 0, none⟩ (.string nm)).cell? ⟨w7.heap.size, 1, none⟩ = some (.string idb) := z00 hX9 1
    have cx1 : w8.cell? ⟨w7.heap.size, 1, none⟩ = some (.string idb) := z00 hX 1
    have co4 := (z11 hD9.ob).2.2.2.2.1
    have HD9 := Lib.hid hD9
    have H29 := Lib.hid h29
    have H39 := Lib.hid h39
    have H49 := Lib.hid h49
    clear hI hB hK hbw hDa hX hD8 h2 h3 h4 hX9 hD9 h29 h39 h49 HD7 H2s H3s H4s HXT
    go_wp2_with (at_builtin; refine Kd.R_append refK (w0 := w) w.heap.size (by rfl) (.tmp 68) (.tmp 70) 24 91 (.agg #[(.string ⟨#[]⟩), (.string ⟨#[]⟩)]) 32 rfl Try.underlying24 info_ref rfl (by decide) (by omega) (.slice p4 out.length k4) out (nm, idb) [.string nm, .string idb] (fun _ => True) (fun _ => False) rfl (show Value.slice (some ⟨w8.heap.size, 0, none⟩) 1 1 = Value.slice (some ⟨(w8.setCell ⟨w7.heap.size, 0, none⟩ (.string nm)).heap.size, 0, none⟩) 1 1 from by rw [set_size]) ⟨[.string nm], [.string idb], rfl, rfl, rfl⟩ (fun _ hk => hk.elim) (fun _ _ => trivial) H49.out HD9.out.bel HD9.out.bel.size (by have := HL.out; omega) ?_; intro v1 w10 hr1 hb1 hg1 hat1; have hD10 := HD9.out.grown H49.out hg1 hb1; have h210 := H29.out.grown H49.out hg1; have h310 := H39.out.grown H49.out hg1; obtain ⟨p9, k9, rfl, l9, hz9⟩ := Kd.R_reads hr1; have HZ9 := Lib.hid hz9; have c10 := (z11 hD10.ob).2.2.2.2.1; have f10 := z02 hD10.ob 4; have HD10 := Lib.hid hD10; have H210 := Lib.hid h210; have H310 := Lib.hid h310; have H410 := Lib.hid hr1; clear hr1 hb1 hg1 hat1 hD10 h210 h310 hz9)
    have hlen : (out ++ [(nm, idb)]).length = out.length + 1 := by simp
    have hD11 := HD10.out.set 4 (.slice p9 (out ++ [(nm, idb)]).length k9)
    have h211 := H210.out.set HD10.out 4 (.slice p9 (out ++ [(nm, idb)]).length k9)
    have h311 := H310.out.set HD10.out 4 (.slice p9 (out ++ [(nm, idb)]).length k9)
    have h411 := RefR.set H410.out HD10.out 4 (.slice p9 (out ++ [(nm, idb)]).length k9)
    have HE := Lib.hid (And.intro hD11 (And.intro h211 (And.intro h311 h411)))
    clear hD11 h211 h311 h411
    go_roundg d
    case measure => have := HGG.out; omega
    case rel =>
     rw [← hlen]
     exact ⟨d, a2, out ++ [(nm, idb)], p9, k9, rfl, rfl, by omega, HG2.out, (by unfold Hid; rw [hlen]; have := HL.out; omega), HOK2.out, HE.out.1, HE.out.2.1, HE.out.2.2.1, HE.out.2.2.2⟩
