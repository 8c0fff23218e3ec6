import Derived.Test.YtcfdplmapdgfmaaYCPure
import Derived.Test.YtcfdplmapdgfmaaYLab
import Derived.Deep.LoopGhost
set_option linter.unusedVariables false
set_option linter.unusedSimpArgs false
namespace Go.Proofs.Ytcfdplmapdgfmaa.Mine
open Go.RowKit Go.Proofs.YtcfdplmapdgfmaaW.PrintWords
abbrev RefP := ByteArray × ByteArray
def refK : Kd RefP := Kd.pair Kd.string Kd.string
structure SayP where
 kind : Int
 ask : Int
 ids : List ByteArray
 no : List ByteArray
 refs : List RefP
 ticket : ByteArray
 n : Int
 of : Int
 data : ByteArray
def SayP.zero : SayP := ⟨0, 0, [], [], [], ⟨#[]⟩, 0, 0, ⟨#[]⟩⟩
def SayV (w : World) (v : Value) (s : SayP) : Prop :=
 ∃ A2 c2 A3 c3 A4 c4, v = .agg #[.int .i64 s.kind, .int .u64 s.ask, .slice A2 s.ids.length c2, .slice A3 s.no.length c3, .slice A4 s.refs.length c4, .string s.ticket, .int .i64 s.n, .int .i64 s.of, .string s.data] ∧
  Kd.C Kd.string w A2 s.ids.length s.ids ∧ s.ids.length ≤ c2 ∧ Kd.C Kd.string w A3 s.no.length s.no ∧ s.no.length ≤ c3 ∧ Kd.C refK w A4 s.refs.length s.refs ∧ s.refs.length ≤ c4
theorem SayV.below {w w' : World} {v : Value} {s : SayP} (h : SayV w v s) (hb : Below w.heap.size w w') : SayV w' v s := by
 obtain ⟨A2, c2, A3, c3, A4, c4, hv, h2, l2, h3, l3, h4, l4⟩ := h
 exact ⟨A2, c2, A3, c3, A4, c4, hv, Kd.z12 h2 hb, l2, Kd.z12 h3 hb, l3, Kd.z12 h4 hb, l4⟩
theorem C_iso {α β : Type} {d : Kd α} {f : β → α} {w : World} {A : Option Addr} {n : Nat} {xs : List β} (h : Kd.C (Kd.iso d f) w A n xs) : Kd.C d w A n (xs.map f) := by
 obtain ⟨h1, h2, h3⟩ := h
 refine ⟨by rw [List.length_map]; exact h1, h2, fun hn => ?_⟩
 obtain ⟨ad, hA, hc⟩ := h3 hn
 refine ⟨ad, hA, fun j p hj => ?_⟩
 rw [List.getElem?_map] at hj
 obtain ⟨q, hq, rfl⟩ := Option.map_eq_some_iff.1 hj
 exact hc j q hq
theorem C_iso' {α β : Type} {d : Kd α} {f : β → α} {w : World} {A : Option Addr} {n : Nat} {xs : List β} (h : Kd.C d w A n (xs.map f)) : Kd.C (Kd.iso d f) w A n xs := by
 obtain ⟨h1, h2, h3⟩ := h
 refine ⟨by rw [← h1, List.length_map], h2, fun hn => ?_⟩
 obtain ⟨ad, hA, hc⟩ := h3 hn
 refine ⟨ad, hA, fun j p hj => ?_⟩
 exact hc j (f p) (by rw [List.getElem?_map, hj]; rfl)
def idsOk (l : List ByteArray) : Bool := l.all fun s => s.size == 32
def refsOk (l : List RefP) : Bool := l.all fun r => refOk (bs r.1) && r.2.size == 32
def muchP (s : SayP) : Bool := decide (64 < s.ids.length) || decide (64 < s.no.length) || decide (256 < s.refs.length) || decide (700 < s.data.size)
def fieldsP (s : SayP) : Bool := decide (s.ask ≤ 4611686018427387904) && decide (0 ≤ s.n) && decide (s.n ≤ 4194304) && decide (0 ≤ s.of) && decide (s.of ≤ 4194304) && (s.ticket.size == 0 || s.ticket.size == 32)
def checkP (s : SayP) : Int :=
 if s.kind < 1 ∨ 9 < s.kind then 230 else if muchP s then 3 else if fieldsP s && (idsOk s.ids && idsOk s.no && refsOk s.refs) then 0 else 230
def cat : List ByteArray → List Nat
 | [] => []
 | s :: l => bs s ++ cat l
def idsP (l : List ByteArray) : List Nat := num l.length ++ cat l
def textP (s : ByteArray) : List Nat := num s.size ++ bs s
def refB : List RefP → List Nat
 | [] => []
 | r :: l => bs r.2 ++ textP r.1 ++ refB l
def sayP (s : SayP) : List Nat :=
 [s.kind.toNat] ++ num s.ask.toNat ++ idsP s.ids ++ idsP s.no ++ num s.refs.length ++ refB s.refs ++ textP s.ticket ++ num s.n.toNat ++ num s.of.toNat ++ textP s.data
def encP (s : SayP) : List Nat := frame (sayP s)
abbrev St := List Nat × Bool
def numS (a : St) (most : Nat) : St × Nat :=
 if a.2 = true ∧ (unnum a.1).2.2 = 0 ∧ (unnum a.1).1 ≤ most then ((a.1.drop (unnum a.1).2.1, true), (unnum a.1).1) else ((a.1, false), 0)
def bytesS (a : St) (n : Nat) : St × List Nat := if a.2 = true ∧ n ≤ a.1.length then ((a.1.drop n, true), a.1.take n) else ((a.1, false), [])
def idsGo : Nat → St → List ByteArray → St × List ByteArray
 | 0, a, out => (a, out)
 | n + 1, a, out => if a.2 = true then idsGo n (bytesS a 32).1 (out ++ [sb (bytesS a 32).2]) else (a, out)
def idsS (a : St) : St × List ByteArray := idsGo (numS a 64).2 (numS a 64).1 []
def textS (a : St) (most : Nat) : St × List Nat := bytesS (numS a most).1 (numS a most).2
def refsGo : Nat → St → List RefP → St × List RefP
 | 0, a, out => (a, out)
 | n + 1, a, out => if a.2 = true then refsGo n (textS (bytesS a 32).1 128).1 (out ++ [(sb (textS (bytesS a 32).1 128).2, sb (bytesS a 32).2)]) else (a, out)
structure Took where
 a0 : St
 k : List Nat
 a1 : St
 ask : Nat
 a2 : St
 ids : List ByteArray
 a3 : St
 no : List ByteArray
 a4 : St
 many : Nat
 a5 : St
 refs : List RefP
 a6 : St
 ticket : List Nat
 a7 : St
 n : Nat
 a8 : St
 of : Nat
 a9 : St
 data : List Nat
def takeAll (l : List Nat) : Took :=
 let p0 := bytesS (l, true) 1
 let p1 := numS p0.1 4611686018427387904
 let p2 := idsS p1.1
 let p3 := idsS p2.1
 let p4 := numS p3.1 256
 let p5 := refsGo p4.2 p4.1 []
 let p6 := textS p5.1 32
 let p7 := numS p6.1 4194304
 let p8 := numS p7.1 4194304
 let p9 := textS p8.1 700
 ⟨p0.1, p0.2, p1.1, p1.2, p2.1, p2.2, p3.1, p3.2, p4.1, p4.2, p5.1, p5.2, p6.1, p6.2, p7.1, p7.2, p8.1, p8.2, p9.1, p9.2⟩
def Took.say (t : Took) : SayP := ⟨((if t.a0.2 = true then t.k.headD 0 else 0 : Nat) : Int), t.ask, t.ids, t.no, t.refs, sb t.ticket, t.n, t.of, sb t.data⟩
def Took.good (t : Took) : Bool := t.a9.2 && t.a9.1.isEmpty && checkP t.say == 0
def decP (l : List Nat) : SayP × Int :=
 if (unframe l).2.2 ≠ 0 then (SayP.zero, (unframe l).2.2) else if (unframe l).2.1 ≠ l.length then (SayP.zero, 5)
 else if (takeAll (unframe l).1).good then ((takeAll (unframe l).1).say, 0) else (SayP.zero, 230)
end Go.Proofs.Ytcfdplmapdgfmaa.Mine
set_option linter.unusedVariables false
set_option linter.unusedSimpArgs false
namespace Go.Proofs.Ytcfdplmapdgfmaa.Mine
open Go.RowKit Go.Proofs.YtcfdplmapdgfmaaW.PrintWords
theorem strC_at {w : World} {A : Option Addr} {l : List ByteArray} (h : Kd.C Kd.string w A l.length l) (j : Nat) (hj : j < l.length) : ∃ x, A = some x ∧ w.cell? (x.add j) = some (.string l[j]) := by
 obtain ⟨ad, c, hA, hl, hK, hc⟩ := Kd.C_get h ByteArray.empty (j : Int) (Int.natCast_nonneg _) (by omega)
 refine ⟨ad, hA, ?_⟩
 have hK' : c = [Value.string (l.getD (j : Int).toNat ByteArray.empty)] := hK
 subst hK'
 have := hc 0 _ rfl
 simpa [Kd.string, Kd.scalar, List.getD_eq_getElem?_getD, List.getElem?_eq_getElem hj] using this
theorem refC_at {w : World} {A : Option Addr} {l : List RefP} (h : Kd.C refK w A l.length l) (j : Nat) (hj : j < l.length) : ∃ x, A = some x ∧ w.cell? (x.add (j * 2)) = some (.string l[j].1) ∧ w.cell? (x.add (j * 2 + 1)) = some (.string l[j].2) := by
 obtain ⟨ad, c, hA, hl, hK, hc⟩ := Kd.C_get h (ByteArray.empty, ByteArray.empty) (j : Int) (Int.natCast_nonneg _) (by omega)
 refine ⟨ad, hA, ?_⟩
 obtain ⟨c0, c1, rfl, hK0, hK1⟩ := hK
 have hK0' : c0 = [Value.string (l.getD (j : Int).toNat (ByteArray.empty, ByteArray.empty)).1] := hK0
 have hK1' : c1 = [Value.string (l.getD (j : Int).toNat (ByteArray.empty, ByteArray.empty)).2] := hK1
 subst hK0' hK1'
 have h0 := hc 0 _ rfl
 have h1 := hc 1 _ rfl
 simp only [List.getD_eq_getElem?_getD, Int.toNat_natCast, List.getElem?_eq_getElem hj, Option.getD_some] at h0 h1
 exact ⟨h0, h1⟩
set_option maxRecDepth 100000 in
set_option maxHeartbeats 4000000 in
theorem frCheck_calls (s : SayP) (v : Value) (w : World) (hv : SayV w v s) :
  Calls Try.prog 17 #[v] w fun e w' => e = .returned (.int .i64 (checkP s)) ∧ Below w.heap.size w w' := by
 obtain ⟨A2, c2, A3, c3, A4, c4, rfl, h2, l2, h3, l3, h4, l4⟩ := hv
 have HC := Lib.hid (And.intro h2 (And.intro h3 h4))
 clear h2 h3 h4
 obtain ⟨kind, ask, ids, no, refs, ticket, n, of, data⟩ := s
 dsimp only at *
 obtain ⟨R, hR⟩ : ∃ R, R = checkP ⟨kind, ask, ids, no, refs, ticket, n, of, data⟩ := ⟨_, rfl⟩
 rw [← hR]
 unfold checkP at hR
 dsimp only [muchP, fieldsP] at hR
 by_cases k1 : kind < 1
 ·have hR' : R = 230 := by rw [hR]; simp [k1]
  have HR := Lib.hid hR'
  clear hR hR'
  have k1b0 : decide (kind < 1) = true := by simp; omega
  clear k1
  go_enter Try.func17, Try.ntmps17
  go_wp2_with fail
  go_ret
  exact ⟨by rw [HR.out]; rfl, (Below.refl _ _).alloc (Nat.le_refl _) _⟩
 by_cases k2 : 9 < kind
 ·have hR' : R = 230 := by rw [hR]; simp [k2, k1]
  have HR := Lib.hid hR'
  clear hR hR'
  have k1b0 : decide (kind < 1) = false := by simp; omega
  have k2b0 : decide (kind > 9) = true := by simp; omega
  have k2b1 : decide (9 < kind) = true := by simp; omega
  clear k2 k1
  go_enter Try.func17, Try.ntmps17
  go_wp2_with fail
  go_ret
  exact ⟨by rw [HR.out]; rfl, (Below.refl _ _).alloc (Nat.le_refl _) _⟩
 by_cases m1 : 64 < ids.length
 ·have hR' : R = 3 := by rw [hR]; simp [m1, k1, k2]
  have HR := Lib.hid hR'
  clear hR hR'
  have k1b0 : decide (kind < 1) = false := by simp; omega
  have k2b0 : decide (kind > 9) = false := by simp; omega
  have k2b1 : decide (9 < kind) = false := by simp; omega
  have m1b0 : decide ((ids.length : Int) > 64) = true := by simp; omega
  have m1b1 : decide (64 < (ids.length : Int)) = true := by simp; omega
  clear m1 k1 k2
  go_enter Try.func17, Try.ntmps17
  go_wp2_with fail
  go_ret
  exact ⟨by rw [HR.out]; rfl, (Below.refl _ _).alloc (Nat.le_refl _) _⟩
 by_cases m2 : 64 < no.length
 ·have hR' : R = 3 := by rw [hR]; simp [m2, k1, k2, m1]
  have HR := Lib.hid hR'
  clear hR hR'
  have k1b0 : decide (kind < 1) = false := by simp; omega
  have k2b0 : decide (kind > 9) = false := by simp; omega
  have k2b1 : decide (9 < kind) = false := by simp; omega
  have m1b0 : decide ((ids.length : Int) > 64) = false := by simp; omega
  have m1b1 : decide (64 < (ids.length : Int)) = false := by simp; omega
  have m2b0 : decide ((no.length : Int) > 64) = true := by simp; omega
  have m2b1 : decide (64 < (no.length : Int)) = true := by simp; omega
  clear m2 k1 k2 m1
  go_enter Try.func17, Try.ntmps17
  go_wp2_with fail
  go_ret
  exact ⟨by rw [HR.out]; rfl, (Below.refl _ _).alloc (Nat.le_refl _) _⟩
 by_cases m3 : 256 < refs.length
 ·have hR' : R = 3 := by rw [hR]; simp [m3, k1, k2, m1, m2]
  have HR := Lib.hid hR'
  clear hR hR'
  have k1b0 : decide (kind < 1) = false := by simp; omega
  have k2b0 : decide (kind > 9) = false := by simp; omega
  have k2b1 : decide (9 < kind) = false := by simp; omega
  have m1b0 : decide ((ids.length : Int) > 64) = false := by simp; omega
  have m1b1 : decide (64 < (ids.length : Int)) = false := by simp; omega
  have m2b0 : decide ((no.length : Int) > 64) = false := by simp; omega
  have m2b1 : decide (64 < (no.length : Int)) = false := by simp; omega
  have m3b0 : decide ((refs.length : Int) > 256) = true := by simp; omega
  have m3b1 : decide (256 < (refs.length : Int)) = true := by simp; omega
  clear m3 k1 k2 m1 m2
  go_enter Try.func17, Try.ntmps17
  go_wp2_with fail
  go_ret
  exact ⟨by rw [HR.out]; rfl, (Below.refl _ _).alloc (Nat.le_refl _) _⟩
 by_cases m4 : 700 < data.size
 ·have hR' : R = 3 := by rw [hR]; simp [m4, k1, k2, m1, m2, m3]
  have HR := Lib.hid hR'
  clear hR hR'
  have k1b0 : decide (kind < 1) = false := by simp; omega
  have k2b0 : decide (kind > 9) = false := by simp; omega
  have k2b1 : decide (9 < kind) = false := by simp; omega
  have m1b0 : decide ((ids.length : Int) > 64) = false := by simp; omega
  have m1b1 : decide (64 < (ids.length : Int)) = false := by simp; omega
  have m2b0 : decide ((no.length : Int) > 64) = false := by simp; omega
  have m2b1 : decide (64 < (no.length : Int)) = false := by simp; omega
  have m3b0 : decide ((refs.length : Int) > 256) = false := by simp; omega
  have m3b1 : decide (256 < (refs.length : Int)) = false := by simp; omega
  have m4b0 : decide ((data.size : Int) > 700) = true := by simp; omega
  have m4b1 : decide (700 < (data.size : Int)) = true := by simp; omega
  clear m4 k1 k2 m1 m2 m3
  go_enter Try.func17, Try.ntmps17
  go_wp2_with fail
  go_ret
  exact ⟨by rw [HR.out]; rfl, (Below.refl _ _).alloc (Nat.le_refl _) _⟩
 by_cases f1 : ¬ ask ≤ 4611686018427387904
 ·have hR' : R = 230 := by rw [hR]; simp [f1, k1, k2, m1, m2, m3, m4]
  have HR := Lib.hid hR'
  clear hR hR'
  have k1b0 : decide (kind < 1) = false := by simp; omega
  have k2b0 : decide (kind > 9) = false := by simp; omega
  have k2b1 : decide (9 < kind) = false := by simp; omega
  have m1b0 : decide ((ids.length : Int) > 64) = false := by simp; omega
  have m1b1 : decide (64 < (ids.length : Int)) = false := by simp; omega
  have m2b0 : decide ((no.length : Int) > 64) = false := by simp; omega
  have m2b1 : decide (64 < (no.length : Int)) = false := by simp; omega
  have m3b0 : decide ((refs.length : Int) > 256) = false := by simp; omega
  have m3b1 : decide (256 < (refs.length : Int)) = false := by simp; omega
  have m4b0 : decide ((data.size : Int) > 700) = false := by simp; omega
  have m4b1 : decide (700 < (data.size : Int)) = false := by simp; omega
  have f1b0 : decide (ask > 4611686018427387904) = true := by simp; omega
  have f1b1 : decide (4611686018427387904 < ask) = true := by simp; omega
  clear f1 k1 k2 m1 m2 m3 m4
  go_enter Try.func17, Try.ntmps17
  go_wp2_with fail
  go_ret
  exact ⟨by rw [HR.out]; rfl, (Below.refl _ _).alloc (Nat.le_refl _) _⟩
 by_cases f2 : ¬ 0 ≤ n
 ·have hR' : R = 230 := by rw [hR]; simp [f2, k1, k2, m1, m2, m3, m4, f1]
  have HR := Lib.hid hR'
  clear hR hR'
  have k1b0 : decide (kind < 1) = false := by simp; omega
  have k2b0 : decide (kind > 9) = false := by simp; omega
  have k2b1 : decide (9 < kind) = false := by simp; omega
  have m1b0 : decide ((ids.length : Int) > 64) = false := by simp; omega
  have m1b1 : decide (64 < (ids.length : Int)) = false := by simp; omega
  have m2b0 : decide ((no.length : Int) > 64) = false := by simp; omega
  have m2b1 : decide (64 < (no.length : Int)) = false := by simp; omega
  have m3b0 : decide ((refs.length : Int) > 256) = false := by simp; omega
  have m3b1 : decide (256 < (refs.length : Int)) = false := by simp; omega
  have m4b0 : decide ((data.size : Int) > 700) = false := by simp; omega
  have m4b1 : decide (700 < (data.size : Int)) = false := by simp; omega
  have f1b0 : decide (ask > 4611686018427387904) = false := by simp; omega
  have f1b1 : decide (4611686018427387904 < ask) = false := by simp; omega
  have f2b0 : decide (n < 0) = true := by simp; omega
  clear f2 k1 k2 m1 m2 m3 m4 f1
  go_enter Try.func17, Try.ntmps17
  go_wp2_with fail
  go_ret
  exact ⟨by rw [HR.out]; rfl, (Below.refl _ _).alloc (Nat.le_refl _) _⟩
 by_cases f3 : ¬ n ≤ 4194304
 ·have hR' : R = 230 := by rw [hR]; simp [f3, k1, k2, m1, m2, m3, m4, f1, f2]
  have HR := Lib.hid hR'
  clear hR hR'
  have k1b0 : decide (kind < 1) = false := by simp; omega
  have k2b0 : decide (kind > 9) = false := by simp; omega
  have k2b1 : decide (9 < kind) = false := by simp; omega
  have m1b0 : decide ((ids.length : Int) > 64) = false := by simp; omega
  have m1b1 : decide (64 < (ids.length : Int)) = false := by simp; omega
  have m2b0 : decide ((no.length : Int) > 64) = false := by simp; omega
  have m2b1 : decide (64 < (no.length : Int)) = false := by simp; omega
  have m3b0 : decide ((refs.length : Int) > 256) = false := by simp; omega
  have m3b1 : decide (256 < (refs.length : Int)) = false := by simp; omega
  have m4b0 : decide ((data.size : Int) > 700) = false := by simp; omega
  have m4b1 : decide (700 < (data.size : Int)) = false := by simp; omega
  have f1b0 : decide (ask > 4611686018427387904) = false := by simp; omega
  have f1b1 : decide (4611686018427387904 < ask) = false := by simp; omega
  have f2b0 : decide (n < 0) = false := by simp; omega
  have f3b0 : decide (n > 4194304) = true := by simp; omega
  have f3b1 : decide (4194304 < n) = true := by simp; omega
  clear f3 k1 k2 m1 m2 m3 m4 f1 f2
  go_enter Try.func17, Try.ntmps17
  go_wp2_with fail
  go_ret
  exact ⟨by rw [HR.out]; rfl, (Below.refl _ _).alloc (Nat.le_refl _) _⟩
 by_cases f4 : ¬ 0 ≤ of
 ·have hR' : R = 230 := by rw [hR]; simp [f4, k1, k2, m1, m2, m3, m4, f1, f2, f3]
  have HR := Lib.hid hR'
  clear hR hR'
  have k1b0 : decide (kind < 1) = false := by simp; omega
  have k2b0 : decide (kind > 9) = false := by simp; omega
  have k2b1 : decide (9 < kind) = false := by simp; omega
  have m1b0 : decide ((ids.length : Int) > 64) = false := by simp; omega
  have m1b1 : decide (64 < (ids.length : Int)) = false := by simp; omega
  have m2b0 : decide ((no.length : Int) > 64) = false := by simp; omega
  have m2b1 : decide (64 < (no.length : Int)) = false := by simp; omega
  have m3b0 : decide ((refs.length : Int) > 256) = false := by simp; omega
  have m3b1 : decide (256 < (refs.length : Int)) = false := by simp; omega
  have m4b0 : decide ((data.size : Int) > 700) = false := by simp; omega
  have m4b1 : decide (700 < (data.size : Int)) = false := by simp; omega
  have f1b0 : decide (ask > 4611686018427387904) = false := by simp; omega
  have f1b1 : decide (4611686018427387904 < ask) = false := by simp; omega
  have f2b0 : decide (n < 0) = false := by simp; omega
  have f3b0 : decide (n > 4194304) = false := by simp; omega
  have f3b1 : decide (4194304 < n) = false := by simp; omega
  have f4b0 : decide (of < 0) = true := by simp; omega
  clear f4 k1 k2 m1 m2 m3 m4 f1 f2 f3
  go_enter Try.func17, Try.ntmps17
  go_wp2_with fail
  go_ret
  exact ⟨by rw [HR.out]; rfl, (Below.refl _ _).alloc (Nat.le_refl _) _⟩
 by_cases f5 : ¬ of ≤ 4194304
 ·have hR' : R = 230 := by rw [hR]; simp [f5, k1, k2, m1, m2, m3, m4, f1, f2, f3, f4]
  have HR := Lib.hid hR'
  clear hR hR'
  have k1b0 : decide (kind < 1) = false := by simp; omega
  have k2b0 : decide (kind > 9) = false := by simp; omega
  have k2b1 : decide (9 < kind) = false := by simp; omega
  have m1b0 : decide ((ids.length : Int) > 64) = false := by simp; omega
  have m1b1 : decide (64 < (ids.length : Int)) = false := by simp; omega
  have m2b0 : decide ((no.length : Int) > 64) = false := by simp; omega
  have m2b1 : decide (64 < (no.length : Int)) = false := by simp; omega
  have m3b0 : decide ((refs.length : Int) > 256) = false := by simp; omega
  have m3b1 : decide (256 < (refs.length : Int)) = false := by simp; omega
  have m4b0 : decide ((data.size : Int) > 700) = false := by simp; omega
  have m4b1 : decide (700 < (data.size : Int)) = false := by simp; omega
  have f1b0 : decide (ask > 4611686018427387904) = false := by simp; omega
  have f1b1 : decide (4611686018427387904 < ask) = false := by simp; omega
  have f2b0 : decide (n < 0) = false := by simp; omega
  have f3b0 : decide (n > 4194304) = false := by simp; omega
  have f3b1 : decide (4194304 < n) = false := by simp; omega
  have f4b0 : decide (of < 0) = false := by simp; omega
  have f5b0 : decide (of > 4194304) = true := by simp; omega
  have f5b1 : decide (4194304 < of) = true := by simp; omega
  clear f5 k1 k2 m1 m2 m3 m4 f1 f2 f3 f4
  go_enter Try.func17, Try.ntmps17
  go_wp2_with fail
  go_ret
  exact ⟨by rw [HR.out]; rfl, (Below.refl _ _).alloc (Nat.le_refl _) _⟩
 have k1b0 : decide (kind < 1) = false := by simp; omega
 have k2b0 : decide (kind > 9) = false := by simp; omega
 have k2b1 : decide (9 < kind) = false := by simp; omega
 have m1b0 : decide ((ids.length : Int) > 64) = false := by simp; omega
 have m1b1 : decide (64 < (ids.length : Int)) = false := by simp; omega
 have m2b0 : decide ((no.length : Int) > 64) = false := by simp; omega
 have m2b1 : decide (64 < (no.length : Int)) = false := by simp; omega
 have m3b0 : decide ((refs.length : Int) > 256) = false := by simp; omega
 have m3b1 : decide (256 < (refs.length : Int)) = false := by simp; omega
 have m4b0 : decide ((data.size : Int) > 700) = false := by simp; omega
 have m4b1 : decide (700 < (data.size : Int)) = false := by simp; omega
 have f1b0 : decide (ask > 4611686018427387904) = false := by simp; omega
 have f1b1 : decide (4611686018427387904 < ask) = false := by simp; omega
 have f2b0 : decide (n < 0) = false := by simp; omega
 have f3b0 : decide (n > 4194304) = false := by simp; omega
 have f3b1 : decide (4194304 < n) = false := by simp; omega
 have f4b0 : decide (of < 0) = false := by simp; omega
 have f5b0 : decide (of > 4194304) = false := by simp; omega
 have f5b1 : decide (4194304 < of) = false := by simp; omega
 have hsim : R = if (ticket.size == 0 || ticket.size == 32) && (idsOk ids && idsOk no && refsOk refs) then 0 else 230 := by
  rw [hR]
  have g1 : ask ≤ 4611686018427387904 := by omega
  have g2 : 0 ≤ n := by omega
  have g3 : n ≤ 4194304 := by omega
  have g4 : 0 ≤ of := by omega
  have g5 : of ≤ 4194304 := by omega
  simp [k1, k2, m1, m2, m3, m4, g1, g2, g3, g4, g5]
 have hm1 : ids.length ≤ 64 := by omega
 have hm2 : no.length ≤ 64 := by omega
 have hm3 : refs.length ≤ 256 := by omega
 clear k1 k2 m1 m2 m3 m4 f1 f2 f3 f4 f5 hR
 by_cases t0 : ticket.size = 0
 case neg =>
  by_cases t1 : ticket.size = 32
  case neg =>
   have hR' : R = 230 := by rw [hsim]; simp [t0, t1]
   have HR := Lib.hid hR'
   have e1 := str_full' t0
   have e2 := str_full t0
   have e3 : ((ticket.size : Int) != 32) = true := by simp; omega
   clear hR' hsim t0 t1
   go_enter Try.func17, Try.ntmps17
   go_wp2_with fail
   go_ret
   exact ⟨by rw [HR.out]; rfl, (Below.refl _ _).alloc (Nat.le_refl _) _⟩
  case pos =>
   have hR' : R = if idsOk ids && idsOk no && refsOk refs then 0 else 230 := by rw [hsim]; simp [t1]
   have HR := Lib.hid hR'
   have e1 := str_full' t0
   have e2 := str_full t0
   have e3 : ((ticket.size : Int) != 32) = false := by simp; omega
   have HX := Lib.hid (rfl : ticket.size = ticket.size)
   clear hR' hsim t0 t1
   go_enter Try.func17, Try.ntmps17
   go_wp2_with fail
   go_loopg [79] 2 (fun gg s79 wr => ∃ i : Nat, i ≤ 2 ∧ gg = 2 - i ∧ s79 = .int .i64 i ∧ Hid ((1 ≤ i → idsOk ids = true) ∧ (2 ≤ i → idsOk no = true)) ∧
     Hid (wr.cell? ⟨w.heap.size + 1, 0, none⟩ = some (.slice A2 ids.length c2) ∧ wr.cell? ⟨w.heap.size + 1, 1, none⟩ = some (.slice A3 no.length c3) ∧ wr.cell? ⟨w.heap.size, 4, none⟩ = some (.slice A4 refs.length c4)) ∧ Hid (Below w.heap.size w wr))
   case atStart => exact ⟨0, by omega, rfl, rfl, ⟨fun h => by omega, fun h => by omega⟩, ⟨by simp [go_sem], by simp [go_sem], by simp [go_sem]⟩, ((Below.refl _ _).alloc (Nat.le_refl _) _).alloc (by simp) _⟩
   case round =>
    obtain ⟨i, hi2, hgg, rfl, HI, HCL, HBW⟩ := hrel
    obtain rfl | rfl | rfl : i = 0 ∨ i = 1 ∨ i = 2 := by omega
    ·clear HI
     have d1 := HCL.out.1
     go_wp2_with fail
     go_loop [85] (fun s85 => ∃ j : Nat, j ≤ ids.length ∧ s85 = .int .i64 j ∧ Hid (idsOk (ids.take j) = true)) (fun s85 => ids.length - (intOf s85).toNat)
     case atStart => exact ⟨0, Nat.zero_le _, rfl, rfl⟩
     case round =>
      obtain ⟨j, hj, rfl, HJ⟩ := hrel
      by_cases hlt : j < ids.length
      ·have hjb : decide (j < ids.length) = true := by simpa using hlt
       obtain ⟨x, rfl, hcell0⟩ := strC_at HC.out.1 j hlt
       have hcell := z14 HBW.out hcell0
       clear hcell0
       by_cases h32 : (ids[j]).size = 32
       ·have hb : ((((ids[j]).size : Nat) : Int) != 32) = false := by simp; omega
        have HN : Hid (idsOk (ids.take (j + 1)) = true) := by
         have h := HJ.out
         unfold Hid idsOk at *
         rw [List.take_succ_eq_append_getElem hlt, List.all_append, h]
         simp [h32]
        clear h32
        go_wp2_with fail
        go_round
        case rel => exact ⟨j + 1, by omega, by go_num, HN⟩
        case measure => simp [intOf]; omega
       ·have hb : ((((ids[j]).size : Nat) : Int) != 32) = true := by simp; omega
        have HF : Hid (R = 230) := by
         unfold Hid
         rw [HR.out, if_neg]
         have hf : idsOk ids = false := by
          unfold idsOk
          rw [Bool.eq_false_iff]
          intro h
          exact h32 (by simpa using List.all_eq_true.1 h _ (List.getElem_mem hlt))
         simp [hf]
        clear h32
        go_wp2_with fail
        go_ret
        exact ⟨by rw [HF.out]; rfl, HBW.out⟩
      ·have hjb : decide (j < ids.length) = false := by simpa using hlt
       have HN := HJ.out
       rw [List.take_of_length_le (by omega)] at HN
       have HN := Lib.hid HN
       clear hlt
       go_wp2_with fail
       go_roundg (2 - (0 + 1))
       case measure => omega
       case rel => exact ⟨0 + 1, by omega, rfl, rfl, ⟨fun _ => HN.out, fun h => by omega⟩, HCL.out, HBW.out⟩
    ·have HI1 := Lib.hid (HI.out.1 (by omega))
     clear HI
     have d1 := HCL.out.2.1
     go_wp2_with fail
     go_loop [85] (fun s85 => ∃ j : Nat, j ≤ no.length ∧ s85 = .int .i64 j ∧ Hid (idsOk (no.take j) = true)) (fun s85 => no.length - (intOf s85).toNat)
     case atStart => exact ⟨0, Nat.zero_le _, rfl, rfl⟩
     case round =>
      obtain ⟨j, hj, rfl, HJ⟩ := hrel
      by_cases hlt : j < no.length
      ·have hjb : decide (j < no.length) = true := by simpa using hlt
       obtain ⟨x, rfl, hcell0⟩ := strC_at HC.out.2.1 j hlt
       have hcell := z14 HBW.out hcell0
       clear hcell0
       by_cases h32 : (no[j]).size = 32
       ·have hb : ((((no[j]).size : Nat) : Int) != 32) = false := by simp; omega
        have HN : Hid (idsOk (no.take (j + 1)) = true) := by
         have h := HJ.out
         unfold Hid idsOk at *
         rw [List.take_succ_eq_append_getElem hlt, List.all_append, h]
         simp [h32]
        clear h32
        go_wp2_with fail
        go_round
        case rel => exact ⟨j + 1, by omega, by go_num, HN⟩
        case measure => simp [intOf]; omega
       ·have hb : ((((no[j]).size : Nat) : Int) != 32) = true := by simp; omega
        have HF : Hid (R = 230) := by
         unfold Hid
         rw [HR.out, if_neg]
         have hf : idsOk no = false := by
          unfold idsOk
          rw [Bool.eq_false_iff]
          intro h
          exact h32 (by simpa using List.all_eq_true.1 h _ (List.getElem_mem hlt))
         simp [hf]
        clear h32
        go_wp2_with fail
        go_ret
        exact ⟨by rw [HF.out]; rfl, HBW.out⟩
      ·have hjb : decide (j < no.length) = false := by simpa using hlt
       have HN := HJ.out
       rw [List.take_of_length_le (by omega)] at HN
       have HN := Lib.hid HN
       clear hlt
       go_wp2_with fail
       go_roundg (2 - (1 + 1))
       case measure => omega
       case rel => exact ⟨1 + 1, by omega, rfl, rfl, ⟨fun _ => HI1.out, fun _ => HN.out⟩, HCL.out, HBW.out⟩
    ·have hi1 := HI.out.1 (by omega)
     have hi2' := HI.out.2 (by omega)
     have hR2 : R = if refsOk refs then 0 else 230 := by rw [HR.out, hi1, hi2']; simp
     have HR2 := Lib.hid hR2
     have d1 := HCL.out.2.2
     clear hi1 hi2' hR2 HI hi2 HCL hgg
     go_wp2_with fail
     clear d1
     go_loopg [97] refs.length (fun gg s97 wq => ∃ j : Nat, j ≤ refs.length ∧ gg = refs.length - j ∧ s97 = .int .i64 j ∧ Hid (refsOk (refs.take j) = true) ∧ Hid (Below w.heap.size w wq))
     case atStart => exact ⟨0, Nat.zero_le _, rfl, rfl, rfl, HBW.out⟩
     case round =>
      obtain ⟨j, hj, hgg, rfl, HJ, HBQ⟩ := hrel
      have HG := Lib.hid hgg
      clear hgg
      by_cases hlt : j < refs.length
      ·have hjb : decide (j < refs.length) = true := by simpa using hlt
       obtain ⟨x, rfl, hca, hcb⟩ := refC_at HC.out.2.2 j hlt
       have hc0 := z14 HBQ.out hca
       have hc1 := z14 HBQ.out hcb
       rw [add_field _ _ _ (by omega)] at hc1
       clear hca hcb
       have hstep : refsOk (refs.take (j + 1)) = (refOk (bs (refs[j]).1) && (refs[j]).2.size == 32) := by
        have h := HJ.out
        unfold refsOk at *
        rw [List.take_succ_eq_append_getElem hlt, List.all_append, h]
        simp
       have hbad : (refOk (bs (refs[j]).1) && (refs[j]).2.size == 32) = false → R = 230 := by
        intro hf
        rw [HR2.out, if_neg]
        intro h
        have := List.all_eq_true.1 h _ (List.getElem_mem hlt)
        rw [hf] at this
        cases this
       have HS := Lib.hid (And.intro hstep hbad)
       clear hstep hbad
       obtain ⟨nm, hnm⟩ : ∃ nm, nm = (refs[j]).1 := ⟨_, rfl⟩
       obtain ⟨d, hd⟩ : ∃ d, d = (refs[j]).2 := ⟨_, rfl⟩
       rw [← hnm] at hc0 HS
       rw [← hd] at hc1 HS
       clear hnm hd
       go_wp2_with fail
       refine (ref_calls nm _).mono ?_
       rintro e w3 ⟨rfl, hb3⟩
       have hcc : w3.cell? ⟨wr.heap.size, 1, none⟩ = some (.string d) := z14 hb3 (by simp [go_sem])
       have hbw : Below w.heap.size w w3 := (HBQ.out.alloc HBQ.out.size _).trans (hb3.mono (by have := HBQ.out.size; simp; omega))
       have HB3 := Lib.hid hbw
       clear hbw hb3
       by_cases hr : refOk (bs nm) = true
       ·by_cases h32 : d.size = 32
        ·have hb : ((d.size : Int) != 32) = false := by simp; omega
         have HN : Hid (refsOk (refs.take (j + 1)) = true) := by unfold Hid; rw [HS.out.1, hr, h32]; rfl
         clear h32 hlt
         go_wp2_with fail
         go_roundg (refs.length - (j + 1))
         case measure => have := HG.out; have := of_decide_eq_true hjb; omega
         case rel => exact ⟨j + 1, by have := of_decide_eq_true hjb; omega, rfl, by go_num, HN, HB3.out⟩
        ·have hb : ((d.size : Int) != 32) = true := by simp; omega
         have HN := Lib.hid (HS.out.2 (by rw [hr]; simpa using h32))
         clear h32 hlt
         go_wp2_with fail
         go_ret
         exact ⟨by rw [HN.out]; rfl, HB3.out⟩
       ·have hr' : refOk (bs nm) = false := by simpa using hr
        have HN := Lib.hid (HS.out.2 (by rw [hr']; rfl))
        clear hr hlt
        go_wp2_with fail
        go_ret
        exact ⟨by rw [HN.out]; rfl, HB3.out⟩
      ·have hjb : decide (j < refs.length) = false := by simpa using hlt
       have hR3 : R = 0 := by
        have h := HJ.out
        rw [List.take_of_length_le (by omega)] at h
        rw [HR2.out, if_pos h]
       have HR3 := Lib.hid hR3
       clear hR3 hlt
       go_wp2_with fail
       go_ret
       exact ⟨by rw [HR3.out]; rfl, HBQ.out⟩
 case pos =>
  have hR' : R = if idsOk ids && idsOk no && refsOk refs then 0 else 230 := by rw [hsim]; simp [t0]
  have HR := Lib.hid hR'
  have e1 := str_empty' t0
  have e2 := str_empty t0
  clear hR' hsim t0
  go_enter Try.func17, Try.ntmps17
  go_wp2_with fail
  go_loopg [79] 2 (fun gg s79 wr => ∃ i : Nat, i ≤ 2 ∧ gg = 2 - i ∧ s79 = .int .i64 i ∧ Hid ((1 ≤ i → idsOk ids = true) ∧ (2 ≤ i → idsOk no = true)) ∧
    Hid (wr.cell? ⟨w.heap.size + 1, 0, none⟩ = some (.slice A2 ids.length c2) ∧ wr.cell? ⟨w.heap.size + 1, 1, none⟩ = some (.slice A3 no.length c3) ∧ wr.cell? ⟨w.heap.size, 4, none⟩ = some (.slice A4 refs.length c4)) ∧ Hid (Below w.heap.size w wr))
  case atStart => exact ⟨0, by omega, rfl, rfl, ⟨fun h => by omega, fun h => by omega⟩, ⟨by simp [go_sem], by simp [go_sem], by simp [go_sem]⟩, ((Below.refl _ _).alloc (Nat.le_refl _) _).alloc (by simp) _⟩
  case round =>
   obtain ⟨i, hi2, hgg, rfl, HI, HCL, HBW⟩ := hrel
   obtain rfl | rfl | rfl : i = 0 ∨ i = 1 ∨ i = 2 := by omega
   ·clear HI
    have d1 := HCL.out.1
    go_wp2_with fail
    go_loop [85] (fun s85 => ∃ j : Nat, j ≤ ids.length ∧ s85 = .int .i64 j ∧ Hid (idsOk (ids.take j) = true)) (fun s85 => ids.length - (intOf s85).toNat)
    case atStart => exact ⟨0, Nat.zero_le _, rfl, rfl⟩
    case round =>
     obtain ⟨j, hj, rfl, HJ⟩ := hrel
     by_cases hlt : j < ids.length
     ·have hjb : decide (j < ids.length) = true := by simpa using hlt
      obtain ⟨x, rfl, hcell0⟩ := strC_at HC.out.1 j hlt
      have hcell := z14 HBW.out hcell0
      clear hcell0
      by_cases h32 : (ids[j]).size = 32
      ·have hb : ((((ids[j]).size : Nat) : Int) != 32) = false := by simp; omega
       have HN : Hid (idsOk (ids.take (j + 1)) = true) := by
        have h := HJ.out
        unfold Hid idsOk at *
        rw [List.take_succ_eq_append_getElem hlt, List.all_append, h]
        simp [h32]
       clear h32
       go_wp2_with fail
       go_round
       case rel => exact ⟨j + 1, by omega, by go_num, HN⟩
       case measure => simp [intOf]; omega
      ·have hb : ((((ids[j]).size : Nat) : Int) != 32) = true := by simp; omega
       have HF : Hid (R = 230) := by
        unfold Hid
        rw [HR.out, if_neg]
        have hf : idsOk ids = false := by
         unfold idsOk
         rw [Bool.eq_false_iff]
         intro h
         exact h32 (by simpa using List.all_eq_true.1 h _ (List.getElem_mem hlt))
        simp [hf]
       clear h32
       go_wp2_with fail
       go_ret
       exact ⟨by rw [HF.out]; rfl, HBW.out⟩
     ·have hjb : decide (j < ids.length) = false := by simpa using hlt
      have HN := HJ.out
      rw [List.take_of_length_le (by omega)] at HN
      have HN := Lib.hid HN
      clear hlt
      go_wp2_with fail
      go_roundg (2 - (0 + 1))
      case measure => omega
      case rel => exact ⟨0 + 1, by omega, rfl, rfl, ⟨fun _ => HN.out, fun h => by omega⟩, HCL.out, HBW.out⟩
   ·have HI1 := Lib.hid (HI.out.1 (by omega))
    clear HI
    have d1 := HCL.out.2.1
    go_wp2_with fail
    go_loop [85] (fun s85 => ∃ j : Nat, j ≤ no.length ∧ s85 = .int .i64 j ∧ Hid (idsOk (no.take j) = true)) (fun s85 => no.length - (intOf s85).toNat)
    case atStart => exact ⟨0, Nat.zero_le _, rfl, rfl⟩
    case round =>
     obtain ⟨j, hj, rfl, HJ⟩ := hrel
     by_cases hlt : j < no.length
     ·have hjb : decide (j < no.length) = true := by simpa using hlt
      obtain ⟨x, rfl, hcell0⟩ := strC_at HC.out.2.1 j hlt
      have hcell := z14 HBW.out hcell0
      clear hcell0
      by_cases h32 : (no[j]).size = 32
      ·have hb : ((((no[j]).size : Nat) : Int) != 32) = false := by simp; omega
       have HN : Hid (idsOk (no.take (j + 1)) = true) := by
        have h := HJ.out
        unfold Hid idsOk at *
        rw [List.take_succ_eq_append_getElem hlt, List.all_append, h]
        simp [h32]
       clear h32
       go_wp2_with fail
       go_round
       case rel => exact ⟨j + 1, by omega, by go_num, HN⟩
       case measure => simp [intOf]; omega
      ·have hb : ((((no[j]).size : Nat) : Int) != 32) = true := by simp; omega
       have HF : Hid (R = 230) := by
        unfold Hid
        rw [HR.out, if_neg]
        have hf : idsOk no = false := by
         unfold idsOk
         rw [Bool.eq_false_iff]
         intro h
         exact h32 (by simpa using List.all_eq_true.1 h _ (List.getElem_mem hlt))
        simp [hf]
       clear h32
       go_wp2_with fail
       go_ret
       exact ⟨by rw [HF.out]; rfl, HBW.out⟩
     ·have hjb : decide (j < no.length) = false := by simpa using hlt
      have HN := HJ.out
      rw [List.take_of_length_le (by omega)] at HN
      have HN := Lib.hid HN
      clear hlt
      go_wp2_with fail
      go_roundg (2 - (1 + 1))
      case measure => omega
      case rel => exact ⟨1 + 1, by omega, rfl, rfl, ⟨fun _ => HI1.out, fun _ => HN.out⟩, HCL.out, HBW.out⟩
   ·have hi1 := HI.out.1 (by omega)
    have hi2' := HI.out.2 (by omega)
    have hR2 : R = if refsOk refs then 0 else 230 := by rw [HR.out, hi1, hi2']; simp
    have HR2 := Lib.hid hR2
    have d1 := HCL.out.2.2
    clear hi1 hi2' hR2 HI hi2 HCL hgg
    go_wp2_with fail
    clear d1
    go_loopg [97] refs.length (fun gg s97 wq => ∃ j : Nat, j ≤ refs.length ∧ gg = refs.length - j ∧ s97 = .int .i64 j ∧ Hid (refsOk (refs.take j) = true) ∧ Hid (Below w.heap.size w wq))
    case atStart => exact ⟨0, Nat.zero_le _, rfl, rfl, rfl, HBW.out⟩
    case round =>
     obtain ⟨j, hj, hgg, rfl, HJ, HBQ⟩ := hrel
     have HG := Lib.hid hgg
     clear hgg
     by_cases hlt : j < refs.length
     ·have hjb : decide (j < refs.length) = true := by simpa using hlt
      obtain ⟨x, rfl, hca, hcb⟩ := refC_at HC.out.2.2 j hlt
      have hc0 := z14 HBQ.out hca
      have hc1 := z14 HBQ.out hcb
      rw [add_field _ _ _ (by omega)] at hc1
      clear hca hcb
      have hstep : refsOk (refs.take (j + 1)) = (refOk (bs (refs[j]).1) && (refs[j]).2.size == 32) := by
       have h := HJ.out
       unfold refsOk at *
       rw [List.take_succ_eq_append_getElem hlt, List.all_append, h]
       simp
      have hbad : (refOk (bs (refs[j]).1) && (refs[j]).2.size == 32) = false → R = 230 := by
       intro hf
       rw [HR2.out, if_neg]
       intro h
       have := List.all_eq_true.1 h _ (List.getElem_mem hlt)
       rw [hf] at this
       cases this
      have HS := Lib.hid (And.intro hstep hbad)
      clear hstep hbad
      obtain ⟨nm, hnm⟩ : ∃ nm, nm = (refs[j]).1 := ⟨_, rfl⟩
      obtain ⟨d, hd⟩ : ∃ d, d = (refs[j]).2 := ⟨_, rfl⟩
      rw [← hnm] at hc0 HS
      rw [← hd] at hc1 HS
      clear hnm hd
      go_wp2_with fail
      refine (ref_calls nm _).mono ?_
      rintro e w3 ⟨rfl, hb3⟩
      have hcc : w3.cell? ⟨wr.heap.size, 1, none⟩ = some (.string d) := z14 hb3 (by simp [go_sem])
      have hbw : Below w.heap.size w w3 := (HBQ.out.alloc HBQ.out.size _).trans (hb3.mono (by have := HBQ.out.size; simp; omega))
      have HB3 := Lib.hid hbw
      clear hbw hb3
      by_cases hr : refOk (bs nm) = true
      ·by_cases h32 : d.size = 32
       ·have hb : ((d.size : Int) != 32) = false := by simp; omega
        have HN : Hid (refsOk (refs.take (j + 1)) = true) := by unfold Hid; rw [HS.out.1, hr, h32]; rfl
        clear h32 hlt
        go_wp2_with fail
        go_roundg (refs.length - (j + 1))
        case measure => have := HG.out; have := of_decide_eq_true hjb; omega
        case rel => exact ⟨j + 1, by have := of_decide_eq_true hjb; omega, rfl, by go_num, HN, HB3.out⟩
       ·have hb : ((d.size : Int) != 32) = true := by simp; omega
        have HN := Lib.hid (HS.out.2 (by rw [hr]; simpa using h32))
        clear h32 hlt
        go_wp2_with fail
        go_ret
        exact ⟨by rw [HN.out]; rfl, HB3.out⟩
      ·have hr' : refOk (bs nm) = false := by simpa using hr
       have HN := Lib.hid (HS.out.2 (by rw [hr']; rfl))
       clear hr hlt
       go_wp2_with fail
       go_ret
       exact ⟨by rw [HN.out]; rfl, HB3.out⟩
     ·have hjb : decide (j < refs.length) = false := by simpa using hlt
      have hR3 : R = 0 := by
       have h := HJ.out
       rw [List.take_of_length_le (by omega)] at h
       rw [HR2.out, if_pos h]
      have HR3 := Lib.hid hR3
      clear hR3 hlt
      go_wp2_with fail
      go_ret
      exact ⟨by rw [HR3.out]; rfl, HBQ.out⟩
end Go.Proofs.Ytcfdplmapdgfmaa.Mine
