import Derived.Test.YtcfdplmapdgfmaaYFrC
import Derived.Test.YtcfdplmapdgfmaaYPGx0
import Derived.Test.YtcfdplmapdgfmaaYPGx1
import Derived.Test.YtcfdplmapdgfmaaYPGx2
set_option linter.unusedVariables false
set_option linter.unusedSimpArgs false
namespace Go.Proofs.Ytcfdplmapdgfmaa.Mine
open List renaming setIfInBounds_toArray → q1, set_cons_zero → q2, set_cons_succ → q3
open Go.RowKit Go.Proofs.YtcfdplmapdgfmaaW.PrintWords
def Okl (l : List Nat) : Prop := (∀ c ∈ l, c < 256) ∧ l.length ≤ 1000000000
theorem Okl.drop {l : List Nat} (h : Okl l) (n : Nat) : Okl (l.drop n) := ⟨fun c hc => h.1 c (List.mem_of_mem_drop hc), by rw [List.length_drop]; have := h.2; omega⟩
theorem Okl.take {l : List Nat} (h : Okl l) (n : Nat) : Okl (l.take n) := ⟨fun c hc => h.1 c (List.mem_of_mem_take hc), by rw [List.length_take]; have := h.2; omega⟩
theorem numS_ok {a : St} {m : Nat} (h : Okl a.1) : Okl (numS a m).1.1 := by unfold numS; split; exact h.drop _; exact h
theorem bytesS_ok {a : St} {n : Nat} (h : Okl a.1) : Okl (bytesS a n).1.1 := by unfold bytesS; split; exact h.drop _; exact h
theorem bytesS_two {a : St} {n : Nat} (h : Okl a.1) : Okl (bytesS a n).2 := by unfold bytesS; split; exact h.take _; exact ⟨by simp, by simp⟩
theorem textS_ok {a : St} {n : Nat} (h : Okl a.1) : Okl (textS a n).1.1 := bytesS_ok (numS_ok h)
theorem textS_two {a : St} {n : Nat} (h : Okl a.1) : Okl (textS a n).2 := bytesS_two (numS_ok h)
theorem idsGo_ok : ∀ (n : Nat) (a : St) (out : List ByteArray), Okl a.1 → Okl (idsGo n a out).1.1
 | 0, a, out, h => h
 | n + 1, a, out, h => by
  rw [idsGo]; split
  ·exact idsGo_ok n _ _ (bytesS_ok h)
  ·exact h
theorem idsS_ok {a : St} (h : Okl a.1) : Okl (idsS a).1.1 := idsGo_ok _ _ _ (numS_ok h)
theorem refsGo_ok : ∀ (n : Nat) (a : St) (out : List RefP), Okl a.1 → Okl (refsGo n a out).1.1
 | 0, a, out, h => h
 | n + 1, a, out, h => by
  rw [refsGo]; split
  ·exact refsGo_ok n _ _ (textS_ok (bytesS_ok h))
  ·exact h
theorem numS_le (a : St) (m : Nat) : (numS a m).2 ≤ m := by unfold numS; split; exact (by assumption : _ ∧ _ ∧ _).2.2; exact Nat.zero_le _
theorem bytesS_inv {a : St} {n : Nat} (h : (bytesS a n).1.2 = true) : a.2 = true ∧ a.1 = (bytesS a n).2 ++ (bytesS a n).1.1 ∧ (bytesS a n).2.length = n := by
 unfold bytesS at *
 split at h
 ·rename_i hc
  rw [if_pos hc]
  exact ⟨hc.1, (List.take_append_drop _ _).symm, by rw [List.length_take]; omega⟩
 ·cases h
structure Chain (l : List Nat) (t : Took) : Prop where
 e0 : bytesS (l, true) 1 = (t.a0, t.k)
 e1 : numS t.a0 4611686018427387904 = (t.a1, t.ask)
 e2 : idsS t.a1 = (t.a2, t.ids)
 e3 : idsS t.a2 = (t.a3, t.no)
 e4 : numS t.a3 256 = (t.a4, t.many)
 e5 : refsGo t.many t.a4 [] = (t.a5, t.refs)
 e6 : textS t.a5 32 = (t.a6, t.ticket)
 e7 : numS t.a6 4194304 = (t.a7, t.n)
 e8 : numS t.a7 4194304 = (t.a8, t.of)
 e9 : textS t.a8 700 = (t.a9, t.data)
theorem chain_all (l : List Nat) : Chain l (takeAll l) := ⟨rfl, rfl, rfl, rfl, rfl, rfl, rfl, rfl, rfl, rfl⟩
theorem Chain.eq {l : List Nat} {t : Took} (h : Chain l t) : takeAll l = t := by
 obtain ⟨e0, e1, e2, e3, e4, e5, e6, e7, e8, e9⟩ := h
 obtain ⟨a0, k, a1, ask, a2, ids, a3, no, a4, many, a5, refs, a6, ticket, a7, n, a8, of, a9, data⟩ := t
 dsimp only at *
 simp only [takeAll, e0, e1, e2, e3, e4, e5, e6, e7, e8, e9]
theorem numS_ok' {a b : St} {m n : Nat} (e : numS a m = (b, n)) (hl : Okl a.1) : Okl b.1 := by
 have := numS_ok (a := a) (m := m) hl; rw [e] at this; exact this
theorem textS_ok' {a b : St} {m : Nat} {x : List Nat} (e : textS a m = (b, x)) (hl : Okl a.1) : Okl b.1 ∧ Okl x := by
 have := textS_ok (a := a) (n := m) hl; have h2 := textS_two (a := a) (n := m) hl; rw [e] at this h2; exact ⟨this, h2⟩
theorem bytesS_inv' {a b : St} {m : Nat} {x : List Nat} (e : bytesS a m = (b, x)) (h : b.2 = true) : a.2 = true ∧ a.1 = x ++ b.1 ∧ x.length = m := by
 have := bytesS_inv (a := a) (n := m) (by rw [e]; exact h)
 rw [e] at this; exact this
theorem bytesS_ok' {a b : St} {m : Nat} {x : List Nat} (e : bytesS a m = (b, x)) (hl : Okl a.1) : Okl b.1 ∧ Okl x := by
 have := bytesS_ok (a := a) (n := m) hl; have h2 := bytesS_two (a := a) (n := m) hl; rw [e] at this h2; exact ⟨this, h2⟩
theorem idsS_ok' {a b : St} {x : List ByteArray} (e : idsS a = (b, x)) (hl : Okl a.1) : Okl b.1 := by
 have := idsS_ok (a := a) hl; rw [e] at this; exact this
theorem refsGo_ok' {a b : St} {n : Nat} {x : List RefP} (e : refsGo n a [] = (b, x)) (hl : Okl a.1) : Okl b.1 := by
 have := refsGo_ok n a [] hl; rw [e] at this; exact this
structure ChainOk (t : Took) : Prop where
 g0 : Okl t.a0.1
 gk : Okl t.k
 g1 : Okl t.a1.1
 g2 : Okl t.a2.1
 g3 : Okl t.a3.1
 g4 : Okl t.a4.1
 g5 : Okl t.a5.1
 g6 : Okl t.a6.1
 gt : Okl t.ticket
 g7 : Okl t.a7.1
 g8 : Okl t.a8.1
 g9 : Okl t.a9.1
 gd : Okl t.data
theorem Chain.ok {l : List Nat} {t : Took} (h : Chain l t) (hl : Okl l) : ChainOk t := by
 obtain ⟨e0, e1, e2, e3, e4, e5, e6, e7, e8, e9⟩ := h
 obtain ⟨g0, gk⟩ := bytesS_ok' e0 hl
 have g1 := numS_ok' e1 g0
 have g2 := idsS_ok' e2 g1
 have g3 := idsS_ok' e3 g2
 have g4 := numS_ok' e4 g3
 have g5 := refsGo_ok' e5 g4
 obtain ⟨g6, gt⟩ := textS_ok' e6 g5
 have g7 := numS_ok' e7 g6
 have g8 := numS_ok' e8 g7
 obtain ⟨g9, gd⟩ := textS_ok' e9 g8
 exact ⟨g0, gk, g1, g2, g3, g4, g5, g6, gt, g7, g8, g9, gd⟩
theorem numS_do (n m : Nat) (s : List Nat) (hn : n ≤ m) (hm : n < 9223372036854775808) : numS (num n ++ s, true) m = ((s, true), n) := by
 unfold numS
 dsimp only
 rw [unnum_num n hm s, if_pos ⟨rfl, rfl, hn⟩, List.drop_left]
theorem bytesS_do (b s : List Nat) (n : Nat) (hn : b.length = n) : bytesS (b ++ s, true) n = ((s, true), b) := by
 subst hn
 unfold bytesS
 dsimp only
 rw [if_pos ⟨rfl, by rw [List.length_append]; omega⟩, List.drop_left, List.take_left]
theorem textS_do (b : ByteArray) (s : List Nat) (m : Nat) (hb : b.size ≤ m) (hm : b.size < 9223372036854775808) : textS (textP b ++ s, true) m = ((s, true), bs b) := by
 unfold textS textP
 rw [List.append_assoc, numS_do _ _ _ hb hm]
 exact bytesS_do _ _ _ (z17 b)
theorem idsGo_do : ∀ (l : List ByteArray) (s : List Nat) (out : List ByteArray), idsOk l = true → idsGo l.length (cat l ++ s, true) out = ((s, true), out ++ l)
 | [], s, out, _ => by simp [idsGo, cat]
 | x :: l, s, out, h => by
  unfold idsOk at h
  rw [List.all_cons, Bool.and_eq_true, beq_iff_eq] at h
  rw [List.length_cons, idsGo, if_pos rfl, cat, List.append_assoc, bytesS_do _ _ 32 (by rw [z17]; exact h.1)]
  dsimp only
  rw [idsGo_do l s _ h.2, sb_bs]
  simp
theorem idsS_do (l : List ByteArray) (s : List Nat) (h : idsOk l = true) (hl : l.length ≤ 64) : idsS (idsP l ++ s, true) = ((s, true), l) := by
 unfold idsS idsP
 rw [List.append_assoc, numS_do _ _ _ hl (by omega)]
 dsimp only
 rw [idsGo_do l s [] h, List.nil_append]
theorem refOk_len (l : List Nat) (h : refOk l = true) : l.length ≤ 128 := by
 unfold refOk at h
 split at h
 ·unfold restOk at h
  simp only [Bool.and_eq_true, decide_eq_true_eq, List.length_drop] at h
  omega
 ·split at h
  ·unfold restOk at h
   simp only [Bool.and_eq_true, decide_eq_true_eq, List.length_drop] at h
   omega
  ·cases h
theorem refsGo_do : ∀ (l : List RefP) (s : List Nat) (out : List RefP), refsOk l = true → refsGo l.length (refB l ++ s, true) out = ((s, true), out ++ l)
 | [], s, out, _ => by simp [refsGo, refB]
 | x :: l, s, out, h => by
  unfold refsOk at h
  rw [List.all_cons, Bool.and_eq_true, Bool.and_eq_true, beq_iff_eq] at h
  have hn := refOk_len _ h.1.1
  rw [z17] at hn
  rw [List.length_cons, refsGo, if_pos rfl, refB, List.append_assoc, List.append_assoc, bytesS_do _ _ 32 (by rw [z17]; exact h.1.2)]
  dsimp only
  rw [textS_do _ _ _ hn (by omega)]
  dsimp only
  rw [refsGo_do l s _ h.2, sb_bs, sb_bs]
  simp
theorem checkP_zero {x : SayP} (h : checkP x = 0) : 1 ≤ x.kind ∧ x.kind ≤ 9 ∧ x.ids.length ≤ 64 ∧ x.no.length ≤ 64 ∧ x.refs.length ≤ 256 ∧ x.data.size ≤ 700 ∧ x.ask ≤ 4611686018427387904 ∧ 0 ≤ x.n ∧ x.n ≤ 4194304 ∧ 0 ≤ x.of ∧ x.of ≤ 4194304 ∧ x.ticket.size ≤ 32 ∧ idsOk x.ids = true ∧ idsOk x.no = true ∧ refsOk x.refs = true := by
 unfold checkP at h
 split at h
 ·cases h
 ·split at h
  ·cases h
  ·split at h
   ·rename_i h1 h2 h3
    simp [muchP] at h2
    simp [fieldsP] at h3
    obtain ⟨⟨⟨⟨⟨⟨a1, a2⟩, a3⟩, a4⟩, a5⟩, a6⟩, ⟨b1, b2⟩, b3⟩ := h3
    obtain ⟨⟨⟨c1, c2⟩, c3⟩, c4⟩ := h2
    have ht : x.ticket.size ≤ 32 := by
     rcases a6 with e | e
     ·rw [e]; decide
     ·omega
    exact ⟨by omega, by omega, c1, c2, c3, c4, a1, a2, a3, a4, a5, ht, b1, b2, b3⟩
   ·cases h
theorem chain_do (x : SayP) (ha : 0 ≤ x.ask) (h : checkP x = 0) :
  Chain (sayP x) ⟨(num x.ask.toNat ++ (idsP x.ids ++ (idsP x.no ++ (num x.refs.length ++ (refB x.refs ++ (textP x.ticket ++ (num x.n.toNat ++ (num x.of.toNat ++ (textP x.data)))))))), true), [x.kind.toNat],
   (idsP x.ids ++ (idsP x.no ++ (num x.refs.length ++ (refB x.refs ++ (textP x.ticket ++ (num x.n.toNat ++ (num x.of.toNat ++ (textP x.data))))))), true), x.ask.toNat,
   (idsP x.no ++ (num x.refs.length ++ (refB x.refs ++ (textP x.ticket ++ (num x.n.toNat ++ (num x.of.toNat ++ (textP x.data)))))), true), x.ids,
   (num x.refs.length ++ (refB x.refs ++ (textP x.ticket ++ (num x.n.toNat ++ (num x.of.toNat ++ (textP x.data))))), true), x.no,
   (refB x.refs ++ (textP x.ticket ++ (num x.n.toNat ++ (num x.of.toNat ++ (textP x.data)))), true), x.refs.length,
   (textP x.ticket ++ (num x.n.toNat ++ (num x.of.toNat ++ (textP x.data))), true), x.refs,
   (num x.n.toNat ++ (num x.of.toNat ++ (textP x.data)), true), bs x.ticket,
   (num x.of.toNat ++ (textP x.data), true), x.n.toNat,
   (textP x.data, true), x.of.toNat, ([], true), bs x.data⟩ := by
 obtain ⟨h1, h2, h3, h4, h5, h6, h7, h8, h9, h10, h11, h12, h13, h14, h15⟩ := checkP_zero h
 refine ⟨?_, numS_do _ _ _ (by omega) (by omega), idsS_do _ _ h13 h3, idsS_do _ _ h14 h4, numS_do _ _ _ h5 (by omega), ?_, textS_do _ _ _ h12 (by omega), numS_do _ _ _ (by omega) (by omega), numS_do _ _ _ (by omega) (by omega), ?_⟩
 ·rw [show sayP x = [x.kind.toNat] ++ (num x.ask.toNat ++ (idsP x.ids ++ (idsP x.no ++ (num x.refs.length ++ (refB x.refs ++ (textP x.ticket ++ (num x.n.toNat ++ (num x.of.toNat ++ (textP x.data))))))))) from by unfold sayP; simp only [List.append_assoc]]
  exact bytesS_do _ _ 1 rfl
 ·exact refsGo_do _ _ [] h15
 ·have := textS_do x.data [] 700 h6 (by omega)
  rw [List.append_nil] at this; exact this
theorem good_do (x : SayP) (ha : 0 ≤ x.ask) (h : checkP x = 0) : (takeAll (sayP x)).good = true ∧ (takeAll (sayP x)).say = x := by
 obtain ⟨h1, h2, h3, h4, h5, h6, h7, h8, h9, h10, h11, h12, h13, h14, h15⟩ := checkP_zero h
 rw [(chain_do x ha h).eq]
 have hs : ∀ (a0 a1 a2 a3 a4 a5 a6 a7 a8 a9 : St) (m : Nat), a0.2 = true → (Took.mk a0 [x.kind.toNat] a1 x.ask.toNat a2 x.ids a3 x.no a4 m a5 x.refs a6 (bs x.ticket) a7 x.n.toNat a8 x.of.toNat a9 (bs x.data)).say = x := by
  intro a0 a1 a2 a3 a4 a5 a6 a7 a8 a9 m h0
  obtain ⟨kind, ask, ids, no, refs, ticket, n, of, data⟩ := x
  dsimp only [Took.say] at *
  rw [if_pos h0, sb_bs, sb_bs, List.headD_cons, Int.toNat_of_nonneg (by omega), Int.toNat_of_nonneg ha, Int.toNat_of_nonneg h8, Int.toNat_of_nonneg h10]
 refine ⟨?_, hs _ _ _ _ _ _ _ _ _ _ _ rfl⟩
 unfold Took.good
 rw [hs _ _ _ _ _ _ _ _ _ _ _ rfl, h]
 rfl
end Go.Proofs.Ytcfdplmapdgfmaa.Mine
set_option linter.unusedVariables false
set_option linter.unusedSimpArgs false
namespace Go.Proofs.Ytcfdplmapdgfmaa.Mine
open Go.RowKit Go.Proofs.YtcfdplmapdgfmaaW.PrintWords Go.Proofs.Ytcfdplmapdgfmaa.PG
theorem okl_bs (s : ByteArray) (h : s.size ≤ 1000000000) : Okl (bs s) := ⟨bs_lt s, by rw [z17]; exact h⟩
theorem unframe_okl (l : List Nat) (hl : Okl l) : Okl (unframe l).1 := by
 unfold unframe unframeOf
 repeat' split
 all_goals first | exact (hl.drop _).take _ | exact (hl.take _).drop _ | exact ⟨by simp, by simp⟩
theorem sb_take (l : List Nat) (n : Nat) : (sb l).extract 0 n = sb (l.take n) := by
 apply ByteArray.ext
 simp [sb, List.map_take, List.extract_eq_take_drop]
theorem sb_drop (l : List Nat) (n : Nat) : (sb l).extract n (sb l).size = sb (l.drop n) := by
 rw [z0y]
 apply ByteArray.ext
 simp [sb, List.map_drop, List.extract_eq_take_drop]
 exact List.take_of_length_le (by simp)
theorem w64n (n : Nat) (h : n ≤ 9000000000000000000) : wrap64 (n : Int) = (n : Int) := by unfold wrap64; omega
theorem u64n (n : Nat) (h : n < 18446744073709551616) : IntKind.u64.wrap (n : Int) = (n : Int) := by rw [IntKind.wrap_u64]; omega
theorem fr_bytes (a : St) (n : Nat) : z2j.f (sb a.1) a.2 (n : Int) = some (sb (bytesS a n).2, sb (bytesS a n).1.1, (bytesS a n).1.2) := by
 obtain ⟨l, ok⟩ := a
 unfold z2j.f bytesS
 dsimp only
 cases ok with
 | false => simp [sb_nil]
 | true =>
  rw [if_pos rfl, z0y]
  by_cases h : n ≤ l.length
  ·rw [if_pos (by omega), if_pos (by omega), if_pos (by omega), if_pos ⟨rfl, h⟩, Int.toNat_natCast, sb_take]
   have := sb_drop l n
   rw [z0y] at this
   rw [this, decide_eq_true (by omega)]
  ·rw [if_neg (by omega), if_neg (by rintro ⟨_, h2⟩; exact h h2), decide_eq_false (by omega)]; rfl
theorem fr_num (a : St) (m : Nat) (hl : Okl a.1) : z2d.f (sb a.1) a.2 (m : Int) = some (((numS a m).2 : Int), sb (numS a m).1.1, (numS a m).1.2) := by
 obtain ⟨l, ok⟩ := a
 dsimp only at hl
 unfold z2d.f numS
 dsimp only
 have hk : ∀ n k, unnum l = (n, k, 0) → k ≤ l.length := fun n k h => (unnum_ok l n k hl.1 h).2.1
 have hu : z1i.f (sb l) = some (((unnum l).1 : Int), ((unnum l).2.1 : Int), ((unnum l).2.2 : Int)) := by
  unfold z1i.f
  rw [if_pos (by rw [z0y]; have := hl.2; omega), bs_sb l hl.1]
 rw [hu]
 simp only [Option.bind_some]
 obtain ⟨n, k, e, he⟩ : ∃ n k e, unnum l = (n, k, e) := ⟨_, _, _, rfl⟩
 have hk' : e = 0 → k ≤ l.length := fun h0 => hk n k (by rw [he, h0])
 rw [he]
 clear hk hu
 dsimp only
 cases ok with
 | false => simp
 | true =>
  rw [if_pos rfl]
  by_cases h0 : e = 0
  ·have hkl := hk' h0
   subst h0
   rw [if_pos (by rfl), z0y]
   by_cases hn : n ≤ m
   ·rw [if_pos (by omega), if_pos (by omega), if_pos (by omega), if_pos ⟨rfl, rfl, hn⟩, Int.toNat_natCast, decide_eq_true (by omega)]
    have := sb_drop l k
    rw [z0y] at this
    rw [this]
   ·rw [if_neg (by omega), if_neg (by rintro ⟨_, _, h2⟩; exact hn h2), decide_eq_false (by omega)]; rfl
  ·rw [if_neg (by omega), if_neg (by rintro ⟨_, h1, _⟩; exact h0 h1)]; rfl
theorem fr_idsGo : ∀ (n : Nat) (a : St) (out : List ByteArray) (k : Nat), n < k → out.length + n ≤ 1000 → Okl a.1 →
  z16.l0 k out (n : Int) (sb a.1) a.2 = some ((idsGo n a out).2, sb (idsGo n a out).1.1, (idsGo n a out).1.2)
 | 0, a, out, k, hk, _, _ => by
  obtain ⟨k, rfl⟩ : ∃ m, k = m + 1 := ⟨k - 1, by omega⟩
  simp only [z16.l0]
  rw [if_neg (by omega)]; rfl
 | n + 1, a, out, k, hk, ho, hl => by
  obtain ⟨k, rfl⟩ : ∃ m, k = m + 1 := ⟨k - 1, by omega⟩
  simp only [z16.l0]
  rw [if_pos (by omega), idsGo]
  by_cases ha : a.2 = true
  ·rw [if_pos ha, if_pos ha]
   have hb := fr_bytes a 32
   rw [show ((32 : Nat) : Int) = 32 from rfl] at hb
   rw [hb]
   simp only [Option.bind_some]
   rw [if_pos (by omega), show ((n + 1 : Nat) : Int) - 1 = (n : Int) from by omega, u64n n (by omega)]
   exact fr_idsGo n _ _ k (by omega) (by simp; omega) (bytesS_ok hl)
  ·rw [if_neg ha, if_neg ha]
theorem fr_ids (a : St) (hl : Okl a.1) : z16.f 100 (sb a.1) a.2 = some ((idsS a).2, sb (idsS a).1.1, (idsS a).1.2) := by
 unfold z16.f idsS
 have hn := fr_num a 64 hl
 rw [show ((64 : Nat) : Int) = 64 from rfl] at hn
 rw [hn]
 simp only [Option.bind_some]
 have := numS_le a 64
 exact fr_idsGo _ _ [] 100 (by omega) (by simp; omega) (numS_ok hl)
theorem fr_text (a : St) (m : Nat) (hm : m ≤ 1000000) (hl : Okl a.1) : z2n.f (sb a.1) a.2 (m : Int) = some (sb (textS a m).2, sb (textS a m).1.1, (textS a m).1.2) := by
 unfold z2n.f textS
 rw [u64n m (by omega), fr_num a m hl]
 simp only [Option.bind_some]
 have := numS_le a m
 rw [w64n _ (by omega), fr_bytes]
 rfl
theorem rd_at (l : List ByteArray) (i : Nat) (h : i < l.length) : rdOf ByteArray.empty l (i : Int) = l[i] := by
 simp [rdOf, List.getD_eq_getElem?_getD, List.getElem?_eq_getElem h]
theorem cat_snoc (l : List ByteArray) (x : ByteArray) : cat (l ++ [x]) = cat l ++ bs x := by
 induction l with
 | nil => simp [cat]
 | cons y l ih => simp only [List.cons_append, cat, ih, List.append_assoc]
theorem cat_lt (l : List ByteArray) : ∀ c ∈ cat l, c < 256 := by
 induction l with
 | nil => intro c hc; cases hc
 | cons x l ih => intro c hc; rw [cat, List.mem_append] at hc; exact hc.elim (bs_lt x c) (ih c)
theorem cat_len (l : List ByteArray) (h : idsOk l = true) : (cat l).length = 32 * l.length := by
 induction l with
 | nil => rfl
 | cons x l ih =>
  unfold idsOk at *
  rw [List.all_cons, Bool.and_eq_true, beq_iff_eq] at h
  rw [cat, List.length_append, ih h.2, z17, h.1, List.length_cons]; omega
theorem take_all_ok (l : List ByteArray) (i : Nat) (h : idsOk l = true) : idsOk (l.take i) = true := by
 unfold idsOk at *
 rw [List.all_eq_true] at *
 exact fun x hx => h x (List.mem_of_mem_take hx)
theorem fr_ids_l0 (l : List ByteArray) (h : idsOk l = true) (hl : l.length ≤ 64) (p : List Nat) (hp : p.length ≤ 1000) (d : Nat) : ∀ (i k : Nat), i + d = l.length → d < k →
  z0z.l0 k (sb (p ++ cat (l.take i))) l (l.length : Int) (i : Int) = some (sb (p ++ cat l)) := by
 induction d with
 | zero =>
  intro i k hi hk
  obtain ⟨k, rfl⟩ : ∃ m, k = m + 1 := ⟨k - 1, by omega⟩
  simp only [z0z.l0]
  rw [if_neg (by omega), List.take_of_length_le (by omega)]
 | succ d ih =>
  intro i k hi hk
  obtain ⟨k, rfl⟩ : ∃ m, k = m + 1 := ⟨k - 1, by omega⟩
  simp only [z0z.l0]
  have hc := cat_len _ (take_all_ok l i h)
  have h32 : (l[i]'(by omega)).size = 32 := by
   unfold idsOk at h
   simpa using List.all_eq_true.1 h _ (List.getElem_mem (by omega))
  rw [if_pos (by omega), if_pos (by omega), if_pos (by omega), rd_at l i (by omega), if_pos (by rw [z0y, List.length_append, hc, h32, List.length_take]; omega), show wrap64 ((i : Int) + 1) = ((i + 1 : Nat) : Int) from by unfold wrap64; omega]
  have e : sb (p ++ cat (l.take i)) ++ l[i]'(by omega) = sb (p ++ cat (l.take (i + 1))) := by
   rw [List.take_succ_eq_append_getElem (by omega), cat_snoc, ← List.append_assoc, z2g _ (bs _), sb_bs]
  rw [e]
  exact ih (i + 1) k (by omega) (by omega)
theorem z1v (n : Nat) (h : n < 18446744073709551616) : (num n).length ≤ 10 := num_length n h
theorem fr_idsF (l : List ByteArray) (h : idsOk l = true) (hl : l.length ≤ 64) (k : Nat) (hk : 70 ≤ k) : z0z.f k l = some (sb (idsP l)) := by
 unfold z0z.f z0k.f
 rw [u64n l.length (by omega), if_pos ⟨by omega, by omega⟩]
 simp only [Option.bind_some, Int.toNat_natCast]
 have := fr_ids_l0 l h hl (num l.length) (by have := z1v l.length (by omega); omega) l.length 0 k (by omega) (by omega)
 rw [List.take_zero, show cat [] = [] from rfl, List.append_nil] at this
 exact this
theorem idsP_len (l : List ByteArray) (h : idsOk l = true) (hl : l.length ≤ 64) : (idsP l).length ≤ 3000 := by
 unfold idsP
 rw [List.length_append, cat_len l h]
 have := z1v l.length (by omega)
 omega
theorem refB_snoc (l : List RefP) (x : RefP) : refB (l ++ [x]) = refB l ++ (bs x.2 ++ textP x.1) := by
 induction l with
 | nil => simp [refB]
 | cons y l ih => simp only [List.cons_append, refB, ih, List.append_assoc]
theorem refsOk_take (l : List RefP) (i : Nat) (h : refsOk l = true) : refsOk (l.take i) = true := by
 unfold refsOk at *
 rw [List.all_eq_true] at *
 exact fun x hx => h x (List.mem_of_mem_take hx)
theorem textP_len (s : ByteArray) (m : Nat) (h : s.size ≤ m) (hm : m ≤ 1000000) : (textP s).length ≤ m + 10 := by
 unfold textP
 rw [List.length_append, z17]
 have := z1v s.size (by omega)
 omega
theorem refB_len (l : List RefP) (h : refsOk l = true) : (refB l).length ≤ 170 * l.length := by
 induction l with
 | nil => exact Nat.le_refl _
 | cons x l ih =>
  unfold refsOk at *
  rw [List.all_cons, Bool.and_eq_true, Bool.and_eq_true, beq_iff_eq] at h
  have hn := refOk_len _ h.1.1
  rw [z17] at hn
  have ht := textP_len x.1 128 hn (by omega)
  rw [refB, List.length_append, List.length_append, z17, h.1.2, List.length_cons]
  have := ih h.2
  omega
theorem fr_mem {l : List RefP} (h : refsOk l = true) (i : Nat) (hi : i < l.length) : (l[i]).1.size ≤ 128 ∧ (l[i]).2.size = 32 := by
 unfold refsOk at h
 have := List.all_eq_true.1 h _ (List.getElem_mem hi)
 rw [Bool.and_eq_true, beq_iff_eq] at this
 have hn := refOk_len _ this.1
 rw [z17] at hn
 exact ⟨hn, this.2⟩
def toP91 (x : S91) : RefP := (x.f0, x.f1)
theorem rd91 (l : List S91) (i : Nat) (h : i < l.length) : z0v l (i : Int) = l[i] := by
 simp [z0v, List.getD_eq_getElem?_getD, List.getElem?_eq_getElem h]
theorem fr_num_f (n : Nat) (h : n < 18446744073709551616) : z0k.f (IntKind.u64.wrap (n : Int)) = some (sb (num n)) := by
 unfold z0k.f
 rw [u64n n h, if_pos ⟨by omega, by omega⟩, Int.toNat_natCast]
theorem fr_num_fi (n : Int) (h0 : 0 ≤ n) (h : n < 18446744073709551616) : z0k.f (IntKind.u64.wrap n) = some (sb (num n.toNat)) := by
 obtain ⟨m, rfl⟩ := Int.eq_ofNat_of_zero_le h0
 exact fr_num_f m (by omega)
theorem refB_lt (l : List RefP) : ∀ c ∈ refB l, c < 256 := by
 induction l with
 | nil => intro c hc; cases hc
 | cons x l ih =>
  intro c hc
  rw [refB, textP, List.mem_append, List.mem_append, List.mem_append] at hc
  rcases hc with (hc | hc | hc) | hc
  ·exact bs_lt _ c hc
  ·exact num_lt _ c hc
  ·exact bs_lt _ c hc
  ·exact ih c hc
theorem z1w {a b : List Nat} (ha : ∀ c ∈ a, c < 256) (hb : ∀ c ∈ b, c < 256) : ∀ c ∈ a ++ b, c < 256 := fun c hc => (List.mem_append.1 hc).elim (ha c) (hb c)
theorem textP_lt (s : ByteArray) : ∀ c ∈ textP s, c < 256 := z1w (num_lt _) (bs_lt s)
theorem idsP_lt (l : List ByteArray) : ∀ c ∈ idsP l, c < 256 := z1w (num_lt _) (cat_lt l)
theorem fr_enc_end (X ticket data : ByteArray) (n of : Int) (kind ask : Int) (ids no : List ByteArray) (l l' : List S91) (z : Int) (hX : X.size ≤ 100000) (ht : ticket.size ≤ 32) (hd : data.size ≤ 700) (hn0 : 0 ≤ n) (hn : n ≤ 4194304) (ho0 : 0 ≤ of) (ho : of ≤ 4194304) (k : Nat) (hk : 0 < k) (hz : ¬ z < (l'.length : Int)) :
  z0s.l0 k X l (l'.length : Int) z kind ask ids no l ticket n of data = some (sb (frame (bs X ++ (textP ticket ++ (num n.toNat ++ (num of.toNat ++ textP data))))), 0) := by
 obtain ⟨k, rfl⟩ : ∃ m, k = m + 1 := ⟨k - 1, by omega⟩
 simp only [z0s.l0]
 have n1 := z1v ticket.size (by omega)
 have n2 := z1v n.toNat (by omega)
 have n3 := z1v of.toNat (by omega)
 have n4 := z1v data.size (by omega)
 rw [if_neg hz, fr_num_f ticket.size (by omega)]
 simp only [Option.bind_some]
 rw [if_pos (by rw [z0y]; omega), fr_num_fi n hn0 (by omega)]
 simp only [Option.bind_some]
 rw [if_pos (by simp only [ByteArray.size_append, z0y]; omega), fr_num_fi of ho0 (by omega)]
 simp only [Option.bind_some]
 rw [if_pos (by simp only [ByteArray.size_append, z0y]; omega), fr_num_f data.size (by omega)]
 simp only [Option.bind_some]
 rw [if_pos (by simp only [ByteArray.size_append, z0y]; omega), if_pos (by simp only [ByteArray.size_append, z0y]; omega), if_pos (by simp only [ByteArray.size_append, z0y]; omega)]
 unfold z1y.f
 rw [if_pos (by simp only [ByteArray.size_append, z0y]; omega)]
 simp only [Option.bind_some]
 have e : bs (X ++ (((((sb (num ticket.size) ++ ticket) ++ sb (num n.toNat)) ++ sb (num of.toNat)) ++ sb (num data.size)) ++ data)) = bs X ++ (textP ticket ++ (num n.toNat ++ (num of.toNat ++ textP data))) := by
  simp only [bs_append, textP, bs_sb _ (num_lt _), List.append_assoc]
 rw [e]
theorem fr_enc_l0 (l : List S91) (hl : l.length ≤ 256) (hr : refsOk (l.map toP91) = true) (p : List Nat) (hpl : ∀ c ∈ p, c < 256) (hp : p.length ≤ 10000) (ticket data : ByteArray) (n of : Int) (kind ask : Int) (ids no : List ByteArray) (ht : ticket.size ≤ 32) (hd : data.size ≤ 700) (hn0 : 0 ≤ n) (hn : n ≤ 4194304) (ho0 : 0 ≤ of) (ho : of ≤ 4194304) (d : Nat) :
  ∀ (i k : Nat), i + d = l.length → d < k →
  z0s.l0 k (sb (p ++ refB ((l.map toP91).take i))) l (l.length : Int) (i : Int) kind ask ids no l ticket n of data = some (sb (frame (p ++ (refB (l.map toP91) ++ (textP ticket ++ (num n.toNat ++ (num of.toNat ++ textP data)))))), 0) := by
 induction d with
 | zero =>
  intro i k hi hk
  rw [List.take_of_length_le (by rw [List.length_map]; omega)]
  have hb := refB_len _ hr
  rw [List.length_map] at hb
  rw [fr_enc_end (sb (p ++ refB (l.map toP91))) ticket data n of kind ask ids no l l _ (by rw [z0y, List.length_append]; omega) ht hd hn0 hn ho0 ho k (by omega) (by omega), bs_sb _ (z1w hpl (refB_lt _)), List.append_assoc]
 | succ d ih =>
  intro i k hi hk
  obtain ⟨k, rfl⟩ : ∃ m, k = m + 1 := ⟨k - 1, by omega⟩
  simp only [z0s.l0]
  have hil : i < l.length := by omega
  have hb := refB_len _ (refsOk_take _ i hr)
  rw [List.length_take, List.length_map] at hb
  have hm := fr_mem hr i (by rw [List.length_map]; exact hil)
  rw [List.getElem_map] at hm
  obtain ⟨m1, m2⟩ := hm
  have q1 : (l[i].f0).size ≤ 128 := m1
  have q2 : (l[i].f1).size = 32 := m2
  clear m1 m2
  have n1 := z1v (l[i].f0).size (by omega)
  rw [if_pos (by omega), if_pos (by omega), if_pos (by omega), rd91 l i hil, fr_num_f _ (by omega)]
  simp only [Option.bind_some]
  rw [if_pos (by rw [z0y]; omega), if_pos (by simp only [ByteArray.size_append, z0y]; omega), if_pos (by simp only [ByteArray.size_append, z0y, List.length_append]; omega), show wrap64 ((i : Int) + 1) = ((i + 1 : Nat) : Int) from by unfold wrap64; omega]
  have e : sb (p ++ refB ((l.map toP91).take i)) ++ (((l[i].f1) ++ sb (num (l[i].f0).size)) ++ (l[i].f0)) = sb (p ++ refB ((l.map toP91).take (i + 1))) := by
   rw [List.take_succ_eq_append_getElem (by rw [List.length_map]; exact hil), refB_snoc, ← List.append_assoc, z2g _ (bs _ ++ _), List.getElem_map]
   unfold toP91 textP
   dsimp only
   simp only [z2g, sb_bs, ByteArray.append_assoc]
  rw [e]
  exact ih (i + 1) k (by omega) (by omega)
theorem strOf_one (k : Int) (h0 : 0 ≤ k) (h : k ≤ 255) : strOfNums ([k % 256] : List Int) = sb [k.toNat] := by
 unfold strOfNums sb
 simp
 rw [Int.emod_eq_of_lt h0 (by omega)]
theorem fr_encode (x : SayP) (l : List S91) (hx : x.refs = l.map toP91) (ha : 0 ≤ x.ask) (k : Nat) (hk : 300 ≤ k) :
  z0s.f k x.kind x.ask x.ids x.no l x.ticket x.n x.of x.data = some (if checkP x = 0 then sb (encP x) else ⟨#[]⟩, checkP x) := by
 unfold z0s.f z2o.f
 have hxx : (⟨x.kind, x.ask, x.ids, x.no, l.map fun y => (y.f0, y.f1), x.ticket, x.n, x.of, x.data⟩ : SayP) = x := by
  obtain ⟨kind, ask, ids, no, refs, ticket, n, of, data⟩ := x
  dsimp only at hx
  rw [hx]; rfl
 rw [hxx]
 simp only [Option.bind_some]
 by_cases h : checkP x = 0
 ·obtain ⟨h1, h2, h3, h4, h5, h6, h7, h8, h9, h10, h11, h12, h13, h14, h15⟩ := checkP_zero h
  rw [if_pos h, if_pos h, h, strOf_one _ (by omega) (by omega)]
  obtain ⟨a, hA⟩ := Int.eq_ofNat_of_zero_le ha
  have hcn : z0k.f x.ask = some (sb (num x.ask.toNat)) := by
   unfold z0k.f
   rw [if_pos ⟨by omega, by omega⟩]
  have n1 := z1v x.ask.toNat (by omega)
  have n2 := idsP_len x.ids h13 h3
  have n3 := idsP_len x.no h14 h4
  have n4 := z1v l.length (by rw [hx, List.length_map] at h5; omega)
  rw [hx, List.length_map] at h5
  rw [hx] at h15
  rw [hcn]
  simp only [Option.bind_some]
  rw [if_pos (by simp only [z0y, List.length_singleton]; omega), fr_idsF x.ids h13 h3 k (by omega)]
  simp only [Option.bind_some]
  rw [if_pos (by simp only [ByteArray.size_append, z0y, List.length_singleton]; omega), fr_idsF x.no h14 h4 k (by omega)]
  simp only [Option.bind_some]
  rw [if_pos (by simp only [ByteArray.size_append, z0y, List.length_singleton]; omega), fr_num_f _ (by omega)]
  simp only [Option.bind_some]
  rw [if_pos (by simp only [ByteArray.size_append, z0y, List.length_singleton]; omega)]
  have e : (((sb [x.kind.toNat] ++ sb (num x.ask.toNat)) ++ sb (idsP x.ids)) ++ sb (idsP x.no)) ++ sb (num l.length) = sb ((([x.kind.toNat] ++ num x.ask.toNat ++ idsP x.ids ++ idsP x.no ++ num l.length)) ++ refB ((l.map toP91).take 0)) := by
   simp only [List.take_zero, refB, List.append_nil, z2g]
  rw [e, show (0 : Int) = ((0 : Nat) : Int) from rfl]
  rw [fr_enc_l0 l h5 h15 _ (z1w (z1w (z1w (z1w (by intro c hc; rw [List.mem_singleton] at hc; omega) (num_lt _)) (idsP_lt _)) (idsP_lt _)) (num_lt _)) (by simp only [List.length_append, List.length_singleton]; omega) x.ticket x.data x.n x.of x.kind x.ask x.ids x.no h12 h6 h8 h9 h10 h11 l.length 0 k (by omega) (by omega)]
  unfold encP sayP
  rw [hx, List.length_map]
  simp only [List.append_assoc]
  rfl
 ·rw [if_neg h, if_neg h]
end Go.Proofs.Ytcfdplmapdgfmaa.Mine
set_option linter.unusedVariables false
set_option linter.unusedSimpArgs false
namespace Go.Proofs.Ytcfdplmapdgfmaa.Mine
open Go.RowKit Go.Proofs.YtcfdplmapdgfmaaW.PrintWords
theorem sayP_len (x : SayP) (ha : 0 ≤ x.ask) (h : checkP x = 0) : (sayP x).length ≤ 60000 := by
 obtain ⟨h1, h2, h3, h4, h5, h6, h7, h8, h9, h10, h11, h12, h13, h14, h15⟩ := checkP_zero h
 have n1 := z1v x.ask.toNat (by omega)
 have n2 := idsP_len x.ids h13 h3
 have n3 := idsP_len x.no h14 h4
 have n4 := z1v x.refs.length (by omega)
 have n5 := refB_len x.refs h15
 have n6 := textP_len x.ticket 32 h12 (by omega)
 have n7 := z1v x.n.toNat (by omega)
 have n8 := z1v x.of.toNat (by omega)
 have n9 := textP_len x.data 700 h6 (by omega)
 unfold sayP
 simp only [List.length_append, List.length_singleton]
 omega
theorem sayP_lt (x : SayP) (h : checkP x = 0) : ∀ c ∈ sayP x, c < 256 := by
 obtain ⟨h1, h2, _⟩ := checkP_zero h
 unfold sayP
 refine z1w (z1w (z1w (z1w (z1w (z1w (z1w (z1w (z1w ?_ (num_lt _)) (idsP_lt _)) (idsP_lt _)) (num_lt _)) (refB_lt _)) (textP_lt _)) (num_lt _)) (num_lt _)) (textP_lt _)
 intro c hc
 rw [List.mem_singleton] at hc; omega
theorem encP_len (x : SayP) (ha : 0 ≤ x.ask) (h : checkP x = 0) : (encP x).length ≤ 60100 := by
 unfold encP
 rw [frame_length]
 have := sayP_len x ha h
 have := z1v (sayP x).length (by omega)
 omega
theorem encP_lt (x : SayP) (h : checkP x = 0) : ∀ c ∈ encP x, c < 256 := frame_lt _ (sayP_lt x h)
theorem dec_enc (x : SayP) (ha : 0 ≤ x.ask) (h : checkP x = 0) : decP (encP x) = (x, 0) := by
 have hl := sayP_len x ha h
 have hu := unframe_frame (sayP x) [] (by omega)
 rw [List.append_nil] at hu
 obtain ⟨hg, hs⟩ := good_do x ha h
 unfold decP encP
 rw [hu]
 dsimp only
 rw [if_neg (by decide), if_neg (by simp), if_pos hg, hs]
end Go.Proofs.Ytcfdplmapdgfmaa.Mine
