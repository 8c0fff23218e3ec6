import Derived.Test.YtcfdplmapdgfmaaZFrP
import Derived.Test.YtcfdplmapdgfmaaZPFx
set_option linter.unusedVariables false
set_option linter.unusedSimpArgs false
namespace Go.Proofs.Ytcfdplmapdgfmaa.Mine
open List renaming setIfInBounds_toArray → q1, set_cons_zero → q2, set_cons_succ → q3
open Go.RowKit Go.Proofs.YtcfdplmapdgfmaaW.PrintWords Go.Proofs.Ytcfdplmapdgfmaa.PF
theorem rf_bytes (a : St) (n : Nat) : z22.f (sb a.1) a.2 (n : Int) = some (sb (bytesS a n).1.1, (bytesS a n).1.2, sb (bytesS a n).2) := by
 obtain ⟨l, ok⟩ := a
 unfold z22.f bytesS
 dsimp only
 cases ok with
 | false => simp [sb_nil]
 | true =>
  rw [if_pos rfl, z18]
  by_cases h : n ≤ l.length
  ·rw [if_neg (by omega), if_pos (by omega), if_pos (by omega), if_pos ⟨rfl, h⟩, Int.toNat_natCast, sb_take]
   have := sb_drop l n
   rw [z18] at this
   rw [this]
  ·rw [if_pos (by omega), if_neg (by rintro ⟨_, h2⟩; exact h h2)]; rfl
theorem rf_num (a : St) (m : Nat) (hl : Okl a.1) : z1v.f (sb a.1) a.2 (m : Int) = some (sb (numS a m).1.1, (numS a m).1.2, ((numS a m).2 : Int)) := by
 obtain ⟨l, ok⟩ := a
 dsimp only at hl
 unfold z1v.f numS
 dsimp only
 have hk : ∀ n k, unnum l = (n, k, 0) → k ≤ l.length := fun n k h => (unnum_ok l n k hl.1 h).2.1
 have hu : z1h.f (sb l) = some (((unnum l).1 : Int), ((unnum l).2.1 : Int), ((unnum l).2.2 : Int)) := by
  unfold z1h.f
  rw [bs_sb l hl.1]
 rw [hu]
 simp only [Option.bind_some]
 obtain ⟨n, k, e, he⟩ : ∃ n k e, unnum l = (n, k, e) := ⟨_, _, _, rfl⟩
 have hk' : e = 0 → k ≤ l.length := fun h0 => hk n k (by rw [he, h0])
 rw [he]
 clear hk hu
 dsimp only
 cases ok with
 | false => simp
 | true =>
  rw [if_pos rfl]
  by_cases h0 : e = 0
  ·have hkl := hk' h0
   subst h0
   rw [if_pos (by rfl), z18]
   by_cases hn : n ≤ m
   ·rw [if_neg (by omega), if_pos (by omega), if_pos (by omega), if_pos ⟨rfl, rfl, hn⟩, Int.toNat_natCast]
    have := sb_drop l k
    rw [z18] at this
    rw [this]
   ·rw [if_pos (by omega), if_neg (by rintro ⟨_, _, h2⟩; exact hn h2)]; rfl
  ·rw [if_neg (by omega), if_neg (by rintro ⟨_, h1, _⟩; exact h0 h1)]; rfl
theorem rf_idsGo (m : Nat) (hm : m ≤ 64) : ∀ (n i : Nat) (a : St) (out : List ByteArray) (k : Nat), i + n = m → n < k → out.length + n ≤ 1000 → Okl a.1 →
  z1k.l0 k (m : Int) out (i : Int) (sb a.1) a.2 = some (sb (idsGo n a out).1.1, (idsGo n a out).1.2, (idsGo n a out).2)
 | 0, i, a, out, k, hi, hk, _, _ => by
  obtain ⟨k, rfl⟩ : ∃ m, k = m + 1 := ⟨k - 1, by omega⟩
  simp only [z1k.l0]
  rw [if_neg (by omega)]; rfl
 | n + 1, i, a, out, k, hi, hk, ho, hl => by
  obtain ⟨k, rfl⟩ : ∃ m, k = m + 1 := ⟨k - 1, by omega⟩
  simp only [z1k.l0]
  rw [if_pos (by omega), idsGo]
  by_cases ha : a.2 = true
  ·rw [if_pos ha, if_pos ha]
   have hb := rf_bytes a 32
   rw [show ((32 : Nat) : Int) = 32 from rfl] at hb
   rw [hb]
   simp only [Option.bind_some]
   rw [if_pos (by omega), show (i : Int) + 1 = ((i + 1 : Nat) : Int) from by omega, u64n (i + 1) (by omega)]
   exact rf_idsGo m hm n (i + 1) _ _ k (by omega) (by omega) (by simp; omega) (z3e hl)
  ·rw [if_neg ha, if_neg ha]
theorem rf_list (a : St) (hl : Okl a.1) (k : Nat) (hk : 100 ≤ k) : z1k.f k (sb a.1) a.2 = some (sb (idsS a).1.1, (idsS a).1.2, (idsS a).2) := by
 unfold z1k.f idsS
 have hn := rf_num a 64 hl
 rw [show ((64 : Nat) : Int) = 64 from rfl] at hn
 rw [hn]
 simp only [Option.bind_some]
 have := numS_le a 64
 exact rf_idsGo _ this _ 0 _ [] k (by omega) (by omega) (by simp; omega) (numS_ok hl)
theorem rf_text (a : St) (m : Nat) (hm : m ≤ 1000000) (hl : Okl a.1) : z2g.f (sb a.1) a.2 (m : Int) = some (sb (textS a m).1.1, (textS a m).1.2, sb (textS a m).2) := by
 unfold z2g.f textS
 rw [rf_num a m hl]
 simp only [Option.bind_some]
 have := numS_le a m
 rw [w64n _ (by omega), rf_bytes]
 rfl
def toP94 (x : S94) : RefP := (x.f0, x.f1)
def fromP94 (x : RefP) : S94 := ⟨x.1, x.2⟩
theorem to_from (l : List RefP) : (l.map fromP94).map toP94 = l := by
 rw [List.map_map]
 conv => rhs; rw [← List.map_id l]
 exact List.map_congr_left fun x _ => rfl
theorem rf_ids_l0 (l : List ByteArray) (hl : l.length ≤ 1000000) (d : Nat) : ∀ (i k : Nat), i + d = l.length → d < k → z1d.l0 k l (i : Int) = some (idsOk (l.drop i)) := by
 induction d with
 | zero =>
  intro i k hi hk
  obtain ⟨k, rfl⟩ : ∃ m, k = m + 1 := ⟨k - 1, by omega⟩
  simp only [z1d.l0]
  rw [if_neg (by omega), List.drop_eq_nil_of_le (by omega)]; rfl
 | succ d ih =>
  intro i k hi hk
  obtain ⟨k, rfl⟩ : ∃ m, k = m + 1 := ⟨k - 1, by omega⟩
  simp only [z1d.l0]
  rw [if_pos (by omega), if_pos (by omega), rd_at l i (by omega), List.drop_eq_getElem_cons (show i < l.length by omega)]
  have hc : idsOk (l[i]'(by omega) :: l.drop (i + 1)) = ((l[i]'(by omega)).size == 32 && idsOk (l.drop (i + 1))) := by unfold idsOk; rw [List.all_cons]
  rw [hc]
  by_cases h : (l[i]'(by omega)).size = 32
  ·rw [if_pos (by omega), show wrap64 ((i : Int) + 1) = ((i + 1 : Nat) : Int) from by unfold wrap64; omega, ih (i + 1) k (by omega) (by omega), h]; rfl
  ·rw [if_neg (by omega)]
   have : ((l[i]'(by omega)).size == 32) = false := by simpa using h
   rw [this]; rfl
theorem rf_ids (l : List ByteArray) (hl : l.length ≤ 64) (k : Nat) (hk : 70 ≤ k) : z1d.f k l = some (idsOk l) := by
 unfold z1d.f
 have := rf_ids_l0 l (by omega) l.length 0 k (by omega) (by omega)
 rw [List.drop_zero] at this
 exact this
theorem rd94 (l : List S94) (i : Nat) (h : i < l.length) : z1u l (i : Int) = l[i] := by
 simp [z1u, List.getD_eq_getElem?_getD, List.getElem?_eq_getElem h]
theorem rf_check_l0 (l : List S94) (hl : l.length ≤ 256) (hs : ∀ x ∈ l, x.f0.size ≤ 9223372036854775807) (kind ask n of : Int) (ids no : List ByteArray) (ticket data : ByteArray) (d : Nat) : ∀ (i k : Nat) (b : Bool), i + d = l.length → d < k →
  z0o.l0 k b (i : Int) kind ask ids no l ticket n of data = some (if b && refsOk ((l.map toP94).drop i) then 0 else 230) := by
 induction d with
 | zero =>
  intro i k b hi hk
  obtain ⟨k, rfl⟩ : ∃ m, k = m + 1 := ⟨k - 1, by omega⟩
  simp only [z0o.l0]
  rw [if_neg (by omega), List.drop_eq_nil_of_le (by rw [List.length_map]; omega)]
  cases b <;> rfl
 | succ d ih =>
  intro i k b hi hk
  obtain ⟨k, rfl⟩ : ∃ m, k = m + 1 := ⟨k - 1, by omega⟩
  have hil : i < l.length := by omega
  simp only [z0o.l0]
  rw [if_pos (by omega), show wrap64 ((i : Int) + 1) = ((i + 1 : Nat) : Int) from by unfold wrap64; omega]
  have hlm : i < (l.map toP94).length := by rw [List.length_map]; exact hil
  rw [List.drop_eq_getElem_cons hlm]
  have hc : refsOk ((l.map toP94)[i] :: (l.map toP94).drop (i + 1)) = ((refOk (bs l[i].f0) && l[i].f1.size == 32) && refsOk ((l.map toP94).drop (i + 1))) := by
   unfold refsOk; rw [List.all_cons, List.getElem_map]; rfl
  rw [hc]
  cases b with
  | false =>
   rw [if_neg (by decide), ih (i + 1) k false (by omega) (by omega)]; rfl
  | true =>
   rw [if_pos rfl, if_pos (by omega), rd94 l i hil]
   have hz := hs l[i] (List.getElem_mem hil)
   have hf : z0t.f l[i].f0 = some ((refKind (bs l[i].f0) : Nat) : Int) := by unfold z0t.f; rw [if_pos hz]
   rw [hf]
   simp only [Option.bind_some]
   by_cases hr : refOk (bs l[i].f0) = true
   ·rw [if_pos ((refKind_pos _).2 hr), ih (i + 1) k _ (by omega) (by omega), hr]
    have e : (((l[i].f1).size : Int) == 32) = (l[i].f1.size == 32) := by
     by_cases h : l[i].f1.size = 32
     ·rw [h]; rfl
     ·have h1 : (((l[i].f1).size : Int) == 32) = false := by simp; omega
      have h2 : (l[i].f1.size == 32) = false := by simpa using h
      rw [h1, h2]
    rw [e]; simp
   ·rw [if_neg (fun h => hr ((refKind_pos _).1 h)), ih (i + 1) k _ (by omega) (by omega)]
    have h2 : refOk (bs l[i].f0) = false := by simpa using hr
    rw [h2]; rfl
theorem str_nil_iff (s : ByteArray) : s.toList = ([] : List UInt8) ↔ s.size = 0 := by
 constructor
 ·intro h
  apply Classical.byContradiction
  intro h0
  exact str_full h0 h
 ·exact fun h => str_empty h
theorem rf_check_fin (x : SayP) (l : List S94) (hx : x.refs = l.map toP94) (hm : muchP x = false) (hs : ∀ y ∈ l, y.f0.size ≤ 9223372036854775807) (b : Bool) (k : Nat) (hk : 300 ≤ k) :
  z0o.j2 k b x.kind x.ask x.ids x.no l x.ticket x.n x.of x.data = some (if b && refsOk x.refs then 0 else 230) := by
 obtain ⟨k, rfl⟩ : ∃ m, k = m + 1 := ⟨k - 1, by omega⟩
 simp [muchP] at hm
 obtain ⟨⟨⟨c1, c2⟩, c3⟩, c4⟩ := hm
 rw [hx, List.length_map] at c3
 simp only [z0o.j2]
 have := rf_check_l0 l c3 hs x.kind x.ask x.n x.of x.ids x.no x.ticket x.data l.length 0 k b (by omega) (by omega)
 rw [List.drop_zero, ← hx] at this
 exact this
theorem rf_check_j1 (x : SayP) (l : List S94) (hx : x.refs = l.map toP94) (hm : muchP x = false) (hs : ∀ y ∈ l, y.f0.size ≤ 9223372036854775807) (k : Nat) (hk : 400 ≤ k) :
  z0o.j1 k false x.kind x.ask x.ids x.no l x.ticket x.n x.of x.data = some (if fieldsP x && (idsOk x.ids && idsOk x.no && refsOk x.refs) then 0 else 230) := by
 obtain ⟨k, rfl⟩ : ∃ m, k = m + 1 := ⟨k - 1, by omega⟩
 have hj := fun b => rf_check_fin x l hx hm hs b k (by omega)
 simp [muchP] at hm
 obtain ⟨⟨⟨c1, c2⟩, c3⟩, c4⟩ := hm
 simp only [z0o.j1]
 rw [if_neg (by decide), rf_ids x.ids c1 k (by omega), rf_ids x.no c2 k (by omega)]
 simp only [Option.bind_some, hj, Bool.false_and]
 unfold fieldsP
 by_cases f1 : x.ask ≤ 4611686018427387904
 case neg => rw [if_neg f1, decide_eq_false f1]; simp
 case pos =>
 by_cases f2 : 0 ≤ x.n
 case neg => rw [if_pos f1, if_neg f2, decide_eq_false f2]; simp
 case pos =>
 by_cases f3 : x.n ≤ 4194304
 case neg => rw [if_pos f1, if_pos f2, if_neg f3, decide_eq_false f3]; simp
 case pos =>
 by_cases f4 : 0 ≤ x.of
 case neg => rw [if_pos f1, if_pos f2, if_pos f3, if_neg f4, decide_eq_false f4]; simp
 case pos =>
 by_cases f5 : x.of ≤ 4194304
 case neg => rw [if_pos f1, if_pos f2, if_pos f3, if_pos f4, if_neg f5, decide_eq_false f5]; simp
 case pos =>
 rw [if_pos f1, if_pos f2, if_pos f3, if_pos f4, if_pos f5, decide_eq_true f1, decide_eq_true f2, decide_eq_true f3, decide_eq_true f4, decide_eq_true f5]
 by_cases t0 : x.ticket.size = 0
 ·rw [if_pos ((str_nil_iff _).2 t0), t0]
  cases h1 : idsOk x.ids <;> simp
 ·rw [if_neg (fun h => t0 ((str_nil_iff _).1 h))]
  by_cases t32 : x.ticket.size = 32
  ·rw [if_pos (by omega), t32]
   cases h1 : idsOk x.ids <;> simp
  ·rw [if_neg (by omega)]
   have e0 : (x.ticket.size == 0) = false := by simpa using t0
   have e1 : (x.ticket.size == 32) = false := by simpa using t32
   rw [e0, e1]; simp
theorem rf_check (x : SayP) (l : List S94) (hx : x.refs = l.map toP94) (hs : ∀ y ∈ l, y.f0.size ≤ 9223372036854775807) (k : Nat) (hk : 410 ≤ k) :
  z0o.f k x.kind x.ask x.ids x.no l x.ticket x.n x.of x.data = some (checkP x) := by
 obtain ⟨k, rfl⟩ : ∃ m, k = m + 2 := ⟨k - 2, by omega⟩
 unfold z0o.f checkP
 simp only [z0o.j0]
 by_cases h1 : x.kind < 1
 ·rw [if_pos h1, if_pos True.intro, if_pos (Or.inl h1)]
 ·rw [if_neg h1]
  by_cases h2 : 9 < x.kind
  ·rw [if_pos (by simpa using h2), if_pos (Or.inr h2)]
  ·rw [if_neg (by simpa using h2), if_neg (c := x.kind < 1 ∨ 9 < x.kind) (by omega)]
   have hlen : (l.length : Int) = (x.refs.length : Int) := by rw [hx, List.length_map]
   have ht : z0o.j1 (k + 1) true x.kind x.ask x.ids x.no l x.ticket x.n x.of x.data = some 3 := by simp only [z0o.j1]; rw [if_pos True.intro]
   rw [ht, hlen]
   by_cases m1 : 64 < x.ids.length
   ·rw [if_pos (by omega), if_pos (by simp [muchP, m1])]
   ·rw [if_neg (by omega)]
    by_cases m2 : 64 < x.no.length
    ·rw [if_pos (by omega), if_pos (by simp [muchP, m2])]
    ·rw [if_neg (by omega)]
     by_cases m3 : 256 < x.refs.length
     ·rw [if_pos (by omega), if_pos (by simp [muchP, m3])]
     ·rw [if_neg (by omega)]
      by_cases m4 : 700 < x.data.size
      ·have : decide ((x.data.size : Int) > 700) = true := by simp; omega
       rw [this, ht, if_pos (by simp [muchP, m4])]
      ·have : decide ((x.data.size : Int) > 700) = false := by simp; omega
       have hm : muchP x = false := by simp [muchP, m1, m2, m3, m4]
       rw [this, rf_check_j1 x l hx hm hs (k + 1) (by omega), if_neg (c := muchP x = true) (by rw [hm]; decide)]
theorem rf_num_f (n : Nat) (h : n < 18446744073709551616) : z0v.f (IntKind.u64.wrap (n : Int)) = some (sb (num n)) := by
 unfold z0v.f
 rw [u64n n h, if_pos ⟨by omega, by omega⟩, Int.toNat_natCast]
theorem rf_num_fi (n : Int) (h0 : 0 ≤ n) (h : n < 18446744073709551616) : z0v.f (IntKind.u64.wrap n) = some (sb (num n.toNat)) := by
 obtain ⟨m, rfl⟩ := Int.eq_ofNat_of_zero_le h0
 exact rf_num_f m (by omega)
theorem rf_textF (s : ByteArray) (h : s.size ≤ 1000000) : z3f.f s = some (sb (textP s)) := by
 unfold z3f.f
 have n1 := z2n s.size (by omega)
 rw [rf_num_f s.size (by omega)]
 simp only [Option.bind_some]
 rw [if_pos (by rw [z18]; omega), textP, z39, sb_bs]
theorem rf_list_l0 (l : List ByteArray) (h : idsOk l = true) (hl : l.length ≤ 64) (p : List Nat) (hp : p.length ≤ 1000) (d : Nat) : ∀ (i k : Nat), i + d = l.length → d < k →
  z1m.l0 k l (sb (p ++ cat (l.take i))) (i : Int) = some (sb (p ++ cat l)) := by
 induction d with
 | zero =>
  intro i k hi hk
  obtain ⟨k, rfl⟩ : ∃ m, k = m + 1 := ⟨k - 1, by omega⟩
  simp only [z1m.l0]
  rw [if_neg (by omega), List.take_of_length_le (by omega)]
 | succ d ih =>
  intro i k hi hk
  obtain ⟨k, rfl⟩ : ∃ m, k = m + 1 := ⟨k - 1, by omega⟩
  simp only [z1m.l0]
  have hc := cat_len _ (take_all_ok l i h)
  have h32 : (l[i]'(by omega)).size = 32 := by
   unfold idsOk at h
   simpa using List.all_eq_true.1 h _ (List.getElem_mem (by omega))
  rw [if_pos (by omega), if_pos (by omega), rd_at l i (by omega), if_pos (by rw [z18, List.length_append, hc, h32, List.length_take]; omega), show wrap64 ((i : Int) + 1) = ((i + 1 : Nat) : Int) from by unfold wrap64; omega]
  have e : sb (p ++ cat (l.take i)) ++ l[i]'(by omega) = sb (p ++ cat (l.take (i + 1))) := by
   rw [List.take_succ_eq_append_getElem (by omega), cat_snoc, ← List.append_assoc, z39 _ (bs _), sb_bs]
  rw [e]
  exact ih (i + 1) k (by omega) (by omega)
theorem rf_listF (l : List ByteArray) (h : idsOk l = true) (hl : l.length ≤ 64) (k : Nat) (hk : 70 ≤ k) : z1m.f k l = some (sb (idsP l)) := by
 unfold z1m.f
 rw [rf_num_f l.length (by omega)]
 simp only [Option.bind_some]
 have := rf_list_l0 l h hl (num l.length) (by have := z2n l.length (by omega); omega) l.length 0 k (by omega) (by omega)
 rw [List.take_zero, show cat [] = [] from rfl, List.append_nil] at this
 exact this
theorem rf_enc_end (X ticket data : ByteArray) (n of : Int) (kind ask : Int) (ids no : List ByteArray) (l : List S94) (z : Int) (hX : X.size ≤ 100000) (ht : ticket.size ≤ 32) (hd : data.size ≤ 700) (hn0 : 0 ≤ n) (hn : n ≤ 4194304) (ho0 : 0 ≤ of) (ho : of ≤ 4194304) (k : Nat) (hk : 0 < k) (hz : ¬ z < (l.length : Int)) :
  z16.l0 k X z kind ask ids no l ticket n of data = some (sb (frame (bs X ++ (textP ticket ++ (num n.toNat ++ (num of.toNat ++ textP data)))))) := by
 obtain ⟨k, rfl⟩ : ∃ m, k = m + 1 := ⟨k - 1, by omega⟩
 simp only [z16.l0]
 have n1 := textP_len ticket 32 ht (by omega)
 have n2 := z2n n.toNat (by omega)
 have n3 := z2n of.toNat (by omega)
 have n4 := textP_len data 700 hd (by omega)
 rw [if_neg hz, rf_textF ticket (by omega)]
 simp only [Option.bind_some]
 rw [if_pos (by rw [z18]; omega), rf_num_fi n hn0 (by omega)]
 simp only [Option.bind_some]
 rw [if_pos (by simp only [ByteArray.size_append, z18]; omega), rf_num_fi of ho0 (by omega)]
 simp only [Option.bind_some]
 rw [if_pos (by simp only [ByteArray.size_append, z18]; omega), rf_textF data (by omega)]
 simp only [Option.bind_some]
 rw [if_pos (by simp only [ByteArray.size_append, z18]; omega)]
 unfold z2r.f
 rw [if_pos (by simp only [ByteArray.size_append, z18]; omega)]
 simp only [Option.bind_some]
 have e : bs ((((X ++ sb (textP ticket)) ++ sb (num n.toNat)) ++ sb (num of.toNat)) ++ sb (textP data)) = bs X ++ (textP ticket ++ (num n.toNat ++ (num of.toNat ++ textP data))) := by
  simp only [bs_append, bs_sb _ (num_lt _), bs_sb _ (textP_lt _), List.append_assoc]
 rw [e]
theorem rf_enc_l0 (l : List S94) (hl : l.length ≤ 256) (hr : refsOk (l.map toP94) = true) (p : List Nat) (hpl : ∀ c ∈ p, c < 256) (hp : p.length ≤ 10000) (ticket data : ByteArray) (n of : Int) (kind ask : Int) (ids no : List ByteArray) (ht : ticket.size ≤ 32) (hd : data.size ≤ 700) (hn0 : 0 ≤ n) (hn : n ≤ 4194304) (ho0 : 0 ≤ of) (ho : of ≤ 4194304) (d : Nat) :
  ∀ (i k : Nat), i + d = l.length → d < k →
  z16.l0 k (sb (p ++ refB ((l.map toP94).take i))) (i : Int) kind ask ids no l ticket n of data = some (sb (frame (p ++ (refB (l.map toP94) ++ (textP ticket ++ (num n.toNat ++ (num of.toNat ++ textP data))))))) := by
 induction d with
 | zero =>
  intro i k hi hk
  rw [List.take_of_length_le (by rw [List.length_map]; omega)]
  have hb := refB_len _ hr
  rw [List.length_map] at hb
  rw [rf_enc_end (sb (p ++ refB (l.map toP94))) ticket data n of kind ask ids no l _ (by rw [z18, List.length_append]; omega) ht hd hn0 hn ho0 ho k (by omega) (by omega), bs_sb _ (z2o hpl (refB_lt _)), List.append_assoc]
 | succ d ih =>
  intro i k hi hk
  obtain ⟨k, rfl⟩ : ∃ m, k = m + 1 := ⟨k - 1, by omega⟩
  simp only [z16.l0]
  have hil : i < l.length := by omega
  have hb := refB_len _ (refsOk_take _ i hr)
  rw [List.length_take, List.length_map] at hb
  have hm := fr_mem hr i (by rw [List.length_map]; exact hil)
  rw [List.getElem_map] at hm
  obtain ⟨m1, m2⟩ := hm
  have q1 : (l[i].f0).size ≤ 128 := m1
  have q2 : (l[i].f1).size = 32 := m2
  clear m1 m2
  have n1 := textP_len (l[i].f0) 128 q1 (by omega)
  rw [if_pos (by omega), if_pos (by omega), rd94 l i hil, rf_textF _ (by omega)]
  simp only [Option.bind_some]
  rw [if_pos (by rw [z18]; omega), if_pos (by simp only [ByteArray.size_append, z18, List.length_append]; omega), show wrap64 ((i : Int) + 1) = ((i + 1 : Nat) : Int) from by unfold wrap64; omega]
  have e : sb (p ++ refB ((l.map toP94).take i)) ++ ((l[i].f1) ++ sb (textP (l[i].f0))) = sb (p ++ refB ((l.map toP94).take (i + 1))) := by
   rw [List.take_succ_eq_append_getElem (by rw [List.length_map]; exact hil), refB_snoc, ← List.append_assoc, z39 _ (bs _ ++ _), List.getElem_map]
   unfold toP94
   dsimp only
   simp only [z39, sb_bs, ByteArray.append_assoc]
  rw [e]
  exact ih (i + 1) k (by omega) (by omega)
theorem rf_encode (x : SayP) (l : List S94) (hx : x.refs = l.map toP94) (ha : 0 ≤ x.ask) (h : checkP x = 0) (k : Nat) (hk : 300 ≤ k) :
  z16.f k x.kind x.ask x.ids x.no l x.ticket x.n x.of x.data = some (sb (encP x)) := by
 unfold z16.f
 simp only [Option.bind_some]
 obtain ⟨h1, h2, h3, h4, h5, h6, h7, h8, h9, h10, h11, h12, h13, h14, h15⟩ := z3o h
 rw [strOf_one _ (by omega) (by omega)]
 obtain ⟨a, hA⟩ := Int.eq_ofNat_of_zero_le ha
 have hcn : z0v.f x.ask = some (sb (num x.ask.toNat)) := by
  unfold z0v.f
  rw [if_pos ⟨by omega, by omega⟩]
 have n1 := z2n x.ask.toNat (by omega)
 have n2 := idsP_len x.ids h13 h3
 have n3 := idsP_len x.no h14 h4
 have n4 := z2n l.length (by rw [hx, List.length_map] at h5; omega)
 rw [hx, List.length_map] at h5
 rw [hx] at h15
 rw [hcn]
 simp only [Option.bind_some]
 rw [if_pos (by simp only [z18, List.length_singleton]; omega), rf_listF x.ids h13 h3 k (by omega)]
 simp only [Option.bind_some]
 rw [if_pos (by simp only [ByteArray.size_append, z18, List.length_singleton]; omega), rf_listF x.no h14 h4 k (by omega)]
 simp only [Option.bind_some]
 rw [if_pos (by simp only [ByteArray.size_append, z18, List.length_singleton]; omega), rf_num_f _ (by omega)]
 simp only [Option.bind_some]
 rw [if_pos (by simp only [ByteArray.size_append, z18, List.length_singleton]; omega)]
 have e : (((sb [x.kind.toNat] ++ sb (num x.ask.toNat)) ++ sb (idsP x.ids)) ++ sb (idsP x.no)) ++ sb (num l.length) = sb ((([x.kind.toNat] ++ num x.ask.toNat ++ idsP x.ids ++ idsP x.no ++ num l.length)) ++ refB ((l.map toP94).take 0)) := by
  simp only [List.take_zero, refB, List.append_nil, z39]
 rw [e, show (0 : Int) = ((0 : Nat) : Int) from rfl]
 rw [rf_enc_l0 l h5 h15 _ (z2o (z2o (z2o (z2o (by intro c hc; rw [List.mem_singleton] at hc; omega) (num_lt _)) (idsP_lt _)) (idsP_lt _)) (num_lt _)) (by simp only [List.length_append, List.length_singleton]; omega) x.ticket x.data x.n x.of x.kind x.ask x.ids x.no h12 h6 h8 h9 h10 h11 l.length 0 k (by omega) (by omega)]
 unfold encP sayP
 rw [hx, List.length_map]
 simp only [List.append_assoc]
abbrev DecT := Int × Int × List ByteArray × List ByteArray × List S94 × ByteArray × Int × Int × ByteArray × Int
def tupP (p : SayP × Int) : DecT := (p.1.kind, p.1.ask, p.1.ids, p.1.no, p.1.refs.map fromP94, p.1.ticket, p.1.n, p.1.of, p.1.data, p.2)
def goodE (x : SayP) (a : St) : SayP × Int := if a.2 && a.1.isEmpty && checkP x == 0 then (x, 0) else (SayP.zero, 230)
theorem sb_nil_iff (l : List Nat) : (sb l).toList = ([] : List UInt8) ↔ l = [] := by
 rw [str_nil_iff, z18]; exact List.length_eq_zero_iff
theorem textS_size {a : St} {m : Nat} (hl : Okl a.1) : (sb (textS a m).2).size ≤ m := by
 rw [z18]
 unfold textS bytesS
 have := numS_le a m
 split
 ·rw [List.length_take]; omega
 ·exact Nat.zero_le _
def SmallR (l : List RefP) : Prop := ∀ x ∈ l, x.1.size ≤ 9223372036854775807
theorem rf_dec_end (kind ask : Int) (ids no : List ByteArray) (refs : List RefP) (hr : SmallR refs) (a5 : St) (h5 : Okl a5.1) (x10 x11 : Int) (k : Nat) (hk : 420 ≤ k) :
  z0z.j2 k x10 x11 false (sb a5.1) a5.2 kind ask ids no (refs.map fromP94) (⟨#[]⟩ : ByteArray) 0 0 (⟨#[]⟩ : ByteArray) =
   some (tupP (goodE ⟨kind, ask, ids, no, refs, sb (textS a5 32).2, ((numS (textS a5 32).1 4194304).2 : Int), ((numS (numS (textS a5 32).1 4194304).1 4194304).2 : Int), sb (textS (numS (numS (textS a5 32).1 4194304).1 4194304).1 700).2⟩ (textS (numS (numS (textS a5 32).1 4194304).1 4194304).1 700).1)) := by
 obtain ⟨k, rfl⟩ : ∃ m, k = m + 1 := ⟨k - 1, by omega⟩
 simp only [z0z.j2]
 rw [if_neg (by decide)]
 have h6 := textS_ok (n := 32) h5
 have h7 := numS_ok (m := 4194304) h6
 have h8 := numS_ok (m := 4194304) h7
 have q6 := rf_text a5 32 (by omega) h5
 have q7 := rf_num (textS a5 32).1 4194304 h6
 have q8 := rf_num (numS (textS a5 32).1 4194304).1 4194304 h7
 have q9 := rf_text (numS (numS (textS a5 32).1 4194304).1 4194304).1 700 (by omega) h8
 have l7 := numS_le (textS a5 32).1 4194304
 have l8 := numS_le (numS (textS a5 32).1 4194304).1 4194304
 rw [show ((32 : Nat) : Int) = 32 from rfl] at q6
 rw [show ((4194304 : Nat) : Int) = 4194304 from rfl] at q7 q8
 rw [show ((700 : Nat) : Int) = 700 from rfl] at q9
 rw [q6]; simp only [Option.bind_some]
 rw [q7]; simp only [Option.bind_some]
 rw [q8]; simp only [Option.bind_some]
 rw [q9]; simp only [Option.bind_some]
 clear q6 q7 q8 q9
 generalize textS (numS (numS (textS a5 32).1 4194304).1 4194304).1 700 = p9
 generalize numS (numS (textS a5 32).1 4194304).1 4194304 = p8 at *
 generalize numS (textS a5 32).1 4194304 = p7 at *
 generalize textS a5 32 = p6 at *
 obtain ⟨⟨a9, o9⟩, data⟩ := p9
 obtain ⟨a8, of⟩ := p8
 obtain ⟨a7, n⟩ := p7
 obtain ⟨a6, ticket⟩ := p6
 dsimp only at *
 rw [w64n n (by omega), w64n of (by omega)]
 unfold goodE
 cases o9 with
 | false => rw [if_neg (by decide)]; rfl
 | true =>
  rw [if_pos rfl]
  by_cases hn : a9 = []
  ·subst hn
   rw [if_pos ((sb_nil_iff []).2 rfl)]
   have hc := rf_check ⟨kind, ask, ids, no, refs, sb ticket, (n : Int), (of : Int), sb data⟩ (refs.map fromP94) (to_from refs).symm (by
    intro y hy
    obtain ⟨z, hz, rfl⟩ := List.mem_map.1 hy
    exact hr z hz) k (by omega)
   dsimp only at hc
   rw [hc]
   simp only [Option.bind_some]
   by_cases hz : checkP ⟨kind, ask, ids, no, refs, sb ticket, (n : Int), (of : Int), sb data⟩ = 0
   ·rw [if_pos hz, hz]; rfl
   ·rw [if_neg hz]
    have : (checkP ⟨kind, ask, ids, no, refs, sb ticket, (n : Int), (of : Int), sb data⟩ == 0) = false := by simpa using hz
    rw [this]; rfl
  ·rw [if_neg (fun h => hn ((sb_nil_iff a9).1 h))]
   have : a9.isEmpty = false := by cases a9 with
    | nil => exact absurd rfl hn
    | cons _ _ => rfl
   rw [this]; rfl
def endP (kind ask : Int) (ids no : List ByteArray) (p : St × List RefP) : SayP × Int :=
 goodE ⟨kind, ask, ids, no, p.2, sb (textS p.1 32).2, ((numS (textS p.1 32).1 4194304).2 : Int), ((numS (numS (textS p.1 32).1 4194304).1 4194304).2 : Int), sb (textS (numS (numS (textS p.1 32).1 4194304).1 4194304).1 700).2⟩ (textS (numS (numS (textS p.1 32).1 4194304).1 4194304).1 700).1
theorem rf_dec_l0 (many : Nat) (hm : many ≤ 256) (kind ask : Int) (ids no : List ByteArray) (d : Nat) : ∀ (i k : Nat) (a : St) (out : List RefP), i + d = many → 2 * d + 430 ≤ k → out.length + d ≤ 1000 → SmallR out → Okl a.1 →
  z0z.l0 k (many : Int) (i : Int) (sb a.1) a.2 kind ask ids no (out.map fromP94) (⟨#[]⟩ : ByteArray) 0 0 (⟨#[]⟩ : ByteArray) = some (tupP (endP kind ask ids no (refsGo d a out))) := by
 induction d with
 | zero =>
  intro i k a out hi hk ho hs hl
  obtain ⟨k, rfl⟩ : ∃ m, k = m + 1 := ⟨k - 1, by omega⟩
  simp only [z0z.l0]
  rw [if_neg (by omega), rf_dec_end kind ask ids no out hs a hl _ _ k (by omega)]; rfl
 | succ d ih =>
  intro i k a out hi hk ho hs hl
  obtain ⟨k, rfl⟩ : ∃ m, k = m + 2 := ⟨k - 2, by omega⟩
  simp only [z0z.l0]
  rw [if_pos (by omega), refsGo]
  by_cases ha : a.2 = true
  ·rw [if_pos ha]
   simp only [z0z.j2]
   have q1 := rf_bytes a 32
   have g1 := z3e (n := 32) hl
   have q2 := rf_text (bytesS a 32).1 128 (by omega) g1
   have g2 := textS_ok (n := 128) g1
   have g3 := textS_size (m := 128) g1
   rw [show ((32 : Nat) : Int) = 32 from rfl] at q1
   rw [show ((128 : Nat) : Int) = 128 from rfl] at q2
   rw [if_pos ha, q1]; simp only [Option.bind_some]
   rw [q2]; simp only [Option.bind_some]
   rw [if_pos (by rw [List.length_map]; omega), show (i : Int) + 1 = ((i + 1 : Nat) : Int) from by omega, u64n (i + 1) (by omega)]
   have e : out.map fromP94 ++ [(⟨sb (textS (bytesS a 32).1 128).2, sb (bytesS a 32).2⟩ : S94)] = (out ++ [(sb (textS (bytesS a 32).1 128).2, sb (bytesS a 32).2)]).map fromP94 := by simp [fromP94]
   rw [e]
   exact ih (i + 1) k _ _ (by omega) (by omega) (by simp; omega) (by
    intro x hx
    rcases List.mem_append.1 hx with hx | hx
    ·exact hs x hx
    ·rw [List.mem_singleton] at hx; subst hx; dsimp only; omega) g2
  ·rw [if_neg ha]
   have haf : a.2 = false := by simpa using ha
   have := rf_dec_end kind ask ids no out hs a hl (many : Int) (i : Int) (k + 1) (by omega)
   rw [haf] at *
   exact this
theorem rf_decode (b : ByteArray) (hb : b.size ≤ 1000000) : z0z.f 1000 b = some (tupP (decP (bs b))) := by
 unfold z0z.f z20.f decP tris
 rw [if_pos (by omega)]
 simp only [Option.bind_some]
 have hu := unframe_okl (bs b) (okl_bs b (by omega))
 generalize unframe (bs b) = u at *
 obtain ⟨t, n, e⟩ := u
 dsimp only at *
 by_cases he : e = 0
 ·subst he
  rw [if_pos (by rfl), if_neg (c := (0 : Nat) ≠ 0) (by decide), z1t]
  by_cases hn : n = b.size
  ·rw [if_pos (by omega), if_neg (c := n ≠ b.size) (by simpa using hn)]
   have q0 := rf_bytes (t, true) 1
   rw [show ((1 : Nat) : Int) = 1 from rfl] at q0
   dsimp only at q0
   rw [q0]
   simp only [Option.bind_some]
   have hc := chain_all t
   have O := hc.ok hu
   obtain ⟨e0, e1, e2, e3, e4, e5, e6, e7, e8, e9⟩ := hc
   generalize takeAll t = T at *
   rw [e0]
   have j0 : ∀ kd : Nat, z0z.j0 1000 (sb T.a0.1) T.a0.2 (kd : Int) 0 (⟨#[]⟩ : ByteArray) 0 0 (⟨#[]⟩ : ByteArray) = some (tupP (endP (kd : Int) T.ask T.ids T.no (T.a5, T.refs))) := by
    intro kd
    simp only [z0z.j0]
    have q1 := rf_num T.a0 4611686018427387904 O.g0
    have q2 := rf_list T.a1 O.g1 999 (by omega)
    have q3 := rf_list T.a2 O.g2 999 (by omega)
    have q4 := rf_num T.a3 256 O.g3
    have hm := numS_le T.a3 256
    rw [show ((4611686018427387904 : Nat) : Int) = 4611686018427387904 from rfl] at q1
    rw [show ((256 : Nat) : Int) = 256 from rfl] at q4
    rw [e1] at q1; rw [e2] at q2; rw [e3] at q3; rw [e4] at q4 hm
    rw [q1]; simp only [Option.bind_some]
    rw [q2]; simp only [Option.bind_some]
    rw [q3]; simp only [Option.bind_some]
    rw [q4]; simp only [Option.bind_some]
    have := rf_dec_l0 T.many hm (kd : Int) T.ask T.ids T.no T.many 0 999 T.a4 [] (by omega) (by omega) (by simp; omega) (by intro x hx; cases hx) O.g4
    rw [e5] at this
    exact this
   have hfin : ∀ kd : Nat, (T.a0.2 = true → kd = T.k.headD 0) → (T.a0.2 = false → kd = 0) → endP (kd : Int) T.ask T.ids T.no (T.a5, T.refs) = if T.good = true then (T.say, 0) else (SayP.zero, 230) := by
    intro kd h1 h2
    unfold endP Took.good Took.say goodE
    dsimp only
    rw [e6]; dsimp only
    rw [e7]; dsimp only
    rw [e8]; dsimp only
    rw [e9]; dsimp only
    have hk : kd = if T.a0.2 = true then T.k.headD 0 else 0 := by
     by_cases h : T.a0.2 = true
     ·rw [if_pos h]; exact h1 h
     ·rw [if_neg h]; exact h2 (by simpa using h)
    rw [← hk]
   dsimp only
   by_cases h0 : T.a0.2 = true
   ·rw [if_pos h0]
    obtain ⟨_, _, lk⟩ := bytesS_inv' e0 h0
    obtain ⟨c, hcc⟩ : ∃ c, T.k = [c] := by
     match T.k, lk with
     | [c], _ => exact ⟨c, rfl⟩
    have hc256 : c < 256 := O.gk.1 c (by rw [hcc]; simp)
    have hhd : T.k.headD 0 = c := by rw [hcc]; rfl
    rw [hcc]
    have hbt : bt (sb [c]) 0 = (c : Int) := by
     obtain ⟨c', _, hd', hb'⟩ := bt_bs (sb [c]) 0 (by rw [z18]; exact Nat.one_pos)
     rw [bs_sb [c] (by intro x hx; rw [List.mem_singleton] at hx; omega)] at hd'
     simp only [List.drop_zero, List.cons.injEq] at hd'
     rw [show ((0 : Nat) : Int) = 0 from rfl, ← hd'.1] at hb'
     exact hb'
    rw [if_pos (by rw [z18]; exact Int.one_pos), hbt, w64n c (by omega), j0 c, hfin c (fun _ => hhd.symm) (fun h => by rw [h] at h0; cases h0)]
   ·rw [if_neg h0]
    have := j0 0
    rw [show ((0 : Nat) : Int) = 0 from rfl] at this
    rw [this]
    have h2 := hfin 0 (fun h => absurd h h0) (fun _ => rfl)
    rw [show ((0 : Nat) : Int) = 0 from rfl] at h2
    rw [h2]
  ·rw [if_neg (by omega), if_pos (c := n ≠ b.size) (by simpa using hn)]; rfl
 ·rw [if_neg (by omega), if_pos (c := e ≠ 0) he]; rfl
end Go.Proofs.Ytcfdplmapdgfmaa.Mine
