import Derived.Test.YtcfdplmapdgfmaaYFrP
import Derived.Test.YtcfdplmapdgfmaaYPFx0
import Derived.Test.YtcfdplmapdgfmaaYPFx1
import Derived.Test.YtcfdplmapdgfmaaYPFx2
import Derived.Test.YtcfdplmapdgfmaaYPFx5
import Derived.Test.YtcfdplmapdgfmaaYPFx6
import Derived.Test.YtcfdplmapdgfmaaYPFx7
set_option linter.unusedVariables false
set_option linter.unusedSimpArgs false
namespace Go.Proofs.Ytcfdplmapdgfmaa.Mine
open List renaming setIfInBounds_toArray → q1, set_cons_zero → q2, set_cons_succ → q3
open Go.RowKit Go.Proofs.YtcfdplmapdgfmaaW.PrintWords Go.Proofs.Ytcfdplmapdgfmaa.PF
def toP94 (x : S94) : RefP := (x.f0, x.f1)
def fromP94 (x : RefP) : S94 := ⟨x.1, x.2⟩
theorem rf_ids_l0 (l : List ByteArray) (hl : l.length ≤ 1000000) (d : Nat) : ∀ (i k : Nat), i + d = l.length → d < k → z0w.l0 k l (i : Int) = some (idsOk (l.drop i)) := by
 induction d with
 | zero =>
  intro i k hi hk
  obtain ⟨k, rfl⟩ : ∃ m, k = m + 1 := ⟨k - 1, by omega⟩
  simp only [z0w.l0]
  rw [if_neg (by omega), List.drop_eq_nil_of_le (by omega)]; rfl
 | succ d ih =>
  intro i k hi hk
  obtain ⟨k, rfl⟩ : ∃ m, k = m + 1 := ⟨k - 1, by omega⟩
  simp only [z0w.l0]
  rw [if_pos (by omega), if_pos (by omega), rd_at l i (by omega), List.drop_eq_getElem_cons (show i < l.length by omega)]
  have hc : idsOk (l[i]'(by omega) :: l.drop (i + 1)) = ((l[i]'(by omega)).size == 32 && idsOk (l.drop (i + 1))) := by unfold idsOk; rw [List.all_cons]
  rw [hc]
  by_cases h : (l[i]'(by omega)).size = 32
  ·rw [if_pos (by omega), show wrap64 ((i : Int) + 1) = ((i + 1 : Nat) : Int) from by unfold wrap64; omega, ih (i + 1) k (by omega) (by omega), h]; rfl
  ·rw [if_neg (by omega)]
   have : ((l[i]'(by omega)).size == 32) = false := by simpa using h
   rw [this]; rfl
theorem rf_ids (l : List ByteArray) (hl : l.length ≤ 64) (k : Nat) (hk : 70 ≤ k) : z0w.f k l = some (idsOk l) := by
 unfold z0w.f
 have := rf_ids_l0 l (by omega) l.length 0 k (by omega) (by omega)
 rw [List.drop_zero] at this
 exact this
theorem rd94 (l : List S94) (i : Nat) (h : i < l.length) : z15 l (i : Int) = l[i] := by
 simp [z15, List.getD_eq_getElem?_getD, List.getElem?_eq_getElem h]
theorem rf_check_l0 (l : List S94) (hl : l.length ≤ 256) (hs : ∀ x ∈ l, x.f0.size ≤ 9223372036854775807) (kind ask n of : Int) (ids no : List ByteArray) (ticket data : ByteArray) (d : Nat) : ∀ (i k : Nat) (b : Bool), i + d = l.length → d < k →
  z0f.l0 k b (i : Int) kind ask ids no l ticket n of data = some (if b && refsOk ((l.map toP94).drop i) then 0 else 230) := by
 induction d with
 | zero =>
  intro i k b hi hk
  obtain ⟨k, rfl⟩ : ∃ m, k = m + 1 := ⟨k - 1, by omega⟩
  simp only [z0f.l0]
  rw [if_neg (by omega), List.drop_eq_nil_of_le (by rw [List.length_map]; omega)]
  cases b <;> rfl
 | succ d ih =>
  intro i k b hi hk
  obtain ⟨k, rfl⟩ : ∃ m, k = m + 1 := ⟨k - 1, by omega⟩
  have hil : i < l.length := by omega
  simp only [z0f.l0]
  rw [if_pos (by omega), show wrap64 ((i : Int) + 1) = ((i + 1 : Nat) : Int) from by unfold wrap64; omega]
  have hlm : i < (l.map toP94).length := by rw [List.length_map]; exact hil
  rw [List.drop_eq_getElem_cons hlm]
  have hc : refsOk ((l.map toP94)[i] :: (l.map toP94).drop (i + 1)) = ((refOk (bs l[i].f0) && l[i].f1.size == 32) && refsOk ((l.map toP94).drop (i + 1))) := by
   unfold refsOk; rw [List.all_cons, List.getElem_map]; rfl
  rw [hc]
  cases b with
  | false =>
   rw [if_neg (by decide), ih (i + 1) k false (by omega) (by omega)]; rfl
  | true =>
   rw [if_pos rfl, if_pos (by omega), rd94 l i hil]
   have hz := hs l[i] (List.getElem_mem hil)
   have hf : z0g.f l[i].f0 = some ((refKind (bs l[i].f0) : Nat) : Int) := by unfold z0g.f; rw [if_pos hz]
   rw [hf]
   simp only [Option.bind_some]
   by_cases hr : refOk (bs l[i].f0) = true
   ·rw [if_pos ((refKind_pos _).2 hr), ih (i + 1) k _ (by omega) (by omega), hr]
    have e : (((l[i].f1).size : Int) == 32) = (l[i].f1.size == 32) := by
     by_cases h : l[i].f1.size = 32
     ·rw [h]; rfl
     ·have h1 : (((l[i].f1).size : Int) == 32) = false := by simp; omega
      have h2 : (l[i].f1.size == 32) = false := by simpa using h
      rw [h1, h2]
    rw [e]; simp
   ·rw [if_neg (fun h => hr ((refKind_pos _).1 h)), ih (i + 1) k _ (by omega) (by omega)]
    have h2 : refOk (bs l[i].f0) = false := by simpa using hr
    rw [h2]; rfl
theorem str_nil_iff (s : ByteArray) : s.toList = ([] : List UInt8) ↔ s.size = 0 := by
 constructor
 ·intro h
  apply Classical.byContradiction
  intro h0
  exact str_full h0 h
 ·exact fun h => str_empty h
theorem rf_check_fin (x : SayP) (l : List S94) (hx : x.refs = l.map toP94) (hm : muchP x = false) (hs : ∀ y ∈ l, y.f0.size ≤ 9223372036854775807) (b : Bool) (k : Nat) (hk : 300 ≤ k) :
  z0f.j2 k b x.kind x.ask x.ids x.no l x.ticket x.n x.of x.data = some (if b && refsOk x.refs then 0 else 230) := by
 obtain ⟨k, rfl⟩ : ∃ m, k = m + 1 := ⟨k - 1, by omega⟩
 simp [muchP] at hm
 obtain ⟨⟨⟨c1, c2⟩, c3⟩, c4⟩ := hm
 rw [hx, List.length_map] at c3
 simp only [z0f.j2]
 have := rf_check_l0 l c3 hs x.kind x.ask x.n x.of x.ids x.no x.ticket x.data l.length 0 k b (by omega) (by omega)
 rw [List.drop_zero, ← hx] at this
 exact this
theorem rf_check_j1 (x : SayP) (l : List S94) (hx : x.refs = l.map toP94) (hm : muchP x = false) (hs : ∀ y ∈ l, y.f0.size ≤ 9223372036854775807) (k : Nat) (hk : 400 ≤ k) :
  z0f.j1 k false x.kind x.ask x.ids x.no l x.ticket x.n x.of x.data = some (if fieldsP x && (idsOk x.ids && idsOk x.no && refsOk x.refs) then 0 else 230) := by
 obtain ⟨k, rfl⟩ : ∃ m, k = m + 1 := ⟨k - 1, by omega⟩
 have hj := fun b => rf_check_fin x l hx hm hs b k (by omega)
 simp [muchP] at hm
 obtain ⟨⟨⟨c1, c2⟩, c3⟩, c4⟩ := hm
 simp only [z0f.j1]
 rw [if_neg (by decide), rf_ids x.ids c1 k (by omega), rf_ids x.no c2 k (by omega)]
 simp only [Option.bind_some, hj, Bool.false_and]
 unfold fieldsP
 by_cases f1 : x.ask ≤ 4611686018427387904
 case neg => rw [if_neg f1, decide_eq_false f1]; simp
 case pos =>
 by_cases f2 : 0 ≤ x.n
 case neg => rw [if_pos f1, if_neg f2, decide_eq_false f2]; simp
 case pos =>
 by_cases f3 : x.n ≤ 4194304
 case neg => rw [if_pos f1, if_pos f2, if_neg f3, decide_eq_false f3]; simp
 case pos =>
 by_cases f4 : 0 ≤ x.of
 case neg => rw [if_pos f1, if_pos f2, if_pos f3, if_neg f4, decide_eq_false f4]; simp
 case pos =>
 by_cases f5 : x.of ≤ 4194304
 case neg => rw [if_pos f1, if_pos f2, if_pos f3, if_pos f4, if_neg f5, decide_eq_false f5]; simp
 case pos =>
 rw [if_pos f1, if_pos f2, if_pos f3, if_pos f4, if_pos f5, decide_eq_true f1, decide_eq_true f2, decide_eq_true f3, decide_eq_true f4, decide_eq_true f5]
 by_cases t0 : x.ticket.size = 0
 ·rw [if_pos ((str_nil_iff _).2 t0), t0]
  cases h1 : idsOk x.ids <;> simp
 ·rw [if_neg (fun h => t0 ((str_nil_iff _).1 h))]
  by_cases t32 : x.ticket.size = 32
  ·rw [if_pos (by omega), t32]
   cases h1 : idsOk x.ids <;> simp
  ·rw [if_neg (by omega)]
   have e0 : (x.ticket.size == 0) = false := by simpa using t0
   have e1 : (x.ticket.size == 32) = false := by simpa using t32
   rw [e0, e1]; simp
theorem rf_check (x : SayP) (l : List S94) (hx : x.refs = l.map toP94) (hs : ∀ y ∈ l, y.f0.size ≤ 9223372036854775807) (k : Nat) (hk : 410 ≤ k) :
  z0f.f k x.kind x.ask x.ids x.no l x.ticket x.n x.of x.data = some (checkP x) := by
 obtain ⟨k, rfl⟩ : ∃ m, k = m + 2 := ⟨k - 2, by omega⟩
 unfold z0f.f checkP
 simp only [z0f.j0]
 by_cases h1 : x.kind < 1
 ·rw [if_pos h1, if_pos True.intro, if_pos (Or.inl h1)]
 ·rw [if_neg h1]
  by_cases h2 : 9 < x.kind
  ·rw [if_pos (by simpa using h2), if_pos (Or.inr h2)]
  ·rw [if_neg (by simpa using h2), if_neg (c := x.kind < 1 ∨ 9 < x.kind) (by omega)]
   have hlen : (l.length : Int) = (x.refs.length : Int) := by rw [hx, List.length_map]
   have ht : z0f.j1 (k + 1) true x.kind x.ask x.ids x.no l x.ticket x.n x.of x.data = some 3 := by simp only [z0f.j1]; rw [if_pos True.intro]
   rw [ht, hlen]
   by_cases m1 : 64 < x.ids.length
   ·rw [if_pos (by omega), if_pos (by simp [muchP, m1])]
   ·rw [if_neg (by omega)]
    by_cases m2 : 64 < x.no.length
    ·rw [if_pos (by omega), if_pos (by simp [muchP, m2])]
    ·rw [if_neg (by omega)]
     by_cases m3 : 256 < x.refs.length
     ·rw [if_pos (by omega), if_pos (by simp [muchP, m3])]
     ·rw [if_neg (by omega)]
      by_cases m4 : 700 < x.data.size
      ·have : decide ((x.data.size : Int) > 700) = true := by simp; omega
       rw [this, ht, if_pos (by simp [muchP, m4])]
      ·have : decide ((x.data.size : Int) > 700) = false := by simp; omega
       have hm : muchP x = false := by simp [muchP, m1, m2, m3, m4]
       rw [this, rf_check_j1 x l hx hm hs (k + 1) (by omega), if_neg (c := muchP x = true) (by rw [hm]; decide)]
theorem rf_num_f (n : Nat) (h : n < 18446744073709551616) : z0j.f (IntKind.u64.wrap (n : Int)) = some (sb (num n)) := by
 unfold z0j.f
 rw [u64n n h, if_pos ⟨by omega, by omega⟩, Int.toNat_natCast]
theorem rf_num_fi (n : Int) (h0 : 0 ≤ n) (h : n < 18446744073709551616) : z0j.f (IntKind.u64.wrap n) = some (sb (num n.toNat)) := by
 obtain ⟨m, rfl⟩ := Int.eq_ofNat_of_zero_le h0
 exact rf_num_f m (by omega)
theorem rf_textF (s : ByteArray) (h : s.size ≤ 1000000) : z2k.f s = some (sb (textP s)) := by
 unfold z2k.f
 have n1 := z1v s.size (by omega)
 rw [rf_num_f s.size (by omega)]
 simp only [Option.bind_some]
 rw [if_pos (by rw [z0y]; omega), textP, z2g, sb_bs]
theorem rf_list_l0 (l : List ByteArray) (h : idsOk l = true) (hl : l.length ≤ 64) (p : List Nat) (hp : p.length ≤ 1000) (d : Nat) : ∀ (i k : Nat), i + d = l.length → d < k →
  z10.l0 k l (sb (p ++ cat (l.take i))) (i : Int) = some (sb (p ++ cat l)) := by
 induction d with
 | zero =>
  intro i k hi hk
  obtain ⟨k, rfl⟩ : ∃ m, k = m + 1 := ⟨k - 1, by omega⟩
  simp only [z10.l0]
  rw [if_neg (by omega), List.take_of_length_le (by omega)]
 | succ d ih =>
  intro i k hi hk
  obtain ⟨k, rfl⟩ : ∃ m, k = m + 1 := ⟨k - 1, by omega⟩
  simp only [z10.l0]
  have hc := cat_len _ (take_all_ok l i h)
  have h32 : (l[i]'(by omega)).size = 32 := by
   unfold idsOk at h
   simpa using List.all_eq_true.1 h _ (List.getElem_mem (by omega))
  rw [if_pos (by omega), if_pos (by omega), rd_at l i (by omega), if_pos (by rw [z0y, List.length_append, hc, h32, List.length_take]; omega), show wrap64 ((i : Int) + 1) = ((i + 1 : Nat) : Int) from by unfold wrap64; omega]
  have e : sb (p ++ cat (l.take i)) ++ l[i]'(by omega) = sb (p ++ cat (l.take (i + 1))) := by
   rw [List.take_succ_eq_append_getElem (by omega), cat_snoc, ← List.append_assoc, z2g _ (bs _), sb_bs]
  rw [e]
  exact ih (i + 1) k (by omega) (by omega)
theorem rf_listF (l : List ByteArray) (h : idsOk l = true) (hl : l.length ≤ 64) (k : Nat) (hk : 70 ≤ k) : z10.f k l = some (sb (idsP l)) := by
 unfold z10.f
 rw [rf_num_f l.length (by omega)]
 simp only [Option.bind_some]
 have := rf_list_l0 l h hl (num l.length) (by have := z1v l.length (by omega); omega) l.length 0 k (by omega) (by omega)
 rw [List.take_zero, show cat [] = [] from rfl, List.append_nil] at this
 exact this
theorem rf_enc_end (X ticket data : ByteArray) (n of : Int) (kind ask : Int) (ids no : List ByteArray) (l : List S94) (z : Int) (hX : X.size ≤ 100000) (ht : ticket.size ≤ 32) (hd : data.size ≤ 700) (hn0 : 0 ≤ n) (hn : n ≤ 4194304) (ho0 : 0 ≤ of) (ho : of ≤ 4194304) (k : Nat) (hk : 0 < k) (hz : ¬ z < (l.length : Int)) :
  z0t.l0 k X z kind ask ids no l ticket n of data = some (sb (frame (bs X ++ (textP ticket ++ (num n.toNat ++ (num of.toNat ++ textP data)))))) := by
 obtain ⟨k, rfl⟩ : ∃ m, k = m + 1 := ⟨k - 1, by omega⟩
 simp only [z0t.l0]
 have n1 := textP_len ticket 32 ht (by omega)
 have n2 := z1v n.toNat (by omega)
 have n3 := z1v of.toNat (by omega)
 have n4 := textP_len data 700 hd (by omega)
 rw [if_neg hz, rf_textF ticket (by omega)]
 simp only [Option.bind_some]
 rw [if_pos (by rw [z0y]; omega), rf_num_fi n hn0 (by omega)]
 simp only [Option.bind_some]
 rw [if_pos (by simp only [ByteArray.size_append, z0y]; omega), rf_num_fi of ho0 (by omega)]
 simp only [Option.bind_some]
 rw [if_pos (by simp only [ByteArray.size_append, z0y]; omega), rf_textF data (by omega)]
 simp only [Option.bind_some]
 rw [if_pos (by simp only [ByteArray.size_append, z0y]; omega)]
 unfold z1z.f
 rw [if_pos (by simp only [ByteArray.size_append, z0y]; omega)]
 simp only [Option.bind_some]
 have e : bs ((((X ++ sb (textP ticket)) ++ sb (num n.toNat)) ++ sb (num of.toNat)) ++ sb (textP data)) = bs X ++ (textP ticket ++ (num n.toNat ++ (num of.toNat ++ textP data))) := by
  simp only [bs_append, bs_sb _ (num_lt _), bs_sb _ (textP_lt _), List.append_assoc]
 rw [e]
theorem rf_enc_l0 (l : List S94) (hl : l.length ≤ 256) (hr : refsOk (l.map toP94) = true) (p : List Nat) (hpl : ∀ c ∈ p, c < 256) (hp : p.length ≤ 10000) (ticket data : ByteArray) (n of : Int) (kind ask : Int) (ids no : List ByteArray) (ht : ticket.size ≤ 32) (hd : data.size ≤ 700) (hn0 : 0 ≤ n) (hn : n ≤ 4194304) (ho0 : 0 ≤ of) (ho : of ≤ 4194304) (d : Nat) :
  ∀ (i k : Nat), i + d = l.length → d < k →
  z0t.l0 k (sb (p ++ refB ((l.map toP94).take i))) (i : Int) kind ask ids no l ticket n of data = some (sb (frame (p ++ (refB (l.map toP94) ++ (textP ticket ++ (num n.toNat ++ (num of.toNat ++ textP data))))))) := by
 induction d with
 | zero =>
  intro i k hi hk
  rw [List.take_of_length_le (by rw [List.length_map]; omega)]
  have hb := refB_len _ hr
  rw [List.length_map] at hb
  rw [rf_enc_end (sb (p ++ refB (l.map toP94))) ticket data n of kind ask ids no l _ (by rw [z0y, List.length_append]; omega) ht hd hn0 hn ho0 ho k (by omega) (by omega), bs_sb _ (z1w hpl (refB_lt _)), List.append_assoc]
 | succ d ih =>
  intro i k hi hk
  obtain ⟨k, rfl⟩ : ∃ m, k = m + 1 := ⟨k - 1, by omega⟩
  simp only [z0t.l0]
  have hil : i < l.length := by omega
  have hb := refB_len _ (refsOk_take _ i hr)
  rw [List.length_take, List.length_map] at hb
  have hm := fr_mem hr i (by rw [List.length_map]; exact hil)
  rw [List.getElem_map] at hm
  obtain ⟨m1, m2⟩ := hm
  have q1 : (l[i].f0).size ≤ 128 := m1
  have q2 : (l[i].f1).size = 32 := m2
  clear m1 m2
  have n1 := textP_len (l[i].f0) 128 q1 (by omega)
  rw [if_pos (by omega), if_pos (by omega), rd94 l i hil, rf_textF _ (by omega)]
  simp only [Option.bind_some]
  rw [if_pos (by rw [z0y]; omega), if_pos (by simp only [ByteArray.size_append, z0y, List.length_append]; omega), show wrap64 ((i : Int) + 1) = ((i + 1 : Nat) : Int) from by unfold wrap64; omega]
  have e : sb (p ++ refB ((l.map toP94).take i)) ++ ((l[i].f1) ++ sb (textP (l[i].f0))) = sb (p ++ refB ((l.map toP94).take (i + 1))) := by
   rw [List.take_succ_eq_append_getElem (by rw [List.length_map]; exact hil), refB_snoc, ← List.append_assoc, z2g _ (bs _ ++ _), List.getElem_map]
   unfold toP94
   dsimp only
   simp only [z2g, sb_bs, ByteArray.append_assoc]
  rw [e]
  exact ih (i + 1) k (by omega) (by omega)
theorem rf_encode (x : SayP) (l : List S94) (hx : x.refs = l.map toP94) (ha : 0 ≤ x.ask) (h : checkP x = 0) (k : Nat) (hk : 300 ≤ k) :
  z0t.f k x.kind x.ask x.ids x.no l x.ticket x.n x.of x.data = some (sb (encP x)) := by
 unfold z0t.f
 simp only [Option.bind_some]
 obtain ⟨h1, h2, h3, h4, h5, h6, h7, h8, h9, h10, h11, h12, h13, h14, h15⟩ := checkP_zero h
 rw [strOf_one _ (by omega) (by omega)]
 obtain ⟨a, hA⟩ := Int.eq_ofNat_of_zero_le ha
 have hcn : z0j.f x.ask = some (sb (num x.ask.toNat)) := by
  unfold z0j.f
  rw [if_pos ⟨by omega, by omega⟩]
 have n1 := z1v x.ask.toNat (by omega)
 have n2 := idsP_len x.ids h13 h3
 have n3 := idsP_len x.no h14 h4
 have n4 := z1v l.length (by rw [hx, List.length_map] at h5; omega)
 rw [hx, List.length_map] at h5
 rw [hx] at h15
 rw [hcn]
 simp only [Option.bind_some]
 rw [if_pos (by simp only [z0y, List.length_singleton]; omega), rf_listF x.ids h13 h3 k (by omega)]
 simp only [Option.bind_some]
 rw [if_pos (by simp only [ByteArray.size_append, z0y, List.length_singleton]; omega), rf_listF x.no h14 h4 k (by omega)]
 simp only [Option.bind_some]
 rw [if_pos (by simp only [ByteArray.size_append, z0y, List.length_singleton]; omega), rf_num_f _ (by omega)]
 simp only [Option.bind_some]
 rw [if_pos (by simp only [ByteArray.size_append, z0y, List.length_singleton]; omega)]
 have e : (((sb [x.kind.toNat] ++ sb (num x.ask.toNat)) ++ sb (idsP x.ids)) ++ sb (idsP x.no)) ++ sb (num l.length) = sb ((([x.kind.toNat] ++ num x.ask.toNat ++ idsP x.ids ++ idsP x.no ++ num l.length)) ++ refB ((l.map toP94).take 0)) := by
  simp only [List.take_zero, refB, List.append_nil, z2g]
 rw [e, show (0 : Int) = ((0 : Nat) : Int) from rfl]
 rw [rf_enc_l0 l h5 h15 _ (z1w (z1w (z1w (z1w (by intro c hc; rw [List.mem_singleton] at hc; omega) (num_lt _)) (idsP_lt _)) (idsP_lt _)) (num_lt _)) (by simp only [List.length_append, List.length_singleton]; omega) x.ticket x.data x.n x.of x.kind x.ask x.ids x.no h12 h6 h8 h9 h10 h11 l.length 0 k (by omega) (by omega)]
 unfold encP sayP
 rw [hx, List.length_map]
 simp only [List.append_assoc]
def SmallR (l : List RefP) : Prop := ∀ x ∈ l, x.1.size ≤ 9223372036854775807
end Go.Proofs.Ytcfdplmapdgfmaa.Mine
