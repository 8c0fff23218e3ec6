/- The contract of code.Hex: for every string of at most 2^46 bytes. -/
import Derived.Test.YtaifljcalfadcaaBase
import Derived.Test.YtaifljcalfadcaaProg
import Derived.Test.YtaifljcalfadcaaShelf
import Derived.Lib.Hide
import Derived.Lib.Builder
import Derived.Laws.Externs
import Derived.RangeFuncBox

namespace Go.Proofs.Ytaifljcalfadcaa.Mine
open Go.RowKit Go.Proofs.YtaifljcalfadcaaW.PrintWords

theorem infoU8' : (Try.prog.info? 5).map (fun i => (i.zero, i.size, i.bytes)) = some (some (.int .u8 0), 1, 1) := by kernel_rfl
theorem sizeBuilder : (Try.prog.info? 55).map (·.size) = some 2 := by kernel_rfl
theorem liesBuilder : liesAt Try.prog Try.prog.depth 55 (2 / Try.prog.cellsOf 55) 0 55 1 = true := by kernel_rfl

theorem copyCheck_used (b : Nat) (v : Value) (w : World) (hb : w.heap[b]? = some (.cells #[.pointer (some ⟨b, 0, none⟩), v] 55 (0, 0))) :
    Calls Try.prog 40 #[.pointer (some ⟨b, 0, none⟩)] w fun e w' => e = .returned (.tuple #[]) ∧ w' = w := by
  obtain ⟨j, hj, _⟩ := Option.map_eq_some_iff.1 sizeBuilder
  have h0 : w.cell? ⟨b, 0, none⟩ = some (.pointer (some ⟨b, 0, none⟩)) := by rw [Lib.cell_of_heap hb]; rfl
  have hne := Lib.run_neq_ptr_same (P := Try.prog) w ⟨b, 0, none⟩ Try.underlying53 hj
  clear hb
  go_enter Try.func40, Try.ntmps40
  go_wp2
  go_end0
  exact ⟨rfl, rfl⟩

theorem copyCheck_fresh (b : Nat) (v : Value) (w : World) (hb : w.heap[b]? = some (.cells #[.pointer none, v] 55 (0, 0))) :
    Calls Try.prog 40 #[.pointer (some ⟨b, 0, none⟩)] w fun e w' => e = .returned (.tuple #[]) ∧ w' = w.setCell ⟨b, 0, none⟩ (.pointer (some ⟨b, 0, none⟩)) := by
  obtain ⟨j, hj, hjs⟩ := Option.map_eq_some_iff.1 sizeBuilder
  have h0 : w.cell? ⟨b, 0, none⟩ = some (.pointer none) := by rw [Lib.cell_of_heap hb]; rfl
  have hfz : w.frozen? ⟨b, 0, none⟩ = false := Lib.frozen_of_heap hb 0
  have hsh : w.shape? b = some (55, 2) := by simp [World.shape?, hb]
  have k1 := Lib.run_to_unsafe (P := Try.prog) w ⟨b, 0, none⟩ Try.underlying53 Try.underlying63 hj (by rw [hjs]; decide) hsh (Nat.zero_lt_succ 1)
  have k2 := Lib.run_from_unsafe (P := Try.prog) w ⟨b, 0, none⟩ Try.underlying63 Try.underlying53 hj hsh liesBuilder
  clear hb hsh
  go_enter Try.func40, Try.ntmps40
  go_wp2
  rw [run_callFunc_extern Try.func42 (by kernel_rfl) (by kernel_rfl) (by kernel_rfl) (e := Extern.AbiNoEscape.same) (by kernel_rfl)]
  rw [Lib.run_noEscape]
  simp only [Result.andThen]
  rw [Oper.upon_value]
  go_wp2
  go_end0
  exact ⟨rfl, rfl⟩

/-- A builder of the call's own in block b, its buffer from block B on; what lies below B (block b aside) stands. -/
structure Hold (b B : Nat) (l : List Nat) (w : World) : Prop where
  mk_ ::
  out : ∃ (p : Option Addr) (v : Value), (p = none ∨ p = some ⟨b, 0, none⟩) ∧ w.heap[b]? = some (.cells #[.pointer p, v] 55 (0, 0)) ∧ w.ownsRow B 5 1 v l.length (u8s l)
/-- Below B the world is as it was, but for block b. -/
structure But (b B : Nat) (w w' : World) : Prop where
  mk_ ::
  os : w'.os = w.os
  tape : w'.tape = w.tape
  output : w'.output = w.output
  size : w.heap.size ≤ w'.heap.size
  block : ∀ k, k < B → k ≠ b → w'.heap[k]? = w.heap[k]?
theorem But.refl (b B : Nat) (w : World) : But b B w w := ⟨rfl, rfl, rfl, Nat.le_refl _, fun _ _ _ => rfl⟩
theorem But.trans {b B : Nat} {w1 w2 w3 : World} (h : But b B w1 w2) (k : But b B w2 w3) : But b B w1 w3 :=
  ⟨k.os.trans h.os, k.tape.trans h.tape, k.output.trans h.output, Nat.le_trans h.size k.size, fun i hi hb => (k.block i hi hb).trans (h.block i hi hb)⟩
theorem But.below {b B : Nat} {w w' : World} (h : But b B w w') (hb : b ≤ B) : Below b w w' := ⟨h.os, h.tape, h.output, h.size, fun k hk => h.block k (by omega) (by omega)⟩
theorem But.cell {b B : Nat} {w w' : World} (h : But b B w w') {a : Addr} (ha : a.block < B) (hb : a.block ≠ b) : w'.cell? a = w.cell? a := World.cell?_of_block (h.block a.block ha hb)

set_option maxHeartbeats 1000000 in
theorem writeByte (b B : Nat) (l : List Nat) (c : Nat) (w : World) (h : Hold b B l w) (hbB : b < B) (hlen : l.length + 1 ≤ 140737488355328) (hBw : B ≤ w.heap.size) :
    Calls Try.prog 34 #[.pointer (some ⟨b, 0, none⟩), .int .u8 c] w fun e w' => e = .returned .nilIface ∧ Hold b B (l ++ [c]) w' ∧ But b B w w' := by
  obtain ⟨p, v, hp, hbk, hown⟩ := h.out
  obtain ⟨i0, hi0, hz0, hz1, hz2⟩ := info_parts infoU8'
  have hcc : Calls Try.prog 40 #[.pointer (some ⟨b, 0, none⟩)] w fun e w' => e = .returned (.tuple #[]) ∧ Hid (w'.heap[b]? = some (.cells #[.pointer (some ⟨b, 0, none⟩), v] 55 (0, 0)) ∧ w'.ownsRow B 5 1 v l.length (u8s l) ∧ But b B w w') := by
    rcases hp with rfl | rfl
    · refine (copyCheck_fresh b v w hbk).mono ?_
      rintro e w' ⟨rfl, rfl⟩
      refine ⟨rfl, ?_, ?_, ?_⟩
      · simp [World.setCell, Array.getElem?_modify, hbk]
      · refine hown.kept (row := some b) ⟨rfl, rfl, rfl, by simp [World.setCell], fun k _ hk => Below.heap_setCell _ _ _ _ (fun e => hk (by simp [e]))⟩ ?_
        exact .inr (Lib.ownBlock_ne hown hbk (by decide))
      · exact ⟨rfl, rfl, rfl, by simp [World.setCell], fun k _ hk => Below.heap_setCell _ _ _ _ hk⟩
    · refine (copyCheck_used b v w hbk).mono ?_
      rintro e w' ⟨rfl, rfl⟩
      exact ⟨rfl, hbk, hown, But.refl _ _ _⟩
  clear hbk hown hp
  go_enter Try.func34, Try.ntmps34
  go_wp2_with (go_at_call 40; refine hcc.mono ?_)
  rintro e w1 ⟨rfl, H1⟩
  clear hcc
  obtain ⟨hbk, hown, hbut⟩ := H1
  have hB1 : B ≤ w1.heap.size := Nat.le_trans hBw hbut.size
  have hlt : b < w1.heap.size := by omega
  have c0 : w1.cell? ⟨b, 0, none⟩ = some (.pointer (some ⟨b, 0, none⟩)) := by rw [Lib.cell_of_heap hbk]; rfl
  have c1 : w1.cell? ⟨b, 1, none⟩ = some v := by rw [Lib.cell_of_heap hbk]; rfl
  have hne := Lib.ownBlock_ne hown hbk (by decide)
  have HBK := Lib.hid hbk
  have HBUT := Lib.hid hbut
  have HNE := Lib.hid hne
  clear hbk hbut hne
  go_wp2_with (at_builtin; refine wpList_append_own _ rfl _ _ 35 rfl B 5 i0 (.int .u8 0) 1 1 Try.underlying35 hi0 hz0 hz1 hz2 rfl (by decide) _ _ _ rfl (hown.alloc _) ⟨w1.heap.size, 0, none⟩ 1 1 [.int .u8 (c : Int)] rfl rfl ?c1 ?c2 ?c3 ?c4 ?c5 ?_)
  case c1 =>
    intro j u hj
    match j, hj with
    | 0, hj => simp at hj; subst hj; simp [Addr.add]
  case c2 => intro u hu; simp at hu; subst hu; rfl
  case c3 => unfold maxLen; omega
  case c4 => omega
  case c5 => simp; omega
  intro v' w2 hown' hgrow _
  have hb2 : w2.heap[b]? = some (.cells #[.pointer (some ⟨b, 0, none⟩), v] 55 (0, 0)) := by
    rw [hgrow.block b (by simp; omega) (fun e => HNE.out e.symm), Lib.alloc_old w1 _ b hlt]
    exact HBK.out
  have d0 : w2.cell? ⟨b, 0, none⟩ = some (.pointer (some ⟨b, 0, none⟩)) := by rw [Lib.cell_of_heap hb2]; rfl
  have d1 : w2.cell? ⟨b, 1, none⟩ = some v := by rw [Lib.cell_of_heap hb2]; rfl
  have f1 : w2.frozen? ⟨b, 1, none⟩ = false := Lib.frozen_of_heap hb2 1
  obtain ⟨g, cap, rfl⟩ := ownsRow_succ hown'
  have hbut2 : But b B w w2 := by
    refine HBUT.out.trans ⟨hgrow.os, hgrow.tape, hgrow.output, Nat.le_trans (by simp) hgrow.size, fun k hk hkb => ?_⟩
    rw [hgrow.block k (by simp; omega) (fun e => by have := (hown.lt k e.symm).1; omega), Lib.alloc_old w1 _ k (by omega)]
  have HB2 := Lib.hid hb2
  have HBUT2 := Lib.hid hbut2
  have HOWN := Lib.hid hown'
  have HG := Lib.hid hgrow
  clear hb2 hbut2 hown' hgrow
  go_wp2
  go_ret
  refine ⟨rfl, ⟨some ⟨b, 0, none⟩, .slice (some ⟨g, 0, none⟩) (l.length + 1) cap, .inr rfl, ?_, ?_⟩, ?_⟩
  · have := HB2.out
    simp [World.setCell, Array.getElem?_modify, this]
  · rw [u8s_append, List.length_append]
    refine HOWN.out.kept (row := some b) ⟨rfl, rfl, rfl, by simp [World.setCell], fun k _ hk => Below.heap_setCell _ _ _ _ (fun e => hk (by simp [e]))⟩ ?_
    refine .inr ?_
    intro e
    have := (HOWN.out.lt b e).1
    omega
  · exact HBUT2.out.trans ⟨rfl, rfl, rfl, by simp [World.setCell], fun k _ hk => Below.heap_setCell _ _ _ _ hk⟩

theorem own_lower {w : World} {B B' : Nat} {e : TypeId} {size n : Nat} {v : Value} {xs : List Value} (h : w.ownsRow B e size v n xs) (hB : B' ≤ B) : w.ownsRow B' e size v n xs := by
  refine ⟨h.1, ?_⟩
  rcases h.2 with h | ⟨g, cap, cur, h1, h2, h3⟩
  · exact .inl h
  · exact .inr ⟨g, cap, cur, h1, by omega, h3⟩
theorem u8s_byteCells (l : List Nat) (h : ∀ c ∈ l, c < 256) : u8s l = Lib.byteCells (l.map UInt8.ofNat) := by
  simp only [u8s, Lib.byteCells, List.map_map]
  apply List.map_congr_left
  intro c hc
  have := h c hc
  simp [Nat.mod_eq_of_lt this]
theorem builderString (b B : Nat) (l : List Nat) (w : World) (h : Hold b B l w) (hbB : b < B) (hBw : B ≤ w.heap.size) (hl : ∀ c ∈ l, c < 256) :
    Calls Try.prog 35 #[.pointer (some ⟨b, 0, none⟩)] w fun e w' => e = .returned (.string (sb l)) ∧ Below b w w' := by
  obtain ⟨p, v, hp, hbk, hown⟩ := h.out
  rw [u8s_byteCells l hl] at hown
  have hlen : (Lib.byteCells (l.map UInt8.ofNat)).length = l.length := by simp [Lib.byteCells]
  have hat : Lib.BuilderAt 55 5 b b (.pointer p) (Lib.byteCells (l.map UInt8.ofNat)) w :=
    ⟨Nat.le_refl _, v, hbk, by rw [hlen]; exact own_lower hown (by omega), Lib.ownBlock_ne hown hbk (by decide)⟩
  refine (Try.Builder_String_any b b (l.map UInt8.ofNat) w ?_ (by omega)).mono ?_
  · rcases hp with rfl | rfl
    · exact .inl hat
    · exact .inr hat
  · rintro e w' ⟨rfl, hb⟩
    exact ⟨rfl, hb⟩

set_option maxHeartbeats 1000000 in
theorem hex_calls (s : ByteArray) (w : World) (hs : s.size ≤ 70368744177664) :
    Calls Try.prog 25 #[.string s] w fun e w' => e = .returned (.string (sb (hex (bs s)))) ∧ Below w.heap.size w w' := by
  obtain ⟨w0, hw0⟩ : ∃ w0, w0 = w.alloc (.cells #[.pointer none, .slice none 0 0] 55) := ⟨_, rfl⟩
  have kb := Lib.run_convert_string_bytes (P := Try.prog) (w.alloc (.cells #[.pointer none, .slice none 0 0] 55)) 9 35 5 s Try.underlying9 Try.underlying35 Try.underlying5
  have HS := Lib.hid hs
  have HBS := Lib.hid (bs_lt s)

  go_enter Try.func25, Try.ntmps25
  go_wp2
  have hbw : Hid (Below w.heap.size w (Lib.bytesWorld (w.alloc (.cells #[.pointer none, .slice none 0 0] 55)) 5 s)) := bytes_below ((Below.refl w.heap.size w).alloc (Nat.le_refl _) _) (by simp) 5 s
  have hsz : Hid ((Lib.bytesWorld (w.alloc (.cells #[.pointer none, .slice none 0 0] 55)) 5 s).heap.size = w.heap.size + 2) := by unfold Hid; rw [Lib.bytesWorld_size]; simp
  have hh0 : Hid (Hold w.heap.size (w.heap.size + 2) [] (Lib.bytesWorld (w.alloc (.cells #[.pointer none, .slice none 0 0] 55)) 5 s)) := by
    unfold Hid
    refine ⟨none, .slice none 0 0, .inl rfl, ?_, World.ownsRow_nil _ _ _ _⟩
    rw [Lib.bytesWorld_at_old _ _ _ _ (by simp)]
    exact heap_alloc_new w _
  have hcells : Hid (∀ j, j < s.size → (Lib.bytesWorld (w.alloc (.cells #[.pointer none, .slice none 0 0] 55)) 5 s).cell? ⟨w.heap.size + 1, j, none⟩ = some (.int .u8 (s.data.toList.getD j 0).toNat)) := by
    intro j hj
    have := Lib.bytesWorld_cell (w.alloc (.cells #[.pointer none, .slice none 0 0] 55)) 5 s j hj
    simpa using this
  clear kb hw0 w0
  generalize Lib.bytesWorld (w.alloc (.cells #[.pointer none, .slice none 0 0] 55)) 5 s = W0 at *
  go_loopw [5, 9] (fun _ n9 wr => ∃ i : Nat, i ≤ s.size ∧ n9 = .int .i64 i ∧ Hid (Hold w.heap.size (w.heap.size + 2) (hex ((bs s).take i)) wr) ∧ Hid (But w.heap.size (w.heap.size + 2) W0 wr)) (fun _ i _ => s.size - (intOf i).toNat)
  case atStart => exact ⟨0, Nat.zero_le _, rfl, hh0, But.refl _ _ _⟩
  case round =>
    obtain ⟨i, hi, rfl, hh, hbut⟩ := hrel
    by_cases hlt : i < s.size
    · obtain ⟨c, hc, hd, hcs⟩ := bs_take s i hlt
      have hcell : wr.cell? ⟨w.heap.size + 1, i, none⟩ = some (.int .u8 c) := by rw [hbut.out.cell (a := ⟨w.heap.size + 1, i, none⟩) (by simp) (by simp), hcells.out i hlt, hcs]
      have hltb : decide (i < s.size) = true := by simpa using hlt
      obtain ⟨d1, hd1⟩ : ∃ d1, d1 = c / 16 := ⟨_, rfl⟩
      obtain ⟨d2, hd2⟩ : ∃ d2, d2 = c % 16 := ⟨_, rfl⟩
      have hd1i : (c : Int) / 16 = (d1 : Int) := by omega
      have hd2i : (c : Int) % 16 = (d2 : Int) := by omega
      have hd1l : d1 < 16 := by omega
      have hd2l : d2 < 16 := by omega
      have hx1 := digit_byte d1 hd1l
      have hx2 := digit_byte d2 hd2l
      have hlen : (hex ((bs s).take i)).length ≤ 140737488355326 := by have := HS.out; rw [hex_length]; have := List.length_take_le i (bs s); omega
      have hwr : w.heap.size + 2 ≤ wr.heap.size := by have := hbut.out.size; rw [hsz.out] at this; exact this
      have HD := Lib.hid hd
      have HD1 := Lib.hid hd1
      have HD2 := Lib.hid hd2
      have HLEN := Lib.hid hlen
      clear hd hcs hd1 hd2 hlen
      go_wp2_with fail
      refine (writeByte w.heap.size (w.heap.size + 2) _ (dig d1) _ hh.out (by omega) (by have := HLEN.out; omega) hwr).mono ?_
      rintro e w1 ⟨rfl, hh1, hb1⟩
      have HH1 := Lib.hid hh1
      have HB1 := Lib.hid hb1
      have hw1 : w.heap.size + 2 ≤ w1.heap.size := by have := hb1.size; omega
      clear hh1 hb1
      go_wp2_with fail
      refine (writeByte w.heap.size (w.heap.size + 2) _ (dig d2) _ HH1.out (by omega) (by have := HLEN.out; simp; omega) hw1).mono ?_
      rintro e w2 ⟨rfl, hh2, hb2⟩
      have HH2 := Lib.hid hh2
      have HB2 := Lib.hid hb2
      clear hh2 hb2
      go_wp2_with fail
      go_roundw
      case rel =>
        refine ⟨i + 1, by omega, by go_num, ?_, ?_⟩
        · unfold Hid
          rw [HD.out, hex_append, hex, hex, ← HD1.out, ← HD2.out, show (hex ((bs s).take i) ++ [dig d1, dig d2]) = hex ((bs s).take i) ++ [dig d1] ++ [dig d2] from by simp]
          exact HH2.out
        · exact hbut.out.trans (HB1.out.trans HB2.out)
      case measure => simp [intOf]; omega
    · have hltb : decide (i < s.size) = false := by simpa using hlt
      have hall : (bs s).take i = bs s := List.take_of_length_le (by rw [bs_length]; omega)
      have hh2 := hh.out
      rw [hall] at hh2
      have hwr : w.heap.size + 2 ≤ wr.heap.size := by have := hbut.out.size; rw [hsz.out] at this; exact this
      have HH2 := Lib.hid hh2
      clear hh2 hall
      go_wp2_with (go_at_call 35; refine (builderString w.heap.size (w.heap.size + 2) (hex (bs s)) _ HH2.out (by omega) hwr (hex_lt _ HBS.out)).mono ?_; rintro e w1 ⟨rfl, hb1⟩)
      go_ret
      exact ⟨rfl, hbw.out.trans ((hbut.out.below (by omega)).trans hb1)⟩
end Go.Proofs.Ytaifljcalfadcaa.Mine
