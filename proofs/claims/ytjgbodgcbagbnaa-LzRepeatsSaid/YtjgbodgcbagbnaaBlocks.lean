/- The contract of delta.blocks: the iterator over a text's blocks, and the map of where each first stands. -/
import Derived.Test.YtjgbodgcbagbnaaMapView
import Derived.Test.YtjgbodgcbagbnaaDeltaBase
import Derived.RangeFuncBox
import Derived.RangeFuncLeaves
import Derived.Shelf.Abstract
import Derived.WalkKit
import Derived.OwnWalkIn
import Derived.TacticsInMore
import Derived.LoopNIn
import Derived.LoopIn
import Derived.Maps.OwnIn
import Derived.Lib.Hide
import Derived.Outline
import Derived.Laws.Rows
set_option linter.unusedVariables false
set_option linter.unusedSimpArgs false
namespace Go.Proofs.Ytjgbodgcbagbnaa.Mine
open Go Go.RowKit Go.Shelf Go.Proofs.YtjgbodgcbagbnaaW.PrintWords
attribute [local go_sem] Oper.semAt_some

/-- Block j of a text. -/
def blkS (s : ByteArray) (m : Nat) : ByteArray := s.extract m (m + 16)
theorem blkS_bs (s : ByteArray) (j : Nat) : bs (blkS s (16 * j)) = blkB (bs s) j := by
  unfold blkS blkB
  rw [bs_extract]
  congr 1
  omega
theorem take_fin (n k : Nat) (h : k < n) : (List.finRange n).take (k + 1) = (List.finRange n).take k ++ [⟨k, h⟩] := by
  rw [List.take_succ_eq_append_getElem (by simpa using h)]
  simp
def KpB (B : Nat) (W W' : World) : Prop := W'.heap[B]? = W.heap[B]?
set_option maxRecDepth 100000 in
set_option maxHeartbeats 1000000 in
theorem pieces1_in (F : Fence) (n : Nat) (h6 : F.fn 58) (hro : F.round = none) (hn : 1 ≤ n) (l Bn : Nat) (s : ByteArray) (hs : s.size ≤ 140737488351232) (J Jx : List (Fin (s.size / 16)) → World → Prop)
    (hY : ∀ pre x W, J pre W → pre.length < s.size / 16 → YieldAt F (n - 1) Try.prog l #[.int .i64 ((16 * x.1 : Nat) : Int), .string (blkS s (16 * x.1))] W fun e W' =>
      (e = .returned (.bool true) ∧ J (pre ++ [x]) W' ∧ KpB Bn W W') ∨ (e = .returned (.bool false) ∧ Jx (pre ++ [x]) W'))
    (W : World) (hBn : W.heap[Bn]? = some (.cells #[.string s] 9 (0, 0))) (h0 : J [] W) :
    CallsIn F n Try.prog 58 #[.func (.yield l) #[] #[], .pointer (some ⟨Bn, 0, none⟩)] W fun e W' => (∃ v, e = .returned v) ∧
      ((∃ ys, ys = List.finRange (s.size / 16) ∧ J ys W') ∨ (∃ pre, True ∧ Jx pre W')) := by
  refine callsIn_of_wp Try.func58 rfl h6 ?_ hro
  simp only [Try.ntmps58, List.size_toArray, List.length_cons, List.length_nil, Nat.reduceAdd, Nat.reduceSub, Array.replicate_succ, Array.replicate_zero, List.push_toArray, List.append_toArray, List.nil_append, List.cons_append]
  gi_wp2
  gi_loopw [3] (fun i wr => ∃ (k m : Nat), k ≤ s.size / 16 ∧ i = .int .i64 (m : Int) ∧ Hid (m = 16 * k) ∧ Hid (Boxed wr Bn 9 (.string s)) ∧ Hid (J ((List.finRange (s.size / 16)).take k) wr)) (fun i wr => s.size + 16 - (intOf i).toNat)
  case atStart =>
    exact ⟨0, 0, by omega, rfl, rfl, hBn, h0⟩
  case round =>
    obtain ⟨k, m, hk, rfl, HM, HB, HJ⟩ := hrel
    have hc := HB.out.cell
    have hmb : m ≤ 140737488351232 := by have := HM.out; omega
    by_cases hlt : k < s.size / 16
    · have hm16 : m + 16 ≤ s.size := by have := HM.out; omega
      obtain ⟨fn, tmps, assign, body, hy, hR⟩ := hY _ ⟨k, hlt⟩ wr HJ.out (by simp; omega)
      dsimp only at hy
      rw [← HM.out] at hy
      unfold blkS at hy
      have hb : decide ((m : Int) + 16 ≤ (s.size : Int)) = true := by simp; omega
      have hsl := slice_run s m (m + 16) (m : Int) ((m : Int) + 16) rfl (by omega) (by omega) hm16
      gi_wp2
      refine hR.mono ?_
      rintro e W3 (⟨rfl, hJ3, hk3⟩ | ⟨rfl, hJx3⟩)
      · have hb3 : Boxed W3 Bn 9 (.string s) := (show W3.heap[Bn]? = wr.heap[Bn]? from hk3).trans HB.out
        have HB3 := Lib.hid hb3
        have HJ3 := Lib.hid hJ3
        clear hJ3 hk3 hb3 hsl
        gi_wp2
        go_roundw
        case rel =>
          refine ⟨k + 1, m + 16, by omega, by go_num, ?_, HB3.out, ?_⟩
          · unfold Hid; have := HM.out; omega
          · have := HJ3.out
            rwa [take_fin _ _ hlt]
        case measure => simp [intOf]; omega
      · gi_wp2
        refine bodyPost_ret (results_none rfl _ _ _) rfl ?_
        exact ⟨⟨_, rfl⟩, .inr ⟨_, True.intro, hJx3⟩⟩
    · have hm16 : s.size < m + 16 := by have := HM.out; omega
      have hb : decide ((m : Int) + 16 ≤ (s.size : Int)) = false := by simp; omega
      gi_wp2
      go_end0
      obtain rfl : k = s.size / 16 := by omega
      have hJ := HJ.out
      rw [List.take_of_length_le (by simp)] at hJ
      exact ⟨⟨_, rfl⟩, .inl ⟨_, rfl, hJ⟩⟩
set_option maxHeartbeats 1000000 in
theorem pieces_in (F : Fence) (n : Nat) (h5 : F.fn 55) (hro : F.round = none) (s : ByteArray) (w : World) :
    CallsIn F n Try.prog 55 #[.string s] w fun e w' => e = .returned (.func (.func 58) #[] #[.pointer (some ⟨w.heap.size, 0, none⟩)]) ∧ w' = w.alloc (.cells #[.string s] 9) := by
  refine callsIn_of_wp Try.func55 rfl h5 ?_ hro
  simp only [Try.ntmps55, List.size_toArray, List.length_cons, List.length_nil, Nat.reduceAdd, Nat.reduceSub, Array.replicate_succ, Array.replicate_zero, List.push_toArray, List.append_toArray, List.nil_append, List.cons_append]
  gi_wp2
  go_ret
  exact ⟨rfl, rfl⟩
theorem pieces_stops (F : Fence) (n : Nat) (h6 : F.fn 58) (hro : F.round = none) (hn : 1 ≤ n) (Bn : Nat) (s : ByteArray) (hs : s.size ≤ 140737488351232) (w : World) (hBn : Bn < w.heap.size)
    (hc : w.heap[Bn]? = some (.cells #[.string s] 9 (0, 0))) :
    SeqStopsK F n Try.prog 58 #[.pointer (some ⟨Bn, 0, none⟩)] (fun x : Fin (s.size / 16) => #[Value.int .i64 ((16 * x.1 : Nat) : Int), .string (blkS s (16 * x.1))]) (KpB Bn)
      (fun ys => ys = List.finRange (s.size / 16)) (fun _ => True) (s.size / 16) w := fun l J Jx W hW _ _ hY h0 =>
  pieces1_in F n h6 hro hn l Bn s hs J Jx hY W ((hW.block Bn hBn).trans hc) h0

def blkD (s : ByteArray) (pre : List (Fin (s.size / 16))) : DataW Unit :=
  pre.foldl (fun D x => if Maps.has D (klit (blkS s (16 * x.1))) then D else D.put (klit (blkS s (16 * x.1))) (.lit (.int .i64 ((16 * x.1 : Nat) : Int)))) (.map [])
theorem blkD_snoc (s : ByteArray) (pre : List (Fin (s.size / 16))) (x : Fin (s.size / 16)) : blkD s (pre ++ [x]) =
    if Maps.has (blkD s pre) (klit (blkS s (16 * x.1))) then blkD s pre else (blkD s pre).put (klit (blkS s (16 * x.1))) (.lit (.int .i64 ((16 * x.1 : Nat) : Int))) := by
  simp [blkD]
theorem blkD_F (s : ByteArray) : ∀ (k : Nat), k ≤ s.size / 16 → MapF (blkD s ((List.finRange (s.size / 16)).take k)) (blkF (bs s) k)
  | 0, _ => by simpa [blkD, blkF] using MapF.empty
  | k + 1, h => by
    have ih := blkD_F s k (by omega)
    rw [take_fin _ k (by omega), blkD_snoc, blkF, ih.has_, blkS_bs]
    split
    · exact ih
    · rw [← blkS_bs]; exact ih.put _ _
set_option maxRecDepth 100000 in
set_option maxHeartbeats 2000000 in
theorem blocks_in (F : Fence) (n : Nat) (h3 : F.fn 40) (h4 : F.fn 55) (h5 : F.fn 58) (hro : F.round = none) (hn : 3 ≤ n) (s : ByteArray) (hs : s.size ≤ 140737488351232) (w : World) :
    CallsIn F n Try.prog 40 #[.string s] w fun e W' => e = .returned (.map (some w.heap.size)) ∧
      W'.ownsMap Try.prog 9 (plainElem (H := Unit) Try.prog 3) w.heap.size (s.size / 16) (blkD s (List.finRange (s.size / 16))) ∧ Below w.heap.size w W' := by
  have h1 : 1 ≤ n := by omega
  have hmm := @run_makeMap Try.prog
  refine callsIn_of_wp_marks Try.func40 rfl h3 ?_ hro
  simp only [Try.ntmps40, List.size_toArray, List.length_cons, List.length_nil, Nat.reduceAdd, Nat.reduceSub, Array.replicate_succ, Array.replicate_zero, List.push_toArray, List.append_toArray, List.nil_append, List.cons_append]
  gi_wp2_with (gi_at_call 55; refine (pieces_in F (n - 1) h4 hro _ _).mono ?_; rintro e w' ⟨rfl, rfl⟩)
  have hm0 := World.ownsMap_made w Try.prog 9 (plainElem (H := Unit) Try.prog 3)
  have bS := (Boxed.new (w.alloc (.map #[] 0)) 59 (.map (some w.heap.size))).alloc (.cells #[.string s] 9)
  have bN := Boxed.new ((w.alloc (.map #[] 0)).alloc (.cells #[.map (some w.heap.size)] 59)) 9 (.string s)
  simp only [World.size_alloc] at bS bN
  have hB0 : Below w.heap.size w (((w.alloc (.map #[] 0)).alloc (.cells #[.map (some w.heap.size)] 59)).alloc (.cells #[.string s] 9)) := (((Below.refl _ w).alloc (Nat.le_refl _) _).alloc (by simp) _).alloc (by simp; omega) _
  refine wpIn_rangeFunc_ownG hro h1 (gf := 58) (lb := #[.pointer (some ⟨w.heap.size + 1 + 1, 0, none⟩)]) rfl h5 (enters_of Try.func58 (by kernel_rfl) rfl)
    (pieces_stops F (n - 1) h5 hro (by omega) (w.heap.size + 1 + 1) s hs _ (by simp) bN) (fun h g => g.trans h) ?kb (Below.refl _ _) (fun _ => rfl)
    (fun pre W => ((W.cell? ⟨w.heap.size + 1, 0, none⟩ = some (.map (some w.heap.size)) ∧ W.cell? ⟨w.heap.size + 1 + 1, 0, none⟩ = some (.string s)) ∧ W.ownsMap Try.prog 9 (plainElem (H := Unit) Try.prog 3) w.heap.size pre.length (blkD s pre)) ∧ Below w.heap.size w W)
    (fun _ _ _ => False)
    (OwnFrom.and (fun s A B row hs hg hr => ⟨⟨cell_kept hs.1.1 hg (fun r e => (hr r e).2), cell_kept hs.1.2 hg (fun r e => (hr r e).2)⟩, hs.2.kept hg (fun e => by have := (hr _ e.symm).1; simp at this; omega)⟩) (ownFrom_below (Nat.le_refl _) (by simp; omega)))
    (fun _ _ _ _ _ hs _ _ => hs)
    ⟨⟨⟨bS.cell, bN.cell⟩, (hm0.alloc _).alloc _⟩, hB0⟩
    (fun x => { tmps := #[.string s, undef, .map none, .pointer (some ⟨w.heap.size + 1, 0, none⟩), .int .i64 ((16 * x.1 : Nat) : Int), .string (blkS s (16 * x.1)), undef, undef, .map (some w.heap.size), .string s, .func (.func 58) #[] #[.pointer (some ⟨w.heap.size + 1 + 1, 0, none⟩)], .int .i64 ((16 * x.1 : Nat) : Int), .string (blkS s (16 * x.1)), undef, undef, undef, undef, undef, undef, undef, undef, undef, undef, undef, undef], defers := [] }) ?assign ?body ?done ?stop
  case kb =>
    intro W l o o' hl ho _ _
    simp at hl
    have hlt : l < W.heap.size := (Array.getElem?_eq_some_iff.1 ho).1
    exact (grownBy_putObj' W l o').block (w.heap.size + 1 + 1) (by omega) (by simp; omega)
  case assign =>
    intro l x W K hK
    gi_wp2
    exact hK
  case body =>
    rintro l pre x W ⟨⟨⟨hc, hc2⟩, hown⟩, hB⟩ hlt
    have hsz : (blkS s (16 * x.1)).size ≤ 9223372036854775807 := by unfold blkS; rw [ByteArray.size_extract]; omega
    have hx16 : 16 * x.1 ≤ 9223372036854775807 := by have := x.2; omega
    have hkey := keyS _ hsz
    have hel := elemI _ hx16
    have hsn := blkD_snoc s pre x
    obtain ⟨m, hm⟩ : ∃ m, m = 16 * x.1 := ⟨_, rfl⟩
    obtain ⟨key, hk⟩ : ∃ key, key = blkS s (16 * x.1) := ⟨_, rfl⟩
    obtain ⟨D, hD⟩ : ∃ D, D = blkD s pre := ⟨_, rfl⟩
    rw [← hk] at hsz hkey hsn ⊢
    rw [← hm] at hx16 hel hsn ⊢
    rw [← hD] at hown hsn
    have HSN := Lib.hid hsn
    have HX := Lib.hid (And.intro hm (And.intro hk hD))
    clear hsn hm hk hD
    by_cases hh : Maps.has D (klit key) = true
    · gi_wp2_with (gi_at_lookup; refine wpListIn_lookup_own_ok_int _ rfl _ _ 59 rfl 9 3 .i64 (Maps.string_keyed Try.underlying9) Try.underlying59 Try.underlying3 (zeroI _) w.heap.size pre.length D rfl hown _ _ rfl hkey ?_; intro c hat hwc)
      have hsn := HSN.out
      rw [if_pos hh] at hsn
      exact ⟨(KeepsOthers.refl _).from _, rfl, ⟨⟨hc, hc2⟩, by rw [hsn]; exact hown.mono (by simp)⟩, hB⟩
    · have hh2 : Maps.has D (klit key) = false := by simpa using hh
      clear hh
      gi_wp2_with (first
        | (gi_at_lookup; refine wpListIn_lookup_own_ok_int _ rfl _ _ 59 rfl 9 3 .i64 (Maps.string_keyed Try.underlying9) Try.underlying59 Try.underlying3 (zeroI _) w.heap.size pre.length D rfl hown _ _ rfl hkey ?_; intro c hat hwc)
        | (gi_at_mapUpdate; refine wpListIn_mapUpdate_own _ rfl _ _ _ 59 rfl 9 3 (Maps.string_keyed Try.underlying9) Try.underlying59 _ w.heap.size pre.length D rfl hown (by unfold maxLen; omega) _ _ _ rfl rfl hkey _ [] hel ?_; intro w1 hown1 hgrow1))
      have hsn := HSN.out
      rw [if_neg (by simp [hh2])] at hsn
      obtain ⟨es, ck, hh, _⟩ := hown
      exact ⟨KeepsFrom.of_grownBy hgrow1 (fun j e => by cases e; simp; omega), hgrow1.block (w.heap.size + 1 + 1) (block_lt_of_cell hc2) (by simp; omega),
        ⟨⟨cell_kept hc hgrow1 (fun r e => by cases e; exact ⟨_, hh, rfl⟩), cell_kept hc2 hgrow1 (fun r e => by cases e; exact ⟨_, hh, rfl⟩)⟩, by rw [hsn, List.length_append]; exact hown1⟩, hB.grown hgrow1 hB.size (fun k e => by cases e; exact Nat.le_refl _)⟩
  case done =>
    rintro D ys W hD rfl ⟨⟨hc, hown⟩, hB⟩ hK
    gi_wp2
    refine ⟨by simp, .inl ⟨_, _, rfl, run_takeDeferred hK, ?_⟩⟩
    exact ⟨_, results_tmp rfl _ _ _, rfl, by simpa using hown.kept (grownBy_putObj' _ D _) (fun e => by cases e; simp at hD; omega), hB.trans (belowK_b (w := w) (Nat.le_refl _) W D _ _ (by simp at hD; omega) hK rfl rfl)⟩
  case stop =>
    rintro D c pre W _ _ h _
    exact h.elim
theorem blocks_calls (s : ByteArray) (hs : s.size ≤ 140737488351232) (w : World) :
    Calls Try.prog 40 #[.string s] w fun e W' => ∃ D, e = .returned (.map (some w.heap.size)) ∧
      W'.ownsMap Try.prog 9 (plainElem (H := Unit) Try.prog 3) w.heap.size (s.size / 16) D ∧ MapF D (blkF (bs s) (s.size / 16)) ∧ Below w.heap.size w W' := by
  refine (callsIn_wide (n := 3)).1 ?_
  refine (blocks_in _ 3 (by trivial) (by trivial) (by trivial) rfl (by omega) s hs w).mono ?_
  rintro e W' ⟨he, ho, hb⟩
  have hF := blkD_F s (s.size / 16) (Nat.le_refl _)
  rw [List.take_of_length_le (by simp)] at hF
  exact ⟨_, he, ho, hF, hb⟩
end Go.Proofs.Ytjgbodgcbagbnaa.Mine
