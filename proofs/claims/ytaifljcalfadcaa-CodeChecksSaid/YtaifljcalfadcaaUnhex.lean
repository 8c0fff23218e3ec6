/- The contract of code.Unhex: for every string. -/
import Derived.Test.YtaifljcalfadcaaBase
import Derived.Test.YtaifljcalfadcaaProg
import Derived.Test.YtaifljcalfadcaaShelf
import Derived.Lib.Hide
import Derived.RangeFuncBox

namespace Go.Proofs.Ytaifljcalfadcaa.Mine
open Go.RowKit Go.Proofs.YtaifljcalfadcaaW.PrintWords

theorem infoU8 : (Try.prog.info? 5).map (fun i => (i.zero, i.size, i.bytes)) = some (some (.int .u8 0), 1, 1) := by kernel_rfl

theorem digit_index (c : Nat) (h : c < 256) : Lib.indexByte (⟨#[48, 49, 50, 51, 52, 53, 54, 55, 56, 57, 97, 98, 99, 100, 101, 102]⟩ : ByteArray).data.toList ((c : Int).toNat.toUInt8) = if val c > 15 then -1 else (val c : Int) := by
  have : ∀ c : Fin 256, Lib.indexByte (⟨#[48, 49, 50, 51, 52, 53, 54, 55, 56, 57, 97, 98, 99, 100, 101, 102]⟩ : ByteArray).data.toList (((c.1 : Nat) : Int).toNat.toUInt8) = if val c.1 > 15 then -1 else (val c.1 : Int) := by decide +kernel
  exact this ⟨c, h⟩

set_option maxHeartbeats 1000000 in
theorem unhex_calls (s : ByteArray) (w : World) (hs : s.size ≤ 140737488351232) :
    Calls Try.prog 24 #[.string s] w fun e w' => e = .returned (.tuple #[.string (sb (unhex (bs s)).1), .int .i64 (unhex (bs s)).2]) ∧ Below w.heap.size w w' := by
  have kb := Lib.run_convert_string_bytes (P := Try.prog) w 9 35 5 s Try.underlying9 Try.underlying35 Try.underlying5
  obtain ⟨r, hr⟩ : ∃ r, r = unhex (bs s) := ⟨_, rfl⟩
  rw [← hr]
  by_cases hodd : s.size % 2 = 1
  · have h6 : r = ([], 6) := by rw [hr, unhex, if_pos (by rw [bs_length]; exact hodd)]
    subst h6
    have hodd2 : ((s.size : Int) % 2 != 0) = true := by rw [bne_iff_ne]; omega
    clear hodd
    go_enter Try.func24, Try.ntmps24
    go_wp2
    go_ret2
    exact ⟨rfl, Below.refl _ _⟩
  · have hev2 : ((s.size : Int) % 2 != 0) = false := by rw [bne_eq_false_iff_eq]; omega
    obtain ⟨g, hg0⟩ : ∃ g, g = unhexGo (bs s) false [] := ⟨_, rfl⟩
    have hr2 : r = outOf g := by rw [hr, unhex, if_neg (by rw [bs_length]; exact hodd), hg0]
    have Hr := Lib.hid hr2
    have HG0 := Lib.hid hg0
    have HS := Lib.hid hs
    clear hr hg0 hr2 hodd
    obtain ⟨i0, hi0, hz0, hz1, hz2⟩ := info_parts infoU8
    go_enter Try.func24, Try.ntmps24
    go_wp2
    have HB := Lib.hid (bytes_below (Below.refl w.heap.size w) (Nat.le_refl _) 5 s)
    have hsz := Lib.bytesWorld_size w 5 s
    have HSZ := Lib.hid hsz
    clear hsz
    go_loopw [4, 5, 6, 7, 15] (fun v4 _ _ _ n15 wr => ∃ (i : Nat) (l : List Nat), i ≤ s.size ∧ n15 = .int .i64 i ∧ Hid (l.length ≤ i ∧ (i % 2 = 1 → l ≠ []) ∧ unhexGo ((bs s).drop i) (decide (i % 2 = 1)) l = g) ∧ Hid (wr.ownsRow (w.heap.size + 1) 5 1 v4 l.length (u8s l)) ∧ Hid (Below (w.heap.size + 1) (Lib.bytesWorld w 5 s) wr)) (fun _ _ _ _ i _ => s.size - (intOf i).toNat)
    case atStart => exact ⟨0, [], Nat.zero_le _, rfl, by unfold Hid; exact ⟨Nat.le_refl _, by intro h; simp at h, by rw [HG0.out]; rfl⟩, by unfold Hid; exact World.ownsRow_nil _ _ _ _, by unfold Hid; exact Below.refl _ _⟩
    case round =>
      obtain ⟨i, l, hi, rfl, H, hown, hbel⟩ := hrel
      obtain ⟨hl, hne, hg⟩ := H
      by_cases hlt : i < s.size
      · obtain ⟨c, hc, hd, hcs⟩ := bs_drop s i hlt
        have hcell : wr.cell? ⟨w.heap.size, i, none⟩ = some (.int .u8 c) := by rw [hbel.out.cell (p := ⟨w.heap.size, i, none⟩) (by simp), Lib.bytesWorld_cell w 5 s i hlt, hcs]
        rw [hd] at hg
        have hltb : decide (i < s.size) = true := by simpa using hlt
        have HNE := Lib.hid hne
        clear hd hcs hne
        by_cases hv : val c > 15
        · rw [unhexGo_bad _ _ _ _ hv] at hg
          have h6 : r = ([], 6) := by rw [Hr.out, ← hg]; rfl
          subst h6
          clear hg
          go_wp2_with (go_at_call 33; refine (Try.strings_IndexByte _ _ _).mono ?_; rintro e w' ⟨rfl, hw⟩; replace hw := hw.symm; subst hw; rw [digit_index c hc, if_pos hv])
          go_ret2
          exact ⟨rfl, HB.out.trans (hbel.out.mono (by omega))⟩
        · have hv15 : val c ≤ 15 := by omega
          obtain ⟨d, hd⟩ : ∃ d, d = val c := ⟨_, rfl⟩
          rw [← hd] at hv15
          have HD := Lib.hid hd
          by_cases hpar : i % 2 = 1
          · have hparb : ((i : Int) % 2 == 0) = false := by rw [beq_eq_false_iff_ne]; omega
            rw [decide_eq_true hpar, unhexGo, if_neg hv, ← hd] at hg
            have HG := Lib.hid hg
            have hne := HNE.out hpar
            have HP := Lib.hid hpar
            clear hg hd hpar
            obtain ⟨k, hk⟩ : ∃ k, l.length = k + 1 := ⟨l.length - 1, by have : l.length ≠ 0 := fun h => hne (List.eq_nil_of_length_eq_zero h); omega⟩
            have hown1 := hown.out
            rw [hk] at hown1
            obtain ⟨gb, cap, rfl⟩ := ownsRow_succ hown1
            obtain ⟨x, hx, hset⟩ := u8s_last l k hk
            have hcl : wr.cell? ⟨gb, k, none⟩ = some (.int .u8 (x : Int)) := by rw [hown1.cellAt k (by omega), hx.1]
            have hfz : wr.frozen? ⟨gb, k, none⟩ = false := hown1.frozenAt k
            have hdb : decide ((d : Int) < 0) = false := by simp
            have hkb : k ≤ 140737488351232 := by have := HS.out; omega
            have HX := Lib.hid hx
            have HSET := Lib.hid hset
            have HOWN1 := Lib.hid hown1
            have HK := Lib.hid hk
            clear hx hset hown hown1 hk
            go_wp2_with (go_at_call 33; refine (Try.strings_IndexByte _ _ _).mono ?_; rintro e w' ⟨rfl, hw⟩; replace hw := hw.symm; subst hw; rw [digit_index c hc, if_neg hv, ← HD.out])
            go_roundw
            case rel =>
              refine ⟨i + 1, l.dropLast ++ [(l.getLastD 0 + d) % 256], by omega, by go_num, ?_, ?_, ?_⟩
              · unfold Hid
                have := HK.out
                have := HP.out
                refine ⟨by simp; omega, by omega, ?_⟩
                rw [decide_eq_false (by omega)]
                exact HG.out
              · unfold Hid
                have h1 := (HOWN1.out.stored k (.int .u8 (((l.getLastD 0 + d) % 256 : Nat) : Int))).1
                rw [HSET.out] at h1
                have e1 : ((x : Int) + (d : Int)) % 256 = (((l.getLastD 0 + d) % 256 : Nat) : Int) := by rw [HX.out.2]; omega
                have e2 : (l.dropLast ++ [(l.getLastD 0 + d) % 256]).length = k + 1 := by have := HK.out; simp; omega
                rw [e1, e2]
                exact h1
              · unfold Hid
                exact hbel.out.setCell (p := ⟨gb, k, none⟩) (HOWN1.out.lt gb rfl).1 _
            case measure => simp [intOf]; omega
          · have hparb : ((i : Int) % 2 == 0) = true := by rw [beq_iff_eq]; omega
            rw [decide_eq_false hpar, unhexGo, if_neg hv, ← hd] at hg
            have HG := Lib.hid hg
            have HP := Lib.hid hpar
            clear hg hd hpar
            have hdb : decide ((d : Int) < 0) = false := by simp
            have hil : l.length ≤ 140737488351232 := by have := HS.out; omega
            go_wp2_with (first
              | (go_at_call 33; refine (Try.strings_IndexByte _ _ _).mono ?_; rintro e w' ⟨rfl, hw⟩; replace hw := hw.symm; subst hw; rw [digit_index c hc, if_neg hv, ← HD.out])
              | (at_builtin; refine wpList_append_own _ rfl _ _ 35 rfl (w.heap.size + 1) 5 i0 (.int .u8 0) 1 1 Try.underlying35 hi0 hz0 hz1 hz2 rfl (by decide) _ _ _ rfl (hown.out.alloc _) ⟨wr.heap.size, 0, none⟩ 1 1 [.int .u8 ((d : Int) * 16)] rfl rfl ?c1 ?c2 ?c3 ?c4 ?c5 ?_))
            case c1 =>
              intro j u hj
              match j, hj with
              | 0, hj => simp at hj; subst hj; simp [Addr.add]
            case c2 => intro u hu; simp at hu; subst hu; rfl
            case c3 => unfold maxLen; omega
            case c4 => omega
            case c5 => have h1 := hbel.out.size; rw [HSZ.out] at h1; simp; omega
            intro v' w1 hown' hgrow _
            have hown2 : w1.ownsRow (w.heap.size + 1) 5 1 v' (l ++ [d * 16]).length (u8s (l ++ [d * 16])) := by
              rw [u8s_append, List.length_append]
              exact hown'
            have hbel2 : Below (w.heap.size + 1) (Lib.bytesWorld w 5 s) w1 := by
              have h1 := hbel.out.size
              rw [HSZ.out] at h1
              exact (hbel.out.alloc h1 _).grown hgrow (by simp; omega) fun k hk => (hown.out.lt k hk).1
            have HO2 := Lib.hid hown2
            have HB2 := Lib.hid hbel2
            clear hown2 hbel2 hown' hgrow
            go_wp2
            go_roundw
            case rel =>
              refine ⟨i + 1, l ++ [d * 16], by omega, by go_num, ?_, HO2, HB2⟩
              unfold Hid
              have := HP.out
              refine ⟨by simp; omega, by simp, ?_⟩
              rw [decide_eq_true (by omega)]
              exact HG.out
            case measure => simp [intOf]; omega
      · have hltb : decide (i < s.size) = false := by simpa using hlt
        have hnil : (bs s).drop i = [] := List.drop_eq_nil_of_le (by rw [bs_length]; omega)
        have hgl : some l = g := by
          rw [← hg, hnil]
          cases decide (i % 2 = 1) <;> rfl
        have h6 : r = (l, 0) := by rw [Hr.out, ← hgl]; rfl
        subst h6
        have hcv := conv_own (P := Try.prog) Try.underlying35 Try.underlying5 Try.underlying9 hown.out
        clear hgl hnil hg hne
        go_wp2
        go_ret2
        exact ⟨rfl, HB.out.trans (hbel.out.mono (by omega))⟩
end Go.Proofs.Ytaifljcalfadcaa.Mine
