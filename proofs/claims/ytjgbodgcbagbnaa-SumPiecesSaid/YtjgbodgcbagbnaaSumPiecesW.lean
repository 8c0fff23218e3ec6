/- Bytes in pieces: the walk of the law. -/
import Derived.Test.YtjgbodgcbagbnaaPureSum
import Derived.Deep.LoopGhost
set_option linter.unusedVariables false
set_option linter.unusedSimpArgs false
namespace Go.Proofs.Ytjgbodgcbagbnaa.Mine
open Go.RowKit Go.Proofs.Ytjgbodgcbagbnaa.PS Go.Proofs.YtjgbodgcbagbnaaW.PrintWords

theorem eat2_len (l : List Nat) : (eat begin8 l).2.length ≤ l.length := eat_len _ _
theorem sum_is2 (s : ByteArray) : outB (eat (eat begin8 (bs s)).1 (pad (eat begin8 (bs s)).2 s.size)).1 = refSum (bs s) := by
  rw [← sha_ref, ← bs_length]; rfl
set_option maxRecDepth 100000 in
set_option maxHeartbeats 1000000 in
theorem sumPieces_calls (a0 : Option Addr) (len cap : Nat) (ask : Int) (w : World) (hlen : len ≤ 9223372036854775807)
    (hcell : ∀ i, i < len → ∃ x s, a0 = some x ∧ w.cell? (x.add i) = some (.string s) ∧ x.block < w.heap.size) :
    Calls Try.prog 4 #[.slice a0 len cap, .int .i64 ask] w fun e w' => e = .returned (.bool true) ∧ Below w.heap.size w w' := by
  have HCELL := Lib.hid hcell
  clear hcell
  go_enter Try.func4, Try.ntmps4
  go_wp2_with (go_at_call 18; refine (new_calls _).mono ?_; rintro e w1 ⟨b, rfl, hb1, hst, hbel⟩; have HS := Lib.hid hst; have HB1 := Lib.hid (And.intro hb1 hbel); clear hst hb1 hbel)
  go_loopg [4, 6, 7] 12 (fun k s4 s6 s7 wr => ∃ (i : Nat) (t : ByteArray) (hv : Value), i ≤ 12 ∧ i ≤ len ∧ k = 12 - i ∧ s4 = .bool false ∧ s6 = .string t ∧ s7 = .int .i64 i ∧ Hid (t.size ≤ 400 * i) ∧
      Hid (St wr b b (eat begin8 (bs t)).1 (eat begin8 (bs t)).2 t.size hv) ∧ Hid (Below w.heap.size w wr))
  case atStart =>
    exact ⟨0, ⟨#[]⟩, _, by omega, by omega, rfl, rfl, rfl, rfl, Nat.le_refl _, (by rw [show bs ⟨#[]⟩ = [] from rfl, eat_end _ _ (by decide)]; exact HS.out), HB1.out.2⟩
  case round =>
    obtain ⟨i, t, hv, hi12, hil, hk, rfl, rfl, rfl, HT, HST, HBW⟩ := hrel
    have HK := Lib.hid hk
    clear hk
    have hts : t.size ≤ 4800 := by have := HT.out; omega
    by_cases hlt : i < len ∧ i < 12
    · obtain ⟨h1, h2⟩ := hlt
      have h1b : decide (i < len) = true := by simpa using h1
      have h2b : decide (i < 12) = true := by simpa using h2
      obtain ⟨x, s, rfl, hc, hxb⟩ := HCELL.out i h1
      have hcr : wr.cell? (x.add i) = some (.string s) := by rw [HBW.out.cell (by rw [Addr.add]; split <;> exact hxb)]; exact hc
      have hcr2 : ∀ w' : World, Below w.heap.size w w' → w'.cell? (x.add i) = some (.string s) := fun w' hb => by rw [hb.cell (by rw [Addr.add]; split <;> exact hxb)]; exact hc
      have HCR := Lib.hid hcr2
      clear hc hcr2
      obtain ⟨u, hu, hus⟩ := few_some s
      have HU := Lib.hid hu
      clear hu
      go_wp2_with fail
      refine (pollardlaw01_few.calls _ _ _ HU.out).mono ?_
      rintro e w2 ⟨rfl, hd2⟩
      have HD2 := Lib.hid hd2.below
      clear hd2
      go_wp2_with fail
      refine (write_calls b b _ _ _ hv u _ (HST.out.below HD2.out (Nat.le_refl _)) (by omega) (by have := eat2_len (bs t); rw [bs_length] at this; exact this)).mono ?_
      rintro e w3 ⟨rfl, hv3, hst3, hb3⟩
      rw [eat_two] at hst3
      have hb3w : Below w.heap.size w w3 := (HBW.out.trans (HD2.out.mono HBW.out.size)).trans (hb3.mono HB1.out.1)
      have hcr3 := HCR.out w3 hb3w
      have HST3 := Lib.hid hst3
      have HB3 := Lib.hid hb3w
      clear hst3 hb3 hb3w
      go_wp2_with fail
      refine (pollardlaw01_few.calls _ _ _ HU.out).mono ?_
      rintro e w4 ⟨rfl, hd4⟩
      have hst4 := HST3.out.below hd4.below (Nat.le_refl _)
      have hb4 : Below w.heap.size w w4 := HB3.out.trans (hd4.below.mono HB3.out.size)
      have e4 : bs t ++ bs u = bs (t ++ u) := (bs_append t u).symm
      have e5 : t.size + u.size = (t ++ u).size := (ByteArray.size_append).symm
      rw [e4, e5] at hst4
      have hsz : (t ++ u).size ≤ 400 * (i + 1) := by rw [ByteArray.size_append]; have := HT.out; omega
      have hsz2 : t.size + u.size ≤ 5200 := by omega
      have HST4 := Lib.hid hst4
      have HB4 := Lib.hid hb4
      have HSZ := Lib.hid hsz
      clear hst4 hb4 e4 e5 hsz hd4 HST3 HB3 hcr3 hcr
      by_cases hia : (i : Int) = ask
      · have hib : ((i : Int) == ask) = true := by simpa using hia
        have HIA := Lib.hid hia
        clear hia
        obtain ⟨R, hR0⟩ : ∃ x, x = sb (refSum (bs (t ++ u))) := ⟨_, rfl⟩
        have HR := Lib.hid hR0
        clear hR0
        go_wp2_with fail
        refine (sum_calls b b _ _ _ hv3 _ HST4.out (by have := HSZ.out; omega) (by have := eat2_len (bs (t ++ u)); rw [bs_length] at this; exact this)).mono ?_
        rintro e w5 ⟨he5, hb5⟩
        rw [sum_is2, ← HR.out] at he5
        subst he5
        have hst5 := HST4.out.below hb5 (Nat.le_refl _)
        have hb5w := HB4.out.trans (hb5.mono HB4.out.size)
        have HST5 := Lib.hid hst5
        have HB5 := Lib.hid hb5w
        clear hst5 hb5 hb5w HST4 HB4
        go_wp2_with fail
        refine (refsum_calls _ _ (by have := HSZ.out; omega)).mono ?_
        rintro e w6 ⟨he6, hb6⟩
        rw [← HR.out] at he6
        subst he6
        have hst6 := HST5.out.below hb6 (Nat.le_refl _)
        have hb6w := HB5.out.trans (hb6.mono HB5.out.size)
        have HST6 := Lib.hid hst6
        have HB6 := Lib.hid hb6w
        clear hst6 hb6 hb6w HST5 HB5
        go_wp2_with fail
        go_roundg (12 - (i + 1))
        case measure => have := HK.out; omega
        case rel => exact ⟨i + 1, t ++ u, hv3, by omega, by omega, rfl, rfl, rfl, by go_num, HSZ.out, HST6.out, HB6.out⟩
      · have hib : ((i : Int) == ask) = false := by simpa using hia
        have HIA := Lib.hid hia
        clear hia
        go_wp2_with fail
        go_roundg (12 - (i + 1))
        case measure => have := HK.out; omega
        case rel => exact ⟨i + 1, t ++ u, hv3, by omega, by omega, rfl, rfl, rfl, by go_num, HSZ.out, HST4.out, HB4.out⟩
    · have hsplit : i < len ∧ ¬ i < 12 ∨ ¬ i < len := by omega
      clear hlt
      rcases hsplit with ⟨h1, h2⟩ | h1
      · have h1b : decide (i < len) = true := by simpa using h1
        have h2b : decide ((i : Int) < 12) = false := by simp; omega
        go_wp2_with fail
        refine (pollardlaw01_awake.calls _ _ awake).mono ?_
        rintro e w2 ⟨rfl, hb2⟩
        have hst2 := HST.out.below hb2 (Nat.le_refl _)
        have hb2w := HBW.out.trans (hb2.mono HBW.out.size)
        have HST2 := Lib.hid hst2
        have HB2 := Lib.hid hb2w
        clear hst2 hb2 hb2w
        obtain ⟨R, hR0⟩ : ∃ x, x = sb (refSum (bs t)) := ⟨_, rfl⟩
        have HR := Lib.hid hR0
        clear hR0
        go_wp2_with fail
        refine (sum_calls b b _ _ _ hv _ HST2.out (by omega) (by have := eat2_len (bs t); rw [bs_length] at this; exact this)).mono ?_
        rintro e w3 ⟨he3, hb3⟩
        rw [sum_is2, ← HR.out] at he3
        subst he3
        have hst3 := HST2.out.below hb3 (Nat.le_refl _)
        have hb3w := HB2.out.trans (hb3.mono HB2.out.size)
        have HST3 := Lib.hid hst3
        have HB3 := Lib.hid hb3w
        clear hst3 hb3 hb3w
        go_wp2_with fail
        refine (refsum_calls _ _ (by omega)).mono ?_
        rintro e w4 ⟨he4, hb4⟩
        rw [← HR.out] at he4
        subst he4
        have hst4 := HST3.out.below hb4 (Nat.le_refl _)
        have hb4w := HB3.out.trans (hb4.mono HB3.out.size)
        have HST4 := Lib.hid hst4
        have HB4 := Lib.hid hb4w
        clear hst4 hb4 hb4w
        go_wp2_with fail
        refine (sum_calls b b _ _ _ hv _ HST4.out (by omega) (by have := eat2_len (bs t); rw [bs_length] at this; exact this)).mono ?_
        rintro e w5 ⟨he5, hb5⟩
        rw [sum_is2, ← HR.out] at he5
        subst he5
        have hb5w := HB4.out.trans (hb5.mono HB4.out.size)
        have HB5 := Lib.hid hb5w
        clear hb5 hb5w
        go_wp2_with fail
        refine (of_calls _ _ (by omega)).mono ?_
        rintro e w6 ⟨he6, hb6⟩
        rw [sha_ref, ← HR.out] at he6
        subst he6
        have HB6 := Lib.hid (HB5.out.trans (hb6.mono HB5.out.size))
        clear hb6
        go_wp2_with fail
        go_ret
        exact ⟨rfl, HB6.out⟩
      · have h1b : decide (i < len) = false := by simpa using h1
        go_wp2_with fail
        refine (pollardlaw01_awake.calls _ _ awake).mono ?_
        rintro e w2 ⟨rfl, hb2⟩
        have hst2 := HST.out.below hb2 (Nat.le_refl _)
        have hb2w := HBW.out.trans (hb2.mono HBW.out.size)
        have HST2 := Lib.hid hst2
        have HB2 := Lib.hid hb2w
        clear hst2 hb2 hb2w
        obtain ⟨R, hR0⟩ : ∃ x, x = sb (refSum (bs t)) := ⟨_, rfl⟩
        have HR := Lib.hid hR0
        clear hR0
        go_wp2_with fail
        refine (sum_calls b b _ _ _ hv _ HST2.out (by omega) (by have := eat2_len (bs t); rw [bs_length] at this; exact this)).mono ?_
        rintro e w3 ⟨he3, hb3⟩
        rw [sum_is2, ← HR.out] at he3
        subst he3
        have hst3 := HST2.out.below hb3 (Nat.le_refl _)
        have hb3w := HB2.out.trans (hb3.mono HB2.out.size)
        have HST3 := Lib.hid hst3
        have HB3 := Lib.hid hb3w
        clear hst3 hb3 hb3w
        go_wp2_with fail
        refine (refsum_calls _ _ (by omega)).mono ?_
        rintro e w4 ⟨he4, hb4⟩
        rw [← HR.out] at he4
        subst he4
        have hst4 := HST3.out.below hb4 (Nat.le_refl _)
        have hb4w := HB3.out.trans (hb4.mono HB3.out.size)
        have HST4 := Lib.hid hst4
        have HB4 := Lib.hid hb4w
        clear hst4 hb4 hb4w
        go_wp2_with fail
        refine (sum_calls b b _ _ _ hv _ HST4.out (by omega) (by have := eat2_len (bs t); rw [bs_length] at this; exact this)).mono ?_
        rintro e w5 ⟨he5, hb5⟩
        rw [sum_is2, ← HR.out] at he5
        subst he5
        have hb5w := HB4.out.trans (hb5.mono HB4.out.size)
        have HB5 := Lib.hid hb5w
        clear hb5 hb5w
        go_wp2_with fail
        refine (of_calls _ _ (by omega)).mono ?_
        rintro e w6 ⟨he6, hb6⟩
        rw [sha_ref, ← HR.out] at he6
        subst he6
        have HB6 := Lib.hid (HB5.out.trans (hb6.mono HB5.out.size))
        clear hb6
        go_wp2_with fail
        go_ret
        exact ⟨rfl, HB6.out⟩
end Go.Proofs.Ytjgbodgcbagbnaa.Mine
