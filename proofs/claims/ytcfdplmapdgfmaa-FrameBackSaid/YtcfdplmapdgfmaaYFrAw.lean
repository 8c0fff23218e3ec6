import Derived.Test.YtcfdplmapdgfmaaYFrDecode
set_option linter.unusedVariables false
set_option linter.unusedSimpArgs false
namespace Go.Proofs.Ytcfdplmapdgfmaa.Mine
open Go.RowKit Go.Proofs.YtcfdplmapdgfmaaW.PrintWords
theorem refs_back {α : Type} (f : α → RefP) (g : RefP → α) (h : ∀ r, f (g r) = r) (l : List RefP) : l = (l.map g).map f := by
 rw [List.map_map]
 conv => lhs; rw [← List.map_id l]
 exact List.map_congr_left fun x _ => (h x).symm
theorem frEncode_calls (x : SayP) (v : Value) (w : World) (hv : SayV w v x) (ha : 0 ≤ x.ask) :
  Calls Try.prog 13 #[v] w fun e w' => e = .returned (.tuple #[.string (if checkP x = 0 then sb (encP x) else ⟨#[]⟩), .int .i64 (checkP x)]) ∧ Below w.heap.size w w' := by
 obtain ⟨A2, c2, A3, c3, A4, c4, rfl, h2, l2, h3, l3, h4, l4⟩ := hv
 have hl : (x.refs.map fun r => (⟨r.1, r.2⟩ : PG.S91)).length = x.refs.length := List.length_map _
 have hb := refs_back toP91 (fun r => (⟨r.1, r.2⟩ : PG.S91)) (fun _ => rfl) x.refs
 have h4' : Kd.C PG.k91 w A4 (x.refs.map fun r => (⟨r.1, r.2⟩ : PG.S91)).length (x.refs.map fun r => (⟨r.1, r.2⟩ : PG.S91)) := by
  rw [hl]
  refine C_iso' (d := Kd.pair Kd.string Kd.string) (f := fun y : PG.S91 => (y.f0, y.f1)) ?_
  have : (x.refs.map fun r => (⟨r.1, r.2⟩ : PG.S91)).map (fun y : PG.S91 => (y.f0, y.f1)) = x.refs := hb.symm
  rw [this]; exact h4
 have := PG.z0s.calls 300 x.kind x.ask A2 c2 x.ids A3 c3 x.no A4 c4 (x.refs.map fun r => (⟨r.1, r.2⟩ : PG.S91)) x.ticket x.n x.of x.data _ _ w h2 l2 h3 l3 h4' (by rw [hl]; exact l4) (fr_encode x _ hb ha 300 (Nat.le_refl _))
 rw [hl] at this
 exact this
def awX : SayP := ⟨8, 7, [], [], [], ⟨#[]⟩, 0, 0, ⟨#[120]⟩⟩
theorem awX_v (w : World) : SayV w (.agg #[.int .i64 8, .int .u64 7, .slice none 0 0, .slice none 0 0, .slice none 0 0, .string ⟨#[]⟩, .int .i64 0, .int .i64 0, .string ⟨#[120]⟩]) awX :=
 ⟨none, 0, none, 0, none, 0, rfl, ⟨rfl, by simp [awX], fun h => absurd h (Nat.lt_irrefl 0)⟩, Nat.le_refl _, ⟨rfl, by simp [awX], fun h => absurd h (Nat.lt_irrefl 0)⟩, Nat.le_refl _, ⟨rfl, by simp [awX], fun h => absurd h (Nat.lt_irrefl 0)⟩, Nat.le_refl _⟩
theorem awX_check : checkP awX = 0 := by decide
set_option maxRecDepth 100000 in
set_option maxHeartbeats 1000000 in
theorem frAwake_calls (w : World) : Calls Try.prog 16 #[] w fun e w' => e = .returned (.bool true) ∧ Below w.heap.size w w' := by
 obtain ⟨b, hb⟩ : ∃ b, b = sb (encP awX) := ⟨_, rfl⟩
 have hlen := encP_len awX (by decide) awX_check
 have hbb : bs b = encP awX := by rw [hb]; exact bs_sb _ (encP_lt awX awX_check)
 have hdec := dec_enc awX (by decide) awX_check
 rw [← hbb] at hdec
 have hbs : b.size ≤ 1000000 := by rw [hb, z0y]; omega
 have HB := Lib.hid (And.intro hb (And.intro hdec hbs))
 clear hlen hbb hdec hbs hb
 go_enter Try.func16, Try.ntmps16
 go_wp2_with fail
 refine (frEncode_calls awX _ _ (awX_v _) (by decide)).mono ?_
 rintro e1 w1 ⟨rfl, hb1⟩
 rw [if_pos awX_check, awX_check, ← HB.out.1]
 have HB1 := Lib.hid hb1
 clear hb1
 go_wp2_with fail
 refine (frDecode_calls b _ HB.out.2.2).mono ?_
 rintro e2 w2 ⟨v, rfl, hv, hb2⟩
 rw [HB.out.2.1] at hv ⊢
 obtain ⟨A2, c2, A3, c3, A4, c4, rfl, _⟩ := hv
 have HB2 := Lib.hid hb2
 clear hb2
 dsimp only [awX]
 go_wp2_with fail
 go_ret
 exact ⟨rfl, (HB1.out.trans (HB2.out.mono HB1.out.size)).alloc (by have := HB1.out.size; have := HB2.out.size; omega) _⟩
end Go.Proofs.Ytcfdplmapdgfmaa.Mine
