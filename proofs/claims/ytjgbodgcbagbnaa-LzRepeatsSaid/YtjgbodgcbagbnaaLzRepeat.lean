/- lz.repeat: bytes of a text put behind it once more. -/
import Derived.Test.YtjgbodgcbagbnaaLzBase
import Derived.Test.YtjgbodgcbagbnaaByteBuf
import Derived.Test.YtjgbodgcbagbnaaLoopKit
import Derived.Lib.Hide
import Derived.Outline
import Derived.Deep.QuietTactic
import Derived.BigQuiet
import Derived.Deep.LoopGhost
set_option linter.unusedVariables false
set_option linter.unusedSimpArgs false
namespace Go.Proofs.Ytjgbodgcbagbnaa.Mine
open Go.RowKit Go.Proofs.YtjgbodgcbagbnaaW.PrintWords

/-- A list, and so many times once more what stands b from its end. -/
def repL (l : List Nat) (b : Nat) : Nat → List Nat
  | 0 => l
  | j + 1 => repL l b j ++ [(repL l b j).getD ((repL l b j).length - b) 0]
theorem repL_length (l : List Nat) (b : Nat) : ∀ j, (repL l b j).length = l.length + j
  | 0 => rfl
  | j + 1 => by rw [repL, List.length_append, repL_length l b j]; rfl
set_option maxRecDepth 100000 in
set_option maxHeartbeats 1000000 in
theorem repeat_calls (B : Nat) (l : List Nat) (b n : Nat) (v : Value) (w : World) (hb : BBuf B l v w) (h1 : 1 ≤ b) (h2 : b ≤ l.length) (h3 : b ≤ 32768) (hn : n ≤ 2000000) (hl : l.length ≤ 2000000) :
    Calls Try.prog 51 #[v, .int .i64 b, .int .i64 n] w fun e w' => ∃ v', e = .returned (.tuple #[v', .bool true]) ∧ BBuf B (repL l b n) v' w' ∧ Below B w w' := by
  obtain ⟨p, c, rfl, hc1, hc2⟩ := hb.form
  have hb1 : decide ((b : Int) < 1) = false := by simp; omega
  have hb2 : decide ((b : Int) > (l.length : Int)) = false := by simp; omega
  have hb2' : decide (l.length < b) = false := by simp; omega
  have hb3 : decide ((b : Int) > 32768) = false := by simp; omega
  have HB := Lib.hid hb
  clear hb
  go_enter Try.func51, Try.ntmps51
  go_wp2_with fail
  go_loopg [0, 22] n (fun gg s0 s22 wr => ∃ (j m c : Nat) (p : Option Addr), j ≤ n ∧ gg = n - j ∧ s22 = .int .i64 j ∧ s0 = .slice p m c ∧ Hid (m = l.length + j) ∧ Hid (BBuf B (repL l b j) (.slice p m c) wr) ∧ Hid (Below B w wr))
  case atStart =>
    exact ⟨0, l.length, c, p, Nat.zero_le _, rfl, rfl, rfl, rfl, HB.out, Below.refl _ _⟩
  case round =>
    obtain ⟨j, m, c, p, hj, hg, rfl, rfl, HM, HBB, HBE⟩ := hrel
    have HG := Lib.hid hg
    clear hg
    by_cases hlt : j < n
    · have hltb : decide ((j : Int) < (n : Int)) = true := by simp; omega
      have hne : repL l b j ≠ [] := fun e => by have := repL_length l b j; rw [e] at this; simp at this; omega
      have hrl := repL_length l b j
      obtain ⟨g, c', hv, _, _, hBg, hgl, hcell⟩ := HBB.out.filled hne
      have hmm : m ≤ 4000000 ∧ b ≤ m := by have := HM.out; omega
      obtain rfl : p = some ⟨g, 0, none⟩ := by injection hv
      clear hv
      have hc := hcell (m - b) (by rw [hrl, ← HM.out]; omega)
      obtain ⟨x, hx⟩ : ∃ x, x = (repL l b j).getD (m - b) 0 := ⟨_, rfl⟩
      rw [← hx] at hc
      have hadd : (⟨g, 0, none⟩ : Addr).add (m - b) = ⟨g, m - b, none⟩ := by unfold Addr.add; split <;> simp_all
      rw [hadd] at hc
      have HX := Lib.hid (And.intro hx hrl)
      have hmb1 := hmm.1
      have hmb2 := hmm.2
      clear hcell hne hx hrl hadd hmm hBg hgl hc2
      have z1 : IntKind.i64.wrap ((m : Int) - (b : Int)) = (m : Int) - (b : Int) := wrap_at _ (by omega) (by omega)
      have z2 : (0 : Int) ≤ (m : Int) - (b : Int) := by omega
      have z3 : (m : Int) - (b : Int) < (m : Int) := by omega
      have z4 : ((m : Int) - (b : Int)).toNat = m - b := by omega
      go_wp2_with (at_builtin; refine wpList_append_one rfl _ _ rfl B (repL l b j) (.slice (some ⟨g, 0, none⟩) m c) rfl wr _ x rfl HBB.out rfl (by rw [HX.out.2]; omega) ?_; intro v' w' hb' hg'; have HN := Lib.hid (And.intro hb' hg'); clear hb' hg'; obtain ⟨p4, c4, hv4, _⟩ := HN.out.1.form; rw [List.length_append, HX.out.2] at hv4; have HV4 := Lib.hid hv4; clear hv4; rw [HV4.out])
      go_roundg (n - (j + 1))
      case measure => have := HG.out; omega
      case rel =>
        refine ⟨j + 1, l.length + j + 1, c4, p4, by omega, rfl, by go_num, rfl, rfl, ?_, ?_⟩
        · have := HN.out.1
          rw [HV4.out] at this
          unfold Hid
          rw [repL, HX.out.2, ← HM.out, ← HX.out.1]
          rw [HM.out]
          exact this
        · exact below_grow (HBE.out.alloc HBB.out.size _) HN.out.2 (by have := HBB.out.size; simp; omega) fun k e => (HBB.out.lt k e).1
    · have hltb : decide ((j : Int) < (n : Int)) = false := by simp; omega
      obtain rfl : j = n := by omega
      go_wp2_with fail
      go_ret2
      exact ⟨_, rfl, HBB.out, HBE.out⟩
end Go.Proofs.Ytjgbodgcbagbnaa.Mine
