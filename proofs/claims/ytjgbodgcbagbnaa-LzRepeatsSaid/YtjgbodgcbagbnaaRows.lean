/-
  No cell of these rows narrows 'for every input' (looked for: loops, veiled, ifaces, maps, wideKeys, modest, calm, conditions, laid).
  DERIVED. THE GIVEN ROWS OF THIS SEAT. 11 by the template 'for every input the law returns true; each argument reads behind the call as it read before'; 0 by the template 'total and deterministic' (their statements: YtjgbodgcbagbnaaTotals.lean).
  GIVEN WITH THE SEED: the statements are not yours to turn. If you find one false, say at which input.
  Laid BY PROGRAM, IN A SANDBOX (cutbox-rows.mjs): the forced cells as the released guide's own fill.sh prints them over the translation 337cd16f434fc1e3… (all of the seat's roots in one cut). By AI agents, Wed Nov 11 2026. No macro, syntax, notation, axiom, sorry.
-/
import Derived.Test.YtjgbodgcbagbnaaChecked
import GoSem.Claim
import GoSem.ClaimJoined
import GoSem.ClaimMapViews
import Derived.JoinedTies
import Derived.KernelRfl
namespace Go.Proofs.Ytjgbodgcbagbnaa
/- THE CELL 'sum', in the pinned program and in every row, IS THE sha256 OF THE DUMP (.gsa) THAT YtjgbodgcbagbnaaProg.lean LOADS. Nothing in Lean hashes anything: it is a label: what it is worth is what the hold of that sum in a sandbox is worth. -/
noncomputable def Try.pinned : Pinned := { name := "ytjgbodgcbagbnaa", sum := "337cd16f434fc1e35939b5d8dd061d06787461cb0b518bbef94a29dfe8e9a598", checked := Try.checked }
namespace Rows
def none {H : Type} : Left H := { results := [], args := [] }

/-- 'pollardlaw01.SumOf': WHATEVER THE INPUT: true; the input reads as it did. -/
def sumOfSpec : ChangeSpec := { name := "sumOf", fn := fun _ => fun
  | [d] => { results := [.lit (.bool true)], args := [d] }
  | _ => none }
def sumOfRow : OpenClaim := { program := "ytjgbodgcbagbnaa", sum := "337cd16f434fc1e35939b5d8dd061d06787461cb0b518bbef94a29dfe8e9a598", func := "pollard/pollardlaw01.SumOf", spec := "sumOf", apart := false }
def SumOfSaid : Prop := sumOfRow.holds Try.pinned (OpenSpec.ofChange sumOfSpec)

/-- ITS FALSE NEIGHBOUR: 'it returns false'. Refute it at one input. -/
def sumOfWrong : ChangeSpec := { name := "sumOf", fn := fun _ => fun
  | [d] => { results := [.lit (.bool false)], args := [d] }
  | _ => none }
def SumOfWrongFalsely : Prop := sumOfRow.holds Try.pinned (OpenSpec.ofChange sumOfWrong)

/-- 'pollardlaw01.SumPieces': WHATEVER THE INPUT: true; the input reads as it did. -/
def sumPiecesSpec : ChangeSpec := { name := "sumPieces", fn := fun _ => fun
  | [d1, d2] => { results := [.lit (.bool true)], args := [d1, d2] }
  | _ => none }
def sumPiecesRow : OpenClaim := { program := "ytjgbodgcbagbnaa", sum := "337cd16f434fc1e35939b5d8dd061d06787461cb0b518bbef94a29dfe8e9a598", func := "pollard/pollardlaw01.SumPieces", spec := "sumPieces", apart := false }
def SumPiecesSaid : Prop := sumPiecesRow.holds Try.pinned (OpenSpec.ofChange sumPiecesSpec)

/-- ITS FALSE NEIGHBOUR: 'it returns false'. Refute it at one input. -/
def sumPiecesWrong : ChangeSpec := { name := "sumPieces", fn := fun _ => fun
  | [d1, d2] => { results := [.lit (.bool false)], args := [d1, d2] }
  | _ => none }
def SumPiecesWrongFalsely : Prop := sumPiecesRow.holds Try.pinned (OpenSpec.ofChange sumPiecesWrong)

/-- 'pollardlaw01.SumNone': WHATEVER THE INPUT: true; the input reads as it did. -/
def sumNoneSpec : ChangeSpec := { name := "sumNone", fn := fun _ => fun
  | [d] => { results := [.lit (.bool true)], args := [d] }
  | _ => none }
def sumNoneRow : OpenClaim := { program := "ytjgbodgcbagbnaa", sum := "337cd16f434fc1e35939b5d8dd061d06787461cb0b518bbef94a29dfe8e9a598", func := "pollard/pollardlaw01.SumNone", spec := "sumNone", apart := false }
def SumNoneSaid : Prop := sumNoneRow.holds Try.pinned (OpenSpec.ofChange sumNoneSpec)

/-- ITS FALSE NEIGHBOUR: 'it returns false'. Refute it at one input. -/
def sumNoneWrong : ChangeSpec := { name := "sumNone", fn := fun _ => fun
  | [d] => { results := [.lit (.bool false)], args := [d] }
  | _ => none }
def SumNoneWrongFalsely : Prop := sumNoneRow.holds Try.pinned (OpenSpec.ofChange sumNoneWrong)

/-- 'pollardlaw01.SumTwins': WHATEVER THE INPUT: true; the input reads as it did. -/
def sumTwinsSpec : ChangeSpec := { name := "sumTwins", fn := fun _ => fun
  | [d1, d2] => { results := [.lit (.bool true)], args := [d1, d2] }
  | _ => none }
def sumTwinsRow : OpenClaim := { program := "ytjgbodgcbagbnaa", sum := "337cd16f434fc1e35939b5d8dd061d06787461cb0b518bbef94a29dfe8e9a598", func := "pollard/pollardlaw01.SumTwins", spec := "sumTwins", apart := false }
def SumTwinsSaid : Prop := sumTwinsRow.holds Try.pinned (OpenSpec.ofChange sumTwinsSpec)

/-- ITS FALSE NEIGHBOUR: 'it returns false'. Refute it at one input. -/
def sumTwinsWrong : ChangeSpec := { name := "sumTwins", fn := fun _ => fun
  | [d1, d2] => { results := [.lit (.bool false)], args := [d1, d2] }
  | _ => none }
def SumTwinsWrongFalsely : Prop := sumTwinsRow.holds Try.pinned (OpenSpec.ofChange sumTwinsWrong)

/-- 'pollardlaw09.DeltaMakes': WHATEVER THE INPUT: true; the input reads as it did. -/
def deltaMakesSpec : ChangeSpec := { name := "deltaMakes", fn := fun _ => fun
  | [d1, d2] => { results := [.lit (.bool true)], args := [d1, d2] }
  | _ => none }
def deltaMakesRow : OpenClaim := { program := "ytjgbodgcbagbnaa", sum := "337cd16f434fc1e35939b5d8dd061d06787461cb0b518bbef94a29dfe8e9a598", func := "pollard/pollardlaw09.DeltaMakes", spec := "deltaMakes", unfollowed := true, recurses := true, apart := false }
def DeltaMakesSaid : Prop := deltaMakesRow.holds Try.pinned (OpenSpec.ofChange deltaMakesSpec)

/-- ITS FALSE NEIGHBOUR: 'it returns false'. Refute it at one input. -/
def deltaMakesWrong : ChangeSpec := { name := "deltaMakes", fn := fun _ => fun
  | [d1, d2] => { results := [.lit (.bool false)], args := [d1, d2] }
  | _ => none }
def DeltaMakesWrongFalsely : Prop := deltaMakesRow.holds Try.pinned (OpenSpec.ofChange deltaMakesWrong)

/-- 'pollardlaw09.DeltaSelf': WHATEVER THE INPUT: true; the input reads as it did. -/
def deltaSelfSpec : ChangeSpec := { name := "deltaSelf", fn := fun _ => fun
  | [d1, d2] => { results := [.lit (.bool true)], args := [d1, d2] }
  | _ => none }
def deltaSelfRow : OpenClaim := { program := "ytjgbodgcbagbnaa", sum := "337cd16f434fc1e35939b5d8dd061d06787461cb0b518bbef94a29dfe8e9a598", func := "pollard/pollardlaw09.DeltaSelf", spec := "deltaSelf", unfollowed := true, recurses := true, apart := false }
def DeltaSelfSaid : Prop := deltaSelfRow.holds Try.pinned (OpenSpec.ofChange deltaSelfSpec)

/-- ITS FALSE NEIGHBOUR: 'it returns false'. Refute it at one input. -/
def deltaSelfWrong : ChangeSpec := { name := "deltaSelf", fn := fun _ => fun
  | [d1, d2] => { results := [.lit (.bool false)], args := [d1, d2] }
  | _ => none }
def DeltaSelfWrongFalsely : Prop := deltaSelfRow.holds Try.pinned (OpenSpec.ofChange deltaSelfWrong)

/-- 'pollardlaw09.DeltaMost': WHATEVER THE INPUT: true; the input reads as it did. -/
def deltaMostSpec : ChangeSpec := { name := "deltaMost", fn := fun _ => fun
  | [d1, d2, d3] => { results := [.lit (.bool true)], args := [d1, d2, d3] }
  | _ => none }
def deltaMostRow : OpenClaim := { program := "ytjgbodgcbagbnaa", sum := "337cd16f434fc1e35939b5d8dd061d06787461cb0b518bbef94a29dfe8e9a598", func := "pollard/pollardlaw09.DeltaMost", spec := "deltaMost", unfollowed := true, recurses := true, apart := false }
def DeltaMostSaid : Prop := deltaMostRow.holds Try.pinned (OpenSpec.ofChange deltaMostSpec)

/-- ITS FALSE NEIGHBOUR: 'it returns false'. Refute it at one input. -/
def deltaMostWrong : ChangeSpec := { name := "deltaMost", fn := fun _ => fun
  | [d1, d2, d3] => { results := [.lit (.bool false)], args := [d1, d2, d3] }
  | _ => none }
def DeltaMostWrongFalsely : Prop := deltaMostRow.holds Try.pinned (OpenSpec.ofChange deltaMostWrong)

/-- 'pollardlaw04.LzPresses': WHATEVER THE INPUT: true; the input reads as it did. -/
def lzPressesSpec : ChangeSpec := { name := "lzPresses", fn := fun _ => fun
  | [d] => { results := [.lit (.bool true)], args := [d] }
  | _ => none }
def lzPressesRow : OpenClaim := { program := "ytjgbodgcbagbnaa", sum := "337cd16f434fc1e35939b5d8dd061d06787461cb0b518bbef94a29dfe8e9a598", func := "pollard/pollardlaw04.LzPresses", spec := "lzPresses", apart := false }
def LzPressesSaid : Prop := lzPressesRow.holds Try.pinned (OpenSpec.ofChange lzPressesSpec)

/-- ITS FALSE NEIGHBOUR: 'it returns false'. Refute it at one input. -/
def lzPressesWrong : ChangeSpec := { name := "lzPresses", fn := fun _ => fun
  | [d] => { results := [.lit (.bool false)], args := [d] }
  | _ => none }
def LzPressesWrongFalsely : Prop := lzPressesRow.holds Try.pinned (OpenSpec.ofChange lzPressesWrong)

/-- 'pollardlaw04.LzRepeats': WHATEVER THE INPUT: true; the input reads as it did. -/
def lzRepeatsSpec : ChangeSpec := { name := "lzRepeats", fn := fun _ => fun
  | [d1, d2] => { results := [.lit (.bool true)], args := [d1, d2] }
  | _ => none }
def lzRepeatsRow : OpenClaim := { program := "ytjgbodgcbagbnaa", sum := "337cd16f434fc1e35939b5d8dd061d06787461cb0b518bbef94a29dfe8e9a598", func := "pollard/pollardlaw04.LzRepeats", spec := "lzRepeats", unfollowed := true, recurses := true, apart := false }
def LzRepeatsSaid : Prop := lzRepeatsRow.holds Try.pinned (OpenSpec.ofChange lzRepeatsSpec)

/-- ITS FALSE NEIGHBOUR: 'it returns false'. Refute it at one input. -/
def lzRepeatsWrong : ChangeSpec := { name := "lzRepeats", fn := fun _ => fun
  | [d1, d2] => { results := [.lit (.bool false)], args := [d1, d2] }
  | _ => none }
def LzRepeatsWrongFalsely : Prop := lzRepeatsRow.holds Try.pinned (OpenSpec.ofChange lzRepeatsWrong)

/-- 'pollardlaw04.LzMost': WHATEVER THE INPUT: true; the input reads as it did. -/
def lzMostSpec : ChangeSpec := { name := "lzMost", fn := fun _ => fun
  | [d1, d2] => { results := [.lit (.bool true)], args := [d1, d2] }
  | _ => none }
def lzMostRow : OpenClaim := { program := "ytjgbodgcbagbnaa", sum := "337cd16f434fc1e35939b5d8dd061d06787461cb0b518bbef94a29dfe8e9a598", func := "pollard/pollardlaw04.LzMost", spec := "lzMost", apart := false }
def LzMostSaid : Prop := lzMostRow.holds Try.pinned (OpenSpec.ofChange lzMostSpec)

/-- ITS FALSE NEIGHBOUR: 'it returns false'. Refute it at one input. -/
def lzMostWrong : ChangeSpec := { name := "lzMost", fn := fun _ => fun
  | [d1, d2] => { results := [.lit (.bool false)], args := [d1, d2] }
  | _ => none }
def LzMostWrongFalsely : Prop := lzMostRow.holds Try.pinned (OpenSpec.ofChange lzMostWrong)

/-- 'pollardlaw04.LzFar': WHATEVER THE INPUT: true; the input reads as it did. -/
def lzFarSpec : ChangeSpec := { name := "lzFar", fn := fun _ => fun
  | [d] => { results := [.lit (.bool true)], args := [d] }
  | _ => none }
def lzFarRow : OpenClaim := { program := "ytjgbodgcbagbnaa", sum := "337cd16f434fc1e35939b5d8dd061d06787461cb0b518bbef94a29dfe8e9a598", func := "pollard/pollardlaw04.LzFar", spec := "lzFar", unfollowed := true, recurses := true, apart := false }
def LzFarSaid : Prop := lzFarRow.holds Try.pinned (OpenSpec.ofChange lzFarSpec)

/-- ITS FALSE NEIGHBOUR: 'it returns false'. Refute it at one input. -/
def lzFarWrong : ChangeSpec := { name := "lzFar", fn := fun _ => fun
  | [d] => { results := [.lit (.bool false)], args := [d] }
  | _ => none }
def LzFarWrongFalsely : Prop := lzFarRow.holds Try.pinned (OpenSpec.ofChange lzFarWrong)

/- THE SECOND FORM. 'bulk': how many values and letters a reading holds, each counted each time it is reached (what is shared counts as often as it is met; a slice's spare places count too). A statement '..UptoSaid' is the law's where the arguments, and the package variables that the reading takes, are together of bulk at most 1048576: NARROWER than '..Said'. Prove '..Said' where nothing that the law and all that it calls make is longer than what came in: it says more and counts as full. Else prove '..UptoSaid'. A law counts once. -/
mutual
def uptoBulk {H : Type} : DataW H → Nat
  | .lit (.string bytes) => bytes.length + 1
  | .lit _ => 1
  | .nil => 1
  | .ptr d => uptoBulk d + 1
  | .slice elems spare => uptoBulkAll elems + uptoBulkAll spare + 1
  | .agg parts => uptoBulkAll parts + 1
  | .iface _ d => uptoBulk d + 1
  | .map entries => uptoBulkEntries entries + 1
  | .held _ => 1
def uptoBulkAll {H : Type} : List (DataW H) → Nat
  | [] => 0
  | d :: r => uptoBulk d + uptoBulkAll r
def uptoBulkEntries {H : Type} : List (Lit × DataW H) → Nat
  | [] => 0
  | x :: r => uptoBulkEntry x + uptoBulkEntries r
def uptoBulkEntry {H : Type} : Lit × DataW H → Nat
  | (.string bytes, d) => bytes.length + uptoBulk d + 1
  | (_, d) => uptoBulk d + 1
 end
def uptoSmall : (H : Type) → List (DataW H) → Bool := fun _ ds => decide (uptoBulkAll ds ≤ 1048576)
def OpenSpec.upto (s : _root_.Go.ChangeSpec) : _root_.Go.OpenSpec := { _root_.Go.OpenSpec.ofChange s with cond := some uptoSmall }

/-- 'pollardlaw01.SumOf', WHERE WHAT IT READS IS OF BULK AT MOST 1048576: true; the input reads as it did. -/
def sumOfUptoRow : OpenClaim := { program := "ytjgbodgcbagbnaa", sum := "337cd16f434fc1e35939b5d8dd061d06787461cb0b518bbef94a29dfe8e9a598", func := "pollard/pollardlaw01.SumOf", spec := "sumOf", apart := false, narrowed := true }
def SumOfUptoSaid : Prop := sumOfUptoRow.holds Try.pinned (OpenSpec.upto sumOfSpec)

/-- 'pollardlaw01.SumPieces', WHERE WHAT IT READS IS OF BULK AT MOST 1048576: true; the input reads as it did. -/
def sumPiecesUptoRow : OpenClaim := { program := "ytjgbodgcbagbnaa", sum := "337cd16f434fc1e35939b5d8dd061d06787461cb0b518bbef94a29dfe8e9a598", func := "pollard/pollardlaw01.SumPieces", spec := "sumPieces", apart := false, narrowed := true }
def SumPiecesUptoSaid : Prop := sumPiecesUptoRow.holds Try.pinned (OpenSpec.upto sumPiecesSpec)

/-- 'pollardlaw01.SumNone', WHERE WHAT IT READS IS OF BULK AT MOST 1048576: true; the input reads as it did. -/
def sumNoneUptoRow : OpenClaim := { program := "ytjgbodgcbagbnaa", sum := "337cd16f434fc1e35939b5d8dd061d06787461cb0b518bbef94a29dfe8e9a598", func := "pollard/pollardlaw01.SumNone", spec := "sumNone", apart := false, narrowed := true }
def SumNoneUptoSaid : Prop := sumNoneUptoRow.holds Try.pinned (OpenSpec.upto sumNoneSpec)

/-- 'pollardlaw01.SumTwins', WHERE WHAT IT READS IS OF BULK AT MOST 1048576: true; the input reads as it did. -/
def sumTwinsUptoRow : OpenClaim := { program := "ytjgbodgcbagbnaa", sum := "337cd16f434fc1e35939b5d8dd061d06787461cb0b518bbef94a29dfe8e9a598", func := "pollard/pollardlaw01.SumTwins", spec := "sumTwins", apart := false, narrowed := true }
def SumTwinsUptoSaid : Prop := sumTwinsUptoRow.holds Try.pinned (OpenSpec.upto sumTwinsSpec)

/-- 'pollardlaw09.DeltaMakes', WHERE WHAT IT READS IS OF BULK AT MOST 1048576: true; the input reads as it did. -/
def deltaMakesUptoRow : OpenClaim := { program := "ytjgbodgcbagbnaa", sum := "337cd16f434fc1e35939b5d8dd061d06787461cb0b518bbef94a29dfe8e9a598", func := "pollard/pollardlaw09.DeltaMakes", spec := "deltaMakes", unfollowed := true, recurses := true, apart := false, narrowed := true }
def DeltaMakesUptoSaid : Prop := deltaMakesUptoRow.holds Try.pinned (OpenSpec.upto deltaMakesSpec)

/-- 'pollardlaw09.DeltaSelf', WHERE WHAT IT READS IS OF BULK AT MOST 1048576: true; the input reads as it did. -/
def deltaSelfUptoRow : OpenClaim := { program := "ytjgbodgcbagbnaa", sum := "337cd16f434fc1e35939b5d8dd061d06787461cb0b518bbef94a29dfe8e9a598", func := "pollard/pollardlaw09.DeltaSelf", spec := "deltaSelf", unfollowed := true, recurses := true, apart := false, narrowed := true }
def DeltaSelfUptoSaid : Prop := deltaSelfUptoRow.holds Try.pinned (OpenSpec.upto deltaSelfSpec)

/-- 'pollardlaw09.DeltaMost', WHERE WHAT IT READS IS OF BULK AT MOST 1048576: true; the input reads as it did. -/
def deltaMostUptoRow : OpenClaim := { program := "ytjgbodgcbagbnaa", sum := "337cd16f434fc1e35939b5d8dd061d06787461cb0b518bbef94a29dfe8e9a598", func := "pollard/pollardlaw09.DeltaMost", spec := "deltaMost", unfollowed := true, recurses := true, apart := false, narrowed := true }
def DeltaMostUptoSaid : Prop := deltaMostUptoRow.holds Try.pinned (OpenSpec.upto deltaMostSpec)

/-- 'pollardlaw04.LzPresses', WHERE WHAT IT READS IS OF BULK AT MOST 1048576: true; the input reads as it did. -/
def lzPressesUptoRow : OpenClaim := { program := "ytjgbodgcbagbnaa", sum := "337cd16f434fc1e35939b5d8dd061d06787461cb0b518bbef94a29dfe8e9a598", func := "pollard/pollardlaw04.LzPresses", spec := "lzPresses", apart := false, narrowed := true }
def LzPressesUptoSaid : Prop := lzPressesUptoRow.holds Try.pinned (OpenSpec.upto lzPressesSpec)

/-- 'pollardlaw04.LzRepeats', WHERE WHAT IT READS IS OF BULK AT MOST 1048576: true; the input reads as it did. -/
def lzRepeatsUptoRow : OpenClaim := { program := "ytjgbodgcbagbnaa", sum := "337cd16f434fc1e35939b5d8dd061d06787461cb0b518bbef94a29dfe8e9a598", func := "pollard/pollardlaw04.LzRepeats", spec := "lzRepeats", unfollowed := true, recurses := true, apart := false, narrowed := true }
def LzRepeatsUptoSaid : Prop := lzRepeatsUptoRow.holds Try.pinned (OpenSpec.upto lzRepeatsSpec)

/-- 'pollardlaw04.LzMost', WHERE WHAT IT READS IS OF BULK AT MOST 1048576: true; the input reads as it did. -/
def lzMostUptoRow : OpenClaim := { program := "ytjgbodgcbagbnaa", sum := "337cd16f434fc1e35939b5d8dd061d06787461cb0b518bbef94a29dfe8e9a598", func := "pollard/pollardlaw04.LzMost", spec := "lzMost", apart := false, narrowed := true }
def LzMostUptoSaid : Prop := lzMostUptoRow.holds Try.pinned (OpenSpec.upto lzMostSpec)

/-- 'pollardlaw04.LzFar', WHERE WHAT IT READS IS OF BULK AT MOST 1048576: true; the input reads as it did. -/
def lzFarUptoRow : OpenClaim := { program := "ytjgbodgcbagbnaa", sum := "337cd16f434fc1e35939b5d8dd061d06787461cb0b518bbef94a29dfe8e9a598", func := "pollard/pollardlaw04.LzFar", spec := "lzFar", unfollowed := true, recurses := true, apart := false, narrowed := true }
def LzFarUptoSaid : Prop := lzFarUptoRow.holds Try.pinned (OpenSpec.upto lzFarSpec)

end Rows
end Go.Proofs.Ytjgbodgcbagbnaa
