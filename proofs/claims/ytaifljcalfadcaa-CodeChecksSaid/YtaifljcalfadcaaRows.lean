/-
  No cell of these rows narrows 'for every input' (looked for: loops, veiled, ifaces, maps, wideKeys, modest, calm, conditions, laid).
  DERIVED. THE GIVEN ROWS OF THIS SEAT. 9 by the template 'for every input the law returns true; each argument reads behind the call as it read before'; 0 by the template 'total and deterministic' (their statements: YtaifljcalfadcaaTotals.lean).
  GIVEN WITH THE SEED: the statements are not yours to turn. If you find one false, say at which input.
  Laid BY PROGRAM, IN A SANDBOX (cutbox-rows.mjs): the forced cells as the released guide's own fill.sh prints them over the translation cf31bd8d6b6bcbba… (all of the seat's roots in one cut). By AI agents, Wed Nov 11 2026. No macro, syntax, notation, axiom, sorry.
-/
import Derived.Test.YtaifljcalfadcaaChecked
import GoSem.Claim
import GoSem.ClaimJoined
import GoSem.ClaimMapViews
import Derived.JoinedTies
import Derived.KernelRfl
namespace Go.Proofs.Ytaifljcalfadcaa
/- THE CELL 'sum', in the pinned program and in every row, IS THE sha256 OF THE DUMP (.gsa) THAT YtaifljcalfadcaaProg.lean LOADS. Nothing in Lean hashes anything: it is a label: what it is worth is what the hold of that sum in a sandbox is worth. -/
noncomputable def Try.pinned : Pinned := { name := "ytaifljcalfadcaa", sum := "cf31bd8d6b6bcbba8f6b29369d851caab8f8a7572f2d81096f37ce6415d54f52", checked := Try.checked }
namespace Rows
def none {H : Type} : Left H := { results := [], args := [] }

/-- 'pollardlaw02.CodeNum': WHATEVER THE INPUT: true; the input reads as it did. -/
def codeNumSpec : ChangeSpec := { name := "codeNum", fn := fun _ => fun
  | [d] => { results := [.lit (.bool true)], args := [d] }
  | _ => none }
def codeNumRow : OpenClaim := { program := "ytaifljcalfadcaa", sum := "cf31bd8d6b6bcbba8f6b29369d851caab8f8a7572f2d81096f37ce6415d54f52", func := "pollard/pollardlaw02.CodeNum", spec := "codeNum", inPlace := ["internal/abi.NoEscape"], apart := false }
def CodeNumSaid : Prop := codeNumRow.holds Try.pinned (OpenSpec.ofChange codeNumSpec)

/-- ITS FALSE NEIGHBOUR: 'it returns false'. Refute it at one input. -/
def codeNumWrong : ChangeSpec := { name := "codeNum", fn := fun _ => fun
  | [d] => { results := [.lit (.bool false)], args := [d] }
  | _ => none }
def CodeNumWrongFalsely : Prop := codeNumRow.holds Try.pinned (OpenSpec.ofChange codeNumWrong)

/-- 'pollardlaw02.CodeUnnum': WHATEVER THE INPUT: true; the input reads as it did. -/
def codeUnnumSpec : ChangeSpec := { name := "codeUnnum", fn := fun _ => fun
  | [d] => { results := [.lit (.bool true)], args := [d] }
  | _ => none }
def codeUnnumRow : OpenClaim := { program := "ytaifljcalfadcaa", sum := "cf31bd8d6b6bcbba8f6b29369d851caab8f8a7572f2d81096f37ce6415d54f52", func := "pollard/pollardlaw02.CodeUnnum", spec := "codeUnnum", inPlace := ["internal/abi.NoEscape"], apart := false }
def CodeUnnumSaid : Prop := codeUnnumRow.holds Try.pinned (OpenSpec.ofChange codeUnnumSpec)

/-- ITS FALSE NEIGHBOUR: 'it returns false'. Refute it at one input. -/
def codeUnnumWrong : ChangeSpec := { name := "codeUnnum", fn := fun _ => fun
  | [d] => { results := [.lit (.bool false)], args := [d] }
  | _ => none }
def CodeUnnumWrongFalsely : Prop := codeUnnumRow.holds Try.pinned (OpenSpec.ofChange codeUnnumWrong)

/-- 'pollardlaw02.CodeChecks': WHATEVER THE INPUT: true; the input reads as it did. -/
def codeChecksSpec : ChangeSpec := { name := "codeChecks", fn := fun _ => fun
  | [d1, d2, d3] => { results := [.lit (.bool true)], args := [d1, d2, d3] }
  | _ => none }
def codeChecksRow : OpenClaim := { program := "ytaifljcalfadcaa", sum := "cf31bd8d6b6bcbba8f6b29369d851caab8f8a7572f2d81096f37ce6415d54f52", func := "pollard/pollardlaw02.CodeChecks", spec := "codeChecks", inPlace := ["internal/abi.NoEscape"], apart := false }
def CodeChecksSaid : Prop := codeChecksRow.holds Try.pinned (OpenSpec.ofChange codeChecksSpec)

/-- ITS FALSE NEIGHBOUR: 'it returns false'. Refute it at one input. -/
def codeChecksWrong : ChangeSpec := { name := "codeChecks", fn := fun _ => fun
  | [d1, d2, d3] => { results := [.lit (.bool false)], args := [d1, d2, d3] }
  | _ => none }
def CodeChecksWrongFalsely : Prop := codeChecksRow.holds Try.pinned (OpenSpec.ofChange codeChecksWrong)

/-- 'pollardlaw02.CodeDec': WHATEVER THE INPUT: true; the input reads as it did. -/
def codeDecSpec : ChangeSpec := { name := "codeDec", fn := fun _ => fun
  | [d] => { results := [.lit (.bool true)], args := [d] }
  | _ => none }
def codeDecRow : OpenClaim := { program := "ytaifljcalfadcaa", sum := "cf31bd8d6b6bcbba8f6b29369d851caab8f8a7572f2d81096f37ce6415d54f52", func := "pollard/pollardlaw02.CodeDec", spec := "codeDec", inPlace := ["internal/abi.NoEscape"], recurses := true, apart := false }
def CodeDecSaid : Prop := codeDecRow.holds Try.pinned (OpenSpec.ofChange codeDecSpec)

/-- ITS FALSE NEIGHBOUR: 'it returns false'. Refute it at one input. -/
def codeDecWrong : ChangeSpec := { name := "codeDec", fn := fun _ => fun
  | [d] => { results := [.lit (.bool false)], args := [d] }
  | _ => none }
def CodeDecWrongFalsely : Prop := codeDecRow.holds Try.pinned (OpenSpec.ofChange codeDecWrong)

/-- 'pollardlaw02.CodeUndec': WHATEVER THE INPUT: true; the input reads as it did. -/
def codeUndecSpec : ChangeSpec := { name := "codeUndec", fn := fun _ => fun
  | [d] => { results := [.lit (.bool true)], args := [d] }
  | _ => none }
def codeUndecRow : OpenClaim := { program := "ytaifljcalfadcaa", sum := "cf31bd8d6b6bcbba8f6b29369d851caab8f8a7572f2d81096f37ce6415d54f52", func := "pollard/pollardlaw02.CodeUndec", spec := "codeUndec", inPlace := ["internal/abi.NoEscape"], apart := false }
def CodeUndecSaid : Prop := codeUndecRow.holds Try.pinned (OpenSpec.ofChange codeUndecSpec)

/-- ITS FALSE NEIGHBOUR: 'it returns false'. Refute it at one input. -/
def codeUndecWrong : ChangeSpec := { name := "codeUndec", fn := fun _ => fun
  | [d] => { results := [.lit (.bool false)], args := [d] }
  | _ => none }
def CodeUndecWrongFalsely : Prop := codeUndecRow.holds Try.pinned (OpenSpec.ofChange codeUndecWrong)

/-- 'pollardlaw02.CodeHex': WHATEVER THE INPUT: true; the input reads as it did. -/
def codeHexSpec : ChangeSpec := { name := "codeHex", fn := fun _ => fun
  | [d] => { results := [.lit (.bool true)], args := [d] }
  | _ => none }
def codeHexRow : OpenClaim := { program := "ytaifljcalfadcaa", sum := "cf31bd8d6b6bcbba8f6b29369d851caab8f8a7572f2d81096f37ce6415d54f52", func := "pollard/pollardlaw02.CodeHex", spec := "codeHex", inPlace := ["internal/abi.NoEscape", "internal/bytealg.IndexByteString"], apart := false }
def CodeHexSaid : Prop := codeHexRow.holds Try.pinned (OpenSpec.ofChange codeHexSpec)

/-- ITS FALSE NEIGHBOUR: 'it returns false'. Refute it at one input. -/
def codeHexWrong : ChangeSpec := { name := "codeHex", fn := fun _ => fun
  | [d] => { results := [.lit (.bool false)], args := [d] }
  | _ => none }
def CodeHexWrongFalsely : Prop := codeHexRow.holds Try.pinned (OpenSpec.ofChange codeHexWrong)

/-- 'pollardlaw02.CodeUnhex': WHATEVER THE INPUT: true; the input reads as it did. -/
def codeUnhexSpec : ChangeSpec := { name := "codeUnhex", fn := fun _ => fun
  | [d] => { results := [.lit (.bool true)], args := [d] }
  | _ => none }
def codeUnhexRow : OpenClaim := { program := "ytaifljcalfadcaa", sum := "cf31bd8d6b6bcbba8f6b29369d851caab8f8a7572f2d81096f37ce6415d54f52", func := "pollard/pollardlaw02.CodeUnhex", spec := "codeUnhex", inPlace := ["internal/bytealg.IndexByteString", "internal/abi.NoEscape"], apart := false }
def CodeUnhexSaid : Prop := codeUnhexRow.holds Try.pinned (OpenSpec.ofChange codeUnhexSpec)

/-- ITS FALSE NEIGHBOUR: 'it returns false'. Refute it at one input. -/
def codeUnhexWrong : ChangeSpec := { name := "codeUnhex", fn := fun _ => fun
  | [d] => { results := [.lit (.bool false)], args := [d] }
  | _ => none }
def CodeUnhexWrongFalsely : Prop := codeUnhexRow.holds Try.pinned (OpenSpec.ofChange codeUnhexWrong)

/-- 'pollardlaw02.CodeFinds': WHATEVER THE INPUT: true; the input reads as it did. -/
def codeFindsSpec : ChangeSpec := { name := "codeFinds", fn := fun _ => fun
  | [d] => { results := [.lit (.bool true)], args := [d] }
  | _ => none }
def codeFindsRow : OpenClaim := { program := "ytaifljcalfadcaa", sum := "cf31bd8d6b6bcbba8f6b29369d851caab8f8a7572f2d81096f37ce6415d54f52", func := "pollard/pollardlaw02.CodeFinds", spec := "codeFinds", inPlace := ["internal/abi.NoEscape"], apart := false }
def CodeFindsSaid : Prop := codeFindsRow.holds Try.pinned (OpenSpec.ofChange codeFindsSpec)

/-- ITS FALSE NEIGHBOUR: 'it returns false'. Refute it at one input. -/
def codeFindsWrong : ChangeSpec := { name := "codeFinds", fn := fun _ => fun
  | [d] => { results := [.lit (.bool false)], args := [d] }
  | _ => none }
def CodeFindsWrongFalsely : Prop := codeFindsRow.holds Try.pinned (OpenSpec.ofChange codeFindsWrong)

/-- 'pollardlaw02.CodeFrames': WHATEVER THE INPUT: true; the input reads as it did. -/
def codeFramesSpec : ChangeSpec := { name := "codeFrames", fn := fun _ => fun
  | [d1, d2] => { results := [.lit (.bool true)], args := [d1, d2] }
  | _ => none }
def codeFramesRow : OpenClaim := { program := "ytaifljcalfadcaa", sum := "cf31bd8d6b6bcbba8f6b29369d851caab8f8a7572f2d81096f37ce6415d54f52", func := "pollard/pollardlaw02.CodeFrames", spec := "codeFrames", inPlace := ["internal/abi.NoEscape"], apart := false }
def CodeFramesSaid : Prop := codeFramesRow.holds Try.pinned (OpenSpec.ofChange codeFramesSpec)

/-- ITS FALSE NEIGHBOUR: 'it returns false'. Refute it at one input. -/
def codeFramesWrong : ChangeSpec := { name := "codeFrames", fn := fun _ => fun
  | [d1, d2] => { results := [.lit (.bool false)], args := [d1, d2] }
  | _ => none }
def CodeFramesWrongFalsely : Prop := codeFramesRow.holds Try.pinned (OpenSpec.ofChange codeFramesWrong)

/- THE SECOND FORM. 'bulk': how many values and letters a reading holds, each counted each time it is reached (what is shared counts as often as it is met; a slice's spare places count too). A statement '..UptoSaid' is the law's where the arguments, and the package variables that the reading takes, are together of bulk at most 1048576: NARROWER than '..Said'. Prove '..Said' where nothing that the law and all that it calls make is longer than what came in: it says more and counts as full. Else prove '..UptoSaid'. A law counts once. -/
mutual
def uptoBulk {H : Type} : DataW H → Nat
  | .lit (.string bytes) => bytes.length + 1
  | .lit _ => 1
  | .nil => 1
  | .ptr d => uptoBulk d + 1
  | .slice elems spare => uptoBulkAll elems + uptoBulkAll spare + 1
  | .agg parts => uptoBulkAll parts + 1
  | .iface _ d => uptoBulk d + 1
  | .map entries => uptoBulkEntries entries + 1
  | .held _ => 1
def uptoBulkAll {H : Type} : List (DataW H) → Nat
  | [] => 0
  | d :: r => uptoBulk d + uptoBulkAll r
def uptoBulkEntries {H : Type} : List (Lit × DataW H) → Nat
  | [] => 0
  | x :: r => uptoBulkEntry x + uptoBulkEntries r
def uptoBulkEntry {H : Type} : Lit × DataW H → Nat
  | (.string bytes, d) => bytes.length + uptoBulk d + 1
  | (_, d) => uptoBulk d + 1
 end
def uptoSmall : (H : Type) → List (DataW H) → Bool := fun _ ds => decide (uptoBulkAll ds ≤ 1048576)
def OpenSpec.upto (s : _root_.Go.ChangeSpec) : _root_.Go.OpenSpec := { _root_.Go.OpenSpec.ofChange s with cond := some uptoSmall }

/-- 'pollardlaw02.CodeNum', WHERE WHAT IT READS IS OF BULK AT MOST 1048576: true; the input reads as it did. -/
def codeNumUptoRow : OpenClaim := { program := "ytaifljcalfadcaa", sum := "cf31bd8d6b6bcbba8f6b29369d851caab8f8a7572f2d81096f37ce6415d54f52", func := "pollard/pollardlaw02.CodeNum", spec := "codeNum", inPlace := ["internal/abi.NoEscape"], apart := false, narrowed := true }
def CodeNumUptoSaid : Prop := codeNumUptoRow.holds Try.pinned (OpenSpec.upto codeNumSpec)

/-- 'pollardlaw02.CodeUnnum', WHERE WHAT IT READS IS OF BULK AT MOST 1048576: true; the input reads as it did. -/
def codeUnnumUptoRow : OpenClaim := { program := "ytaifljcalfadcaa", sum := "cf31bd8d6b6bcbba8f6b29369d851caab8f8a7572f2d81096f37ce6415d54f52", func := "pollard/pollardlaw02.CodeUnnum", spec := "codeUnnum", inPlace := ["internal/abi.NoEscape"], apart := false, narrowed := true }
def CodeUnnumUptoSaid : Prop := codeUnnumUptoRow.holds Try.pinned (OpenSpec.upto codeUnnumSpec)

/-- 'pollardlaw02.CodeChecks', WHERE WHAT IT READS IS OF BULK AT MOST 1048576: true; the input reads as it did. -/
def codeChecksUptoRow : OpenClaim := { program := "ytaifljcalfadcaa", sum := "cf31bd8d6b6bcbba8f6b29369d851caab8f8a7572f2d81096f37ce6415d54f52", func := "pollard/pollardlaw02.CodeChecks", spec := "codeChecks", inPlace := ["internal/abi.NoEscape"], apart := false, narrowed := true }
def CodeChecksUptoSaid : Prop := codeChecksUptoRow.holds Try.pinned (OpenSpec.upto codeChecksSpec)

/-- 'pollardlaw02.CodeDec', WHERE WHAT IT READS IS OF BULK AT MOST 1048576: true; the input reads as it did. -/
def codeDecUptoRow : OpenClaim := { program := "ytaifljcalfadcaa", sum := "cf31bd8d6b6bcbba8f6b29369d851caab8f8a7572f2d81096f37ce6415d54f52", func := "pollard/pollardlaw02.CodeDec", spec := "codeDec", inPlace := ["internal/abi.NoEscape"], recurses := true, apart := false, narrowed := true }
def CodeDecUptoSaid : Prop := codeDecUptoRow.holds Try.pinned (OpenSpec.upto codeDecSpec)

/-- 'pollardlaw02.CodeUndec', WHERE WHAT IT READS IS OF BULK AT MOST 1048576: true; the input reads as it did. -/
def codeUndecUptoRow : OpenClaim := { program := "ytaifljcalfadcaa", sum := "cf31bd8d6b6bcbba8f6b29369d851caab8f8a7572f2d81096f37ce6415d54f52", func := "pollard/pollardlaw02.CodeUndec", spec := "codeUndec", inPlace := ["internal/abi.NoEscape"], apart := false, narrowed := true }
def CodeUndecUptoSaid : Prop := codeUndecUptoRow.holds Try.pinned (OpenSpec.upto codeUndecSpec)

/-- 'pollardlaw02.CodeHex', WHERE WHAT IT READS IS OF BULK AT MOST 1048576: true; the input reads as it did. -/
def codeHexUptoRow : OpenClaim := { program := "ytaifljcalfadcaa", sum := "cf31bd8d6b6bcbba8f6b29369d851caab8f8a7572f2d81096f37ce6415d54f52", func := "pollard/pollardlaw02.CodeHex", spec := "codeHex", inPlace := ["internal/abi.NoEscape", "internal/bytealg.IndexByteString"], apart := false, narrowed := true }
def CodeHexUptoSaid : Prop := codeHexUptoRow.holds Try.pinned (OpenSpec.upto codeHexSpec)

/-- 'pollardlaw02.CodeUnhex', WHERE WHAT IT READS IS OF BULK AT MOST 1048576: true; the input reads as it did. -/
def codeUnhexUptoRow : OpenClaim := { program := "ytaifljcalfadcaa", sum := "cf31bd8d6b6bcbba8f6b29369d851caab8f8a7572f2d81096f37ce6415d54f52", func := "pollard/pollardlaw02.CodeUnhex", spec := "codeUnhex", inPlace := ["internal/bytealg.IndexByteString", "internal/abi.NoEscape"], apart := false, narrowed := true }
def CodeUnhexUptoSaid : Prop := codeUnhexUptoRow.holds Try.pinned (OpenSpec.upto codeUnhexSpec)

/-- 'pollardlaw02.CodeFinds', WHERE WHAT IT READS IS OF BULK AT MOST 1048576: true; the input reads as it did. -/
def codeFindsUptoRow : OpenClaim := { program := "ytaifljcalfadcaa", sum := "cf31bd8d6b6bcbba8f6b29369d851caab8f8a7572f2d81096f37ce6415d54f52", func := "pollard/pollardlaw02.CodeFinds", spec := "codeFinds", inPlace := ["internal/abi.NoEscape"], apart := false, narrowed := true }
def CodeFindsUptoSaid : Prop := codeFindsUptoRow.holds Try.pinned (OpenSpec.upto codeFindsSpec)

/-- 'pollardlaw02.CodeFrames', WHERE WHAT IT READS IS OF BULK AT MOST 1048576: true; the input reads as it did. -/
def codeFramesUptoRow : OpenClaim := { program := "ytaifljcalfadcaa", sum := "cf31bd8d6b6bcbba8f6b29369d851caab8f8a7572f2d81096f37ce6415d54f52", func := "pollard/pollardlaw02.CodeFrames", spec := "codeFrames", inPlace := ["internal/abi.NoEscape"], apart := false, narrowed := true }
def CodeFramesUptoSaid : Prop := codeFramesUptoRow.holds Try.pinned (OpenSpec.upto codeFramesSpec)

end Rows
end Go.Proofs.Ytaifljcalfadcaa
