/-
  No cell of these rows narrows 'for every input' (looked for: loops, veiled, ifaces, maps, wideKeys, modest, calm, conditions, laid).
  DERIVED. THE GIVEN ROWS OF THIS SEAT. 9 by the template 'for every input the law returns true; each argument reads behind the call as it read before'; 0 by the template 'total and deterministic' (their statements: YtcfdplmapdgfmaaTotals.lean).
  GIVEN WITH THE SEED: the statements are not yours to turn. If you find one false, say at which input.
  Laid BY PROGRAM, IN A SANDBOX (cutbox-rows.mjs): the forced cells as the released guide's own fill.sh prints them over the translation 6285dd87ae762da6… (all of the seat's roots in one cut). By AI agents, Wed Nov 11 2026. No macro, syntax, notation, axiom, sorry.
-/
import Derived.Test.YtcfdplmapdgfmaaChecked
import GoSem.Claim
import GoSem.ClaimJoined
import GoSem.ClaimMapViews
import Derived.JoinedTies
import Derived.KernelRfl
namespace Go.Proofs.Ytcfdplmapdgfmaa
/- THE CELL 'sum', in the pinned program and in every row, IS THE sha256 OF THE DUMP (.gsa) THAT YtcfdplmapdgfmaaProg.lean LOADS. Nothing in Lean hashes anything: it is a label: what it is worth is what the hold of that sum in a sandbox is worth. -/
noncomputable def Try.pinned : Pinned := { name := "ytcfdplmapdgfmaa", sum := "6285dd87ae762da61416501d59da495224dd3cec9c0f66d30411eb9296ec17f0", checked := Try.checked }
namespace Rows
def none {H : Type} : Left H := { results := [], args := [] }

/-- 'pollardlaw23.FrameBack': WHATEVER THE INPUT: true; the input reads as it did. -/
def frameBackSpec : ChangeSpec := { name := "frameBack", fn := fun _ => fun
  | [d] => { results := [.lit (.bool true)], args := [d] }
  | _ => none }
def frameBackRow : OpenClaim := { program := "ytcfdplmapdgfmaa", sum := "6285dd87ae762da61416501d59da495224dd3cec9c0f66d30411eb9296ec17f0", func := "pollard/pollardlaw23.FrameBack", spec := "frameBack", apart := false }
def FrameBackSaid : Prop := frameBackRow.holds Try.pinned (OpenSpec.ofChange frameBackSpec)

/-- ITS FALSE NEIGHBOUR: 'it returns false'. Refute it at one input. -/
def frameBackWrong : ChangeSpec := { name := "frameBack", fn := fun _ => fun
  | [d] => { results := [.lit (.bool false)], args := [d] }
  | _ => none }
def FrameBackWrongFalsely : Prop := frameBackRow.holds Try.pinned (OpenSpec.ofChange frameBackWrong)

/-- 'pollardlaw23.FrameReads': WHATEVER THE INPUT: true; the input reads as it did. -/
def frameReadsSpec : ChangeSpec := { name := "frameReads", fn := fun _ => fun
  | [d] => { results := [.lit (.bool true)], args := [d] }
  | _ => none }
def frameReadsRow : OpenClaim := { program := "ytcfdplmapdgfmaa", sum := "6285dd87ae762da61416501d59da495224dd3cec9c0f66d30411eb9296ec17f0", func := "pollard/pollardlaw23.FrameReads", spec := "frameReads", apart := false }
def FrameReadsSaid : Prop := frameReadsRow.holds Try.pinned (OpenSpec.ofChange frameReadsSpec)

/-- ITS FALSE NEIGHBOUR: 'it returns false'. Refute it at one input. -/
def frameReadsWrong : ChangeSpec := { name := "frameReads", fn := fun _ => fun
  | [d] => { results := [.lit (.bool false)], args := [d] }
  | _ => none }
def FrameReadsWrongFalsely : Prop := frameReadsRow.holds Try.pinned (OpenSpec.ofChange frameReadsWrong)

/-- 'pollardlaw23.FrameTorn': WHATEVER THE INPUT: true; the input reads as it did. -/
def frameTornSpec : ChangeSpec := { name := "frameTorn", fn := fun _ => fun
  | [d1, d2] => { results := [.lit (.bool true)], args := [d1, d2] }
  | _ => none }
def frameTornRow : OpenClaim := { program := "ytcfdplmapdgfmaa", sum := "6285dd87ae762da61416501d59da495224dd3cec9c0f66d30411eb9296ec17f0", func := "pollard/pollardlaw23.FrameTorn", spec := "frameTorn", apart := false }
def FrameTornSaid : Prop := frameTornRow.holds Try.pinned (OpenSpec.ofChange frameTornSpec)

/-- ITS FALSE NEIGHBOUR: 'it returns false'. Refute it at one input. -/
def frameTornWrong : ChangeSpec := { name := "frameTorn", fn := fun _ => fun
  | [d1, d2] => { results := [.lit (.bool false)], args := [d1, d2] }
  | _ => none }
def FrameTornWrongFalsely : Prop := frameTornRow.holds Try.pinned (OpenSpec.ofChange frameTornWrong)

/-- 'pollardlaw10.PackBuilds': WHATEVER THE INPUT: true; the input reads as it did. -/
def packBuildsSpec : ChangeSpec := { name := "packBuilds", fn := fun _ => fun
  | [d] => { results := [.lit (.bool true)], args := [d] }
  | _ => none }
def packBuildsRow : OpenClaim := { program := "ytcfdplmapdgfmaa", sum := "6285dd87ae762da61416501d59da495224dd3cec9c0f66d30411eb9296ec17f0", func := "pollard/pollardlaw10.PackBuilds", spec := "packBuilds", apart := false }
def PackBuildsSaid : Prop := packBuildsRow.holds Try.pinned (OpenSpec.ofChange packBuildsSpec)

/-- ITS FALSE NEIGHBOUR: 'it returns false'. Refute it at one input. -/
def packBuildsWrong : ChangeSpec := { name := "packBuilds", fn := fun _ => fun
  | [d] => { results := [.lit (.bool false)], args := [d] }
  | _ => none }
def PackBuildsWrongFalsely : Prop := packBuildsRow.holds Try.pinned (OpenSpec.ofChange packBuildsWrong)

/-- 'pollardlaw10.PackMost': WHATEVER THE INPUT: true; the input reads as it did. -/
def packMostSpec : ChangeSpec := { name := "packMost", fn := fun _ => fun
  | [d] => { results := [.lit (.bool true)], args := [d] }
  | _ => none }
def packMostRow : OpenClaim := { program := "ytcfdplmapdgfmaa", sum := "6285dd87ae762da61416501d59da495224dd3cec9c0f66d30411eb9296ec17f0", func := "pollard/pollardlaw10.PackMost", spec := "packMost", apart := false }
def PackMostSaid : Prop := packMostRow.holds Try.pinned (OpenSpec.ofChange packMostSpec)

/-- ITS FALSE NEIGHBOUR: 'it returns false'. Refute it at one input. -/
def packMostWrong : ChangeSpec := { name := "packMost", fn := fun _ => fun
  | [d] => { results := [.lit (.bool false)], args := [d] }
  | _ => none }
def PackMostWrongFalsely : Prop := packMostRow.holds Try.pinned (OpenSpec.ofChange packMostWrong)

/-- 'pollardlaw11.IndexMakes': WHATEVER THE INPUT: true; the input reads as it did. -/
def indexMakesSpec : ChangeSpec := { name := "indexMakes", fn := fun _ => fun
  | [d1, d2] => { results := [.lit (.bool true)], args := [d1, d2] }
  | _ => none }
def indexMakesRow : OpenClaim := { program := "ytcfdplmapdgfmaa", sum := "6285dd87ae762da61416501d59da495224dd3cec9c0f66d30411eb9296ec17f0", func := "pollard/pollardlaw11.IndexMakes", spec := "indexMakes", inPlace := ["internal/bytealg.abigen_runtime_cmpstring", "internal/abi.NoEscape"], unfollowed := true, recurses := true, apart := false }
def IndexMakesSaid : Prop := indexMakesRow.holds Try.pinned (OpenSpec.ofChange indexMakesSpec)

/-- ITS FALSE NEIGHBOUR: 'it returns false'. Refute it at one input. -/
def indexMakesWrong : ChangeSpec := { name := "indexMakes", fn := fun _ => fun
  | [d1, d2] => { results := [.lit (.bool false)], args := [d1, d2] }
  | _ => none }
def IndexMakesWrongFalsely : Prop := indexMakesRow.holds Try.pinned (OpenSpec.ofChange indexMakesWrong)

/-- 'pollardlaw11.IndexNone': WHATEVER THE INPUT: true; the input reads as it did. -/
def indexNoneSpec : ChangeSpec := { name := "indexNone", fn := fun _ => fun
  | [d] => { results := [.lit (.bool true)], args := [d] }
  | _ => none }
def indexNoneRow : OpenClaim := { program := "ytcfdplmapdgfmaa", sum := "6285dd87ae762da61416501d59da495224dd3cec9c0f66d30411eb9296ec17f0", func := "pollard/pollardlaw11.IndexNone", spec := "indexNone", inPlace := ["internal/bytealg.abigen_runtime_cmpstring", "internal/abi.NoEscape"], unfollowed := true, recurses := true, apart := false }
def IndexNoneSaid : Prop := indexNoneRow.holds Try.pinned (OpenSpec.ofChange indexNoneSpec)

/-- ITS FALSE NEIGHBOUR: 'it returns false'. Refute it at one input. -/
def indexNoneWrong : ChangeSpec := { name := "indexNone", fn := fun _ => fun
  | [d] => { results := [.lit (.bool false)], args := [d] }
  | _ => none }
def IndexNoneWrongFalsely : Prop := indexNoneRow.holds Try.pinned (OpenSpec.ofChange indexNoneWrong)

/-- 'pollardlaw11.IndexFinds': WHATEVER THE INPUT: true; the input reads as it did. -/
def indexFindsSpec : ChangeSpec := { name := "indexFinds", fn := fun _ => fun
  | [d1, d2] => { results := [.lit (.bool true)], args := [d1, d2] }
  | _ => none }
def indexFindsRow : OpenClaim := { program := "ytcfdplmapdgfmaa", sum := "6285dd87ae762da61416501d59da495224dd3cec9c0f66d30411eb9296ec17f0", func := "pollard/pollardlaw11.IndexFinds", spec := "indexFinds", inPlace := ["internal/bytealg.abigen_runtime_cmpstring", "internal/abi.NoEscape"], unfollowed := true, recurses := true, apart := false }
def IndexFindsSaid : Prop := indexFindsRow.holds Try.pinned (OpenSpec.ofChange indexFindsSpec)

/-- ITS FALSE NEIGHBOUR: 'it returns false'. Refute it at one input. -/
def indexFindsWrong : ChangeSpec := { name := "indexFinds", fn := fun _ => fun
  | [d1, d2] => { results := [.lit (.bool false)], args := [d1, d2] }
  | _ => none }
def IndexFindsWrongFalsely : Prop := indexFindsRow.holds Try.pinned (OpenSpec.ofChange indexFindsWrong)

/-- 'pollardlaw11.IndexLoads': WHATEVER THE INPUT: true; the input reads as it did. -/
def indexLoadsSpec : ChangeSpec := { name := "indexLoads", fn := fun _ => fun
  | [d1, d2] => { results := [.lit (.bool true)], args := [d1, d2] }
  | _ => none }
def indexLoadsRow : OpenClaim := { program := "ytcfdplmapdgfmaa", sum := "6285dd87ae762da61416501d59da495224dd3cec9c0f66d30411eb9296ec17f0", func := "pollard/pollardlaw11.IndexLoads", spec := "indexLoads", inPlace := ["internal/bytealg.abigen_runtime_cmpstring", "internal/abi.NoEscape"], unfollowed := true, recurses := true, apart := false }
def IndexLoadsSaid : Prop := indexLoadsRow.holds Try.pinned (OpenSpec.ofChange indexLoadsSpec)

/-- ITS FALSE NEIGHBOUR: 'it returns false'. Refute it at one input. -/
def indexLoadsWrong : ChangeSpec := { name := "indexLoads", fn := fun _ => fun
  | [d1, d2] => { results := [.lit (.bool false)], args := [d1, d2] }
  | _ => none }
def IndexLoadsWrongFalsely : Prop := indexLoadsRow.holds Try.pinned (OpenSpec.ofChange indexLoadsWrong)

/- THE SECOND FORM. 'bulk': how many values and letters a reading holds, each counted each time it is reached (what is shared counts as often as it is met; a slice's spare places count too). A statement '..UptoSaid' is the law's where the arguments, and the package variables that the reading takes, are together of bulk at most 1048576: NARROWER than '..Said'. Prove '..Said' where nothing that the law and all that it calls make is longer than what came in: it says more and counts as full. Else prove '..UptoSaid'. A law counts once. -/
mutual
def uptoBulk {H : Type} : DataW H → Nat
  | .lit (.string bytes) => bytes.length + 1
  | .lit _ => 1
  | .nil => 1
  | .ptr d => uptoBulk d + 1
  | .slice elems spare => uptoBulkAll elems + uptoBulkAll spare + 1
  | .agg parts => uptoBulkAll parts + 1
  | .iface _ d => uptoBulk d + 1
  | .map entries => uptoBulkEntries entries + 1
  | .held _ => 1
def uptoBulkAll {H : Type} : List (DataW H) → Nat
  | [] => 0
  | d :: r => uptoBulk d + uptoBulkAll r
def uptoBulkEntries {H : Type} : List (Lit × DataW H) → Nat
  | [] => 0
  | x :: r => uptoBulkEntry x + uptoBulkEntries r
def uptoBulkEntry {H : Type} : Lit × DataW H → Nat
  | (.string bytes, d) => bytes.length + uptoBulk d + 1
  | (_, d) => uptoBulk d + 1
 end
def uptoSmall : (H : Type) → List (DataW H) → Bool := fun _ ds => decide (uptoBulkAll ds ≤ 1048576)
def OpenSpec.upto (s : _root_.Go.ChangeSpec) : _root_.Go.OpenSpec := { _root_.Go.OpenSpec.ofChange s with cond := some uptoSmall }

/-- 'pollardlaw23.FrameBack', WHERE WHAT IT READS IS OF BULK AT MOST 1048576: true; the input reads as it did. -/
def frameBackUptoRow : OpenClaim := { program := "ytcfdplmapdgfmaa", sum := "6285dd87ae762da61416501d59da495224dd3cec9c0f66d30411eb9296ec17f0", func := "pollard/pollardlaw23.FrameBack", spec := "frameBack", apart := false, narrowed := true }
def FrameBackUptoSaid : Prop := frameBackUptoRow.holds Try.pinned (OpenSpec.upto frameBackSpec)

/-- 'pollardlaw23.FrameReads', WHERE WHAT IT READS IS OF BULK AT MOST 1048576: true; the input reads as it did. -/
def frameReadsUptoRow : OpenClaim := { program := "ytcfdplmapdgfmaa", sum := "6285dd87ae762da61416501d59da495224dd3cec9c0f66d30411eb9296ec17f0", func := "pollard/pollardlaw23.FrameReads", spec := "frameReads", apart := false, narrowed := true }
def FrameReadsUptoSaid : Prop := frameReadsUptoRow.holds Try.pinned (OpenSpec.upto frameReadsSpec)

/-- 'pollardlaw23.FrameTorn', WHERE WHAT IT READS IS OF BULK AT MOST 1048576: true; the input reads as it did. -/
def frameTornUptoRow : OpenClaim := { program := "ytcfdplmapdgfmaa", sum := "6285dd87ae762da61416501d59da495224dd3cec9c0f66d30411eb9296ec17f0", func := "pollard/pollardlaw23.FrameTorn", spec := "frameTorn", apart := false, narrowed := true }
def FrameTornUptoSaid : Prop := frameTornUptoRow.holds Try.pinned (OpenSpec.upto frameTornSpec)

/-- 'pollardlaw10.PackBuilds', WHERE WHAT IT READS IS OF BULK AT MOST 1048576: true; the input reads as it did. -/
def packBuildsUptoRow : OpenClaim := { program := "ytcfdplmapdgfmaa", sum := "6285dd87ae762da61416501d59da495224dd3cec9c0f66d30411eb9296ec17f0", func := "pollard/pollardlaw10.PackBuilds", spec := "packBuilds", apart := false, narrowed := true }
def PackBuildsUptoSaid : Prop := packBuildsUptoRow.holds Try.pinned (OpenSpec.upto packBuildsSpec)

/-- 'pollardlaw10.PackMost', WHERE WHAT IT READS IS OF BULK AT MOST 1048576: true; the input reads as it did. -/
def packMostUptoRow : OpenClaim := { program := "ytcfdplmapdgfmaa", sum := "6285dd87ae762da61416501d59da495224dd3cec9c0f66d30411eb9296ec17f0", func := "pollard/pollardlaw10.PackMost", spec := "packMost", apart := false, narrowed := true }
def PackMostUptoSaid : Prop := packMostUptoRow.holds Try.pinned (OpenSpec.upto packMostSpec)

/-- 'pollardlaw11.IndexMakes', WHERE WHAT IT READS IS OF BULK AT MOST 1048576: true; the input reads as it did. -/
def indexMakesUptoRow : OpenClaim := { program := "ytcfdplmapdgfmaa", sum := "6285dd87ae762da61416501d59da495224dd3cec9c0f66d30411eb9296ec17f0", func := "pollard/pollardlaw11.IndexMakes", spec := "indexMakes", inPlace := ["internal/bytealg.abigen_runtime_cmpstring", "internal/abi.NoEscape"], unfollowed := true, recurses := true, apart := false, narrowed := true }
def IndexMakesUptoSaid : Prop := indexMakesUptoRow.holds Try.pinned (OpenSpec.upto indexMakesSpec)

/-- 'pollardlaw11.IndexNone', WHERE WHAT IT READS IS OF BULK AT MOST 1048576: true; the input reads as it did. -/
def indexNoneUptoRow : OpenClaim := { program := "ytcfdplmapdgfmaa", sum := "6285dd87ae762da61416501d59da495224dd3cec9c0f66d30411eb9296ec17f0", func := "pollard/pollardlaw11.IndexNone", spec := "indexNone", inPlace := ["internal/bytealg.abigen_runtime_cmpstring", "internal/abi.NoEscape"], unfollowed := true, recurses := true, apart := false, narrowed := true }
def IndexNoneUptoSaid : Prop := indexNoneUptoRow.holds Try.pinned (OpenSpec.upto indexNoneSpec)

/-- 'pollardlaw11.IndexFinds', WHERE WHAT IT READS IS OF BULK AT MOST 1048576: true; the input reads as it did. -/
def indexFindsUptoRow : OpenClaim := { program := "ytcfdplmapdgfmaa", sum := "6285dd87ae762da61416501d59da495224dd3cec9c0f66d30411eb9296ec17f0", func := "pollard/pollardlaw11.IndexFinds", spec := "indexFinds", inPlace := ["internal/bytealg.abigen_runtime_cmpstring", "internal/abi.NoEscape"], unfollowed := true, recurses := true, apart := false, narrowed := true }
def IndexFindsUptoSaid : Prop := indexFindsUptoRow.holds Try.pinned (OpenSpec.upto indexFindsSpec)

/-- 'pollardlaw11.IndexLoads', WHERE WHAT IT READS IS OF BULK AT MOST 1048576: true; the input reads as it did. -/
def indexLoadsUptoRow : OpenClaim := { program := "ytcfdplmapdgfmaa", sum := "6285dd87ae762da61416501d59da495224dd3cec9c0f66d30411eb9296ec17f0", func := "pollard/pollardlaw11.IndexLoads", spec := "indexLoads", inPlace := ["internal/bytealg.abigen_runtime_cmpstring", "internal/abi.NoEscape"], unfollowed := true, recurses := true, apart := false, narrowed := true }
def IndexLoadsUptoSaid : Prop := indexLoadsUptoRow.holds Try.pinned (OpenSpec.upto indexLoadsSpec)

end Rows
end Go.Proofs.Ytcfdplmapdgfmaa
