/-
  No cell of these rows narrows 'for every input' (looked for: loops, veiled, ifaces, maps, wideKeys, modest, calm, conditions, laid).
  DERIVED. THE GIVEN ROWS OF THIS SEAT. 18 by the template 'for every input the law returns true; each argument reads behind the call as it read before'; 0 by the template 'total and deterministic' (their statements: YtaglbmgpdoophaaTotals.lean).
  GIVEN WITH THE SEED: the statements are not yours to turn. If you find one false, say at which input.
  Laid BY PROGRAM, IN A SANDBOX (cutbox-rows.mjs): the forced cells as the released guide's own fill.sh prints them over the translation d9580d5b11d887c2… (all of the seat's roots in one cut). By AI agents, Wed Nov 11 2026. No macro, syntax, notation, axiom, sorry.
-/
import Derived.Test.YtaglbmgpdoophaaChecked
import GoSem.Claim
import GoSem.ClaimJoined
import GoSem.ClaimMapViews
import Derived.JoinedTies
import Derived.KernelRfl
namespace Go.Proofs.Ytaglbmgpdoophaa
/- THE CELL 'sum', in the pinned program and in every row, IS THE sha256 OF THE DUMP (.gsa) THAT YtaglbmgpdoophaaProg.lean LOADS. Nothing in Lean hashes anything: it is a label: what it is worth is what the hold of that sum in a sandbox is worth. -/
noncomputable def Try.pinned : Pinned := { name := "ytaglbmgpdoophaa", sum := "d9580d5b11d887c2af46a35a1f94f6608cace99cdd79c32ccdb4cc96f23c0ed7", checked := Try.checked }
namespace Rows
def none {H : Type} : Left H := { results := [], args := [] }

/-- 'erewhilelaw31.DiffEntries': WHATEVER THE INPUT: true; the input reads as it did. -/
def diffEntriesSpec : ChangeSpec := { name := "diffEntries", fn := fun _ => fun
  | [d1, d2] => { results := [.lit (.bool true)], args := [d1, d2] }
  | _ => none }
def diffEntriesRow : OpenClaim := { program := "ytaglbmgpdoophaa", sum := "d9580d5b11d887c2af46a35a1f94f6608cace99cdd79c32ccdb4cc96f23c0ed7", func := "erewhile/erewhilelaw31.DiffEntries", spec := "diffEntries", inPlace := ["maps.clone"], unfollowed := true, recurses := true, plainKeys := false, apart := false }
def DiffEntriesSaid : Prop := diffEntriesRow.holds Try.pinned (OpenSpec.ofChange diffEntriesSpec)

/-- ITS FALSE NEIGHBOUR: 'it returns false'. Refute it at one input. -/
def diffEntriesWrong : ChangeSpec := { name := "diffEntries", fn := fun _ => fun
  | [d1, d2] => { results := [.lit (.bool false)], args := [d1, d2] }
  | _ => none }
def DiffEntriesWrongFalsely : Prop := diffEntriesRow.holds Try.pinned (OpenSpec.ofChange diffEntriesWrong)

/-- 'erewhilelaw31.DiffApplies': WHATEVER THE INPUT: true; the input reads as it did. -/
def diffAppliesSpec : ChangeSpec := { name := "diffApplies", fn := fun _ => fun
  | [d1, d2] => { results := [.lit (.bool true)], args := [d1, d2] }
  | _ => none }
def diffAppliesRow : OpenClaim := { program := "ytaglbmgpdoophaa", sum := "d9580d5b11d887c2af46a35a1f94f6608cace99cdd79c32ccdb4cc96f23c0ed7", func := "erewhile/erewhilelaw31.DiffApplies", spec := "diffApplies", inPlace := ["maps.clone"], unfollowed := true, recurses := true, plainKeys := false, apart := false }
def DiffAppliesSaid : Prop := diffAppliesRow.holds Try.pinned (OpenSpec.ofChange diffAppliesSpec)

/-- ITS FALSE NEIGHBOUR: 'it returns false'. Refute it at one input. -/
def diffAppliesWrong : ChangeSpec := { name := "diffApplies", fn := fun _ => fun
  | [d1, d2] => { results := [.lit (.bool false)], args := [d1, d2] }
  | _ => none }
def DiffAppliesWrongFalsely : Prop := diffAppliesRow.holds Try.pinned (OpenSpec.ofChange diffAppliesWrong)

/-- 'erewhilelaw31.DiffTurns': WHATEVER THE INPUT: true; the input reads as it did. -/
def diffTurnsSpec : ChangeSpec := { name := "diffTurns", fn := fun _ => fun
  | [d1, d2] => { results := [.lit (.bool true)], args := [d1, d2] }
  | _ => none }
def diffTurnsRow : OpenClaim := { program := "ytaglbmgpdoophaa", sum := "d9580d5b11d887c2af46a35a1f94f6608cace99cdd79c32ccdb4cc96f23c0ed7", func := "erewhile/erewhilelaw31.DiffTurns", spec := "diffTurns", inPlace := ["maps.clone"], unfollowed := true, recurses := true, plainKeys := false, apart := false }
def DiffTurnsSaid : Prop := diffTurnsRow.holds Try.pinned (OpenSpec.ofChange diffTurnsSpec)

/-- ITS FALSE NEIGHBOUR: 'it returns false'. Refute it at one input. -/
def diffTurnsWrong : ChangeSpec := { name := "diffTurns", fn := fun _ => fun
  | [d1, d2] => { results := [.lit (.bool false)], args := [d1, d2] }
  | _ => none }
def DiffTurnsWrongFalsely : Prop := diffTurnsRow.holds Try.pinned (OpenSpec.ofChange diffTurnsWrong)

/-- 'erewhilelaw31.DiffWay': WHATEVER THE INPUT: true; the input reads as it did. -/
def diffWaySpec : ChangeSpec := { name := "diffWay", fn := fun _ => fun
  | [d1, d2, d3] => { results := [.lit (.bool true)], args := [d1, d2, d3] }
  | _ => none }
def diffWayRow : OpenClaim := { program := "ytaglbmgpdoophaa", sum := "d9580d5b11d887c2af46a35a1f94f6608cace99cdd79c32ccdb4cc96f23c0ed7", func := "erewhile/erewhilelaw31.DiffWay", spec := "diffWay", inPlace := ["maps.clone"], unfollowed := true, recurses := true, plainKeys := false, apart := false }
def DiffWaySaid : Prop := diffWayRow.holds Try.pinned (OpenSpec.ofChange diffWaySpec)

/-- ITS FALSE NEIGHBOUR: 'it returns false'. Refute it at one input. -/
def diffWayWrong : ChangeSpec := { name := "diffWay", fn := fun _ => fun
  | [d1, d2, d3] => { results := [.lit (.bool false)], args := [d1, d2, d3] }
  | _ => none }
def DiffWayWrongFalsely : Prop := diffWayRow.holds Try.pinned (OpenSpec.ofChange diffWayWrong)

/-- 'erewhilelaw62.FsdiffOf': WHATEVER THE INPUT: true; the input reads as it did. -/
def fsdiffOfSpec : ChangeSpec := { name := "fsdiffOf", fn := fun _ => fun
  | [d1, d2] => { results := [.lit (.bool true)], args := [d1, d2] }
  | _ => none }
def fsdiffOfRow : OpenClaim := { program := "ytaglbmgpdoophaa", sum := "d9580d5b11d887c2af46a35a1f94f6608cace99cdd79c32ccdb4cc96f23c0ed7", func := "erewhile/erewhilelaw62.FsdiffOf", spec := "fsdiffOf", unfollowed := true, recurses := true, plainKeys := false, apart := false }
def FsdiffOfSaid : Prop := fsdiffOfRow.holds Try.pinned (OpenSpec.ofChange fsdiffOfSpec)

/-- ITS FALSE NEIGHBOUR: 'it returns false'. Refute it at one input. -/
def fsdiffOfWrong : ChangeSpec := { name := "fsdiffOf", fn := fun _ => fun
  | [d1, d2] => { results := [.lit (.bool false)], args := [d1, d2] }
  | _ => none }
def FsdiffOfWrongFalsely : Prop := fsdiffOfRow.holds Try.pinned (OpenSpec.ofChange fsdiffOfWrong)

/-- 'erewhilelaw62.FsdiffApplies': WHATEVER THE INPUT: true; the input reads as it did. -/
def fsdiffAppliesSpec : ChangeSpec := { name := "fsdiffApplies", fn := fun _ => fun
  | [d1, d2] => { results := [.lit (.bool true)], args := [d1, d2] }
  | _ => none }
def fsdiffAppliesRow : OpenClaim := { program := "ytaglbmgpdoophaa", sum := "d9580d5b11d887c2af46a35a1f94f6608cace99cdd79c32ccdb4cc96f23c0ed7", func := "erewhile/erewhilelaw62.FsdiffApplies", spec := "fsdiffApplies", unfollowed := true, recurses := true, plainKeys := false, apart := false }
def FsdiffAppliesSaid : Prop := fsdiffAppliesRow.holds Try.pinned (OpenSpec.ofChange fsdiffAppliesSpec)

/-- ITS FALSE NEIGHBOUR: 'it returns false'. Refute it at one input. -/
def fsdiffAppliesWrong : ChangeSpec := { name := "fsdiffApplies", fn := fun _ => fun
  | [d1, d2] => { results := [.lit (.bool false)], args := [d1, d2] }
  | _ => none }
def FsdiffAppliesWrongFalsely : Prop := fsdiffAppliesRow.holds Try.pinned (OpenSpec.ofChange fsdiffAppliesWrong)

/-- 'erewhilelaw62.FsdiffRight': WHATEVER THE INPUT: true; the input reads as it did. -/
def fsdiffRightSpec : ChangeSpec := { name := "fsdiffRight", fn := fun _ => fun
  | [d1, d2, d3] => { results := [.lit (.bool true)], args := [d1, d2, d3] }
  | _ => none }
def fsdiffRightRow : OpenClaim := { program := "ytaglbmgpdoophaa", sum := "d9580d5b11d887c2af46a35a1f94f6608cace99cdd79c32ccdb4cc96f23c0ed7", func := "erewhile/erewhilelaw62.FsdiffRight", spec := "fsdiffRight", unfollowed := true, recurses := true, plainKeys := false, apart := false }
def FsdiffRightSaid : Prop := fsdiffRightRow.holds Try.pinned (OpenSpec.ofChange fsdiffRightSpec)

/-- ITS FALSE NEIGHBOUR: 'it returns false'. Refute it at one input. -/
def fsdiffRightWrong : ChangeSpec := { name := "fsdiffRight", fn := fun _ => fun
  | [d1, d2, d3] => { results := [.lit (.bool false)], args := [d1, d2, d3] }
  | _ => none }
def FsdiffRightWrongFalsely : Prop := fsdiffRightRow.holds Try.pinned (OpenSpec.ofChange fsdiffRightWrong)

/-- 'erewhilelaw62.FsdiffBack': WHATEVER THE INPUT: true; the input reads as it did. -/
def fsdiffBackSpec : ChangeSpec := { name := "fsdiffBack", fn := fun _ => fun
  | [d1, d2] => { results := [.lit (.bool true)], args := [d1, d2] }
  | _ => none }
def fsdiffBackRow : OpenClaim := { program := "ytaglbmgpdoophaa", sum := "d9580d5b11d887c2af46a35a1f94f6608cace99cdd79c32ccdb4cc96f23c0ed7", func := "erewhile/erewhilelaw62.FsdiffBack", spec := "fsdiffBack", unfollowed := true, recurses := true, plainKeys := false, apart := false }
def FsdiffBackSaid : Prop := fsdiffBackRow.holds Try.pinned (OpenSpec.ofChange fsdiffBackSpec)

/-- ITS FALSE NEIGHBOUR: 'it returns false'. Refute it at one input. -/
def fsdiffBackWrong : ChangeSpec := { name := "fsdiffBack", fn := fun _ => fun
  | [d1, d2] => { results := [.lit (.bool false)], args := [d1, d2] }
  | _ => none }
def FsdiffBackWrongFalsely : Prop := fsdiffBackRow.holds Try.pinned (OpenSpec.ofChange fsdiffBackWrong)

/-- 'erewhilelaw62.FsdiffOwn': WHATEVER THE INPUT: true; the input reads as it did. -/
def fsdiffOwnSpec : ChangeSpec := { name := "fsdiffOwn", fn := fun _ => fun
  | [d1, d2, d3] => { results := [.lit (.bool true)], args := [d1, d2, d3] }
  | _ => none }
def fsdiffOwnRow : OpenClaim := { program := "ytaglbmgpdoophaa", sum := "d9580d5b11d887c2af46a35a1f94f6608cace99cdd79c32ccdb4cc96f23c0ed7", func := "erewhile/erewhilelaw62.FsdiffOwn", spec := "fsdiffOwn", unfollowed := true, recurses := true, plainKeys := false, apart := false }
def FsdiffOwnSaid : Prop := fsdiffOwnRow.holds Try.pinned (OpenSpec.ofChange fsdiffOwnSpec)

/-- ITS FALSE NEIGHBOUR: 'it returns false'. Refute it at one input. -/
def fsdiffOwnWrong : ChangeSpec := { name := "fsdiffOwn", fn := fun _ => fun
  | [d1, d2, d3] => { results := [.lit (.bool false)], args := [d1, d2, d3] }
  | _ => none }
def FsdiffOwnWrongFalsely : Prop := fsdiffOwnRow.holds Try.pinned (OpenSpec.ofChange fsdiffOwnWrong)

/-- 'erewhilelaw62.FsdiffWay': WHATEVER THE INPUT: true; the input reads as it did. -/
def fsdiffWaySpec : ChangeSpec := { name := "fsdiffWay", fn := fun _ => fun
  | [d1, d2, d3] => { results := [.lit (.bool true)], args := [d1, d2, d3] }
  | _ => none }
def fsdiffWayRow : OpenClaim := { program := "ytaglbmgpdoophaa", sum := "d9580d5b11d887c2af46a35a1f94f6608cace99cdd79c32ccdb4cc96f23c0ed7", func := "erewhile/erewhilelaw62.FsdiffWay", spec := "fsdiffWay", unfollowed := true, recurses := true, plainKeys := false, apart := false }
def FsdiffWaySaid : Prop := fsdiffWayRow.holds Try.pinned (OpenSpec.ofChange fsdiffWaySpec)

/-- ITS FALSE NEIGHBOUR: 'it returns false'. Refute it at one input. -/
def fsdiffWayWrong : ChangeSpec := { name := "fsdiffWay", fn := fun _ => fun
  | [d1, d2, d3] => { results := [.lit (.bool false)], args := [d1, d2, d3] }
  | _ => none }
def FsdiffWayWrongFalsely : Prop := fsdiffWayRow.holds Try.pinned (OpenSpec.ofChange fsdiffWayWrong)

/-- 'erewhilelaw63.TimelineOf': WHATEVER THE INPUT: true; the input reads as it did. -/
def timelineOfSpec : ChangeSpec := { name := "timelineOf", fn := fun _ => fun
  | [d1, d2] => { results := [.lit (.bool true)], args := [d1, d2] }
  | _ => none }
def timelineOfRow : OpenClaim := { program := "ytaglbmgpdoophaa", sum := "d9580d5b11d887c2af46a35a1f94f6608cace99cdd79c32ccdb4cc96f23c0ed7", func := "erewhile/erewhilelaw63.TimelineOf", spec := "timelineOf", unfollowed := true, recurses := true, plainKeys := false, apart := false }
def TimelineOfSaid : Prop := timelineOfRow.holds Try.pinned (OpenSpec.ofChange timelineOfSpec)

/-- ITS FALSE NEIGHBOUR: 'it returns false'. Refute it at one input. -/
def timelineOfWrong : ChangeSpec := { name := "timelineOf", fn := fun _ => fun
  | [d1, d2] => { results := [.lit (.bool false)], args := [d1, d2] }
  | _ => none }
def TimelineOfWrongFalsely : Prop := timelineOfRow.holds Try.pinned (OpenSpec.ofChange timelineOfWrong)

/-- 'erewhilelaw63.TimelineParts': WHATEVER THE INPUT: true; the input reads as it did. -/
def timelinePartsSpec : ChangeSpec := { name := "timelineParts", fn := fun _ => fun
  | [d1, d2, d3] => { results := [.lit (.bool true)], args := [d1, d2, d3] }
  | _ => none }
def timelinePartsRow : OpenClaim := { program := "ytaglbmgpdoophaa", sum := "d9580d5b11d887c2af46a35a1f94f6608cace99cdd79c32ccdb4cc96f23c0ed7", func := "erewhile/erewhilelaw63.TimelineParts", spec := "timelineParts", unfollowed := true, recurses := true, plainKeys := false, apart := false }
def TimelinePartsSaid : Prop := timelinePartsRow.holds Try.pinned (OpenSpec.ofChange timelinePartsSpec)

/-- ITS FALSE NEIGHBOUR: 'it returns false'. Refute it at one input. -/
def timelinePartsWrong : ChangeSpec := { name := "timelineParts", fn := fun _ => fun
  | [d1, d2, d3] => { results := [.lit (.bool false)], args := [d1, d2, d3] }
  | _ => none }
def TimelinePartsWrongFalsely : Prop := timelinePartsRow.holds Try.pinned (OpenSpec.ofChange timelinePartsWrong)

/-- 'erewhilelaw63.TimelineStill': WHATEVER THE INPUT: true; the input reads as it did. -/
def timelineStillSpec : ChangeSpec := { name := "timelineStill", fn := fun _ => fun
  | [d1, d2, d3] => { results := [.lit (.bool true)], args := [d1, d2, d3] }
  | _ => none }
def timelineStillRow : OpenClaim := { program := "ytaglbmgpdoophaa", sum := "d9580d5b11d887c2af46a35a1f94f6608cace99cdd79c32ccdb4cc96f23c0ed7", func := "erewhile/erewhilelaw63.TimelineStill", spec := "timelineStill", unfollowed := true, recurses := true, plainKeys := false, apart := false }
def TimelineStillSaid : Prop := timelineStillRow.holds Try.pinned (OpenSpec.ofChange timelineStillSpec)

/-- ITS FALSE NEIGHBOUR: 'it returns false'. Refute it at one input. -/
def timelineStillWrong : ChangeSpec := { name := "timelineStill", fn := fun _ => fun
  | [d1, d2, d3] => { results := [.lit (.bool false)], args := [d1, d2, d3] }
  | _ => none }
def TimelineStillWrongFalsely : Prop := timelineStillRow.holds Try.pinned (OpenSpec.ofChange timelineStillWrong)

/-- 'erewhilelaw63.TimelineFile': WHATEVER THE INPUT: true; the input reads as it did. -/
def timelineFileSpec : ChangeSpec := { name := "timelineFile", fn := fun _ => fun
  | [d1, d2, d3] => { results := [.lit (.bool true)], args := [d1, d2, d3] }
  | _ => none }
def timelineFileRow : OpenClaim := { program := "ytaglbmgpdoophaa", sum := "d9580d5b11d887c2af46a35a1f94f6608cace99cdd79c32ccdb4cc96f23c0ed7", func := "erewhile/erewhilelaw63.TimelineFile", spec := "timelineFile", unfollowed := true, recurses := true, plainKeys := false, apart := false }
def TimelineFileSaid : Prop := timelineFileRow.holds Try.pinned (OpenSpec.ofChange timelineFileSpec)

/-- ITS FALSE NEIGHBOUR: 'it returns false'. Refute it at one input. -/
def timelineFileWrong : ChangeSpec := { name := "timelineFile", fn := fun _ => fun
  | [d1, d2, d3] => { results := [.lit (.bool false)], args := [d1, d2, d3] }
  | _ => none }
def TimelineFileWrongFalsely : Prop := timelineFileRow.holds Try.pinned (OpenSpec.ofChange timelineFileWrong)

/-- 'erewhilelaw63.TimelineQuiet': WHATEVER THE INPUT: true; the input reads as it did. -/
def timelineQuietSpec : ChangeSpec := { name := "timelineQuiet", fn := fun _ => fun
  | [d1, d2, d3, d4, d5] => { results := [.lit (.bool true)], args := [d1, d2, d3, d4, d5] }
  | _ => none }
def timelineQuietRow : OpenClaim := { program := "ytaglbmgpdoophaa", sum := "d9580d5b11d887c2af46a35a1f94f6608cace99cdd79c32ccdb4cc96f23c0ed7", func := "erewhile/erewhilelaw63.TimelineQuiet", spec := "timelineQuiet", unfollowed := true, recurses := true, plainKeys := false, apart := false }
def TimelineQuietSaid : Prop := timelineQuietRow.holds Try.pinned (OpenSpec.ofChange timelineQuietSpec)

/-- ITS FALSE NEIGHBOUR: 'it returns false'. Refute it at one input. -/
def timelineQuietWrong : ChangeSpec := { name := "timelineQuiet", fn := fun _ => fun
  | [d1, d2, d3, d4, d5] => { results := [.lit (.bool false)], args := [d1, d2, d3, d4, d5] }
  | _ => none }
def TimelineQuietWrongFalsely : Prop := timelineQuietRow.holds Try.pinned (OpenSpec.ofChange timelineQuietWrong)

/-- 'erewhilelaw63.TimelineWrong': WHATEVER THE INPUT: true; the input reads as it did. -/
def timelineWrongSpec : ChangeSpec := { name := "timelineWrong", fn := fun _ => fun
  | [d1, d2] => { results := [.lit (.bool true)], args := [d1, d2] }
  | _ => none }
def timelineWrongRow : OpenClaim := { program := "ytaglbmgpdoophaa", sum := "d9580d5b11d887c2af46a35a1f94f6608cace99cdd79c32ccdb4cc96f23c0ed7", func := "erewhile/erewhilelaw63.TimelineWrong", spec := "timelineWrong", unfollowed := true, recurses := true, plainKeys := false, apart := false }
def TimelineWrongSaid : Prop := timelineWrongRow.holds Try.pinned (OpenSpec.ofChange timelineWrongSpec)

/-- ITS FALSE NEIGHBOUR: 'it returns false'. Refute it at one input. -/
def timelineWrongWrong : ChangeSpec := { name := "timelineWrong", fn := fun _ => fun
  | [d1, d2] => { results := [.lit (.bool false)], args := [d1, d2] }
  | _ => none }
def TimelineWrongWrongFalsely : Prop := timelineWrongRow.holds Try.pinned (OpenSpec.ofChange timelineWrongWrong)

/-- 'erewhilelaw63.TimelineAt': WHATEVER THE INPUT: true; the input reads as it did. -/
def timelineAtSpec : ChangeSpec := { name := "timelineAt", fn := fun _ => fun
  | [d1, d2, d3] => { results := [.lit (.bool true)], args := [d1, d2, d3] }
  | _ => none }
def timelineAtRow : OpenClaim := { program := "ytaglbmgpdoophaa", sum := "d9580d5b11d887c2af46a35a1f94f6608cace99cdd79c32ccdb4cc96f23c0ed7", func := "erewhile/erewhilelaw63.TimelineAt", spec := "timelineAt", unfollowed := true, recurses := true, plainKeys := false, apart := false }
def TimelineAtSaid : Prop := timelineAtRow.holds Try.pinned (OpenSpec.ofChange timelineAtSpec)

/-- ITS FALSE NEIGHBOUR: 'it returns false'. Refute it at one input. -/
def timelineAtWrong : ChangeSpec := { name := "timelineAt", fn := fun _ => fun
  | [d1, d2, d3] => { results := [.lit (.bool false)], args := [d1, d2, d3] }
  | _ => none }
def TimelineAtWrongFalsely : Prop := timelineAtRow.holds Try.pinned (OpenSpec.ofChange timelineAtWrong)

/-- 'erewhilelaw63.TimelinePast': WHATEVER THE INPUT: true; the input reads as it did. -/
def timelinePastSpec : ChangeSpec := { name := "timelinePast", fn := fun _ => fun
  | [d1, d2, d3] => { results := [.lit (.bool true)], args := [d1, d2, d3] }
  | _ => none }
def timelinePastRow : OpenClaim := { program := "ytaglbmgpdoophaa", sum := "d9580d5b11d887c2af46a35a1f94f6608cace99cdd79c32ccdb4cc96f23c0ed7", func := "erewhile/erewhilelaw63.TimelinePast", spec := "timelinePast", unfollowed := true, recurses := true, plainKeys := false, apart := false }
def TimelinePastSaid : Prop := timelinePastRow.holds Try.pinned (OpenSpec.ofChange timelinePastSpec)

/-- ITS FALSE NEIGHBOUR: 'it returns false'. Refute it at one input. -/
def timelinePastWrong : ChangeSpec := { name := "timelinePast", fn := fun _ => fun
  | [d1, d2, d3] => { results := [.lit (.bool false)], args := [d1, d2, d3] }
  | _ => none }
def TimelinePastWrongFalsely : Prop := timelinePastRow.holds Try.pinned (OpenSpec.ofChange timelinePastWrong)

/- THE SECOND FORM. 'bulk': how many values and letters a reading holds, each counted each time it is reached (what is shared counts as often as it is met; a slice's spare places count too). A statement '..UptoSaid' is the law's where the arguments, and the package variables that the reading takes, are together of bulk at most 1048576: NARROWER than '..Said'. Prove '..Said' where nothing that the law and all that it calls make is longer than what came in: it says more and counts as full. Else prove '..UptoSaid'. A law counts once. -/
mutual
def uptoBulk {H : Type} : DataW H → Nat
  | .lit (.string bytes) => bytes.length + 1
  | .lit _ => 1
  | .nil => 1
  | .ptr d => uptoBulk d + 1
  | .slice elems spare => uptoBulkAll elems + uptoBulkAll spare + 1
  | .agg parts => uptoBulkAll parts + 1
  | .iface _ d => uptoBulk d + 1
  | .map entries => uptoBulkEntries entries + 1
  | .held _ => 1
def uptoBulkAll {H : Type} : List (DataW H) → Nat
  | [] => 0
  | d :: r => uptoBulk d + uptoBulkAll r
def uptoBulkEntries {H : Type} : List (Lit × DataW H) → Nat
  | [] => 0
  | x :: r => uptoBulkEntry x + uptoBulkEntries r
def uptoBulkEntry {H : Type} : Lit × DataW H → Nat
  | (.string bytes, d) => bytes.length + uptoBulk d + 1
  | (_, d) => uptoBulk d + 1
 end
def uptoSmall : (H : Type) → List (DataW H) → Bool := fun _ ds => decide (uptoBulkAll ds ≤ 1048576)
def OpenSpec.upto (s : _root_.Go.ChangeSpec) : _root_.Go.OpenSpec := { _root_.Go.OpenSpec.ofChange s with cond := some uptoSmall }

/-- 'erewhilelaw31.DiffEntries', WHERE WHAT IT READS IS OF BULK AT MOST 1048576: true; the input reads as it did. -/
def diffEntriesUptoRow : OpenClaim := { program := "ytaglbmgpdoophaa", sum := "d9580d5b11d887c2af46a35a1f94f6608cace99cdd79c32ccdb4cc96f23c0ed7", func := "erewhile/erewhilelaw31.DiffEntries", spec := "diffEntries", inPlace := ["maps.clone"], unfollowed := true, recurses := true, plainKeys := false, apart := false, narrowed := true }
def DiffEntriesUptoSaid : Prop := diffEntriesUptoRow.holds Try.pinned (OpenSpec.upto diffEntriesSpec)

/-- 'erewhilelaw31.DiffApplies', WHERE WHAT IT READS IS OF BULK AT MOST 1048576: true; the input reads as it did. -/
def diffAppliesUptoRow : OpenClaim := { program := "ytaglbmgpdoophaa", sum := "d9580d5b11d887c2af46a35a1f94f6608cace99cdd79c32ccdb4cc96f23c0ed7", func := "erewhile/erewhilelaw31.DiffApplies", spec := "diffApplies", inPlace := ["maps.clone"], unfollowed := true, recurses := true, plainKeys := false, apart := false, narrowed := true }
def DiffAppliesUptoSaid : Prop := diffAppliesUptoRow.holds Try.pinned (OpenSpec.upto diffAppliesSpec)

/-- 'erewhilelaw31.DiffTurns', WHERE WHAT IT READS IS OF BULK AT MOST 1048576: true; the input reads as it did. -/
def diffTurnsUptoRow : OpenClaim := { program := "ytaglbmgpdoophaa", sum := "d9580d5b11d887c2af46a35a1f94f6608cace99cdd79c32ccdb4cc96f23c0ed7", func := "erewhile/erewhilelaw31.DiffTurns", spec := "diffTurns", inPlace := ["maps.clone"], unfollowed := true, recurses := true, plainKeys := false, apart := false, narrowed := true }
def DiffTurnsUptoSaid : Prop := diffTurnsUptoRow.holds Try.pinned (OpenSpec.upto diffTurnsSpec)

/-- 'erewhilelaw31.DiffWay', WHERE WHAT IT READS IS OF BULK AT MOST 1048576: true; the input reads as it did. -/
def diffWayUptoRow : OpenClaim := { program := "ytaglbmgpdoophaa", sum := "d9580d5b11d887c2af46a35a1f94f6608cace99cdd79c32ccdb4cc96f23c0ed7", func := "erewhile/erewhilelaw31.DiffWay", spec := "diffWay", inPlace := ["maps.clone"], unfollowed := true, recurses := true, plainKeys := false, apart := false, narrowed := true }
def DiffWayUptoSaid : Prop := diffWayUptoRow.holds Try.pinned (OpenSpec.upto diffWaySpec)

/-- 'erewhilelaw62.FsdiffOf', WHERE WHAT IT READS IS OF BULK AT MOST 1048576: true; the input reads as it did. -/
def fsdiffOfUptoRow : OpenClaim := { program := "ytaglbmgpdoophaa", sum := "d9580d5b11d887c2af46a35a1f94f6608cace99cdd79c32ccdb4cc96f23c0ed7", func := "erewhile/erewhilelaw62.FsdiffOf", spec := "fsdiffOf", unfollowed := true, recurses := true, plainKeys := false, apart := false, narrowed := true }
def FsdiffOfUptoSaid : Prop := fsdiffOfUptoRow.holds Try.pinned (OpenSpec.upto fsdiffOfSpec)

/-- 'erewhilelaw62.FsdiffApplies', WHERE WHAT IT READS IS OF BULK AT MOST 1048576: true; the input reads as it did. -/
def fsdiffAppliesUptoRow : OpenClaim := { program := "ytaglbmgpdoophaa", sum := "d9580d5b11d887c2af46a35a1f94f6608cace99cdd79c32ccdb4cc96f23c0ed7", func := "erewhile/erewhilelaw62.FsdiffApplies", spec := "fsdiffApplies", unfollowed := true, recurses := true, plainKeys := false, apart := false, narrowed := true }
def FsdiffAppliesUptoSaid : Prop := fsdiffAppliesUptoRow.holds Try.pinned (OpenSpec.upto fsdiffAppliesSpec)

/-- 'erewhilelaw62.FsdiffRight', WHERE WHAT IT READS IS OF BULK AT MOST 1048576: true; the input reads as it did. -/
def fsdiffRightUptoRow : OpenClaim := { program := "ytaglbmgpdoophaa", sum := "d9580d5b11d887c2af46a35a1f94f6608cace99cdd79c32ccdb4cc96f23c0ed7", func := "erewhile/erewhilelaw62.FsdiffRight", spec := "fsdiffRight", unfollowed := true, recurses := true, plainKeys := false, apart := false, narrowed := true }
def FsdiffRightUptoSaid : Prop := fsdiffRightUptoRow.holds Try.pinned (OpenSpec.upto fsdiffRightSpec)

/-- 'erewhilelaw62.FsdiffBack', WHERE WHAT IT READS IS OF BULK AT MOST 1048576: true; the input reads as it did. -/
def fsdiffBackUptoRow : OpenClaim := { program := "ytaglbmgpdoophaa", sum := "d9580d5b11d887c2af46a35a1f94f6608cace99cdd79c32ccdb4cc96f23c0ed7", func := "erewhile/erewhilelaw62.FsdiffBack", spec := "fsdiffBack", unfollowed := true, recurses := true, plainKeys := false, apart := false, narrowed := true }
def FsdiffBackUptoSaid : Prop := fsdiffBackUptoRow.holds Try.pinned (OpenSpec.upto fsdiffBackSpec)

/-- 'erewhilelaw62.FsdiffOwn', WHERE WHAT IT READS IS OF BULK AT MOST 1048576: true; the input reads as it did. -/
def fsdiffOwnUptoRow : OpenClaim := { program := "ytaglbmgpdoophaa", sum := "d9580d5b11d887c2af46a35a1f94f6608cace99cdd79c32ccdb4cc96f23c0ed7", func := "erewhile/erewhilelaw62.FsdiffOwn", spec := "fsdiffOwn", unfollowed := true, recurses := true, plainKeys := false, apart := false, narrowed := true }
def FsdiffOwnUptoSaid : Prop := fsdiffOwnUptoRow.holds Try.pinned (OpenSpec.upto fsdiffOwnSpec)

/-- 'erewhilelaw62.FsdiffWay', WHERE WHAT IT READS IS OF BULK AT MOST 1048576: true; the input reads as it did. -/
def fsdiffWayUptoRow : OpenClaim := { program := "ytaglbmgpdoophaa", sum := "d9580d5b11d887c2af46a35a1f94f6608cace99cdd79c32ccdb4cc96f23c0ed7", func := "erewhile/erewhilelaw62.FsdiffWay", spec := "fsdiffWay", unfollowed := true, recurses := true, plainKeys := false, apart := false, narrowed := true }
def FsdiffWayUptoSaid : Prop := fsdiffWayUptoRow.holds Try.pinned (OpenSpec.upto fsdiffWaySpec)

/-- 'erewhilelaw63.TimelineOf', WHERE WHAT IT READS IS OF BULK AT MOST 1048576: true; the input reads as it did. -/
def timelineOfUptoRow : OpenClaim := { program := "ytaglbmgpdoophaa", sum := "d9580d5b11d887c2af46a35a1f94f6608cace99cdd79c32ccdb4cc96f23c0ed7", func := "erewhile/erewhilelaw63.TimelineOf", spec := "timelineOf", unfollowed := true, recurses := true, plainKeys := false, apart := false, narrowed := true }
def TimelineOfUptoSaid : Prop := timelineOfUptoRow.holds Try.pinned (OpenSpec.upto timelineOfSpec)

/-- 'erewhilelaw63.TimelineParts', WHERE WHAT IT READS IS OF BULK AT MOST 1048576: true; the input reads as it did. -/
def timelinePartsUptoRow : OpenClaim := { program := "ytaglbmgpdoophaa", sum := "d9580d5b11d887c2af46a35a1f94f6608cace99cdd79c32ccdb4cc96f23c0ed7", func := "erewhile/erewhilelaw63.TimelineParts", spec := "timelineParts", unfollowed := true, recurses := true, plainKeys := false, apart := false, narrowed := true }
def TimelinePartsUptoSaid : Prop := timelinePartsUptoRow.holds Try.pinned (OpenSpec.upto timelinePartsSpec)

/-- 'erewhilelaw63.TimelineStill', WHERE WHAT IT READS IS OF BULK AT MOST 1048576: true; the input reads as it did. -/
def timelineStillUptoRow : OpenClaim := { program := "ytaglbmgpdoophaa", sum := "d9580d5b11d887c2af46a35a1f94f6608cace99cdd79c32ccdb4cc96f23c0ed7", func := "erewhile/erewhilelaw63.TimelineStill", spec := "timelineStill", unfollowed := true, recurses := true, plainKeys := false, apart := false, narrowed := true }
def TimelineStillUptoSaid : Prop := timelineStillUptoRow.holds Try.pinned (OpenSpec.upto timelineStillSpec)

/-- 'erewhilelaw63.TimelineFile', WHERE WHAT IT READS IS OF BULK AT MOST 1048576: true; the input reads as it did. -/
def timelineFileUptoRow : OpenClaim := { program := "ytaglbmgpdoophaa", sum := "d9580d5b11d887c2af46a35a1f94f6608cace99cdd79c32ccdb4cc96f23c0ed7", func := "erewhile/erewhilelaw63.TimelineFile", spec := "timelineFile", unfollowed := true, recurses := true, plainKeys := false, apart := false, narrowed := true }
def TimelineFileUptoSaid : Prop := timelineFileUptoRow.holds Try.pinned (OpenSpec.upto timelineFileSpec)

/-- 'erewhilelaw63.TimelineQuiet', WHERE WHAT IT READS IS OF BULK AT MOST 1048576: true; the input reads as it did. -/
def timelineQuietUptoRow : OpenClaim := { program := "ytaglbmgpdoophaa", sum := "d9580d5b11d887c2af46a35a1f94f6608cace99cdd79c32ccdb4cc96f23c0ed7", func := "erewhile/erewhilelaw63.TimelineQuiet", spec := "timelineQuiet", unfollowed := true, recurses := true, plainKeys := false, apart := false, narrowed := true }
def TimelineQuietUptoSaid : Prop := timelineQuietUptoRow.holds Try.pinned (OpenSpec.upto timelineQuietSpec)

/-- 'erewhilelaw63.TimelineWrong', WHERE WHAT IT READS IS OF BULK AT MOST 1048576: true; the input reads as it did. -/
def timelineWrongUptoRow : OpenClaim := { program := "ytaglbmgpdoophaa", sum := "d9580d5b11d887c2af46a35a1f94f6608cace99cdd79c32ccdb4cc96f23c0ed7", func := "erewhile/erewhilelaw63.TimelineWrong", spec := "timelineWrong", unfollowed := true, recurses := true, plainKeys := false, apart := false, narrowed := true }
def TimelineWrongUptoSaid : Prop := timelineWrongUptoRow.holds Try.pinned (OpenSpec.upto timelineWrongSpec)

/-- 'erewhilelaw63.TimelineAt', WHERE WHAT IT READS IS OF BULK AT MOST 1048576: true; the input reads as it did. -/
def timelineAtUptoRow : OpenClaim := { program := "ytaglbmgpdoophaa", sum := "d9580d5b11d887c2af46a35a1f94f6608cace99cdd79c32ccdb4cc96f23c0ed7", func := "erewhile/erewhilelaw63.TimelineAt", spec := "timelineAt", unfollowed := true, recurses := true, plainKeys := false, apart := false, narrowed := true }
def TimelineAtUptoSaid : Prop := timelineAtUptoRow.holds Try.pinned (OpenSpec.upto timelineAtSpec)

/-- 'erewhilelaw63.TimelinePast', WHERE WHAT IT READS IS OF BULK AT MOST 1048576: true; the input reads as it did. -/
def timelinePastUptoRow : OpenClaim := { program := "ytaglbmgpdoophaa", sum := "d9580d5b11d887c2af46a35a1f94f6608cace99cdd79c32ccdb4cc96f23c0ed7", func := "erewhile/erewhilelaw63.TimelinePast", spec := "timelinePast", unfollowed := true, recurses := true, plainKeys := false, apart := false, narrowed := true }
def TimelinePastUptoSaid : Prop := timelinePastUptoRow.holds Try.pinned (OpenSpec.upto timelinePastSpec)

end Rows
end Go.Proofs.Ytaglbmgpdoophaa
