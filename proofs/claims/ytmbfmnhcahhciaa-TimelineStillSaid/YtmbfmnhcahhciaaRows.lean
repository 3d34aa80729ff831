/-
  No cell of these rows narrows 'for every input' (looked for: loops, veiled, ifaces, maps, wideKeys, modest, calm, conditions, laid).
  DERIVED. THE GIVEN ROWS OF THIS SEAT. 8 by the template 'for every input the law returns true; each argument reads behind the call as it read before'; 0 by the template 'total and deterministic' (their statements: YtmbfmnhcahhciaaTotals.lean).
  GIVEN WITH THE SEED: the statements are not yours to turn. If you find one false, say at which input.
  Laid BY PROGRAM, IN A SANDBOX (cutbox-rows.mjs): the forced cells as the released guide's own fill.sh prints them over the translation cf5c75a80420f9fe… (all of the seat's roots in one cut). By AI agents, Wed Nov 11 2026. No macro, syntax, notation, axiom, sorry.
-/
import Derived.Test.YtmbfmnhcahhciaaChecked
import GoSem.Claim
import GoSem.ClaimJoined
import GoSem.ClaimMapViews
import Derived.JoinedTies
import Derived.KernelRfl
namespace Go.Proofs.Ytmbfmnhcahhciaa
/- THE CELL 'sum', in the pinned program and in every row, IS THE sha256 OF THE DUMP (.gsa) THAT YtmbfmnhcahhciaaProg.lean LOADS. Nothing in Lean hashes anything: it is a label: what it is worth is what the hold of that sum in a sandbox is worth. -/
noncomputable def Try.pinned : Pinned := { name := "ytmbfmnhcahhciaa", sum := "cf5c75a80420f9fef86154b5c40611a02c3e076f05dedb915480628d93bda507", checked := Try.checked }
namespace Rows
def none {H : Type} : Left H := { results := [], args := [] }

/-- 'erewhilelaw63.TimelineOf': WHATEVER THE INPUT: true; the input reads as it did. -/
def timelineOfSpec : ChangeSpec := { name := "timelineOf", fn := fun _ => fun
  | [d1, d2] => { results := [.lit (.bool true)], args := [d1, d2] }
  | _ => none }
def timelineOfRow : OpenClaim := { program := "ytmbfmnhcahhciaa", sum := "cf5c75a80420f9fef86154b5c40611a02c3e076f05dedb915480628d93bda507", func := "erewhile/erewhilelaw63.TimelineOf", spec := "timelineOf", unfollowed := true, recurses := true, apart := false }
def TimelineOfSaid : Prop := timelineOfRow.holds Try.pinned (OpenSpec.ofChange timelineOfSpec)

/-- ITS FALSE NEIGHBOUR: 'it returns false'. Refute it at one input. -/
def timelineOfWrong : ChangeSpec := { name := "timelineOf", fn := fun _ => fun
  | [d1, d2] => { results := [.lit (.bool false)], args := [d1, d2] }
  | _ => none }
def TimelineOfWrongFalsely : Prop := timelineOfRow.holds Try.pinned (OpenSpec.ofChange timelineOfWrong)

/-- 'erewhilelaw63.TimelineParts': WHATEVER THE INPUT: true; the input reads as it did. -/
def timelinePartsSpec : ChangeSpec := { name := "timelineParts", fn := fun _ => fun
  | [d1, d2, d3] => { results := [.lit (.bool true)], args := [d1, d2, d3] }
  | _ => none }
def timelinePartsRow : OpenClaim := { program := "ytmbfmnhcahhciaa", sum := "cf5c75a80420f9fef86154b5c40611a02c3e076f05dedb915480628d93bda507", func := "erewhile/erewhilelaw63.TimelineParts", spec := "timelineParts", unfollowed := true, recurses := true, apart := false }
def TimelinePartsSaid : Prop := timelinePartsRow.holds Try.pinned (OpenSpec.ofChange timelinePartsSpec)

/-- ITS FALSE NEIGHBOUR: 'it returns false'. Refute it at one input. -/
def timelinePartsWrong : ChangeSpec := { name := "timelineParts", fn := fun _ => fun
  | [d1, d2, d3] => { results := [.lit (.bool false)], args := [d1, d2, d3] }
  | _ => none }
def TimelinePartsWrongFalsely : Prop := timelinePartsRow.holds Try.pinned (OpenSpec.ofChange timelinePartsWrong)

/-- 'erewhilelaw63.TimelineStill': WHATEVER THE INPUT: true; the input reads as it did. -/
def timelineStillSpec : ChangeSpec := { name := "timelineStill", fn := fun _ => fun
  | [d1, d2, d3] => { results := [.lit (.bool true)], args := [d1, d2, d3] }
  | _ => none }
def timelineStillRow : OpenClaim := { program := "ytmbfmnhcahhciaa", sum := "cf5c75a80420f9fef86154b5c40611a02c3e076f05dedb915480628d93bda507", func := "erewhile/erewhilelaw63.TimelineStill", spec := "timelineStill", unfollowed := true, recurses := true, apart := false }
def TimelineStillSaid : Prop := timelineStillRow.holds Try.pinned (OpenSpec.ofChange timelineStillSpec)

/-- ITS FALSE NEIGHBOUR: 'it returns false'. Refute it at one input. -/
def timelineStillWrong : ChangeSpec := { name := "timelineStill", fn := fun _ => fun
  | [d1, d2, d3] => { results := [.lit (.bool false)], args := [d1, d2, d3] }
  | _ => none }
def TimelineStillWrongFalsely : Prop := timelineStillRow.holds Try.pinned (OpenSpec.ofChange timelineStillWrong)

/-- 'erewhilelaw63.TimelineFile': WHATEVER THE INPUT: true; the input reads as it did. -/
def timelineFileSpec : ChangeSpec := { name := "timelineFile", fn := fun _ => fun
  | [d1, d2, d3] => { results := [.lit (.bool true)], args := [d1, d2, d3] }
  | _ => none }
def timelineFileRow : OpenClaim := { program := "ytmbfmnhcahhciaa", sum := "cf5c75a80420f9fef86154b5c40611a02c3e076f05dedb915480628d93bda507", func := "erewhile/erewhilelaw63.TimelineFile", spec := "timelineFile", unfollowed := true, recurses := true, apart := false }
def TimelineFileSaid : Prop := timelineFileRow.holds Try.pinned (OpenSpec.ofChange timelineFileSpec)

/-- ITS FALSE NEIGHBOUR: 'it returns false'. Refute it at one input. -/
def timelineFileWrong : ChangeSpec := { name := "timelineFile", fn := fun _ => fun
  | [d1, d2, d3] => { results := [.lit (.bool false)], args := [d1, d2, d3] }
  | _ => none }
def TimelineFileWrongFalsely : Prop := timelineFileRow.holds Try.pinned (OpenSpec.ofChange timelineFileWrong)

/-- 'erewhilelaw63.TimelineQuiet': WHATEVER THE INPUT: true; the input reads as it did. -/
def timelineQuietSpec : ChangeSpec := { name := "timelineQuiet", fn := fun _ => fun
  | [d1, d2, d3, d4, d5] => { results := [.lit (.bool true)], args := [d1, d2, d3, d4, d5] }
  | _ => none }
def timelineQuietRow : OpenClaim := { program := "ytmbfmnhcahhciaa", sum := "cf5c75a80420f9fef86154b5c40611a02c3e076f05dedb915480628d93bda507", func := "erewhile/erewhilelaw63.TimelineQuiet", spec := "timelineQuiet", unfollowed := true, recurses := true, apart := false }
def TimelineQuietSaid : Prop := timelineQuietRow.holds Try.pinned (OpenSpec.ofChange timelineQuietSpec)

/-- ITS FALSE NEIGHBOUR: 'it returns false'. Refute it at one input. -/
def timelineQuietWrong : ChangeSpec := { name := "timelineQuiet", fn := fun _ => fun
  | [d1, d2, d3, d4, d5] => { results := [.lit (.bool false)], args := [d1, d2, d3, d4, d5] }
  | _ => none }
def TimelineQuietWrongFalsely : Prop := timelineQuietRow.holds Try.pinned (OpenSpec.ofChange timelineQuietWrong)

/-- 'erewhilelaw63.TimelineWrong': WHATEVER THE INPUT: true; the input reads as it did. -/
def timelineWrongSpec : ChangeSpec := { name := "timelineWrong", fn := fun _ => fun
  | [d1, d2] => { results := [.lit (.bool true)], args := [d1, d2] }
  | _ => none }
def timelineWrongRow : OpenClaim := { program := "ytmbfmnhcahhciaa", sum := "cf5c75a80420f9fef86154b5c40611a02c3e076f05dedb915480628d93bda507", func := "erewhile/erewhilelaw63.TimelineWrong", spec := "timelineWrong", unfollowed := true, recurses := true, apart := false }
def TimelineWrongSaid : Prop := timelineWrongRow.holds Try.pinned (OpenSpec.ofChange timelineWrongSpec)

/-- ITS FALSE NEIGHBOUR: 'it returns false'. Refute it at one input. -/
def timelineWrongWrong : ChangeSpec := { name := "timelineWrong", fn := fun _ => fun
  | [d1, d2] => { results := [.lit (.bool false)], args := [d1, d2] }
  | _ => none }
def TimelineWrongWrongFalsely : Prop := timelineWrongRow.holds Try.pinned (OpenSpec.ofChange timelineWrongWrong)

/-- 'erewhilelaw63.TimelineAt': WHATEVER THE INPUT: true; the input reads as it did. -/
def timelineAtSpec : ChangeSpec := { name := "timelineAt", fn := fun _ => fun
  | [d1, d2, d3] => { results := [.lit (.bool true)], args := [d1, d2, d3] }
  | _ => none }
def timelineAtRow : OpenClaim := { program := "ytmbfmnhcahhciaa", sum := "cf5c75a80420f9fef86154b5c40611a02c3e076f05dedb915480628d93bda507", func := "erewhile/erewhilelaw63.TimelineAt", spec := "timelineAt", unfollowed := true, recurses := true, apart := false }
def TimelineAtSaid : Prop := timelineAtRow.holds Try.pinned (OpenSpec.ofChange timelineAtSpec)

/-- ITS FALSE NEIGHBOUR: 'it returns false'. Refute it at one input. -/
def timelineAtWrong : ChangeSpec := { name := "timelineAt", fn := fun _ => fun
  | [d1, d2, d3] => { results := [.lit (.bool false)], args := [d1, d2, d3] }
  | _ => none }
def TimelineAtWrongFalsely : Prop := timelineAtRow.holds Try.pinned (OpenSpec.ofChange timelineAtWrong)

/-- 'erewhilelaw63.TimelinePast': WHATEVER THE INPUT: true; the input reads as it did. -/
def timelinePastSpec : ChangeSpec := { name := "timelinePast", fn := fun _ => fun
  | [d1, d2, d3] => { results := [.lit (.bool true)], args := [d1, d2, d3] }
  | _ => none }
def timelinePastRow : OpenClaim := { program := "ytmbfmnhcahhciaa", sum := "cf5c75a80420f9fef86154b5c40611a02c3e076f05dedb915480628d93bda507", func := "erewhile/erewhilelaw63.TimelinePast", spec := "timelinePast", unfollowed := true, recurses := true, apart := false }
def TimelinePastSaid : Prop := timelinePastRow.holds Try.pinned (OpenSpec.ofChange timelinePastSpec)

/-- ITS FALSE NEIGHBOUR: 'it returns false'. Refute it at one input. -/
def timelinePastWrong : ChangeSpec := { name := "timelinePast", fn := fun _ => fun
  | [d1, d2, d3] => { results := [.lit (.bool false)], args := [d1, d2, d3] }
  | _ => none }
def TimelinePastWrongFalsely : Prop := timelinePastRow.holds Try.pinned (OpenSpec.ofChange timelinePastWrong)

/- THE SECOND FORM. 'bulk': how many values and letters a reading holds, each counted each time it is reached (what is shared counts as often as it is met; a slice's spare places count too). A statement '..UptoSaid' is the law's where the arguments, and the package variables that the reading takes, are together of bulk at most 1048576: NARROWER than '..Said'. Prove '..Said' where nothing that the law and all that it calls make is longer than what came in: it says more and counts as full. Else prove '..UptoSaid'. A law counts once. -/
mutual
def uptoBulk {H : Type} : DataW H → Nat
  | .lit (.string bytes) => bytes.length + 1
  | .lit _ => 1
  | .nil => 1
  | .ptr d => uptoBulk d + 1
  | .slice elems spare => uptoBulkAll elems + uptoBulkAll spare + 1
  | .agg parts => uptoBulkAll parts + 1
  | .iface _ d => uptoBulk d + 1
  | .map entries => uptoBulkEntries entries + 1
  | .held _ => 1
def uptoBulkAll {H : Type} : List (DataW H) → Nat
  | [] => 0
  | d :: r => uptoBulk d + uptoBulkAll r
def uptoBulkEntries {H : Type} : List (Lit × DataW H) → Nat
  | [] => 0
  | x :: r => uptoBulkEntry x + uptoBulkEntries r
def uptoBulkEntry {H : Type} : Lit × DataW H → Nat
  | (.string bytes, d) => bytes.length + uptoBulk d + 1
  | (_, d) => uptoBulk d + 1
 end
def uptoSmall : (H : Type) → List (DataW H) → Bool := fun _ ds => decide (uptoBulkAll ds ≤ 1048576)
def OpenSpec.upto (s : _root_.Go.ChangeSpec) : _root_.Go.OpenSpec := { _root_.Go.OpenSpec.ofChange s with cond := some uptoSmall }

/-- 'erewhilelaw63.TimelineOf', WHERE WHAT IT READS IS OF BULK AT MOST 1048576: true; the input reads as it did. -/
def timelineOfUptoRow : OpenClaim := { program := "ytmbfmnhcahhciaa", sum := "cf5c75a80420f9fef86154b5c40611a02c3e076f05dedb915480628d93bda507", func := "erewhile/erewhilelaw63.TimelineOf", spec := "timelineOf", unfollowed := true, recurses := true, apart := false, narrowed := true }
def TimelineOfUptoSaid : Prop := timelineOfUptoRow.holds Try.pinned (OpenSpec.upto timelineOfSpec)

/-- 'erewhilelaw63.TimelineParts', WHERE WHAT IT READS IS OF BULK AT MOST 1048576: true; the input reads as it did. -/
def timelinePartsUptoRow : OpenClaim := { program := "ytmbfmnhcahhciaa", sum := "cf5c75a80420f9fef86154b5c40611a02c3e076f05dedb915480628d93bda507", func := "erewhile/erewhilelaw63.TimelineParts", spec := "timelineParts", unfollowed := true, recurses := true, apart := false, narrowed := true }
def TimelinePartsUptoSaid : Prop := timelinePartsUptoRow.holds Try.pinned (OpenSpec.upto timelinePartsSpec)

/-- 'erewhilelaw63.TimelineStill', WHERE WHAT IT READS IS OF BULK AT MOST 1048576: true; the input reads as it did. -/
def timelineStillUptoRow : OpenClaim := { program := "ytmbfmnhcahhciaa", sum := "cf5c75a80420f9fef86154b5c40611a02c3e076f05dedb915480628d93bda507", func := "erewhile/erewhilelaw63.TimelineStill", spec := "timelineStill", unfollowed := true, recurses := true, apart := false, narrowed := true }
def TimelineStillUptoSaid : Prop := timelineStillUptoRow.holds Try.pinned (OpenSpec.upto timelineStillSpec)

/-- 'erewhilelaw63.TimelineFile', WHERE WHAT IT READS IS OF BULK AT MOST 1048576: true; the input reads as it did. -/
def timelineFileUptoRow : OpenClaim := { program := "ytmbfmnhcahhciaa", sum := "cf5c75a80420f9fef86154b5c40611a02c3e076f05dedb915480628d93bda507", func := "erewhile/erewhilelaw63.TimelineFile", spec := "timelineFile", unfollowed := true, recurses := true, apart := false, narrowed := true }
def TimelineFileUptoSaid : Prop := timelineFileUptoRow.holds Try.pinned (OpenSpec.upto timelineFileSpec)

/-- 'erewhilelaw63.TimelineQuiet', WHERE WHAT IT READS IS OF BULK AT MOST 1048576: true; the input reads as it did. -/
def timelineQuietUptoRow : OpenClaim := { program := "ytmbfmnhcahhciaa", sum := "cf5c75a80420f9fef86154b5c40611a02c3e076f05dedb915480628d93bda507", func := "erewhile/erewhilelaw63.TimelineQuiet", spec := "timelineQuiet", unfollowed := true, recurses := true, apart := false, narrowed := true }
def TimelineQuietUptoSaid : Prop := timelineQuietUptoRow.holds Try.pinned (OpenSpec.upto timelineQuietSpec)

/-- 'erewhilelaw63.TimelineWrong', WHERE WHAT IT READS IS OF BULK AT MOST 1048576: true; the input reads as it did. -/
def timelineWrongUptoRow : OpenClaim := { program := "ytmbfmnhcahhciaa", sum := "cf5c75a80420f9fef86154b5c40611a02c3e076f05dedb915480628d93bda507", func := "erewhile/erewhilelaw63.TimelineWrong", spec := "timelineWrong", unfollowed := true, recurses := true, apart := false, narrowed := true }
def TimelineWrongUptoSaid : Prop := timelineWrongUptoRow.holds Try.pinned (OpenSpec.upto timelineWrongSpec)

/-- 'erewhilelaw63.TimelineAt', WHERE WHAT IT READS IS OF BULK AT MOST 1048576: true; the input reads as it did. -/
def timelineAtUptoRow : OpenClaim := { program := "ytmbfmnhcahhciaa", sum := "cf5c75a80420f9fef86154b5c40611a02c3e076f05dedb915480628d93bda507", func := "erewhile/erewhilelaw63.TimelineAt", spec := "timelineAt", unfollowed := true, recurses := true, apart := false, narrowed := true }
def TimelineAtUptoSaid : Prop := timelineAtUptoRow.holds Try.pinned (OpenSpec.upto timelineAtSpec)

/-- 'erewhilelaw63.TimelinePast', WHERE WHAT IT READS IS OF BULK AT MOST 1048576: true; the input reads as it did. -/
def timelinePastUptoRow : OpenClaim := { program := "ytmbfmnhcahhciaa", sum := "cf5c75a80420f9fef86154b5c40611a02c3e076f05dedb915480628d93bda507", func := "erewhile/erewhilelaw63.TimelinePast", spec := "timelinePast", unfollowed := true, recurses := true, apart := false, narrowed := true }
def TimelinePastUptoSaid : Prop := timelinePastUptoRow.holds Try.pinned (OpenSpec.upto timelinePastSpec)

end Rows
end Go.Proofs.Ytmbfmnhcahhciaa
