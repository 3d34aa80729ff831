/-
  No cell of these rows narrows 'for every input' (looked for: loops, veiled, ifaces, maps, wideKeys, modest, calm, conditions, laid).
  DERIVED. THE GIVEN ROWS OF THIS SEAT. 4 by the template 'for every input the law returns true; each argument reads behind the call as it read before'; 0 by the template 'total and deterministic' (their statements: YtpkodkoooaldlaaTotals.lean).
  GIVEN WITH THE SEED: the statements are not yours to turn. If you find one false, say at which input.
  Laid BY PROGRAM, IN A SANDBOX (cutbox-rows.mjs): the forced cells as the released guide's own fill.sh prints them over the translation da3c050e5c1d19a8… (all of the seat's roots in one cut). By AI agents, Wed Nov 11 2026. No macro, syntax, notation, axiom, sorry.
-/
import Derived.Test.YtpkodkoooaldlaaChecked
import GoSem.Claim
import GoSem.ClaimJoined
import GoSem.ClaimMapViews
import Derived.JoinedTies
import Derived.KernelRfl
namespace Go.Proofs.Ytpkodkoooaldlaa
/- THE CELL 'sum', in the pinned program and in every row, IS THE sha256 OF THE DUMP (.gsa) THAT YtpkodkoooaldlaaProg.lean LOADS. Nothing in Lean hashes anything: it is a label: what it is worth is what the hold of that sum in a sandbox is worth. -/
noncomputable def Try.pinned : Pinned := { name := "ytpkodkoooaldlaa", sum := "da3c050e5c1d19a853f9e20edb9fd4bd96d6a4ac05868fe748f58c8281031ad1", checked := Try.checked }
namespace Rows
def none {H : Type} : Left H := { results := [], args := [] }

/-- 'erewhilelaw31.DiffViews': WHATEVER THE INPUT: true; the input reads as it did. -/
def diffViewsSpec : ChangeSpec := { name := "diffViews", fn := fun _ => fun
  | [d1, d2, d3, d4, d5] => { results := [.lit (.bool true)], args := [d1, d2, d3, d4, d5] }
  | _ => none }
def diffViewsRow : OpenClaim := { program := "ytpkodkoooaldlaa", sum := "da3c050e5c1d19a853f9e20edb9fd4bd96d6a4ac05868fe748f58c8281031ad1", func := "erewhile/erewhilelaw31.DiffViews", spec := "diffViews", inPlace := ["maps.clone", "slices.overlaps[erewhile/api.Spot]", "slices.overlaps[uint64]"], unfollowed := true, recurses := true, plainKeys := false, apart := false }
def DiffViewsSaid : Prop := diffViewsRow.holds Try.pinned (OpenSpec.ofChange diffViewsSpec)

/-- ITS FALSE NEIGHBOUR: 'it returns false'. Refute it at one input. -/
def diffViewsWrong : ChangeSpec := { name := "diffViews", fn := fun _ => fun
  | [d1, d2, d3, d4, d5] => { results := [.lit (.bool false)], args := [d1, d2, d3, d4, d5] }
  | _ => none }
def DiffViewsWrongFalsely : Prop := diffViewsRow.holds Try.pinned (OpenSpec.ofChange diffViewsWrong)

/-- 'erewhilelaw31.DiffStill': WHATEVER THE INPUT: true; the input reads as it did. -/
def diffStillSpec : ChangeSpec := { name := "diffStill", fn := fun _ => fun
  | [d1, d2, d3] => { results := [.lit (.bool true)], args := [d1, d2, d3] }
  | _ => none }
def diffStillRow : OpenClaim := { program := "ytpkodkoooaldlaa", sum := "da3c050e5c1d19a853f9e20edb9fd4bd96d6a4ac05868fe748f58c8281031ad1", func := "erewhile/erewhilelaw31.DiffStill", spec := "diffStill", inPlace := ["maps.clone", "slices.overlaps[erewhile/api.Spot]", "slices.overlaps[uint64]"], unfollowed := true, recurses := true, plainKeys := false, apart := false }
def DiffStillSaid : Prop := diffStillRow.holds Try.pinned (OpenSpec.ofChange diffStillSpec)

/-- ITS FALSE NEIGHBOUR: 'it returns false'. Refute it at one input. -/
def diffStillWrong : ChangeSpec := { name := "diffStill", fn := fun _ => fun
  | [d1, d2, d3] => { results := [.lit (.bool false)], args := [d1, d2, d3] }
  | _ => none }
def DiffStillWrongFalsely : Prop := diffStillRow.holds Try.pinned (OpenSpec.ofChange diffStillWrong)

/-- 'erewhilelaw31.DiffFork': WHATEVER THE INPUT: true; the input reads as it did. -/
def diffForkSpec : ChangeSpec := { name := "diffFork", fn := fun _ => fun
  | [d1, d2, d3] => { results := [.lit (.bool true)], args := [d1, d2, d3] }
  | _ => none }
def diffForkRow : OpenClaim := { program := "ytpkodkoooaldlaa", sum := "da3c050e5c1d19a853f9e20edb9fd4bd96d6a4ac05868fe748f58c8281031ad1", func := "erewhile/erewhilelaw31.DiffFork", spec := "diffFork", inPlace := ["maps.clone", "slices.overlaps[erewhile/api.Spot]", "slices.overlaps[uint64]"], unfollowed := true, recurses := true, plainKeys := false, apart := false }
def DiffForkSaid : Prop := diffForkRow.holds Try.pinned (OpenSpec.ofChange diffForkSpec)

/-- ITS FALSE NEIGHBOUR: 'it returns false'. Refute it at one input. -/
def diffForkWrong : ChangeSpec := { name := "diffFork", fn := fun _ => fun
  | [d1, d2, d3] => { results := [.lit (.bool false)], args := [d1, d2, d3] }
  | _ => none }
def DiffForkWrongFalsely : Prop := diffForkRow.holds Try.pinned (OpenSpec.ofChange diffForkWrong)

/-- 'erewhilelaw31.DiffRestores': WHATEVER THE INPUT: true; the input reads as it did. -/
def diffRestoresSpec : ChangeSpec := { name := "diffRestores", fn := fun _ => fun
  | [d1, d2, d3] => { results := [.lit (.bool true)], args := [d1, d2, d3] }
  | _ => none }
def diffRestoresRow : OpenClaim := { program := "ytpkodkoooaldlaa", sum := "da3c050e5c1d19a853f9e20edb9fd4bd96d6a4ac05868fe748f58c8281031ad1", func := "erewhile/erewhilelaw31.DiffRestores", spec := "diffRestores", inPlace := ["maps.clone", "slices.overlaps[erewhile/api.Spot]", "slices.overlaps[uint64]"], unfollowed := true, recurses := true, plainKeys := false, apart := false }
def DiffRestoresSaid : Prop := diffRestoresRow.holds Try.pinned (OpenSpec.ofChange diffRestoresSpec)

/-- ITS FALSE NEIGHBOUR: 'it returns false'. Refute it at one input. -/
def diffRestoresWrong : ChangeSpec := { name := "diffRestores", fn := fun _ => fun
  | [d1, d2, d3] => { results := [.lit (.bool false)], args := [d1, d2, d3] }
  | _ => none }
def DiffRestoresWrongFalsely : Prop := diffRestoresRow.holds Try.pinned (OpenSpec.ofChange diffRestoresWrong)

/- THE SECOND FORM. 'bulk': how many values and letters a reading holds, each counted each time it is reached (what is shared counts as often as it is met; a slice's spare places count too). A statement '..UptoSaid' is the law's where the arguments, and the package variables that the reading takes, are together of bulk at most 1048576: NARROWER than '..Said'. Prove '..Said' where nothing that the law and all that it calls make is longer than what came in: it says more and counts as full. Else prove '..UptoSaid'. A law counts once. -/
mutual
def uptoBulk {H : Type} : DataW H → Nat
  | .lit (.string bytes) => bytes.length + 1
  | .lit _ => 1
  | .nil => 1
  | .ptr d => uptoBulk d + 1
  | .slice elems spare => uptoBulkAll elems + uptoBulkAll spare + 1
  | .agg parts => uptoBulkAll parts + 1
  | .iface _ d => uptoBulk d + 1
  | .map entries => uptoBulkEntries entries + 1
  | .held _ => 1
def uptoBulkAll {H : Type} : List (DataW H) → Nat
  | [] => 0
  | d :: r => uptoBulk d + uptoBulkAll r
def uptoBulkEntries {H : Type} : List (Lit × DataW H) → Nat
  | [] => 0
  | x :: r => uptoBulkEntry x + uptoBulkEntries r
def uptoBulkEntry {H : Type} : Lit × DataW H → Nat
  | (.string bytes, d) => bytes.length + uptoBulk d + 1
  | (_, d) => uptoBulk d + 1
 end
def uptoSmall : (H : Type) → List (DataW H) → Bool := fun _ ds => decide (uptoBulkAll ds ≤ 1048576)
def OpenSpec.upto (s : _root_.Go.ChangeSpec) : _root_.Go.OpenSpec := { _root_.Go.OpenSpec.ofChange s with cond := some uptoSmall }

/-- 'erewhilelaw31.DiffViews', WHERE WHAT IT READS IS OF BULK AT MOST 1048576: true; the input reads as it did. -/
def diffViewsUptoRow : OpenClaim := { program := "ytpkodkoooaldlaa", sum := "da3c050e5c1d19a853f9e20edb9fd4bd96d6a4ac05868fe748f58c8281031ad1", func := "erewhile/erewhilelaw31.DiffViews", spec := "diffViews", inPlace := ["maps.clone", "slices.overlaps[erewhile/api.Spot]", "slices.overlaps[uint64]"], unfollowed := true, recurses := true, plainKeys := false, apart := false, narrowed := true }
def DiffViewsUptoSaid : Prop := diffViewsUptoRow.holds Try.pinned (OpenSpec.upto diffViewsSpec)

/-- 'erewhilelaw31.DiffStill', WHERE WHAT IT READS IS OF BULK AT MOST 1048576: true; the input reads as it did. -/
def diffStillUptoRow : OpenClaim := { program := "ytpkodkoooaldlaa", sum := "da3c050e5c1d19a853f9e20edb9fd4bd96d6a4ac05868fe748f58c8281031ad1", func := "erewhile/erewhilelaw31.DiffStill", spec := "diffStill", inPlace := ["maps.clone", "slices.overlaps[erewhile/api.Spot]", "slices.overlaps[uint64]"], unfollowed := true, recurses := true, plainKeys := false, apart := false, narrowed := true }
def DiffStillUptoSaid : Prop := diffStillUptoRow.holds Try.pinned (OpenSpec.upto diffStillSpec)

/-- 'erewhilelaw31.DiffFork', WHERE WHAT IT READS IS OF BULK AT MOST 1048576: true; the input reads as it did. -/
def diffForkUptoRow : OpenClaim := { program := "ytpkodkoooaldlaa", sum := "da3c050e5c1d19a853f9e20edb9fd4bd96d6a4ac05868fe748f58c8281031ad1", func := "erewhile/erewhilelaw31.DiffFork", spec := "diffFork", inPlace := ["maps.clone", "slices.overlaps[erewhile/api.Spot]", "slices.overlaps[uint64]"], unfollowed := true, recurses := true, plainKeys := false, apart := false, narrowed := true }
def DiffForkUptoSaid : Prop := diffForkUptoRow.holds Try.pinned (OpenSpec.upto diffForkSpec)

/-- 'erewhilelaw31.DiffRestores', WHERE WHAT IT READS IS OF BULK AT MOST 1048576: true; the input reads as it did. -/
def diffRestoresUptoRow : OpenClaim := { program := "ytpkodkoooaldlaa", sum := "da3c050e5c1d19a853f9e20edb9fd4bd96d6a4ac05868fe748f58c8281031ad1", func := "erewhile/erewhilelaw31.DiffRestores", spec := "diffRestores", inPlace := ["maps.clone", "slices.overlaps[erewhile/api.Spot]", "slices.overlaps[uint64]"], unfollowed := true, recurses := true, plainKeys := false, apart := false, narrowed := true }
def DiffRestoresUptoSaid : Prop := diffRestoresUptoRow.holds Try.pinned (OpenSpec.upto diffRestoresSpec)

end Rows
end Go.Proofs.Ytpkodkoooaldlaa
