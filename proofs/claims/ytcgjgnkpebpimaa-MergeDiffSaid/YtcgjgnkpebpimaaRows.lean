/-
  No cell of these rows narrows 'for every input' (looked for: loops, veiled, ifaces, maps, wideKeys, modest, calm, conditions, laid).
  DERIVED. THE GIVEN ROWS OF THIS SEAT. 8 by the template 'for every input the law returns true; each argument reads behind the call as it read before'; 0 by the template 'total and deterministic' (their statements: YtcgjgnkpebpimaaTotals.lean).
  GIVEN WITH THE SEED: the statements are not yours to turn. If you find one false, say at which input.
  Laid BY PROGRAM, IN A SANDBOX (cutbox-rows.mjs): the forced cells as the released guide's own fill.sh prints them over the translation ae504a6963d08f67… (all of the seat's roots in one cut). By AI agents, Wed Nov 11 2026. No macro, syntax, notation, axiom, sorry.
-/
import Derived.Test.YtcgjgnkpebpimaaChecked
import GoSem.Claim
import GoSem.ClaimJoined
import GoSem.ClaimMapViews
import Derived.JoinedTies
import Derived.KernelRfl
namespace Go.Proofs.Ytcgjgnkpebpimaa
/- THE CELL 'sum', in the pinned program and in every row, IS THE sha256 OF THE DUMP (.gsa) THAT YtcgjgnkpebpimaaProg.lean LOADS. Nothing in Lean hashes anything: it is a label: what it is worth is what the hold of that sum in a sandbox is worth. -/
noncomputable def Try.pinned : Pinned := { name := "ytcgjgnkpebpimaa", sum := "ae504a6963d08f672ac05abddb09c3d48c75ca146a9c38a5457c97cd9a00dd5c", checked := Try.checked }
namespace Rows
def none {H : Type} : Left H := { results := [], args := [] }

/-- 'erewhilelaw32.MergeThree': WHATEVER THE INPUT: true; the input reads as it did. -/
def mergeThreeSpec : ChangeSpec := { name := "mergeThree", fn := fun _ => fun
  | [d1, d2, d3, d4] => { results := [.lit (.bool true)], args := [d1, d2, d3, d4] }
  | _ => none }
def mergeThreeRow : OpenClaim := { program := "ytcgjgnkpebpimaa", sum := "ae504a6963d08f672ac05abddb09c3d48c75ca146a9c38a5457c97cd9a00dd5c", func := "erewhile/erewhilelaw32.MergeThree", spec := "mergeThree", unfollowed := true, recurses := true, plainKeys := false, apart := false }
def MergeThreeSaid : Prop := mergeThreeRow.holds Try.pinned (OpenSpec.ofChange mergeThreeSpec)

/-- ITS FALSE NEIGHBOUR: 'it returns false'. Refute it at one input. -/
def mergeThreeWrong : ChangeSpec := { name := "mergeThree", fn := fun _ => fun
  | [d1, d2, d3, d4] => { results := [.lit (.bool false)], args := [d1, d2, d3, d4] }
  | _ => none }
def MergeThreeWrongFalsely : Prop := mergeThreeRow.holds Try.pinned (OpenSpec.ofChange mergeThreeWrong)

/-- 'erewhilelaw32.MergeSame': WHATEVER THE INPUT: true; the input reads as it did. -/
def mergeSameSpec : ChangeSpec := { name := "mergeSame", fn := fun _ => fun
  | [d1, d2, d3] => { results := [.lit (.bool true)], args := [d1, d2, d3] }
  | _ => none }
def mergeSameRow : OpenClaim := { program := "ytcgjgnkpebpimaa", sum := "ae504a6963d08f672ac05abddb09c3d48c75ca146a9c38a5457c97cd9a00dd5c", func := "erewhile/erewhilelaw32.MergeSame", spec := "mergeSame", unfollowed := true, recurses := true, plainKeys := false, apart := false }
def MergeSameSaid : Prop := mergeSameRow.holds Try.pinned (OpenSpec.ofChange mergeSameSpec)

/-- ITS FALSE NEIGHBOUR: 'it returns false'. Refute it at one input. -/
def mergeSameWrong : ChangeSpec := { name := "mergeSame", fn := fun _ => fun
  | [d1, d2, d3] => { results := [.lit (.bool false)], args := [d1, d2, d3] }
  | _ => none }
def MergeSameWrongFalsely : Prop := mergeSameRow.holds Try.pinned (OpenSpec.ofChange mergeSameWrong)

/-- 'erewhilelaw32.MergeTurned': WHATEVER THE INPUT: true; the input reads as it did. -/
def mergeTurnedSpec : ChangeSpec := { name := "mergeTurned", fn := fun _ => fun
  | [d1, d2, d3, d4] => { results := [.lit (.bool true)], args := [d1, d2, d3, d4] }
  | _ => none }
def mergeTurnedRow : OpenClaim := { program := "ytcgjgnkpebpimaa", sum := "ae504a6963d08f672ac05abddb09c3d48c75ca146a9c38a5457c97cd9a00dd5c", func := "erewhile/erewhilelaw32.MergeTurned", spec := "mergeTurned", unfollowed := true, recurses := true, plainKeys := false, apart := false }
def MergeTurnedSaid : Prop := mergeTurnedRow.holds Try.pinned (OpenSpec.ofChange mergeTurnedSpec)

/-- ITS FALSE NEIGHBOUR: 'it returns false'. Refute it at one input. -/
def mergeTurnedWrong : ChangeSpec := { name := "mergeTurned", fn := fun _ => fun
  | [d1, d2, d3, d4] => { results := [.lit (.bool false)], args := [d1, d2, d3, d4] }
  | _ => none }
def MergeTurnedWrongFalsely : Prop := mergeTurnedRow.holds Try.pinned (OpenSpec.ofChange mergeTurnedWrong)

/-- 'erewhilelaw32.MergeOne': WHATEVER THE INPUT: true; the input reads as it did. -/
def mergeOneSpec : ChangeSpec := { name := "mergeOne", fn := fun _ => fun
  | [d1, d2] => { results := [.lit (.bool true)], args := [d1, d2] }
  | _ => none }
def mergeOneRow : OpenClaim := { program := "ytcgjgnkpebpimaa", sum := "ae504a6963d08f672ac05abddb09c3d48c75ca146a9c38a5457c97cd9a00dd5c", func := "erewhile/erewhilelaw32.MergeOne", spec := "mergeOne", unfollowed := true, recurses := true, plainKeys := false, apart := false }
def MergeOneSaid : Prop := mergeOneRow.holds Try.pinned (OpenSpec.ofChange mergeOneSpec)

/-- ITS FALSE NEIGHBOUR: 'it returns false'. Refute it at one input. -/
def mergeOneWrong : ChangeSpec := { name := "mergeOne", fn := fun _ => fun
  | [d1, d2] => { results := [.lit (.bool false)], args := [d1, d2] }
  | _ => none }
def MergeOneWrongFalsely : Prop := mergeOneRow.holds Try.pinned (OpenSpec.ofChange mergeOneWrong)

/-- 'erewhilelaw32.MergeApart': WHATEVER THE INPUT: true; the input reads as it did. -/
def mergeApartSpec : ChangeSpec := { name := "mergeApart", fn := fun _ => fun
  | [d1, d2, d3] => { results := [.lit (.bool true)], args := [d1, d2, d3] }
  | _ => none }
def mergeApartRow : OpenClaim := { program := "ytcgjgnkpebpimaa", sum := "ae504a6963d08f672ac05abddb09c3d48c75ca146a9c38a5457c97cd9a00dd5c", func := "erewhile/erewhilelaw32.MergeApart", spec := "mergeApart", unfollowed := true, recurses := true, plainKeys := false, apart := false }
def MergeApartSaid : Prop := mergeApartRow.holds Try.pinned (OpenSpec.ofChange mergeApartSpec)

/-- ITS FALSE NEIGHBOUR: 'it returns false'. Refute it at one input. -/
def mergeApartWrong : ChangeSpec := { name := "mergeApart", fn := fun _ => fun
  | [d1, d2, d3] => { results := [.lit (.bool false)], args := [d1, d2, d3] }
  | _ => none }
def MergeApartWrongFalsely : Prop := mergeApartRow.holds Try.pinned (OpenSpec.ofChange mergeApartWrong)

/-- 'erewhilelaw32.MergeOrder': WHATEVER THE INPUT: true; the input reads as it did. -/
def mergeOrderSpec : ChangeSpec := { name := "mergeOrder", fn := fun _ => fun
  | [d1, d2, d3, d4] => { results := [.lit (.bool true)], args := [d1, d2, d3, d4] }
  | _ => none }
def mergeOrderRow : OpenClaim := { program := "ytcgjgnkpebpimaa", sum := "ae504a6963d08f672ac05abddb09c3d48c75ca146a9c38a5457c97cd9a00dd5c", func := "erewhile/erewhilelaw32.MergeOrder", spec := "mergeOrder", unfollowed := true, recurses := true, plainKeys := false, apart := false }
def MergeOrderSaid : Prop := mergeOrderRow.holds Try.pinned (OpenSpec.ofChange mergeOrderSpec)

/-- ITS FALSE NEIGHBOUR: 'it returns false'. Refute it at one input. -/
def mergeOrderWrong : ChangeSpec := { name := "mergeOrder", fn := fun _ => fun
  | [d1, d2, d3, d4] => { results := [.lit (.bool false)], args := [d1, d2, d3, d4] }
  | _ => none }
def MergeOrderWrongFalsely : Prop := mergeOrderRow.holds Try.pinned (OpenSpec.ofChange mergeOrderWrong)

/-- 'erewhilelaw32.MergeMore': WHATEVER THE INPUT: true; the input reads as it did. -/
def mergeMoreSpec : ChangeSpec := { name := "mergeMore", fn := fun _ => fun
  | [d1, d2, d3] => { results := [.lit (.bool true)], args := [d1, d2, d3] }
  | _ => none }
def mergeMoreRow : OpenClaim := { program := "ytcgjgnkpebpimaa", sum := "ae504a6963d08f672ac05abddb09c3d48c75ca146a9c38a5457c97cd9a00dd5c", func := "erewhile/erewhilelaw32.MergeMore", spec := "mergeMore", unfollowed := true, recurses := true, plainKeys := false, apart := false }
def MergeMoreSaid : Prop := mergeMoreRow.holds Try.pinned (OpenSpec.ofChange mergeMoreSpec)

/-- ITS FALSE NEIGHBOUR: 'it returns false'. Refute it at one input. -/
def mergeMoreWrong : ChangeSpec := { name := "mergeMore", fn := fun _ => fun
  | [d1, d2, d3] => { results := [.lit (.bool false)], args := [d1, d2, d3] }
  | _ => none }
def MergeMoreWrongFalsely : Prop := mergeMoreRow.holds Try.pinned (OpenSpec.ofChange mergeMoreWrong)

/-- 'erewhilelaw32.MergeDiff': WHATEVER THE INPUT: true; the input reads as it did. -/
def mergeDiffSpec : ChangeSpec := { name := "mergeDiff", fn := fun _ => fun
  | [d1, d2, d3] => { results := [.lit (.bool true)], args := [d1, d2, d3] }
  | _ => none }
def mergeDiffRow : OpenClaim := { program := "ytcgjgnkpebpimaa", sum := "ae504a6963d08f672ac05abddb09c3d48c75ca146a9c38a5457c97cd9a00dd5c", func := "erewhile/erewhilelaw32.MergeDiff", spec := "mergeDiff", inPlace := ["maps.clone"], unfollowed := true, recurses := true, plainKeys := false, apart := false }
def MergeDiffSaid : Prop := mergeDiffRow.holds Try.pinned (OpenSpec.ofChange mergeDiffSpec)

/-- ITS FALSE NEIGHBOUR: 'it returns false'. Refute it at one input. -/
def mergeDiffWrong : ChangeSpec := { name := "mergeDiff", fn := fun _ => fun
  | [d1, d2, d3] => { results := [.lit (.bool false)], args := [d1, d2, d3] }
  | _ => none }
def MergeDiffWrongFalsely : Prop := mergeDiffRow.holds Try.pinned (OpenSpec.ofChange mergeDiffWrong)

/- THE SECOND FORM. 'bulk': how many values and letters a reading holds, each counted each time it is reached (what is shared counts as often as it is met; a slice's spare places count too). A statement '..UptoSaid' is the law's where the arguments, and the package variables that the reading takes, are together of bulk at most 1048576: NARROWER than '..Said'. Prove '..Said' where nothing that the law and all that it calls make is longer than what came in: it says more and counts as full. Else prove '..UptoSaid'. A law counts once. -/
mutual
def uptoBulk {H : Type} : DataW H → Nat
  | .lit (.string bytes) => bytes.length + 1
  | .lit _ => 1
  | .nil => 1
  | .ptr d => uptoBulk d + 1
  | .slice elems spare => uptoBulkAll elems + uptoBulkAll spare + 1
  | .agg parts => uptoBulkAll parts + 1
  | .iface _ d => uptoBulk d + 1
  | .map entries => uptoBulkEntries entries + 1
  | .held _ => 1
def uptoBulkAll {H : Type} : List (DataW H) → Nat
  | [] => 0
  | d :: r => uptoBulk d + uptoBulkAll r
def uptoBulkEntries {H : Type} : List (Lit × DataW H) → Nat
  | [] => 0
  | x :: r => uptoBulkEntry x + uptoBulkEntries r
def uptoBulkEntry {H : Type} : Lit × DataW H → Nat
  | (.string bytes, d) => bytes.length + uptoBulk d + 1
  | (_, d) => uptoBulk d + 1
 end
def uptoSmall : (H : Type) → List (DataW H) → Bool := fun _ ds => decide (uptoBulkAll ds ≤ 1048576)
def OpenSpec.upto (s : _root_.Go.ChangeSpec) : _root_.Go.OpenSpec := { _root_.Go.OpenSpec.ofChange s with cond := some uptoSmall }

/-- 'erewhilelaw32.MergeThree', WHERE WHAT IT READS IS OF BULK AT MOST 1048576: true; the input reads as it did. -/
def mergeThreeUptoRow : OpenClaim := { program := "ytcgjgnkpebpimaa", sum := "ae504a6963d08f672ac05abddb09c3d48c75ca146a9c38a5457c97cd9a00dd5c", func := "erewhile/erewhilelaw32.MergeThree", spec := "mergeThree", unfollowed := true, recurses := true, plainKeys := false, apart := false, narrowed := true }
def MergeThreeUptoSaid : Prop := mergeThreeUptoRow.holds Try.pinned (OpenSpec.upto mergeThreeSpec)

/-- 'erewhilelaw32.MergeSame', WHERE WHAT IT READS IS OF BULK AT MOST 1048576: true; the input reads as it did. -/
def mergeSameUptoRow : OpenClaim := { program := "ytcgjgnkpebpimaa", sum := "ae504a6963d08f672ac05abddb09c3d48c75ca146a9c38a5457c97cd9a00dd5c", func := "erewhile/erewhilelaw32.MergeSame", spec := "mergeSame", unfollowed := true, recurses := true, plainKeys := false, apart := false, narrowed := true }
def MergeSameUptoSaid : Prop := mergeSameUptoRow.holds Try.pinned (OpenSpec.upto mergeSameSpec)

/-- 'erewhilelaw32.MergeTurned', WHERE WHAT IT READS IS OF BULK AT MOST 1048576: true; the input reads as it did. -/
def mergeTurnedUptoRow : OpenClaim := { program := "ytcgjgnkpebpimaa", sum := "ae504a6963d08f672ac05abddb09c3d48c75ca146a9c38a5457c97cd9a00dd5c", func := "erewhile/erewhilelaw32.MergeTurned", spec := "mergeTurned", unfollowed := true, recurses := true, plainKeys := false, apart := false, narrowed := true }
def MergeTurnedUptoSaid : Prop := mergeTurnedUptoRow.holds Try.pinned (OpenSpec.upto mergeTurnedSpec)

/-- 'erewhilelaw32.MergeOne', WHERE WHAT IT READS IS OF BULK AT MOST 1048576: true; the input reads as it did. -/
def mergeOneUptoRow : OpenClaim := { program := "ytcgjgnkpebpimaa", sum := "ae504a6963d08f672ac05abddb09c3d48c75ca146a9c38a5457c97cd9a00dd5c", func := "erewhile/erewhilelaw32.MergeOne", spec := "mergeOne", unfollowed := true, recurses := true, plainKeys := false, apart := false, narrowed := true }
def MergeOneUptoSaid : Prop := mergeOneUptoRow.holds Try.pinned (OpenSpec.upto mergeOneSpec)

/-- 'erewhilelaw32.MergeApart', WHERE WHAT IT READS IS OF BULK AT MOST 1048576: true; the input reads as it did. -/
def mergeApartUptoRow : OpenClaim := { program := "ytcgjgnkpebpimaa", sum := "ae504a6963d08f672ac05abddb09c3d48c75ca146a9c38a5457c97cd9a00dd5c", func := "erewhile/erewhilelaw32.MergeApart", spec := "mergeApart", unfollowed := true, recurses := true, plainKeys := false, apart := false, narrowed := true }
def MergeApartUptoSaid : Prop := mergeApartUptoRow.holds Try.pinned (OpenSpec.upto mergeApartSpec)

/-- 'erewhilelaw32.MergeOrder', WHERE WHAT IT READS IS OF BULK AT MOST 1048576: true; the input reads as it did. -/
def mergeOrderUptoRow : OpenClaim := { program := "ytcgjgnkpebpimaa", sum := "ae504a6963d08f672ac05abddb09c3d48c75ca146a9c38a5457c97cd9a00dd5c", func := "erewhile/erewhilelaw32.MergeOrder", spec := "mergeOrder", unfollowed := true, recurses := true, plainKeys := false, apart := false, narrowed := true }
def MergeOrderUptoSaid : Prop := mergeOrderUptoRow.holds Try.pinned (OpenSpec.upto mergeOrderSpec)

/-- 'erewhilelaw32.MergeMore', WHERE WHAT IT READS IS OF BULK AT MOST 1048576: true; the input reads as it did. -/
def mergeMoreUptoRow : OpenClaim := { program := "ytcgjgnkpebpimaa", sum := "ae504a6963d08f672ac05abddb09c3d48c75ca146a9c38a5457c97cd9a00dd5c", func := "erewhile/erewhilelaw32.MergeMore", spec := "mergeMore", unfollowed := true, recurses := true, plainKeys := false, apart := false, narrowed := true }
def MergeMoreUptoSaid : Prop := mergeMoreUptoRow.holds Try.pinned (OpenSpec.upto mergeMoreSpec)

/-- 'erewhilelaw32.MergeDiff', WHERE WHAT IT READS IS OF BULK AT MOST 1048576: true; the input reads as it did. -/
def mergeDiffUptoRow : OpenClaim := { program := "ytcgjgnkpebpimaa", sum := "ae504a6963d08f672ac05abddb09c3d48c75ca146a9c38a5457c97cd9a00dd5c", func := "erewhile/erewhilelaw32.MergeDiff", spec := "mergeDiff", inPlace := ["maps.clone"], unfollowed := true, recurses := true, plainKeys := false, apart := false, narrowed := true }
def MergeDiffUptoSaid : Prop := mergeDiffUptoRow.holds Try.pinned (OpenSpec.upto mergeDiffSpec)

end Rows
end Go.Proofs.Ytcgjgnkpebpimaa
