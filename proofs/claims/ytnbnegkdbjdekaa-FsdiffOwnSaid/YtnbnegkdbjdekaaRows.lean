/-
  No cell of these rows narrows 'for every input' (looked for: loops, veiled, ifaces, maps, wideKeys, modest, calm, conditions, laid).
  DERIVED. THE GIVEN ROWS OF THIS SEAT. 6 by the template 'for every input the law returns true; each argument reads behind the call as it read before'; 0 by the template 'total and deterministic' (their statements: YtnbnegkdbjdekaaTotals.lean).
  GIVEN WITH THE SEED: the statements are not yours to turn. If you find one false, say at which input.
  Laid BY PROGRAM, IN A SANDBOX (cutbox-rows.mjs): the forced cells as the released guide's own fill.sh prints them over the translation 0efed0884bf51f5a… (all of the seat's roots in one cut). By AI agents, Wed Nov 11 2026. No macro, syntax, notation, axiom, sorry.
-/
import Derived.Test.YtnbnegkdbjdekaaChecked
import GoSem.Claim
import GoSem.ClaimJoined
import GoSem.ClaimMapViews
import Derived.JoinedTies
import Derived.KernelRfl
namespace Go.Proofs.Ytnbnegkdbjdekaa
/- THE CELL 'sum', in the pinned program and in every row, IS THE sha256 OF THE DUMP (.gsa) THAT YtnbnegkdbjdekaaProg.lean LOADS. Nothing in Lean hashes anything: it is a label: what it is worth is what the hold of that sum in a sandbox is worth. -/
noncomputable def Try.pinned : Pinned := { name := "ytnbnegkdbjdekaa", sum := "0efed0884bf51f5a406f5fa0e02d4468818842a19a032f970e8896900b71baa9", checked := Try.checked }
namespace Rows
def none {H : Type} : Left H := { results := [], args := [] }

/-- 'erewhilelaw62.FsdiffOf': WHATEVER THE INPUT: true; the input reads as it did. -/
def fsdiffOfSpec : ChangeSpec := { name := "fsdiffOf", fn := fun _ => fun
  | [d1, d2] => { results := [.lit (.bool true)], args := [d1, d2] }
  | _ => none }
def fsdiffOfRow : OpenClaim := { program := "ytnbnegkdbjdekaa", sum := "0efed0884bf51f5a406f5fa0e02d4468818842a19a032f970e8896900b71baa9", func := "erewhile/erewhilelaw62.FsdiffOf", spec := "fsdiffOf", unfollowed := true, recurses := true, apart := false }
def FsdiffOfSaid : Prop := fsdiffOfRow.holds Try.pinned (OpenSpec.ofChange fsdiffOfSpec)

/-- ITS FALSE NEIGHBOUR: 'it returns false'. Refute it at one input. -/
def fsdiffOfWrong : ChangeSpec := { name := "fsdiffOf", fn := fun _ => fun
  | [d1, d2] => { results := [.lit (.bool false)], args := [d1, d2] }
  | _ => none }
def FsdiffOfWrongFalsely : Prop := fsdiffOfRow.holds Try.pinned (OpenSpec.ofChange fsdiffOfWrong)

/-- 'erewhilelaw62.FsdiffApplies': WHATEVER THE INPUT: true; the input reads as it did. -/
def fsdiffAppliesSpec : ChangeSpec := { name := "fsdiffApplies", fn := fun _ => fun
  | [d1, d2] => { results := [.lit (.bool true)], args := [d1, d2] }
  | _ => none }
def fsdiffAppliesRow : OpenClaim := { program := "ytnbnegkdbjdekaa", sum := "0efed0884bf51f5a406f5fa0e02d4468818842a19a032f970e8896900b71baa9", func := "erewhile/erewhilelaw62.FsdiffApplies", spec := "fsdiffApplies", unfollowed := true, recurses := true, apart := false }
def FsdiffAppliesSaid : Prop := fsdiffAppliesRow.holds Try.pinned (OpenSpec.ofChange fsdiffAppliesSpec)

/-- ITS FALSE NEIGHBOUR: 'it returns false'. Refute it at one input. -/
def fsdiffAppliesWrong : ChangeSpec := { name := "fsdiffApplies", fn := fun _ => fun
  | [d1, d2] => { results := [.lit (.bool false)], args := [d1, d2] }
  | _ => none }
def FsdiffAppliesWrongFalsely : Prop := fsdiffAppliesRow.holds Try.pinned (OpenSpec.ofChange fsdiffAppliesWrong)

/-- 'erewhilelaw62.FsdiffRight': WHATEVER THE INPUT: true; the input reads as it did. -/
def fsdiffRightSpec : ChangeSpec := { name := "fsdiffRight", fn := fun _ => fun
  | [d1, d2, d3] => { results := [.lit (.bool true)], args := [d1, d2, d3] }
  | _ => none }
def fsdiffRightRow : OpenClaim := { program := "ytnbnegkdbjdekaa", sum := "0efed0884bf51f5a406f5fa0e02d4468818842a19a032f970e8896900b71baa9", func := "erewhile/erewhilelaw62.FsdiffRight", spec := "fsdiffRight", unfollowed := true, recurses := true, apart := false }
def FsdiffRightSaid : Prop := fsdiffRightRow.holds Try.pinned (OpenSpec.ofChange fsdiffRightSpec)

/-- ITS FALSE NEIGHBOUR: 'it returns false'. Refute it at one input. -/
def fsdiffRightWrong : ChangeSpec := { name := "fsdiffRight", fn := fun _ => fun
  | [d1, d2, d3] => { results := [.lit (.bool false)], args := [d1, d2, d3] }
  | _ => none }
def FsdiffRightWrongFalsely : Prop := fsdiffRightRow.holds Try.pinned (OpenSpec.ofChange fsdiffRightWrong)

/-- 'erewhilelaw62.FsdiffBack': WHATEVER THE INPUT: true; the input reads as it did. -/
def fsdiffBackSpec : ChangeSpec := { name := "fsdiffBack", fn := fun _ => fun
  | [d1, d2] => { results := [.lit (.bool true)], args := [d1, d2] }
  | _ => none }
def fsdiffBackRow : OpenClaim := { program := "ytnbnegkdbjdekaa", sum := "0efed0884bf51f5a406f5fa0e02d4468818842a19a032f970e8896900b71baa9", func := "erewhile/erewhilelaw62.FsdiffBack", spec := "fsdiffBack", unfollowed := true, recurses := true, apart := false }
def FsdiffBackSaid : Prop := fsdiffBackRow.holds Try.pinned (OpenSpec.ofChange fsdiffBackSpec)

/-- ITS FALSE NEIGHBOUR: 'it returns false'. Refute it at one input. -/
def fsdiffBackWrong : ChangeSpec := { name := "fsdiffBack", fn := fun _ => fun
  | [d1, d2] => { results := [.lit (.bool false)], args := [d1, d2] }
  | _ => none }
def FsdiffBackWrongFalsely : Prop := fsdiffBackRow.holds Try.pinned (OpenSpec.ofChange fsdiffBackWrong)

/-- 'erewhilelaw62.FsdiffOwn': WHATEVER THE INPUT: true; the input reads as it did. -/
def fsdiffOwnSpec : ChangeSpec := { name := "fsdiffOwn", fn := fun _ => fun
  | [d1, d2, d3] => { results := [.lit (.bool true)], args := [d1, d2, d3] }
  | _ => none }
def fsdiffOwnRow : OpenClaim := { program := "ytnbnegkdbjdekaa", sum := "0efed0884bf51f5a406f5fa0e02d4468818842a19a032f970e8896900b71baa9", func := "erewhile/erewhilelaw62.FsdiffOwn", spec := "fsdiffOwn", unfollowed := true, recurses := true, apart := false }
def FsdiffOwnSaid : Prop := fsdiffOwnRow.holds Try.pinned (OpenSpec.ofChange fsdiffOwnSpec)

/-- ITS FALSE NEIGHBOUR: 'it returns false'. Refute it at one input. -/
def fsdiffOwnWrong : ChangeSpec := { name := "fsdiffOwn", fn := fun _ => fun
  | [d1, d2, d3] => { results := [.lit (.bool false)], args := [d1, d2, d3] }
  | _ => none }
def FsdiffOwnWrongFalsely : Prop := fsdiffOwnRow.holds Try.pinned (OpenSpec.ofChange fsdiffOwnWrong)

/-- 'erewhilelaw62.FsdiffWay': WHATEVER THE INPUT: true; the input reads as it did. -/
def fsdiffWaySpec : ChangeSpec := { name := "fsdiffWay", fn := fun _ => fun
  | [d1, d2, d3] => { results := [.lit (.bool true)], args := [d1, d2, d3] }
  | _ => none }
def fsdiffWayRow : OpenClaim := { program := "ytnbnegkdbjdekaa", sum := "0efed0884bf51f5a406f5fa0e02d4468818842a19a032f970e8896900b71baa9", func := "erewhile/erewhilelaw62.FsdiffWay", spec := "fsdiffWay", unfollowed := true, recurses := true, apart := false }
def FsdiffWaySaid : Prop := fsdiffWayRow.holds Try.pinned (OpenSpec.ofChange fsdiffWaySpec)

/-- ITS FALSE NEIGHBOUR: 'it returns false'. Refute it at one input. -/
def fsdiffWayWrong : ChangeSpec := { name := "fsdiffWay", fn := fun _ => fun
  | [d1, d2, d3] => { results := [.lit (.bool false)], args := [d1, d2, d3] }
  | _ => none }
def FsdiffWayWrongFalsely : Prop := fsdiffWayRow.holds Try.pinned (OpenSpec.ofChange fsdiffWayWrong)

/- THE SECOND FORM. 'bulk': how many values and letters a reading holds, each counted each time it is reached (what is shared counts as often as it is met; a slice's spare places count too). A statement '..UptoSaid' is the law's where the arguments, and the package variables that the reading takes, are together of bulk at most 1048576: NARROWER than '..Said'. Prove '..Said' where nothing that the law and all that it calls make is longer than what came in: it says more and counts as full. Else prove '..UptoSaid'. A law counts once. -/
mutual
def uptoBulk {H : Type} : DataW H → Nat
  | .lit (.string bytes) => bytes.length + 1
  | .lit _ => 1
  | .nil => 1
  | .ptr d => uptoBulk d + 1
  | .slice elems spare => uptoBulkAll elems + uptoBulkAll spare + 1
  | .agg parts => uptoBulkAll parts + 1
  | .iface _ d => uptoBulk d + 1
  | .map entries => uptoBulkEntries entries + 1
  | .held _ => 1
def uptoBulkAll {H : Type} : List (DataW H) → Nat
  | [] => 0
  | d :: r => uptoBulk d + uptoBulkAll r
def uptoBulkEntries {H : Type} : List (Lit × DataW H) → Nat
  | [] => 0
  | x :: r => uptoBulkEntry x + uptoBulkEntries r
def uptoBulkEntry {H : Type} : Lit × DataW H → Nat
  | (.string bytes, d) => bytes.length + uptoBulk d + 1
  | (_, d) => uptoBulk d + 1
 end
def uptoSmall : (H : Type) → List (DataW H) → Bool := fun _ ds => decide (uptoBulkAll ds ≤ 1048576)
def OpenSpec.upto (s : _root_.Go.ChangeSpec) : _root_.Go.OpenSpec := { _root_.Go.OpenSpec.ofChange s with cond := some uptoSmall }

/-- 'erewhilelaw62.FsdiffOf', WHERE WHAT IT READS IS OF BULK AT MOST 1048576: true; the input reads as it did. -/
def fsdiffOfUptoRow : OpenClaim := { program := "ytnbnegkdbjdekaa", sum := "0efed0884bf51f5a406f5fa0e02d4468818842a19a032f970e8896900b71baa9", func := "erewhile/erewhilelaw62.FsdiffOf", spec := "fsdiffOf", unfollowed := true, recurses := true, apart := false, narrowed := true }
def FsdiffOfUptoSaid : Prop := fsdiffOfUptoRow.holds Try.pinned (OpenSpec.upto fsdiffOfSpec)

/-- 'erewhilelaw62.FsdiffApplies', WHERE WHAT IT READS IS OF BULK AT MOST 1048576: true; the input reads as it did. -/
def fsdiffAppliesUptoRow : OpenClaim := { program := "ytnbnegkdbjdekaa", sum := "0efed0884bf51f5a406f5fa0e02d4468818842a19a032f970e8896900b71baa9", func := "erewhile/erewhilelaw62.FsdiffApplies", spec := "fsdiffApplies", unfollowed := true, recurses := true, apart := false, narrowed := true }
def FsdiffAppliesUptoSaid : Prop := fsdiffAppliesUptoRow.holds Try.pinned (OpenSpec.upto fsdiffAppliesSpec)

/-- 'erewhilelaw62.FsdiffRight', WHERE WHAT IT READS IS OF BULK AT MOST 1048576: true; the input reads as it did. -/
def fsdiffRightUptoRow : OpenClaim := { program := "ytnbnegkdbjdekaa", sum := "0efed0884bf51f5a406f5fa0e02d4468818842a19a032f970e8896900b71baa9", func := "erewhile/erewhilelaw62.FsdiffRight", spec := "fsdiffRight", unfollowed := true, recurses := true, apart := false, narrowed := true }
def FsdiffRightUptoSaid : Prop := fsdiffRightUptoRow.holds Try.pinned (OpenSpec.upto fsdiffRightSpec)

/-- 'erewhilelaw62.FsdiffBack', WHERE WHAT IT READS IS OF BULK AT MOST 1048576: true; the input reads as it did. -/
def fsdiffBackUptoRow : OpenClaim := { program := "ytnbnegkdbjdekaa", sum := "0efed0884bf51f5a406f5fa0e02d4468818842a19a032f970e8896900b71baa9", func := "erewhile/erewhilelaw62.FsdiffBack", spec := "fsdiffBack", unfollowed := true, recurses := true, apart := false, narrowed := true }
def FsdiffBackUptoSaid : Prop := fsdiffBackUptoRow.holds Try.pinned (OpenSpec.upto fsdiffBackSpec)

/-- 'erewhilelaw62.FsdiffOwn', WHERE WHAT IT READS IS OF BULK AT MOST 1048576: true; the input reads as it did. -/
def fsdiffOwnUptoRow : OpenClaim := { program := "ytnbnegkdbjdekaa", sum := "0efed0884bf51f5a406f5fa0e02d4468818842a19a032f970e8896900b71baa9", func := "erewhile/erewhilelaw62.FsdiffOwn", spec := "fsdiffOwn", unfollowed := true, recurses := true, apart := false, narrowed := true }
def FsdiffOwnUptoSaid : Prop := fsdiffOwnUptoRow.holds Try.pinned (OpenSpec.upto fsdiffOwnSpec)

/-- 'erewhilelaw62.FsdiffWay', WHERE WHAT IT READS IS OF BULK AT MOST 1048576: true; the input reads as it did. -/
def fsdiffWayUptoRow : OpenClaim := { program := "ytnbnegkdbjdekaa", sum := "0efed0884bf51f5a406f5fa0e02d4468818842a19a032f970e8896900b71baa9", func := "erewhile/erewhilelaw62.FsdiffWay", spec := "fsdiffWay", unfollowed := true, recurses := true, apart := false, narrowed := true }
def FsdiffWayUptoSaid : Prop := fsdiffWayUptoRow.holds Try.pinned (OpenSpec.upto fsdiffWaySpec)

end Rows
end Go.Proofs.Ytnbnegkdbjdekaa
