/-
  No cell of these rows narrows 'for every input' (looked for: loops, veiled, ifaces, maps, wideKeys, modest, calm, conditions, laid).
  DERIVED. THE GIVEN ROWS OF THIS SEAT. 8 by the template 'for every input the law returns true; each argument reads behind the call as it read before'; 0 by the template 'total and deterministic' (their statements: YtljgdbgcleibjaaTotals.lean).
  GIVEN WITH THE SEED: the statements are not yours to turn. If you find one false, say at which input.
  Laid BY PROGRAM, IN A SANDBOX (cutbox-rows.mjs): the forced cells as the released guide's own fill.sh prints them over the translation b97aec1f937ac7f5… (all of the seat's roots in one cut). By AI agents, Wed Nov 11 2026. No macro, syntax, notation, axiom, sorry.
-/
import Derived.Test.YtljgdbgcleibjaaChecked
import GoSem.Claim
import GoSem.ClaimJoined
import GoSem.ClaimMapViews
import Derived.JoinedTies
import Derived.KernelRfl
namespace Go.Proofs.Ytljgdbgcleibjaa
/- THE CELL 'sum', in the pinned program and in every row, IS THE sha256 OF THE DUMP (.gsa) THAT YtljgdbgcleibjaaProg.lean LOADS. Nothing in Lean hashes anything: it is a label: what it is worth is what the hold of that sum in a sandbox is worth. -/
noncomputable def Try.pinned : Pinned := { name := "ytljgdbgcleibjaa", sum := "b97aec1f937ac7f52004a7713817d5f99444e41c34bacf21e39fc685a51e5366", checked := Try.checked }
namespace Rows
def none {H : Type} : Left H := { results := [], args := [] }

/-- 'erewhilelaw27.ChangeBetween': WHATEVER THE INPUT: true; the input reads as it did. -/
def changeBetweenSpec : ChangeSpec := { name := "changeBetween", fn := fun _ => fun
  | [d1, d2, d3, d4] => { results := [.lit (.bool true)], args := [d1, d2, d3, d4] }
  | _ => none }
def changeBetweenRow : OpenClaim := { program := "ytljgdbgcleibjaa", sum := "b97aec1f937ac7f52004a7713817d5f99444e41c34bacf21e39fc685a51e5366", func := "erewhile/erewhilelaw27.ChangeBetween", spec := "changeBetween", inPlace := ["slices.overlaps[erewhile/api.Spot]", "slices.overlaps[uint64]"], unfollowed := true, recurses := true, plainKeys := false, apart := false }
def ChangeBetweenSaid : Prop := changeBetweenRow.holds Try.pinned (OpenSpec.ofChange changeBetweenSpec)

/-- ITS FALSE NEIGHBOUR: 'it returns false'. Refute it at one input. -/
def changeBetweenWrong : ChangeSpec := { name := "changeBetween", fn := fun _ => fun
  | [d1, d2, d3, d4] => { results := [.lit (.bool false)], args := [d1, d2, d3, d4] }
  | _ => none }
def ChangeBetweenWrongFalsely : Prop := changeBetweenRow.holds Try.pinned (OpenSpec.ofChange changeBetweenWrong)

/-- 'erewhilelaw27.ChangeLooked': WHATEVER THE INPUT: true; the input reads as it did. -/
def changeLookedSpec : ChangeSpec := { name := "changeLooked", fn := fun _ => fun
  | [d1, d2, d3] => { results := [.lit (.bool true)], args := [d1, d2, d3] }
  | _ => none }
def changeLookedRow : OpenClaim := { program := "ytljgdbgcleibjaa", sum := "b97aec1f937ac7f52004a7713817d5f99444e41c34bacf21e39fc685a51e5366", func := "erewhile/erewhilelaw27.ChangeLooked", spec := "changeLooked", inPlace := ["slices.overlaps[erewhile/api.Spot]", "slices.overlaps[uint64]"], unfollowed := true, recurses := true, plainKeys := false, apart := false }
def ChangeLookedSaid : Prop := changeLookedRow.holds Try.pinned (OpenSpec.ofChange changeLookedSpec)

/-- ITS FALSE NEIGHBOUR: 'it returns false'. Refute it at one input. -/
def changeLookedWrong : ChangeSpec := { name := "changeLooked", fn := fun _ => fun
  | [d1, d2, d3] => { results := [.lit (.bool false)], args := [d1, d2, d3] }
  | _ => none }
def ChangeLookedWrongFalsely : Prop := changeLookedRow.holds Try.pinned (OpenSpec.ofChange changeLookedWrong)

/-- 'erewhilelaw27.ChangeTurns': WHATEVER THE INPUT: true; the input reads as it did. -/
def changeTurnsSpec : ChangeSpec := { name := "changeTurns", fn := fun _ => fun
  | [d1, d2, d3] => { results := [.lit (.bool true)], args := [d1, d2, d3] }
  | _ => none }
def changeTurnsRow : OpenClaim := { program := "ytljgdbgcleibjaa", sum := "b97aec1f937ac7f52004a7713817d5f99444e41c34bacf21e39fc685a51e5366", func := "erewhile/erewhilelaw27.ChangeTurns", spec := "changeTurns", inPlace := ["slices.overlaps[erewhile/api.Spot]", "slices.overlaps[uint64]"], unfollowed := true, recurses := true, plainKeys := false, apart := false }
def ChangeTurnsSaid : Prop := changeTurnsRow.holds Try.pinned (OpenSpec.ofChange changeTurnsSpec)

/-- ITS FALSE NEIGHBOUR: 'it returns false'. Refute it at one input. -/
def changeTurnsWrong : ChangeSpec := { name := "changeTurns", fn := fun _ => fun
  | [d1, d2, d3] => { results := [.lit (.bool false)], args := [d1, d2, d3] }
  | _ => none }
def ChangeTurnsWrongFalsely : Prop := changeTurnsRow.holds Try.pinned (OpenSpec.ofChange changeTurnsWrong)

/-- 'erewhilelaw27.ChangeWay': WHATEVER THE INPUT: true; the input reads as it did. -/
def changeWaySpec : ChangeSpec := { name := "changeWay", fn := fun _ => fun
  | [d1, d2, d3] => { results := [.lit (.bool true)], args := [d1, d2, d3] }
  | _ => none }
def changeWayRow : OpenClaim := { program := "ytljgdbgcleibjaa", sum := "b97aec1f937ac7f52004a7713817d5f99444e41c34bacf21e39fc685a51e5366", func := "erewhile/erewhilelaw27.ChangeWay", spec := "changeWay", inPlace := ["slices.overlaps[erewhile/api.Spot]", "slices.overlaps[uint64]"], unfollowed := true, recurses := true, plainKeys := false, apart := false }
def ChangeWaySaid : Prop := changeWayRow.holds Try.pinned (OpenSpec.ofChange changeWaySpec)

/-- ITS FALSE NEIGHBOUR: 'it returns false'. Refute it at one input. -/
def changeWayWrong : ChangeSpec := { name := "changeWay", fn := fun _ => fun
  | [d1, d2, d3] => { results := [.lit (.bool false)], args := [d1, d2, d3] }
  | _ => none }
def ChangeWayWrongFalsely : Prop := changeWayRow.holds Try.pinned (OpenSpec.ofChange changeWayWrong)

/-- 'erewhilelaw27.ChangeNone': WHATEVER THE INPUT: true; the input reads as it did. -/
def changeNoneSpec : ChangeSpec := { name := "changeNone", fn := fun _ => fun
  | [d] => { results := [.lit (.bool true)], args := [d] }
  | _ => none }
def changeNoneRow : OpenClaim := { program := "ytljgdbgcleibjaa", sum := "b97aec1f937ac7f52004a7713817d5f99444e41c34bacf21e39fc685a51e5366", func := "erewhile/erewhilelaw27.ChangeNone", spec := "changeNone", inPlace := ["slices.overlaps[erewhile/api.Spot]", "slices.overlaps[uint64]"], unfollowed := true, recurses := true, plainKeys := false, apart := false }
def ChangeNoneSaid : Prop := changeNoneRow.holds Try.pinned (OpenSpec.ofChange changeNoneSpec)

/-- ITS FALSE NEIGHBOUR: 'it returns false'. Refute it at one input. -/
def changeNoneWrong : ChangeSpec := { name := "changeNone", fn := fun _ => fun
  | [d] => { results := [.lit (.bool false)], args := [d] }
  | _ => none }
def ChangeNoneWrongFalsely : Prop := changeNoneRow.holds Try.pinned (OpenSpec.ofChange changeNoneWrong)

/-- 'erewhilelaw27.ChangeFar': WHATEVER THE INPUT: true; the input reads as it did. -/
def changeFarSpec : ChangeSpec := { name := "changeFar", fn := fun _ => fun
  | [d1, d2, d3] => { results := [.lit (.bool true)], args := [d1, d2, d3] }
  | _ => none }
def changeFarRow : OpenClaim := { program := "ytljgdbgcleibjaa", sum := "b97aec1f937ac7f52004a7713817d5f99444e41c34bacf21e39fc685a51e5366", func := "erewhile/erewhilelaw27.ChangeFar", spec := "changeFar", inPlace := ["slices.overlaps[erewhile/api.Spot]", "slices.overlaps[uint64]"], unfollowed := true, recurses := true, plainKeys := false, apart := false }
def ChangeFarSaid : Prop := changeFarRow.holds Try.pinned (OpenSpec.ofChange changeFarSpec)

/-- ITS FALSE NEIGHBOUR: 'it returns false'. Refute it at one input. -/
def changeFarWrong : ChangeSpec := { name := "changeFar", fn := fun _ => fun
  | [d1, d2, d3] => { results := [.lit (.bool false)], args := [d1, d2, d3] }
  | _ => none }
def ChangeFarWrongFalsely : Prop := changeFarRow.holds Try.pinned (OpenSpec.ofChange changeFarWrong)

/-- 'erewhilelaw27.ChangeOne': WHATEVER THE INPUT: true; the input reads as it did. -/
def changeOneSpec : ChangeSpec := { name := "changeOne", fn := fun _ => fun
  | [d1, d2, d3] => { results := [.lit (.bool true)], args := [d1, d2, d3] }
  | _ => none }
def changeOneRow : OpenClaim := { program := "ytljgdbgcleibjaa", sum := "b97aec1f937ac7f52004a7713817d5f99444e41c34bacf21e39fc685a51e5366", func := "erewhile/erewhilelaw27.ChangeOne", spec := "changeOne", inPlace := ["slices.overlaps[erewhile/api.Spot]", "slices.overlaps[uint64]"], unfollowed := true, recurses := true, plainKeys := false, apart := false }
def ChangeOneSaid : Prop := changeOneRow.holds Try.pinned (OpenSpec.ofChange changeOneSpec)

/-- ITS FALSE NEIGHBOUR: 'it returns false'. Refute it at one input. -/
def changeOneWrong : ChangeSpec := { name := "changeOne", fn := fun _ => fun
  | [d1, d2, d3] => { results := [.lit (.bool false)], args := [d1, d2, d3] }
  | _ => none }
def ChangeOneWrongFalsely : Prop := changeOneRow.holds Try.pinned (OpenSpec.ofChange changeOneWrong)

/-- 'erewhilelaw27.ChangeIndex': WHATEVER THE INPUT: true; the input reads as it did. -/
def changeIndexSpec : ChangeSpec := { name := "changeIndex", fn := fun _ => fun
  | [d1, d2] => { results := [.lit (.bool true)], args := [d1, d2] }
  | _ => none }
def changeIndexRow : OpenClaim := { program := "ytljgdbgcleibjaa", sum := "b97aec1f937ac7f52004a7713817d5f99444e41c34bacf21e39fc685a51e5366", func := "erewhile/erewhilelaw27.ChangeIndex", spec := "changeIndex", inPlace := ["slices.overlaps[erewhile/api.Spot]", "slices.overlaps[uint64]"], unfollowed := true, recurses := true, plainKeys := false, apart := false }
def ChangeIndexSaid : Prop := changeIndexRow.holds Try.pinned (OpenSpec.ofChange changeIndexSpec)

/-- ITS FALSE NEIGHBOUR: 'it returns false'. Refute it at one input. -/
def changeIndexWrong : ChangeSpec := { name := "changeIndex", fn := fun _ => fun
  | [d1, d2] => { results := [.lit (.bool false)], args := [d1, d2] }
  | _ => none }
def ChangeIndexWrongFalsely : Prop := changeIndexRow.holds Try.pinned (OpenSpec.ofChange changeIndexWrong)

/- THE SECOND FORM. 'bulk': how many values and letters a reading holds, each counted each time it is reached (what is shared counts as often as it is met; a slice's spare places count too). A statement '..UptoSaid' is the law's where the arguments, and the package variables that the reading takes, are together of bulk at most 1048576: NARROWER than '..Said'. Prove '..Said' where nothing that the law and all that it calls make is longer than what came in: it says more and counts as full. Else prove '..UptoSaid'. A law counts once. -/
mutual
def uptoBulk {H : Type} : DataW H → Nat
  | .lit (.string bytes) => bytes.length + 1
  | .lit _ => 1
  | .nil => 1
  | .ptr d => uptoBulk d + 1
  | .slice elems spare => uptoBulkAll elems + uptoBulkAll spare + 1
  | .agg parts => uptoBulkAll parts + 1
  | .iface _ d => uptoBulk d + 1
  | .map entries => uptoBulkEntries entries + 1
  | .held _ => 1
def uptoBulkAll {H : Type} : List (DataW H) → Nat
  | [] => 0
  | d :: r => uptoBulk d + uptoBulkAll r
def uptoBulkEntries {H : Type} : List (Lit × DataW H) → Nat
  | [] => 0
  | x :: r => uptoBulkEntry x + uptoBulkEntries r
def uptoBulkEntry {H : Type} : Lit × DataW H → Nat
  | (.string bytes, d) => bytes.length + uptoBulk d + 1
  | (_, d) => uptoBulk d + 1
 end
def uptoSmall : (H : Type) → List (DataW H) → Bool := fun _ ds => decide (uptoBulkAll ds ≤ 1048576)
def OpenSpec.upto (s : _root_.Go.ChangeSpec) : _root_.Go.OpenSpec := { _root_.Go.OpenSpec.ofChange s with cond := some uptoSmall }

/-- 'erewhilelaw27.ChangeBetween', WHERE WHAT IT READS IS OF BULK AT MOST 1048576: true; the input reads as it did. -/
def changeBetweenUptoRow : OpenClaim := { program := "ytljgdbgcleibjaa", sum := "b97aec1f937ac7f52004a7713817d5f99444e41c34bacf21e39fc685a51e5366", func := "erewhile/erewhilelaw27.ChangeBetween", spec := "changeBetween", inPlace := ["slices.overlaps[erewhile/api.Spot]", "slices.overlaps[uint64]"], unfollowed := true, recurses := true, plainKeys := false, apart := false, narrowed := true }
def ChangeBetweenUptoSaid : Prop := changeBetweenUptoRow.holds Try.pinned (OpenSpec.upto changeBetweenSpec)

/-- 'erewhilelaw27.ChangeLooked', WHERE WHAT IT READS IS OF BULK AT MOST 1048576: true; the input reads as it did. -/
def changeLookedUptoRow : OpenClaim := { program := "ytljgdbgcleibjaa", sum := "b97aec1f937ac7f52004a7713817d5f99444e41c34bacf21e39fc685a51e5366", func := "erewhile/erewhilelaw27.ChangeLooked", spec := "changeLooked", inPlace := ["slices.overlaps[erewhile/api.Spot]", "slices.overlaps[uint64]"], unfollowed := true, recurses := true, plainKeys := false, apart := false, narrowed := true }
def ChangeLookedUptoSaid : Prop := changeLookedUptoRow.holds Try.pinned (OpenSpec.upto changeLookedSpec)

/-- 'erewhilelaw27.ChangeTurns', WHERE WHAT IT READS IS OF BULK AT MOST 1048576: true; the input reads as it did. -/
def changeTurnsUptoRow : OpenClaim := { program := "ytljgdbgcleibjaa", sum := "b97aec1f937ac7f52004a7713817d5f99444e41c34bacf21e39fc685a51e5366", func := "erewhile/erewhilelaw27.ChangeTurns", spec := "changeTurns", inPlace := ["slices.overlaps[erewhile/api.Spot]", "slices.overlaps[uint64]"], unfollowed := true, recurses := true, plainKeys := false, apart := false, narrowed := true }
def ChangeTurnsUptoSaid : Prop := changeTurnsUptoRow.holds Try.pinned (OpenSpec.upto changeTurnsSpec)

/-- 'erewhilelaw27.ChangeWay', WHERE WHAT IT READS IS OF BULK AT MOST 1048576: true; the input reads as it did. -/
def changeWayUptoRow : OpenClaim := { program := "ytljgdbgcleibjaa", sum := "b97aec1f937ac7f52004a7713817d5f99444e41c34bacf21e39fc685a51e5366", func := "erewhile/erewhilelaw27.ChangeWay", spec := "changeWay", inPlace := ["slices.overlaps[erewhile/api.Spot]", "slices.overlaps[uint64]"], unfollowed := true, recurses := true, plainKeys := false, apart := false, narrowed := true }
def ChangeWayUptoSaid : Prop := changeWayUptoRow.holds Try.pinned (OpenSpec.upto changeWaySpec)

/-- 'erewhilelaw27.ChangeNone', WHERE WHAT IT READS IS OF BULK AT MOST 1048576: true; the input reads as it did. -/
def changeNoneUptoRow : OpenClaim := { program := "ytljgdbgcleibjaa", sum := "b97aec1f937ac7f52004a7713817d5f99444e41c34bacf21e39fc685a51e5366", func := "erewhile/erewhilelaw27.ChangeNone", spec := "changeNone", inPlace := ["slices.overlaps[erewhile/api.Spot]", "slices.overlaps[uint64]"], unfollowed := true, recurses := true, plainKeys := false, apart := false, narrowed := true }
def ChangeNoneUptoSaid : Prop := changeNoneUptoRow.holds Try.pinned (OpenSpec.upto changeNoneSpec)

/-- 'erewhilelaw27.ChangeFar', WHERE WHAT IT READS IS OF BULK AT MOST 1048576: true; the input reads as it did. -/
def changeFarUptoRow : OpenClaim := { program := "ytljgdbgcleibjaa", sum := "b97aec1f937ac7f52004a7713817d5f99444e41c34bacf21e39fc685a51e5366", func := "erewhile/erewhilelaw27.ChangeFar", spec := "changeFar", inPlace := ["slices.overlaps[erewhile/api.Spot]", "slices.overlaps[uint64]"], unfollowed := true, recurses := true, plainKeys := false, apart := false, narrowed := true }
def ChangeFarUptoSaid : Prop := changeFarUptoRow.holds Try.pinned (OpenSpec.upto changeFarSpec)

/-- 'erewhilelaw27.ChangeOne', WHERE WHAT IT READS IS OF BULK AT MOST 1048576: true; the input reads as it did. -/
def changeOneUptoRow : OpenClaim := { program := "ytljgdbgcleibjaa", sum := "b97aec1f937ac7f52004a7713817d5f99444e41c34bacf21e39fc685a51e5366", func := "erewhile/erewhilelaw27.ChangeOne", spec := "changeOne", inPlace := ["slices.overlaps[erewhile/api.Spot]", "slices.overlaps[uint64]"], unfollowed := true, recurses := true, plainKeys := false, apart := false, narrowed := true }
def ChangeOneUptoSaid : Prop := changeOneUptoRow.holds Try.pinned (OpenSpec.upto changeOneSpec)

/-- 'erewhilelaw27.ChangeIndex', WHERE WHAT IT READS IS OF BULK AT MOST 1048576: true; the input reads as it did. -/
def changeIndexUptoRow : OpenClaim := { program := "ytljgdbgcleibjaa", sum := "b97aec1f937ac7f52004a7713817d5f99444e41c34bacf21e39fc685a51e5366", func := "erewhile/erewhilelaw27.ChangeIndex", spec := "changeIndex", inPlace := ["slices.overlaps[erewhile/api.Spot]", "slices.overlaps[uint64]"], unfollowed := true, recurses := true, plainKeys := false, apart := false, narrowed := true }
def ChangeIndexUptoSaid : Prop := changeIndexUptoRow.holds Try.pinned (OpenSpec.upto changeIndexSpec)

end Rows
end Go.Proofs.Ytljgdbgcleibjaa
