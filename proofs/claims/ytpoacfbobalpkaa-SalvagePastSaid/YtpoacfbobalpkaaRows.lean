/-
  No cell of these rows narrows 'for every input' (looked for: loops, veiled, ifaces, maps, wideKeys, modest, calm, conditions, laid).
  DERIVED. THE GIVEN ROWS OF THIS SEAT. 6 by the template 'for every input the law returns true; each argument reads behind the call as it read before'; 0 by the template 'total and deterministic' (their statements: YtpoacfbobalpkaaTotals.lean).
  GIVEN WITH THE SEED: the statements are not yours to turn. If you find one false, say at which input.
  Laid BY PROGRAM, IN A SANDBOX (cutbox-rows.mjs): the forced cells as the released guide's own fill.sh prints them over the translation aea5a9392cd12d7e… (all of the seat's roots in one cut). By AI agents, Wed Nov 11 2026. No macro, syntax, notation, axiom, sorry.
-/
import Derived.Test.YtpoacfbobalpkaaChecked
import GoSem.Claim
import GoSem.ClaimJoined
import GoSem.ClaimMapViews
import Derived.JoinedTies
import Derived.KernelRfl
namespace Go.Proofs.Ytpoacfbobalpkaa
/- THE CELL 'sum', in the pinned program and in every row, IS THE sha256 OF THE DUMP (.gsa) THAT YtpoacfbobalpkaaProg.lean LOADS. Nothing in Lean hashes anything: it is a label: what it is worth is what the hold of that sum in a sandbox is worth. -/
noncomputable def Try.pinned : Pinned := { name := "ytpoacfbobalpkaa", sum := "aea5a9392cd12d7e5c95a053fabf104d883a3b251676d64826b5dc550754822a", checked := Try.checked }
namespace Rows
def none {H : Type} : Left H := { results := [], args := [] }

/-- 'erewhilelaw66.SalvagePlans': WHATEVER THE INPUT: true; the input reads as it did. -/
def salvagePlansSpec : ChangeSpec := { name := "salvagePlans", fn := fun _ => fun
  | [d1, d2, d3] => { results := [.lit (.bool true)], args := [d1, d2, d3] }
  | _ => none }
def salvagePlansRow : OpenClaim := { program := "ytpoacfbobalpkaa", sum := "aea5a9392cd12d7e5c95a053fabf104d883a3b251676d64826b5dc550754822a", func := "erewhile/erewhilelaw66.SalvagePlans", spec := "salvagePlans", unfollowed := true, recurses := true, apart := false }
def SalvagePlansSaid : Prop := salvagePlansRow.holds Try.pinned (OpenSpec.ofChange salvagePlansSpec)

/-- ITS FALSE NEIGHBOUR: 'it returns false'. Refute it at one input. -/
def salvagePlansWrong : ChangeSpec := { name := "salvagePlans", fn := fun _ => fun
  | [d1, d2, d3] => { results := [.lit (.bool false)], args := [d1, d2, d3] }
  | _ => none }
def SalvagePlansWrongFalsely : Prop := salvagePlansRow.holds Try.pinned (OpenSpec.ofChange salvagePlansWrong)

/-- 'erewhilelaw66.SalvageFiles': WHATEVER THE INPUT: true; the input reads as it did. -/
def salvageFilesSpec : ChangeSpec := { name := "salvageFiles", fn := fun _ => fun
  | [d] => { results := [.lit (.bool true)], args := [d] }
  | _ => none }
def salvageFilesRow : OpenClaim := { program := "ytpoacfbobalpkaa", sum := "aea5a9392cd12d7e5c95a053fabf104d883a3b251676d64826b5dc550754822a", func := "erewhile/erewhilelaw66.SalvageFiles", spec := "salvageFiles", unfollowed := true, recurses := true, apart := false }
def SalvageFilesSaid : Prop := salvageFilesRow.holds Try.pinned (OpenSpec.ofChange salvageFilesSpec)

/-- ITS FALSE NEIGHBOUR: 'it returns false'. Refute it at one input. -/
def salvageFilesWrong : ChangeSpec := { name := "salvageFiles", fn := fun _ => fun
  | [d] => { results := [.lit (.bool false)], args := [d] }
  | _ => none }
def SalvageFilesWrongFalsely : Prop := salvageFilesRow.holds Try.pinned (OpenSpec.ofChange salvageFilesWrong)

/-- 'erewhilelaw66.SalvageParts': WHATEVER THE INPUT: true; the input reads as it did. -/
def salvagePartsSpec : ChangeSpec := { name := "salvageParts", fn := fun _ => fun
  | [d1, d2, d3] => { results := [.lit (.bool true)], args := [d1, d2, d3] }
  | _ => none }
def salvagePartsRow : OpenClaim := { program := "ytpoacfbobalpkaa", sum := "aea5a9392cd12d7e5c95a053fabf104d883a3b251676d64826b5dc550754822a", func := "erewhile/erewhilelaw66.SalvageParts", spec := "salvageParts", unfollowed := true, recurses := true, apart := false }
def SalvagePartsSaid : Prop := salvagePartsRow.holds Try.pinned (OpenSpec.ofChange salvagePartsSpec)

/-- ITS FALSE NEIGHBOUR: 'it returns false'. Refute it at one input. -/
def salvagePartsWrong : ChangeSpec := { name := "salvageParts", fn := fun _ => fun
  | [d1, d2, d3] => { results := [.lit (.bool false)], args := [d1, d2, d3] }
  | _ => none }
def SalvagePartsWrongFalsely : Prop := salvagePartsRow.holds Try.pinned (OpenSpec.ofChange salvagePartsWrong)

/-- 'erewhilelaw66.SalvageLater': WHATEVER THE INPUT: true; the input reads as it did. -/
def salvageLaterSpec : ChangeSpec := { name := "salvageLater", fn := fun _ => fun
  | [d1, d2, d3, d4] => { results := [.lit (.bool true)], args := [d1, d2, d3, d4] }
  | _ => none }
def salvageLaterRow : OpenClaim := { program := "ytpoacfbobalpkaa", sum := "aea5a9392cd12d7e5c95a053fabf104d883a3b251676d64826b5dc550754822a", func := "erewhile/erewhilelaw66.SalvageLater", spec := "salvageLater", unfollowed := true, recurses := true, apart := false }
def SalvageLaterSaid : Prop := salvageLaterRow.holds Try.pinned (OpenSpec.ofChange salvageLaterSpec)

/-- ITS FALSE NEIGHBOUR: 'it returns false'. Refute it at one input. -/
def salvageLaterWrong : ChangeSpec := { name := "salvageLater", fn := fun _ => fun
  | [d1, d2, d3, d4] => { results := [.lit (.bool false)], args := [d1, d2, d3, d4] }
  | _ => none }
def SalvageLaterWrongFalsely : Prop := salvageLaterRow.holds Try.pinned (OpenSpec.ofChange salvageLaterWrong)

/-- 'erewhilelaw66.SalvageNewest': WHATEVER THE INPUT: true; the input reads as it did. -/
def salvageNewestSpec : ChangeSpec := { name := "salvageNewest", fn := fun _ => fun
  | [d1, d2, d3] => { results := [.lit (.bool true)], args := [d1, d2, d3] }
  | _ => none }
def salvageNewestRow : OpenClaim := { program := "ytpoacfbobalpkaa", sum := "aea5a9392cd12d7e5c95a053fabf104d883a3b251676d64826b5dc550754822a", func := "erewhile/erewhilelaw66.SalvageNewest", spec := "salvageNewest", unfollowed := true, recurses := true, apart := false }
def SalvageNewestSaid : Prop := salvageNewestRow.holds Try.pinned (OpenSpec.ofChange salvageNewestSpec)

/-- ITS FALSE NEIGHBOUR: 'it returns false'. Refute it at one input. -/
def salvageNewestWrong : ChangeSpec := { name := "salvageNewest", fn := fun _ => fun
  | [d1, d2, d3] => { results := [.lit (.bool false)], args := [d1, d2, d3] }
  | _ => none }
def SalvageNewestWrongFalsely : Prop := salvageNewestRow.holds Try.pinned (OpenSpec.ofChange salvageNewestWrong)

/-- 'erewhilelaw66.SalvagePast': WHATEVER THE INPUT: true; the input reads as it did. -/
def salvagePastSpec : ChangeSpec := { name := "salvagePast", fn := fun _ => fun
  | [d1, d2, d3] => { results := [.lit (.bool true)], args := [d1, d2, d3] }
  | _ => none }
def salvagePastRow : OpenClaim := { program := "ytpoacfbobalpkaa", sum := "aea5a9392cd12d7e5c95a053fabf104d883a3b251676d64826b5dc550754822a", func := "erewhile/erewhilelaw66.SalvagePast", spec := "salvagePast", unfollowed := true, recurses := true, apart := false }
def SalvagePastSaid : Prop := salvagePastRow.holds Try.pinned (OpenSpec.ofChange salvagePastSpec)

/-- ITS FALSE NEIGHBOUR: 'it returns false'. Refute it at one input. -/
def salvagePastWrong : ChangeSpec := { name := "salvagePast", fn := fun _ => fun
  | [d1, d2, d3] => { results := [.lit (.bool false)], args := [d1, d2, d3] }
  | _ => none }
def SalvagePastWrongFalsely : Prop := salvagePastRow.holds Try.pinned (OpenSpec.ofChange salvagePastWrong)

/- THE SECOND FORM. 'bulk': how many values and letters a reading holds, each counted each time it is reached (what is shared counts as often as it is met; a slice's spare places count too). A statement '..UptoSaid' is the law's where the arguments, and the package variables that the reading takes, are together of bulk at most 1048576: NARROWER than '..Said'. Prove '..Said' where nothing that the law and all that it calls make is longer than what came in: it says more and counts as full. Else prove '..UptoSaid'. A law counts once. -/
mutual
def uptoBulk {H : Type} : DataW H → Nat
  | .lit (.string bytes) => bytes.length + 1
  | .lit _ => 1
  | .nil => 1
  | .ptr d => uptoBulk d + 1
  | .slice elems spare => uptoBulkAll elems + uptoBulkAll spare + 1
  | .agg parts => uptoBulkAll parts + 1
  | .iface _ d => uptoBulk d + 1
  | .map entries => uptoBulkEntries entries + 1
  | .held _ => 1
def uptoBulkAll {H : Type} : List (DataW H) → Nat
  | [] => 0
  | d :: r => uptoBulk d + uptoBulkAll r
def uptoBulkEntries {H : Type} : List (Lit × DataW H) → Nat
  | [] => 0
  | x :: r => uptoBulkEntry x + uptoBulkEntries r
def uptoBulkEntry {H : Type} : Lit × DataW H → Nat
  | (.string bytes, d) => bytes.length + uptoBulk d + 1
  | (_, d) => uptoBulk d + 1
 end
def uptoSmall : (H : Type) → List (DataW H) → Bool := fun _ ds => decide (uptoBulkAll ds ≤ 1048576)
def OpenSpec.upto (s : _root_.Go.ChangeSpec) : _root_.Go.OpenSpec := { _root_.Go.OpenSpec.ofChange s with cond := some uptoSmall }

/-- 'erewhilelaw66.SalvagePlans', WHERE WHAT IT READS IS OF BULK AT MOST 1048576: true; the input reads as it did. -/
def salvagePlansUptoRow : OpenClaim := { program := "ytpoacfbobalpkaa", sum := "aea5a9392cd12d7e5c95a053fabf104d883a3b251676d64826b5dc550754822a", func := "erewhile/erewhilelaw66.SalvagePlans", spec := "salvagePlans", unfollowed := true, recurses := true, apart := false, narrowed := true }
def SalvagePlansUptoSaid : Prop := salvagePlansUptoRow.holds Try.pinned (OpenSpec.upto salvagePlansSpec)

/-- 'erewhilelaw66.SalvageFiles', WHERE WHAT IT READS IS OF BULK AT MOST 1048576: true; the input reads as it did. -/
def salvageFilesUptoRow : OpenClaim := { program := "ytpoacfbobalpkaa", sum := "aea5a9392cd12d7e5c95a053fabf104d883a3b251676d64826b5dc550754822a", func := "erewhile/erewhilelaw66.SalvageFiles", spec := "salvageFiles", unfollowed := true, recurses := true, apart := false, narrowed := true }
def SalvageFilesUptoSaid : Prop := salvageFilesUptoRow.holds Try.pinned (OpenSpec.upto salvageFilesSpec)

/-- 'erewhilelaw66.SalvageParts', WHERE WHAT IT READS IS OF BULK AT MOST 1048576: true; the input reads as it did. -/
def salvagePartsUptoRow : OpenClaim := { program := "ytpoacfbobalpkaa", sum := "aea5a9392cd12d7e5c95a053fabf104d883a3b251676d64826b5dc550754822a", func := "erewhile/erewhilelaw66.SalvageParts", spec := "salvageParts", unfollowed := true, recurses := true, apart := false, narrowed := true }
def SalvagePartsUptoSaid : Prop := salvagePartsUptoRow.holds Try.pinned (OpenSpec.upto salvagePartsSpec)

/-- 'erewhilelaw66.SalvageLater', WHERE WHAT IT READS IS OF BULK AT MOST 1048576: true; the input reads as it did. -/
def salvageLaterUptoRow : OpenClaim := { program := "ytpoacfbobalpkaa", sum := "aea5a9392cd12d7e5c95a053fabf104d883a3b251676d64826b5dc550754822a", func := "erewhile/erewhilelaw66.SalvageLater", spec := "salvageLater", unfollowed := true, recurses := true, apart := false, narrowed := true }
def SalvageLaterUptoSaid : Prop := salvageLaterUptoRow.holds Try.pinned (OpenSpec.upto salvageLaterSpec)

/-- 'erewhilelaw66.SalvageNewest', WHERE WHAT IT READS IS OF BULK AT MOST 1048576: true; the input reads as it did. -/
def salvageNewestUptoRow : OpenClaim := { program := "ytpoacfbobalpkaa", sum := "aea5a9392cd12d7e5c95a053fabf104d883a3b251676d64826b5dc550754822a", func := "erewhile/erewhilelaw66.SalvageNewest", spec := "salvageNewest", unfollowed := true, recurses := true, apart := false, narrowed := true }
def SalvageNewestUptoSaid : Prop := salvageNewestUptoRow.holds Try.pinned (OpenSpec.upto salvageNewestSpec)

/-- 'erewhilelaw66.SalvagePast', WHERE WHAT IT READS IS OF BULK AT MOST 1048576: true; the input reads as it did. -/
def salvagePastUptoRow : OpenClaim := { program := "ytpoacfbobalpkaa", sum := "aea5a9392cd12d7e5c95a053fabf104d883a3b251676d64826b5dc550754822a", func := "erewhile/erewhilelaw66.SalvagePast", spec := "salvagePast", unfollowed := true, recurses := true, apart := false, narrowed := true }
def SalvagePastUptoSaid : Prop := salvagePastUptoRow.holds Try.pinned (OpenSpec.upto salvagePastSpec)

end Rows
end Go.Proofs.Ytpoacfbobalpkaa
