/-
  NARROWER THAN 'FOR EVERY INPUT', by the rows' own cells (each row's printed sentence says how): SalvageRansom: laid · FsdiffRansom: laid · FsdiffMounted: laid.
  DERIVED. THE GIVEN ROWS OF THIS SEAT. 3 by the template 'for every input the law returns true; each argument reads behind the call as it read before'; 0 by the template 'total and deterministic' (their statements: YtcbhhjahjnlfhaaDoorTotals.lean).
  GIVEN WITH THE SEED: the statements are not yours to turn. If you find one false, say at which input.
  Laid BY PROGRAM, IN A SANDBOX (cutbox-rows.mjs): the forced cells as the released guide's own fill.sh prints them over the translation a89e4a79b303bfd6… (all of the seat's roots in one cut). By AI agents, Wed Nov 11 2026. No macro, syntax, notation, axiom, sorry.
-/
import Derived.Test.YtcbhhjahjnlfhaaDoorChecked
import GoSem.Claim
import GoSem.ClaimJoined
import GoSem.ClaimMapViews
import Derived.JoinedTies
import Derived.KernelRfl
namespace Go.Proofs.YtcbhhjahjnlfhaaDoor
/- THE CELL 'sum', in the pinned program and in every row, IS THE sha256 OF THE DUMP (.gsa) THAT YtcbhhjahjnlfhaaDoorProg.lean LOADS. Nothing in Lean hashes anything: it is a label: what it is worth is what the hold of that sum in a sandbox is worth. -/
noncomputable def Tryd.pinned : Pinned := { name := "ytcbhhjahjnlfhaadoor", sum := "a89e4a79b303bfd6e15d419241eacf87eb36b3c933efae701cdfb59293ae2af4", checked := Tryd.checked }
namespace Rows
def none {H : Type} : Left H := { results := [], args := [] }

/- WHAT THE LISTED PACKAGE-LEVEL VARIABLES READ AS WHEN THE CALL BEGINS. Each datum BY PROGRAM (the guide's laid-datum.mjs) off the statement by which the dump's own 'gosem.cut.vars' lays the variable. In a bare row this is a premise. The card (YtcbhhjahjnlfhaaDoorCards.lean) ties it to the program's text. -/
def laid_erewhile_fs_magic {H : Type} : DataW H := .agg [.lit (.int .u8 69), .lit (.int .u8 82), .lit (.int .u8 69), .lit (.int .u8 87), .lit (.int .u8 1)]

/-- 'erewhilelaw66.SalvageRansom': WHATEVER THE INPUT: true; the input reads as it did. -/
def salvageRansomSpec : ChangeSpec := { name := "salvageRansom", fn := fun _ => fun
  | [d1, d2, d3] => { results := [.lit (.bool true)], args := [d1, d2, d3] }
  | _ => none }
def salvageRansomRow : OpenClaim := { program := "ytcbhhjahjnlfhaadoor", sum := "a89e4a79b303bfd6e15d419241eacf87eb36b3c933efae701cdfb59293ae2af4", func := "erewhile/erewhilelaw66.SalvageRansom", spec := "salvageRansom", inPlace := ["internal/bytealg.Count", "internal/bytealg.IndexByte", "internal/bytealg.Index"], unfollowed := true, recurses := true, named := ["erewhile/fs.magic", "internal/bytealg.MaxLen"], apart := false, laid := [("erewhile/fs.magic", laid_erewhile_fs_magic)] }
def SalvageRansomSaid : Prop := salvageRansomRow.holds Tryd.pinned (OpenSpec.ofChange salvageRansomSpec)

/-- ITS FALSE NEIGHBOUR: 'it returns false'. Refute it at one input. -/
def salvageRansomWrong : ChangeSpec := { name := "salvageRansom", fn := fun _ => fun
  | [d1, d2, d3] => { results := [.lit (.bool false)], args := [d1, d2, d3] }
  | _ => none }
def SalvageRansomWrongFalsely : Prop := salvageRansomRow.holds Tryd.pinned (OpenSpec.ofChange salvageRansomWrong)

/-- 'erewhilelaw62.FsdiffRansom': WHATEVER THE INPUT: true; the input reads as it did. -/
def fsdiffRansomSpec : ChangeSpec := { name := "fsdiffRansom", fn := fun _ => fun
  | [d1, d2] => { results := [.lit (.bool true)], args := [d1, d2] }
  | _ => none }
def fsdiffRansomRow : OpenClaim := { program := "ytcbhhjahjnlfhaadoor", sum := "a89e4a79b303bfd6e15d419241eacf87eb36b3c933efae701cdfb59293ae2af4", func := "erewhile/erewhilelaw62.FsdiffRansom", spec := "fsdiffRansom", inPlace := ["internal/bytealg.Count", "internal/bytealg.IndexByte", "internal/bytealg.Index"], unfollowed := true, recurses := true, named := ["erewhile/fs.magic", "internal/bytealg.MaxLen"], apart := false, laid := [("erewhile/fs.magic", laid_erewhile_fs_magic)] }
def FsdiffRansomSaid : Prop := fsdiffRansomRow.holds Tryd.pinned (OpenSpec.ofChange fsdiffRansomSpec)

/-- ITS FALSE NEIGHBOUR: 'it returns false'. Refute it at one input. -/
def fsdiffRansomWrong : ChangeSpec := { name := "fsdiffRansom", fn := fun _ => fun
  | [d1, d2] => { results := [.lit (.bool false)], args := [d1, d2] }
  | _ => none }
def FsdiffRansomWrongFalsely : Prop := fsdiffRansomRow.holds Tryd.pinned (OpenSpec.ofChange fsdiffRansomWrong)

/-- 'erewhilelaw62.FsdiffMounted': WHATEVER THE INPUT: true; the input reads as it did. -/
def fsdiffMountedSpec : ChangeSpec := { name := "fsdiffMounted", fn := fun _ => fun
  | [d1, d2] => { results := [.lit (.bool true)], args := [d1, d2] }
  | _ => none }
def fsdiffMountedRow : OpenClaim := { program := "ytcbhhjahjnlfhaadoor", sum := "a89e4a79b303bfd6e15d419241eacf87eb36b3c933efae701cdfb59293ae2af4", func := "erewhile/erewhilelaw62.FsdiffMounted", spec := "fsdiffMounted", inPlace := ["internal/bytealg.Count", "internal/bytealg.IndexByte", "internal/bytealg.Index"], unfollowed := true, recurses := true, named := ["erewhile/fs.magic", "internal/bytealg.MaxLen"], apart := false, laid := [("erewhile/fs.magic", laid_erewhile_fs_magic)] }
def FsdiffMountedSaid : Prop := fsdiffMountedRow.holds Tryd.pinned (OpenSpec.ofChange fsdiffMountedSpec)

/-- ITS FALSE NEIGHBOUR: 'it returns false'. Refute it at one input. -/
def fsdiffMountedWrong : ChangeSpec := { name := "fsdiffMounted", fn := fun _ => fun
  | [d1, d2] => { results := [.lit (.bool false)], args := [d1, d2] }
  | _ => none }
def FsdiffMountedWrongFalsely : Prop := fsdiffMountedRow.holds Tryd.pinned (OpenSpec.ofChange fsdiffMountedWrong)

/- THE SECOND FORM. 'bulk': how many values and letters a reading holds, each counted each time it is reached (what is shared counts as often as it is met; a slice's spare places count too). A statement '..UptoSaid' is the law's where the arguments, and the package variables that the reading takes, are together of bulk at most 1048576: NARROWER than '..Said'. Prove '..Said' where nothing that the law and all that it calls make is longer than what came in: it says more and counts as full. Else prove '..UptoSaid'. A law counts once. -/
mutual
def uptoBulk {H : Type} : DataW H → Nat
  | .lit (.string bytes) => bytes.length + 1
  | .lit _ => 1
  | .nil => 1
  | .ptr d => uptoBulk d + 1
  | .slice elems spare => uptoBulkAll elems + uptoBulkAll spare + 1
  | .agg parts => uptoBulkAll parts + 1
  | .iface _ d => uptoBulk d + 1
  | .map entries => uptoBulkEntries entries + 1
  | .held _ => 1
def uptoBulkAll {H : Type} : List (DataW H) → Nat
  | [] => 0
  | d :: r => uptoBulk d + uptoBulkAll r
def uptoBulkEntries {H : Type} : List (Lit × DataW H) → Nat
  | [] => 0
  | x :: r => uptoBulkEntry x + uptoBulkEntries r
def uptoBulkEntry {H : Type} : Lit × DataW H → Nat
  | (.string bytes, d) => bytes.length + uptoBulk d + 1
  | (_, d) => uptoBulk d + 1
 end
def uptoSmall : (H : Type) → List (DataW H) → Bool := fun _ ds => decide (uptoBulkAll ds ≤ 1048576)
def OpenSpec.upto (s : _root_.Go.ChangeSpec) : _root_.Go.OpenSpec := { _root_.Go.OpenSpec.ofChange s with cond := some uptoSmall }

/-- 'erewhilelaw66.SalvageRansom', WHERE WHAT IT READS IS OF BULK AT MOST 1048576: true; the input reads as it did. -/
def salvageRansomUptoRow : OpenClaim := { program := "ytcbhhjahjnlfhaadoor", sum := "a89e4a79b303bfd6e15d419241eacf87eb36b3c933efae701cdfb59293ae2af4", func := "erewhile/erewhilelaw66.SalvageRansom", spec := "salvageRansom", inPlace := ["internal/bytealg.Count", "internal/bytealg.IndexByte", "internal/bytealg.Index"], unfollowed := true, recurses := true, named := ["erewhile/fs.magic", "internal/bytealg.MaxLen"], apart := false, laid := [("erewhile/fs.magic", laid_erewhile_fs_magic)], narrowed := true }
def SalvageRansomUptoSaid : Prop := salvageRansomUptoRow.holds Tryd.pinned (OpenSpec.upto salvageRansomSpec)

/-- 'erewhilelaw62.FsdiffRansom', WHERE WHAT IT READS IS OF BULK AT MOST 1048576: true; the input reads as it did. -/
def fsdiffRansomUptoRow : OpenClaim := { program := "ytcbhhjahjnlfhaadoor", sum := "a89e4a79b303bfd6e15d419241eacf87eb36b3c933efae701cdfb59293ae2af4", func := "erewhile/erewhilelaw62.FsdiffRansom", spec := "fsdiffRansom", inPlace := ["internal/bytealg.Count", "internal/bytealg.IndexByte", "internal/bytealg.Index"], unfollowed := true, recurses := true, named := ["erewhile/fs.magic", "internal/bytealg.MaxLen"], apart := false, laid := [("erewhile/fs.magic", laid_erewhile_fs_magic)], narrowed := true }
def FsdiffRansomUptoSaid : Prop := fsdiffRansomUptoRow.holds Tryd.pinned (OpenSpec.upto fsdiffRansomSpec)

/-- 'erewhilelaw62.FsdiffMounted', WHERE WHAT IT READS IS OF BULK AT MOST 1048576: true; the input reads as it did. -/
def fsdiffMountedUptoRow : OpenClaim := { program := "ytcbhhjahjnlfhaadoor", sum := "a89e4a79b303bfd6e15d419241eacf87eb36b3c933efae701cdfb59293ae2af4", func := "erewhile/erewhilelaw62.FsdiffMounted", spec := "fsdiffMounted", inPlace := ["internal/bytealg.Count", "internal/bytealg.IndexByte", "internal/bytealg.Index"], unfollowed := true, recurses := true, named := ["erewhile/fs.magic", "internal/bytealg.MaxLen"], apart := false, laid := [("erewhile/fs.magic", laid_erewhile_fs_magic)], narrowed := true }
def FsdiffMountedUptoSaid : Prop := fsdiffMountedUptoRow.holds Tryd.pinned (OpenSpec.upto fsdiffMountedSpec)

end Rows
end Go.Proofs.YtcbhhjahjnlfhaaDoor
