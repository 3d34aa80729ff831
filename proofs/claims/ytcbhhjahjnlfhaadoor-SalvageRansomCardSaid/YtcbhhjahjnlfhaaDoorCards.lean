/-
  DERIVED. GIVEN WITH THE SEED: THE CARDS: each row of YtcbhhjahjnlfhaaDoorRows.lean that lists a variable, with what it lists TIED to the program's text (the seventh form; the later family's looks); each row that meets fmt, with fmt's text TOLD by the authors' own Lean function (tested against real Go, not proved from fmt's source: count such statements apart). THE CARD IS WHAT COUNTS. Prove the row's statement (the work); the ties are given (YtcbhhjahjnlfhaaDoorTie.lean); close each card by the builder's one call (the guide's Derived/Test/ToyasCard.lean, 'card_holds'). Laid BY PROGRAM, IN A SANDBOX (cutbox-door.mjs). By AI agents, Wed Nov 11 2026. No macro, syntax, notation, axiom, sorry.
-/
import Derived.Test.YtcbhhjahjnlfhaaDoorRows
import GoSem.ClaimSeven
namespace Go.Proofs.YtcbhhjahjnlfhaaDoor
namespace Rows

/-- THE TIED CARD OF 'erewhilelaw66.SalvageRansom'. -/
def salvageRansomCard : Claim7 := { stood := { row := salvageRansomRow, standIns := [], harness := (true, "59c315ff569a3bd340185ddb1a7e1604f3abe22fc3537e27cb92edabc2e46a53"), looks := false }, kinds := [], alts := [], laidByText := true, laidKinds := [.widerDeep], laidTests := true, laidLooks := .later }
def SalvageRansomCardSaid : Prop := Claim7.holds Tryd.pinned (.plain (OpenSpec.ofChange salvageRansomSpec)) salvageRansomCard

/-- THE TIED CARD OF 'erewhilelaw62.FsdiffRansom'. -/
def fsdiffRansomCard : Claim7 := { stood := { row := fsdiffRansomRow, standIns := [], harness := (true, "59c315ff569a3bd340185ddb1a7e1604f3abe22fc3537e27cb92edabc2e46a53"), looks := false }, kinds := [], alts := [], laidByText := true, laidKinds := [.widerDeep], laidTests := true, laidLooks := .later }
def FsdiffRansomCardSaid : Prop := Claim7.holds Tryd.pinned (.plain (OpenSpec.ofChange fsdiffRansomSpec)) fsdiffRansomCard

/-- THE TIED CARD OF 'erewhilelaw62.FsdiffMounted'. -/
def fsdiffMountedCard : Claim7 := { stood := { row := fsdiffMountedRow, standIns := [], harness := (true, "59c315ff569a3bd340185ddb1a7e1604f3abe22fc3537e27cb92edabc2e46a53"), looks := false }, kinds := [], alts := [], laidByText := true, laidKinds := [.widerDeep], laidTests := true, laidLooks := .later }
def FsdiffMountedCardSaid : Prop := Claim7.holds Tryd.pinned (.plain (OpenSpec.ofChange fsdiffMountedSpec)) fsdiffMountedCard

/-- THE SECOND FORM's CARD OF 'erewhilelaw66.SalvageRansom'. -/
def salvageRansomUptoCard : Claim7 := { stood := { row := salvageRansomUptoRow, standIns := [], harness := (true, "59c315ff569a3bd340185ddb1a7e1604f3abe22fc3537e27cb92edabc2e46a53"), looks := false }, kinds := [], alts := [], laidByText := true, laidKinds := [.widerDeep], laidTests := true, laidLooks := .later }
def SalvageRansomUptoCardSaid : Prop := Claim7.holds Tryd.pinned (.plain (OpenSpec.upto salvageRansomSpec)) salvageRansomUptoCard

/-- THE SECOND FORM's CARD OF 'erewhilelaw62.FsdiffRansom'. -/
def fsdiffRansomUptoCard : Claim7 := { stood := { row := fsdiffRansomUptoRow, standIns := [], harness := (true, "59c315ff569a3bd340185ddb1a7e1604f3abe22fc3537e27cb92edabc2e46a53"), looks := false }, kinds := [], alts := [], laidByText := true, laidKinds := [.widerDeep], laidTests := true, laidLooks := .later }
def FsdiffRansomUptoCardSaid : Prop := Claim7.holds Tryd.pinned (.plain (OpenSpec.upto fsdiffRansomSpec)) fsdiffRansomUptoCard

/-- THE SECOND FORM's CARD OF 'erewhilelaw62.FsdiffMounted'. -/
def fsdiffMountedUptoCard : Claim7 := { stood := { row := fsdiffMountedUptoRow, standIns := [], harness := (true, "59c315ff569a3bd340185ddb1a7e1604f3abe22fc3537e27cb92edabc2e46a53"), looks := false }, kinds := [], alts := [], laidByText := true, laidKinds := [.widerDeep], laidTests := true, laidLooks := .later }
def FsdiffMountedUptoCardSaid : Prop := Claim7.holds Tryd.pinned (.plain (OpenSpec.upto fsdiffMountedSpec)) fsdiffMountedUptoCard
end Rows
end Go.Proofs.YtcbhhjahjnlfhaaDoor
