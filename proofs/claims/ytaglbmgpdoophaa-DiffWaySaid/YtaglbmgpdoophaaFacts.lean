/- Closed facts of the program. -/
import Derived.Test.YtaglbmgpdoophaaRows
import Derived.Test.YtaglbmgpdoophaaA
import Derived.WalkKit
import Derived.ProofKit
import Derived.JoinedOf
namespace Go.Proofs.Ytaglbmgpdoophaa
open Go Go.RowKit
set_option maxRecDepth 100000
theorem F.andT {a b : Bool} (h : a = true) (k : b = true) : (a && b) = true := by rw [h, k]; rfl
theorem F.laidOut : (laidOutB Try.checked.prog) = true := by kernel_rfl
theorem F.mapsRowed : (mapsRowed Try.checked.prog) = true := by kernel_rfl
theorem F.stops : (Try.checked.prog.stops == []) = true := by kernel_rfl
theorem F.stopKnobs : (Try.checked.prog.stopKnobs == []) = true := by kernel_rfl
theorem F.plainKeys : (Rows.diffEntriesRow.plainKeys == Try.checked.prog.plainKeys) = true := by kernel_rfl
theorem F.stopsHeard : (Try.checked.prog.stopsHeard) = true := by kernel_rfl
theorem F.mayEnter : (Try.checked.prog.mayEnter) = true := by kernel_rfl
theorem F.lifted : (Rows.diffEntriesRow.lifted == Try.checked.prog.liftsFinal) = true := by kernel_rfl
end Go.Proofs.Ytaglbmgpdoophaa
