/- The kit's contract on maps.Clone, laid at this program. -/
import Derived.Shelf.SlGeneric
import Derived.Ground.SlmcProg
import Derived.Shelf.SlMaps.Clone
import Derived.Test.YtaglbmgpdoophaaProg
namespace Go.Proofs
open Go.Shelf
def Try.cloneK65_ren : Go.Shelf.Ren := ⟨fun | 5 => 65 | 7 => 102 | n => n, fun | 23 => 114 | 25 => 118 | 3 => 79 | 4 => 4 | 20 => 20 | n => n, fun | n => n⟩
theorem Try.cloneK65 : Go.Proofs.SlLaysW.n5 Try.prog Try.cloneK65_ren := {
  mixed := by kernel_rfl
  f5 := ⟨Try.f65.name, by decide, Try.func65.trans (congrArg some (by kernel_rfl))⟩
  f7 := Try.func102.trans (congrArg some (by kernel_rfl))
  t4 := Try.underlying4
  a4 := Try.isAgg4
  z4 := Try.sizeOf4
  v4 := Try.zeroValue4
  t20 := Try.underlying20
  a20 := Try.isAgg20
  z20 := Try.sizeOf20
  v20 := Try.zeroValue20
  t23 := Try.underlying114
  a23 := Try.isAgg114
  z23 := Try.sizeOf114
  v23 := Try.zeroValue114 }
end Go.Proofs
