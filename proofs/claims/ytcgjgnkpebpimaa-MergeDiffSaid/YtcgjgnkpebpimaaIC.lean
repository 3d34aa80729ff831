/- The kit's contract on maps.Clone, laid at this program. -/
import Derived.Shelf.SlGeneric
import Derived.Ground.SlmcProg
import Derived.Shelf.SlMaps.Clone
import Derived.Test.YtcgjgnkpebpimaaProg
namespace Go.Proofs
open Go.Shelf
def Try.cloneK35_ren : Go.Shelf.Ren := ⟨fun | 5 => 35 | 7 => 46 | n => n, fun | 23 => 65 | 25 => 69 | 3 => 23 | 4 => 4 | 20 => 20 | n => n, fun | n => n⟩
theorem Try.cloneK35 : Go.Proofs.SlLaysW.n5 Try.prog Try.cloneK35_ren := {
  mixed := by kernel_rfl
  f5 := ⟨Try.f35.name, by decide, Try.func35.trans (congrArg some (by kernel_rfl))⟩
  f7 := Try.func46.trans (congrArg some (by kernel_rfl))
  t4 := Try.underlying4
  a4 := Try.isAgg4
  z4 := Try.sizeOf4
  v4 := Try.zeroValue4
  t20 := Try.underlying20
  a20 := Try.isAgg20
  z20 := Try.sizeOf20
  v20 := Try.zeroValue20
  t23 := Try.underlying65
  a23 := Try.isAgg65
  z23 := Try.sizeOf65
  v23 := Try.zeroValue65 }
end Go.Proofs
