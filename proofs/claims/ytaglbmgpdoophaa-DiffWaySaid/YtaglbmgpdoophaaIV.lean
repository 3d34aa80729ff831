/- slices.SortFunc, in the words of the walks. -/
import Derived.Test.YtaglbmgpdoophaaT
import Derived.Test.YtaglbmgpdoophaaIS
import Derived.KernelRfl
namespace Go.Proofs.Ytaglbmgpdoophaa.A
open Go Go.RowKit Go.Maps Go.Sort Go.Shelf
theorem sortFunc117 : SortFuncK Try.prog 117 2 := fun α _ enc hk h1 cf hO g cb blk off cap d w eg hcmp hH hblk hsz hT =>
  AnyQ.slices_SortFunc_total Try.sortK117 2 (run_isAgg (by kernel_rfl)) (fun w => run_sz (by kernel_rfl) w) enc hk h1 cf hO g cb blk off cap d w eg hcmp hH hblk hsz hT
theorem sortFunc0_117 : SortFunc0 Try.prog 117 := fun p cap fv w => AnyF.slices_SortFunc_none { Try.sortK117 with } p cap fv w
end Go.Proofs.Ytaglbmgpdoophaa.A
