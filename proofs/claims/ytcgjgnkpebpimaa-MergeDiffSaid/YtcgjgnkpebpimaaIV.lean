/- slices.SortFunc, in the words of the walks. -/
import Derived.Test.YtcgjgnkpebpimaaT
import Derived.Test.YtcgjgnkpebpimaaIS
import Derived.KernelRfl
namespace Go.Proofs.Ytcgjgnkpebpimaa.A
open Go Go.RowKit Go.Maps Go.Sort Go.Shelf
theorem sortFunc53 : SortFuncK Try.prog 53 2 := fun α _ enc hk h1 cf hO g cb blk off cap d w eg hcmp hH hblk hsz hT =>
  AnyQ.slices_SortFunc_total Try.sortK53 2 (run_isAgg (by kernel_rfl)) (fun w => run_sz (by kernel_rfl) w) enc hk h1 cf hO g cb blk off cap d w eg hcmp hH hblk hsz hT
theorem sortFunc0_53 : SortFunc0 Try.prog 53 := fun p cap fv w => AnyF.slices_SortFunc_none { Try.sortK53 with } p cap fv w
theorem sortFunc57 : SortFuncK Try.prog 57 2 := fun α _ enc hk h1 cf hO g cb blk off cap d w eg hcmp hH hblk hsz hT =>
  AnyQ.slices_SortFunc_total Try.sortK57 2 (run_isAgg (by kernel_rfl)) (fun w => run_sz (by kernel_rfl) w) enc hk h1 cf hO g cb blk off cap d w eg hcmp hH hblk hsz hT
theorem sortFunc0_57 : SortFunc0 Try.prog 57 := fun p cap fv w => AnyF.slices_SortFunc_none { Try.sortK57 with } p cap fv w
end Go.Proofs.Ytcgjgnkpebpimaa.A
