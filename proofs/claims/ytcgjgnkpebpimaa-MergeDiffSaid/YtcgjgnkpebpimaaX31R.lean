/- Layers 31 and 32: the statement. -/
import Derived.Test.YtcgjgnkpebpimaaProg
import Derived.KernelRfl
import Derived.Test.YtcgjgnkpebpimaaX31D2
import Derived.Test.YtcgjgnkpebpimaaX32R
namespace Go.Proofs.Ytcgjgnkpebpimaa.A
open Go Go.RowKit
set_option linter.unusedVariables false
set_option linter.unusedSimpArgs false
set_option maxRecDepth 100000


end Go.Proofs.Ytcgjgnkpebpimaa.A
