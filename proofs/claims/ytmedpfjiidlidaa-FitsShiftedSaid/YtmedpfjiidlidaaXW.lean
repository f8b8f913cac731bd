import Derived.Test.YtmedpfjiidlidaaXV
import Derived.Test.YtmedpfjiidlidaaXS
/-! The mixture against which some fashions gain the same: the specification's numbers. -/
set_option linter.unusedSimpArgs false
set_option linter.unusedVariables false
set_option maxHeartbeats 2000000
set_option maxRecDepth 10000
namespace Go.X
open Go Go.RowKit
section
variable {Y : Run} {H : Heap}

end
end Go.X
