import Derived.Test.YtmedpfjiidlidaaZP
import Derived.Test.YtmedpfjiidlidaaZG
/-! Ratios that are sound, and compared. -/
set_option linter.unusedSimpArgs false
set_option linter.unusedVariables false
set_option maxHeartbeats 2000000
set_option maxRecDepth 10000
namespace Go.X
open Go Go.RowKit
section
variable {Y : Run} {H : Heap}

end
end Go.X
