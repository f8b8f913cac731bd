import Derived.Test.YtmedpfjiidlidaaZQ
/-! Rest: the law. -/
set_option linter.unusedSimpArgs false
set_option linter.unusedVariables false
set_option maxHeartbeats 4000000
set_option maxRecDepth 10000
namespace Go.X
open Go Go.RowKit
section
variable {Y : Run} {H : Heap}

/-! ### What lies at a heap's end -/
section
variable {R : Heap} {a b c d x : Ob}
end

end
end Go.X
