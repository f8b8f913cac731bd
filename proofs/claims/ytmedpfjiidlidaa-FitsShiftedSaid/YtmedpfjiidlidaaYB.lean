import Derived.Test.YtmedpfjiidlidaaXS
import Derived.Test.YtmedpfjiidlidaaXF
/-! The closed example, run by the kernel. -/
namespace Go.X
open Go Go.RowKit

theorem alive16 {Y : Run} {H : Heap} : freeX H (callL E Y 16 [] []) = some (.bool true, H) := runFree (k := 400) (by kernel_rfl)
end Go.X
