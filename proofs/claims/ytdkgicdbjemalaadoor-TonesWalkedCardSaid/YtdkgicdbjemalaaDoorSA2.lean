import Derived.Test.YtdkgicdbjemalaaDoorSA
/-! Tones: ways to one knot of seven. -/
set_option linter.unusedVariables false
namespace Go.X
set_option maxRecDepth 1000000 in
theorem walk_72 : walkB 7 2 = true := by kernel_rfl
end Go.X
