import Derived.Test.YtdkgicdbjemalaaDoorSA
/-! Tones: ways to one knot of seven. -/
set_option linter.unusedVariables false
namespace Go.X
set_option maxRecDepth 1000000 in
theorem walk_70 : walkB 7 0 = true := by kernel_rfl
end Go.X
