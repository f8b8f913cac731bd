import Derived.Test.YtdkgicdbjemalaaDoorSA
/-! Tones: figures without one of seven knots. -/
set_option linter.unusedVariables false
namespace Go.X
set_option maxRecDepth 1000000 in
theorem trace_7 : traceB 7 = true := by kernel_rfl
end Go.X
