import Derived.Test.YtdkgicdbjemalaaDoorSD
/-! Tones: figures with rings: rings of seven knots and ways. -/
set_option linter.unusedVariables false
namespace Go.X
set_option maxRecDepth 1000000 in
theorem c2_76 : c2P 7 6 = true := by kernel_rfl
end Go.X
