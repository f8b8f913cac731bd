import Derived.Test.YtdkgicdbjemalaaDoorSD
/-! Tones: figures with rings: rings of seven knots and ways. -/
set_option linter.unusedVariables false
namespace Go.X
set_option maxRecDepth 1000000 in
theorem c2_70 : c2P 7 0 = true := by kernel_rfl
set_option maxRecDepth 1000000 in
theorem c2_71 : c2P 7 1 = true := by kernel_rfl
set_option maxRecDepth 1000000 in
theorem c2_72 : c2P 7 2 = true := by kernel_rfl
set_option maxRecDepth 1000000 in
theorem c2_73 : c2P 7 3 = true := by kernel_rfl
set_option maxRecDepth 1000000 in
theorem c2_74 : c2P 7 4 = true := by kernel_rfl
end Go.X
