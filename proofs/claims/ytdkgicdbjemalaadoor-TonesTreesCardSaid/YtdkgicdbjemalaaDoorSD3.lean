import Derived.Test.YtdkgicdbjemalaaDoorSD
/-! Tones: figures with rings: rings and ways. -/
set_option linter.unusedVariables false
namespace Go.X
set_option maxRecDepth 1000000 in
theorem c1_all : ((List.range 8).all fun n => c1B n) = true := by kernel_rfl
set_option maxRecDepth 1000000 in
theorem c2_a : ((List.range 8).all fun n => c2A n) = true := by kernel_rfl
set_option maxRecDepth 1000000 in
theorem c2_6 : ((List.range 7).all fun n => (List.range n).all fun k => c2P n k) = true := by kernel_rfl
end Go.X
