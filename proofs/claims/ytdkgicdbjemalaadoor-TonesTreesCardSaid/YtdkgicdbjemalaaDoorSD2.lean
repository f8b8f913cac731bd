import Derived.Test.YtdkgicdbjemalaaDoorSD
/-! Tones: figures with rings: with the matchings they are all figures. -/
set_option linter.unusedVariables false
namespace Go.X
set_option maxRecDepth 1000000 in
theorem ds_6 : ((List.range 7).all fun n => dsB n) = true := by kernel_rfl
set_option maxRecDepth 1000000 in
theorem ds_7 : dsB 7 = true := by kernel_rfl
end Go.X
