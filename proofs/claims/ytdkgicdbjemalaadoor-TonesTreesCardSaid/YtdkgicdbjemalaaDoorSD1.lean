import Derived.Test.YtdkgicdbjemalaaDoorSD
/-! Tones: figures with rings: what each of them has. -/
set_option linter.unusedVariables false
namespace Go.X
set_option maxRecDepth 1000000 in
theorem dr_all : ((List.range 8).all fun n => drB n) = true := by kernel_rfl
set_option maxRecDepth 1000000 in
theorem dr_top : ((List.range 8).all fun n => (DR n).all fun y => Nat.ble y.1.2.1 n) = true := by kernel_rfl
set_option maxRecDepth 1000000 in
theorem dr_len : ((List.range 8).all fun n => Nat.ble (DR n).length 100000) = true := by kernel_rfl
end Go.X
