import Derived.Test.YtmedpfjiidlidaaZF
/-! Limit, both ways, and the law on it. -/
set_option linter.unusedSimpArgs false
set_option linter.unusedVariables false
set_option maxHeartbeats 2000000
set_option maxRecDepth 10000
namespace Go.X
open Go Go.RowKit
section
variable {Y : Run} {H : Heap}

theorem eqs_one {a b : Int} : eqsA true [true, true] (.agg [vI a, vI b]) (.agg [vI 1, vI 1]) = some (.bool (decide ¬ (a = 1 ∧ b = 1))) := by
  have e : eqsA true [true, true] (.agg [vI a, vI b]) (.agg [vI 1, vI 1]) = some (.bool (((a == 1) && ((b == 1) && true)) != true)) := rfl
  rw [e]
  by_cases c1 : a = 1 <;> by_cases c2 : b = 1 <;> simp [c1, c2]
end
end Go.X
