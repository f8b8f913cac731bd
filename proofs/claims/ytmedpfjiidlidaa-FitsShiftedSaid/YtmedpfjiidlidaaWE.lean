import Derived.Test.YtmedpfjiidlidaaWB
import Derived.Test.YtmedpfjiidlidaaZM
/-! Fashions alone: the limits (plain laws). -/
set_option linter.unusedSimpArgs false
set_option linter.unusedVariables false
set_option maxHeartbeats 2000000
set_option maxRecDepth 10000
namespace Go.X
open Go Go.RowKit

theorem ask_alone {t : List (List Int)} (hok : okTab t) {i : Nat} (hi : i < t.length) : askS t [(unit t.length i, 1)] = true := by
  have hn := hok.2.1
  have m2 : mixS t.length (unit t.length i) 1 = true := by
    have : ∀ n : Nat, n < 4 → ∀ i : Nat, i < n → mixS (n : Int) (unit n i) 1 = true := by decide
    exact this t.length (by omega) i hi
  simp only [askS, hok, decide_true, List.all_cons, List.all_nil, m2, Bool.and_self]

end Go.X
