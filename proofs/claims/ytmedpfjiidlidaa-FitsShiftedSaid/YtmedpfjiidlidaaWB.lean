import Derived.Test.YtmedpfjiidlidaaWA
import Derived.Test.YtmedpfjiidlidaaZR
import Derived.Test.YtmedpfjiidlidaaZH
/-! Limits of what lasts (plain laws); who is refused. -/
set_option linter.unusedSimpArgs false
set_option linter.unusedVariables false
set_option maxHeartbeats 4000000
set_option maxRecDepth 10000
namespace Go.X
open Go Go.RowKit
section
variable {Y : Run} {H : Heap}

theorem lasts_rest {t : List (List Int)} {xs : List Int} (h : lastsP t xs = true) : subS (fashS xs) (bestS t xs) = true := by
  unfold lastsP at h
  cases h2 : subS (fashS xs) (bestS t xs)
  · rw [h2] at h; simp at h
  · rfl

theorem unit_fash {n j : Nat} (hn : n ≤ 3) (hj : j < n) : fashS (unit n j) = 2 ^ j := by
  have : ∀ n : Nat, n < 4 → ∀ j : Nat, j < n → fashS (unit n j) = 2 ^ j := by decide
  exact this n (by omega) j hj

theorem sub_one {b j : Nat} (hb : b < 8) (hj : j < 3) (h : bit b j = true) : subS (2 ^ j) b = true := by
  have : ∀ b : Nat, b < 8 → ∀ j : Nat, j < 3 → bit b j = true → subS (2 ^ j) b = true := by decide +kernel
  exact this b hb j hj h

end
end Go.X
