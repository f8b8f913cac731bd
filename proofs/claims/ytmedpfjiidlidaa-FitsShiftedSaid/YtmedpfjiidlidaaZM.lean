import Derived.Test.YtmedpfjiidlidaaZC
/-! Two fashions: what lasts (plain laws). -/
set_option linter.unusedSimpArgs false
set_option linter.unusedVariables false
set_option maxHeartbeats 2000000
set_option maxRecDepth 10000
namespace Go.X
open Go Go.RowKit

theorem lasts_two {t : List (List Int)} {ys : List Int} (hl : t.length = 2) : lastsP t ys = (subS (fashS ys) (bestS t ys) && tailP t (fashS ys) (partsO (fashS ys) (bestS t ys) 2).1 (partsO (fashS ys) (bestS t ys) 2).2) := by
  unfold lastsP; rw [hl]

theorem way_two {a b c d : Int} : wayS [[a, b], [c, d]] 0 1 1 = 2 * (d - c - b + a) ∧ wayS [[a, b], [c, d]] 1 0 0 = 2 * (a - b - c + d) := by
  constructor
  · have : wayS [[a, b], [c, d]] 0 1 1 = (d - c - b + a) + (d - c - b + a) := rfl
    rw [this]; omega
  · have : wayS [[a, b], [c, d]] 1 0 0 = (a - b - c + d) + (a - b - c + d) := rfl
    rw [this]; omega

theorem lasts_at {a b c d : Int} {ys : List Int} {o b' : Nat} (ho : fashS ys = o) (hb : bestS [[a, b], [c, d]] ys = b') :
    lastsP [[a, b], [c, d]] ys = (subS o b' && tailP [[a, b], [c, d]] o (partsO o b' 2).1 (partsO o b' 2).2) := by
  rw [lasts_two rfl, ho, hb]

theorem nums_two {a b c d : Int} : numsT [[a, b], [c, d]] 3 = [b - d, c - a] := by kernel_rfl

end Go.X
