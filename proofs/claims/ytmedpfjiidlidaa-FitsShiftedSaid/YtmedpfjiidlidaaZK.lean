import Derived.Test.YtmedpfjiidlidaaZJ
/-! The law on shifted and renamed tables. -/
set_option linter.unusedSimpArgs false
set_option linter.unusedVariables false
set_option maxHeartbeats 4000000
set_option maxRecDepth 10000
namespace Go.X
open Go Go.RowKit
section
variable {Y : Run} {H : Heap}

theorem small_nil : Small [] := ⟨by simp, fun _ h => by simp at h⟩

theorem shiftL_small {t : List (List Int)} (hs : Small t) (c b : Int) : Small (shiftL t c b).1 := by
  unfold shiftL
  split
  · refine ⟨by simpa using hs.1, fun r hr => ?_⟩
    obtain ⟨q, hq, rfl⟩ := List.mem_map.1 hr
    simpa [addAt] using hs.2 q hq
  · exact small_nil

theorem renT_small {t : List (List Int)} {l : List Int} (hl : l.length ≤ 20) : Small (renT t l) := by
  refine ⟨by simpa [renT] using hl, fun r hr => ?_⟩
  obtain ⟨q, _, rfl⟩ := List.mem_map.1 hr
  simpa using hl

theorem renamed {vt ut v : AV} {t : List (List Int)} {l : List Int} (ht : IsTab vt t) (hu : IsTab ut t) (hs : Small t) (hv : IsRow v l) (hl : l.length ≤ 20) :
    ∃ w w2 ls e, IsTab w ls ∧ IsTab w2 ls ∧ Small ls ∧ (∀ H, freeX H (callL E2 Y 42 [ut, v] []) = some (.tup [w, vI e], H)) ∧ (∀ H, freeX H (callL E2 Y 43 [vt, v] []) = some (.tup [w2, vI e], H)) := by
  obtain ⟨a1, a2⟩ := renamed42 (Y := Y) ht hs hv hl
  obtain ⟨b1, b2⟩ := renamed42 (Y := Y) hu hs hv hl
  by_cases c : okTab t ∧ isOrd t.length l = true
  · obtain ⟨w, w1, _, w3⟩ := a1 c
    obtain ⟨u, u1, u2, _⟩ := b1 c
    exact ⟨u, w, _, 0, u1, w1, renT_small hl, u2, w3⟩
  · exact ⟨.nils, .nils, [], 2, .nil, .nil, small_nil, (b2 c).1, (a2 c).2⟩

end
end Go.X
