import Derived.Test.YtchgifdkhknppaaVF
import Derived.Test.YtchgifdkhknppaaQB
/-! Veils: Count, of the awake part, run by the kernel. -/
set_option maxRecDepth 100000
namespace Go.X
theorem al22 (Y : Run) : ∃ H', callL EV Y 22 [.imm true [.int .i64 1, .int .i64 0, .int .i64 3, .int .i64 2, .int .i64 5, .int .i64 4] 6] [] = some (.tup [.int .i64 2, .int .i64 0], H') := by
  have h : (callT EV Y 1000 22 [.imm true [.int .i64 1, .int .i64 0, .int .i64 3, .int .i64 2, .int .i64 5, .int .i64 4] 6] []).map (fun q => q.1) = some (.tup [.int .i64 2, .int .i64 0]) := by kernel_rfl
  cases hc : callT EV Y 1000 22 [.imm true [.int .i64 1, .int .i64 0, .int .i64 3, .int .i64 2, .int .i64 5, .int .i64 4] 6] [] with
  | none => rw [hc] at h; cases h
  | some q =>
    rw [hc] at h
    obtain ⟨v, H'⟩ := q
    refine ⟨H', ?_⟩
    rw [callT_run hc]
    simp only [Option.map_some, Option.some.injEq] at h
    rw [h]
end Go.X
