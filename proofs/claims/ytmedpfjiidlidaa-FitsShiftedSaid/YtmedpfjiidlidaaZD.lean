import Derived.Test.YtmedpfjiidlidaaZB
/-! A table's copy; the same rows; the law on gains. -/
set_option linter.unusedSimpArgs false
set_option linter.unusedVariables false
set_option maxHeartbeats 2000000
set_option maxRecDepth 10000
namespace Go.X
open Go Go.RowKit
section
variable {Y : Run} {H : Heap}

theorem IsRow.content {v : AV} {l : List Int} (h : IsRow v l) : content H 1 v = some (l.map vI) := by
  cases h with
  | nil => rfl
  | imm sn l => simp only [Go.X.content]; rw [if_pos (by simp), List.take_of_length_le (by simp)]

theorem ones_all : ∀ (l : List Int), (l.map vI).all one = true
  | [] => rfl
  | x :: l => by rw [List.map_cons, List.all_cons, ones_all l]; rfl

theorem freeRow {l : List Int} {id ver d : Nat} (h : H[id]? = some ⟨ver, l.map vI⟩) : freeA H (d + 2) (.sl id ver 1 0 l.length none) = some (.imm false (l.map vI) l.length) := by
  rw [free_sl, h, freeS_some, if_pos (by simp), List.drop_zero, Nat.mul_one, List.take_of_length_le (by simp), mapM_free, freeB_some]

theorem mapM_rng {f : AV → Option AV} : ∀ (l : List AV) (g : Nat → AV), (∀ j, j < l.length → f (l.getD j .undef) = some (g j)) → l.mapM f = some ((List.range l.length).map g)
  | [], _, _ => rfl
  | c :: l, g, h => by
    have h0 := h 0 (by simp)
    have h1 := mapM_rng l (fun j => g (j + 1)) fun j hj => h (j + 1) (by simpa using hj)
    rw [mapM_cons', h1]
    have : f c = some (g 0) := h0
    rw [this]
    simp [consO, List.range_succ_eq_map, Function.comp_def]

/-! ### The same rows -/
end
end Go.X
