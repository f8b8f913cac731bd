import Derived.Test.YtchgifdkhknppaaVB
import Derived.Test.YtchgifdkhknppaaQC
/-! Veils: the awake part, run by the kernel (Count is known). -/
set_option maxRecDepth 100000
set_option linter.unusedSimpArgs false
namespace Go.X
noncomputable def H22 (Y : Run) : Heap := Classical.choose (al22 Y)
def isL : List AV → List Int → Bool
  | [], [] => true
  | .int .i64 a :: cs, b :: l => cond (a == b) (isL cs l) false
  | _, _ => false
theorem isL_eq : ∀ {cs : List AV} {l : List Int}, isL cs l = true → cs = l.map fun n => .int .i64 n
  | [], [], _ => rfl
  | c :: cs, [], h => by simp [isL] at h
  | [], b :: l, h => by simp [isL] at h
  | c :: cs, b :: l, h => by
    unfold isL at h
    split at h
    · rename_i h1 h2; cases h2
    · rename_i a cs' b' l' h1 h2
      cases h1; cases h2
      cases he : (a == b) with
      | false => rw [he] at h; cases h
      | true =>
        rw [he] at h
        rw [List.map_cons, ← isL_eq h, eq_of_beq he]
    · cases h
noncomputable def Y22 (Y : Run) : Run := fun f args H => match args, H with
  | [.imm true cells 6], [] => cond (Nat.beq f 22 && isL cells [1, 0, 3, 2, 5, 4]) (some (.tup [.int .i64 2, .int .i64 0], H22 Y)) none
  | _, _ => none
noncomputable def E22 (f : Nat) : Option XF := cond (Nat.beq f 22) none (EV f)
theorem E22_up : ∀ f F, E22 f = some F → EV f = some F := by
  intro f F h
  unfold E22 at h
  cases hb : Nat.beq f 22 with
  | true => rw [hb] at h; cases h
  | false => rw [hb] at h; exact h
theorem Y22_le {Y : Run} : RLe (Y22 Y) (callL EV Y) := by
  intro f args H r h
  unfold Y22 at h
  split at h
  · rename_i cells
    cases hb : (Nat.beq f 22 && isL cells [1, 0, 3, 2, 5, 4]) with
    | false => rw [hb] at h; cases h
    | true =>
      rw [hb] at h
      rw [Bool.and_eq_true] at hb
      have h1 := Nat.eq_of_beq_eq_true hb.1
      have h2 := isL_eq hb.2
      subst h1 h2
      cases h
      exact Classical.choose_spec (al22 Y)
  · cases h
theorem alive20 {Y : Run} {H : Heap} : freeX H (callL EV Y 20 [] []) = some (.bool true, H) := memoFree E22_up Y22_le (k := 1000) (by kernel_rfl)
end Go.X
