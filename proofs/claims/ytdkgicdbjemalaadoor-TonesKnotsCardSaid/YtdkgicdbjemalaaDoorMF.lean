import Derived.Test.YtdkgicdbjemalaaDoorME
import Derived.Test.YtdkgicdbjemalaaDoorQC
/-! What every right program knows of a few frames: a closed run. -/
set_option linter.unusedSimpArgs false
set_option linter.unusedVariables false
namespace Go.X
open Go Go.RowKit Go.Proofs

theorem atStep_le {R R' : Run} (h : RLe R R') {x : Int} {st e v : AV} {H : Heap} (hs : atStep R x st e H = some v) : atStep R' x st e H = some v := by
  unfold atStep at hs ⊢
  cases h1 : callA R 1 76 [.int .i64 x] H with
  | none => rw [h1] at hs; cases hs
  | some q =>
    obtain ⟨w, H1⟩ := q
    rw [h1] at hs
    rw [callA_le h h1]
    simp only at hs ⊢
    cases h2 : callA R 1 95 [st, w] H with
    | none => rw [h2] at hs; cases hs
    | some q =>
      obtain ⟨t, H2⟩ := q
      rw [h2] at hs
      rw [callA_le h h2]
      simp only at hs ⊢
      cases h3 : callA R 1 96 [t, e] H with
      | none => rw [h3] at hs; cases hs
      | some q => rw [h3] at hs; rw [callA_le h h3]; exact hs

theorem atFold_le {R R' : Run} (h : RLe R R') {x : Int} {H : Heap} {cells : List AV} : ∀ {m : Nat} {st v : AV}, atFold R x H cells m st = some v → atFold R' x H cells m st = some v
  | 0, st, v, hs => hs
  | m + 1, st, v, hs => by
    simp only [atFold] at hs ⊢
    cases h1 : atStep R x st (.agg [cells.getD (m * 2) .undef, cells.getD (m * 2 + 1) .undef]) H with
    | none => rw [h1] at hs; cases hs
    | some q =>
      rw [h1] at hs
      rw [atStep_le h h1]
      split at hs
      · split at hs
        · rename_i hd; rw [if_pos hd]; exact atFold_le h hs
        · cases hs
      · cases hs

theorem atY_le {R R' : Run} (h : RLe R R') {p : AV} {x : Int} {H : Heap} {r : AV × Heap} (hs : atY R p x H = some r) : atY R' p x H = some r := by
  unfold atY at hs ⊢
  split at hs
  · rename_i cells len hrow
    cases h1 : atFold R x H cells len (.agg [.int .i64 0, .nils]) with
    | none => rw [h1] at hs; cases hs
    | some q => rw [h1] at hs; rw [atFold_le h h1]; exact hs
  · cases hs

/-- 'at', for the kernel. -/
noncomputable def yT (k : Nat) : Run := fun f args H => if f = 97 then match args with
  | [p, .int .i64 x] => atY (callT ET noR k) p x H
  | _ => none
  else none

theorem yT_le {Y : Run} {k : Nat} (hY : ∀ args H, Y 97 args H = yA 97 args H) : RLe (yT k) (callL ET Y) := by
  intro f args H r h
  unfold yT at h
  split at h
  · rename_i hf
    subst hf
    split at h
    · rename_i p x
      have : callL ET Y 97 [p, .int .i64 x] H = yA 97 [p, .int .i64 x] H := by
        rw [← hY]; rfl
      rw [this]
      exact atY_le (R := callT ET noR k) (fun f args H r h => memoT (E' := ET) (fun _ _ h => h) (fun _ _ _ _ h => by cases h) h) h
    · cases h
  · cases h

set_option maxRecDepth 100000 in
theorem alive17 {Y : Run} (hY : ∀ args H, Y 97 args H = yA 97 args H) {H : Heap} : freeX H (callL ET Y 17 [] []) = some (.bool true, H) :=
  memoFree (fun _ _ h => h) (yT_le (k := 1000) hY) (k := 1000) (by kernel_rfl)
end Go.X
