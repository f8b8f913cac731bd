import Derived.Test.YtdkgicdbjemalaaDoorQB
/-! A run in which some calls are known beforehand. -/
set_option linter.unusedSimpArgs false
set_option linter.unusedVariables false
namespace Go.X
open Go Go.RowKit
section
variable {E E' : Nat → Option XF} {Y Y' : Run}

theorem runX_memo (hE : ∀ f F, E' f = some F → E f = some F) (hY : RLe Y' (callL E Y)) {c : XC → List AV → Heap → Option (Ex × List AV × Heap)} (hc : ∀ x fr H r, c x fr H = some r → codeL E Y x fr H = some r) : RLe (runX E' Y' c) (callL E Y) := by
  intro f args H r hr
  unfold runX at hr
  cases h : E' f with
  | none => rw [h] at hr; exact hY _ _ _ _ hr
  | some F =>
    rw [h] at hr
    simp only at hr
    unfold callL runX
    rw [hE _ _ h]
    simp only
    unfold enterX at hr ⊢
    split at hr
    · rename_i hn
      rw [if_pos hn]
      cases hq : c F.body (args ++ List.replicate (F.nt - F.np) .undef) H with
      | none => simp [hq] at hr
      | some q => rw [hq] at hr; rw [hc _ _ _ _ hq]; exact hr
    · cases hr

theorem codeX_memo (hE : ∀ f F, E' f = some F → E f = some F) (hY : RLe Y' (callL E Y)) : ∀ (k : Nat) (x : XC) (fr : List AV) (H : Heap) (r : Ex × List AV × Heap), codeX E' Y' k x fr H = some r → codeL E Y x fr H = some r
  | 0, x, fr, H, r, hr => by simp [codeX] at hr
  | k + 1, x, fr, H, r, hr => by
    have ih := codeX_memo hE hY k
    cases x with
    | skip => simp only [codeX] at hr; rw [codeL_skip]; exact hr
    | exit id l => simp only [codeX] at hr; rw [codeL_exit]; exact hr
    | ret l => simp only [codeX] at hr; rw [codeL_ret]; exact hr
    | reg ops =>
      rw [codeX] at hr
      rw [codeL_reg]
      unfold opsL
      cases hi : opsA (runX E' Y' (codeX E' Y' k)) ops fr H with
      | none => simp [hi] at hr
      | some q => rw [hi] at hr; rw [opsA_le (runX_memo hE hY ih) hi]; exact hr
    | seq a b =>
      rw [codeX] at hr
      rw [codeL_seq]
      cases hi : codeX E' Y' k a fr H with
      | none => simp [hi] at hr
      | some q =>
        obtain ⟨ex, fr1, H1⟩ := q
        rw [hi] at hr; rw [ih _ _ _ _ hi]
        cases ex with
        | n => exact ih _ _ _ _ hr
        | _ => exact hr
    | cond o a b =>
      rw [codeX] at hr
      rw [codeL_cond]
      split at hr
      · rename_i hb; rw [hb]; exact ih _ _ _ _ hr
      · rename_i hb; rw [hb]; exact ih _ _ _ _ hr
      · cases hr
    | block id live b =>
      rw [codeX] at hr
      rw [codeL_block]
      cases hi : codeX E' Y' k b fr H with
      | none => simp [hi] at hr
      | some q => rw [hi] at hr; rw [ih _ _ _ _ hi]; exact hr
    | loop live b =>
      rw [codeX] at hr
      rw [codeL_loop]
      cases hi : codeX E' Y' k b (keepA live fr) H with
      | none => simp [hi] at hr
      | some q =>
        obtain ⟨ex, fr1, H1⟩ := q
        rw [hi] at hr; rw [ih _ _ _ _ hi]
        cases ex with
        | n => exact ih _ _ _ _ hr
        | _ => exact hr

/-- A run in the kernel, with calls that are known. -/
theorem memoT (hE : ∀ f F, E' f = some F → E f = some F) (hY : RLe Y' (callL E Y)) {k f : Nat} {args : List AV} {H : Heap} {r : AV × Heap} (h : callT E' Y' k f args H = some r) : callL E Y f args H = some r :=
  runX_memo hE hY (codeX_memo hE hY k) _ _ _ _ (runT_sound (codeT_sound k) _ _ _ _ h)

theorem memoFree (hE : ∀ f F, E' f = some F → E f = some F) (hY : RLe Y' (callL E Y)) {k f : Nat} {args : List AV} {H H0 : Heap} {r : AV × Heap} (h : freeX H (callT E' Y' k f args H0) = some r) : freeX H (callL E Y f args H0) = some r := by
  cases hc : callT E' Y' k f args H0 with
  | none => rw [hc] at h; cases h
  | some q => rw [memoT hE hY hc]; rw [hc] at h; exact h

/-- A call that is known to share nothing: its result may stand in for it where no heap is handed in. -/
theorem free_raw {R : Run} {f : Nat} {args : List AV} {v : AV} (h : ∀ H, freeX H (R f args []) = some (v, H)) : ∃ v0 H0, R f args [] = some (v0, H0) ∧ freeA H0 6 v0 = some v := by
  have := h []
  cases hc : R f args [] with
  | none => rw [hc] at this; cases this
  | some q =>
    obtain ⟨v0, H0⟩ := q
    rw [hc] at this
    refine ⟨v0, H0, rfl, ?_⟩
    simp only [freeX, pairX] at this
    cases hf : freeA H0 6 v0 with
    | none => rw [hf] at this; cases this
    | some w => rw [hf] at this; simp at this; rw [this]
end
end Go.X
