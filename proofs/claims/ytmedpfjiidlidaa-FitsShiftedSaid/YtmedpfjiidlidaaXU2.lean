import Derived.Test.YtmedpfjiidlidaaXS
/-! What holds of a table holds of a greater one. -/
set_option linter.unusedSimpArgs false
set_option linter.unusedVariables false
namespace Go.X
open Go Go.RowKit
section
variable {E E' : Nat → Option XF} {Y : Run}

def noRun : Run := fun _ _ _ => none

theorem runX_up (h : ∀ f F, E f = some F → E' f = some F) {c c' : XC → List AV → Heap → Option (Ex × List AV × Heap)} (hc : ∀ x fr H r, c x fr H = some r → c' x fr H = some r) : RLe (runX E noRun c) (runX E' Y c') := by
  intro f args H r hr
  unfold runX at hr ⊢
  cases hE : E f with
  | none => rw [hE] at hr; cases hr
  | some F =>
    rw [hE] at hr
    rw [h f F hE]
    simp only at hr ⊢
    unfold enterX at hr ⊢
    split at hr
    · rename_i hn
      rw [if_pos hn]
      cases hq : c F.body (args ++ List.replicate (F.nt - F.np) .undef) H with
      | none => simp [hq] at hr
      | some q => rw [hq] at hr; rw [hc _ _ _ _ hq]; exact hr
    · cases hr

theorem codeX_up (h : ∀ f F, E f = some F → E' f = some F) : ∀ (k : Nat) (x : XC) (fr : List AV) (H : Heap) (r : Ex × List AV × Heap), codeX E noRun k x fr H = some r → codeX E' Y k x fr H = some r
  | 0, x, fr, H, r, hr => by simp [codeX] at hr
  | k + 1, x, fr, H, r, hr => by
    have ih := codeX_up h k
    cases x with
    | reg ops =>
      rw [codeX] at hr ⊢
      cases hi : opsA (runX E noRun (codeX E noRun k)) ops fr H with
      | none => simp [hi] at hr
      | some q => rw [hi] at hr; rw [opsA_le (runX_up h ih) hi]; exact hr
    | seq a b =>
      rw [codeX] at hr ⊢
      cases hi : codeX E noRun k a fr H with
      | none => simp [hi] at hr
      | some q =>
        obtain ⟨ex, fr1, H1⟩ := q
        rw [hi] at hr; rw [ih _ _ _ _ hi]
        cases ex with
        | n => exact ih _ _ _ _ hr
        | _ => exact hr
    | cond o a b =>
      rw [codeX] at hr ⊢
      split at hr
      · exact ih _ _ _ _ hr
      · exact ih _ _ _ _ hr
      · cases hr
    | block id live b =>
      rw [codeX] at hr ⊢
      cases hi : codeX E noRun k b fr H with
      | none => simp [hi] at hr
      | some q => rw [hi] at hr; rw [ih _ _ _ _ hi]; exact hr
    | loop live b =>
      rw [codeX] at hr ⊢
      cases hi : codeX E noRun k b (keepA live fr) H with
      | none => simp [hi] at hr
      | some q =>
        obtain ⟨ex, fr1, H1⟩ := q
        rw [hi] at hr; rw [ih _ _ _ _ hi]
        cases ex with
        | n => exact ih _ _ _ _ hr
        | _ => exact hr
    | _ => exact hr

theorem callL_up (h : ∀ f F, E f = some F → E' f = some F) {f : Nat} {args : List AV} {H : Heap} {r : AV × Heap} (hr : callL E noRun f args H = some r) : callL E' Y f args H = some r := by
  obtain ⟨k, hk⟩ := callL_iff.1 hr
  exact callL_iff.2 ⟨k, runX_up h (codeX_up h k) _ _ _ _ hk⟩

theorem freeX_up (h : ∀ f F, E f = some F → E' f = some F) {f : Nat} {args : List AV} {H H0 : Heap} {r : AV × Heap} (hr : freeX H (callL E noRun f args H0) = some r) : freeX H (callL E' Y f args H0) = some r := by
  cases hc : callL E noRun f args H0 with
  | none => rw [hc] at hr; cases hr
  | some q => rw [callL_up h hc]; rw [hc] at hr; exact hr

theorem known_one {P : Program} (hm : P.follows .mixedOrders = true) {f : Nat} {fn : Func} {md : Nat → Nat} {m : List (List Bool)} {F : XF} (h1 : P.funcs[f]? = some fn) (h2 : (fn.name == "runtime.NumGoroutine") = false) (h3 : compF P md true m fn = some F) :
    ∃ fn c md rs, P.funcs[f]? = some fn ∧ (fn.name == "runtime.NumGoroutine") = false ∧ fn.body = some c ∧ Comp P md c F.body ∧ fn.results.toList.mapM (compRes P) = some rs ∧ F.res = rs ∧ F.nt = fn.ntmps := by
  refine Known.of hm (E := fun g => if g = f then some F else none) (fun g F' h => ?_) f F (if_pos rfl)
  split at h
  · rename_i hg
    subst hg; cases h
    exact ⟨_, _, _, h1, h2, h3⟩
  · cases h
end
end Go.X
