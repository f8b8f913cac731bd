import Derived.Test.YtdkgicdbjemalaaDoorMD
/-! What is said of the functions that range over a function. -/
set_option linter.unusedSimpArgs false
set_option linter.unusedVariables false
set_option linter.unusedSectionVars false
namespace Go.X
open Go Go.RowKit Go.Proofs

def noR : Run := fun _ _ _ => none

theorem noR_sound {P : Program} {W : World} : CallSound P W noR := fun _ _ _ _ _ h => (by cases h)

/-- 'at', out of the functions that it calls. -/
noncomputable def yA : Run := fun f args H => if f = 97 then match args with
  | [p, .int .i64 x] => atY (callL ET noR) p x H
  | _ => none
  else none

theorem atY_heap {R : Run} {p : AV} {x : Int} {H H' : Heap} {v : AV} (h : atY R p x H = some (v, H')) : H' = H := by
  unfold atY at h
  split at h
  · split at h
    · cases h; rfl
    · cases h
  · cases h

theorem yA_sound {W : World} [GlobOk W] : CallSound Tryd.prog W yA := by
  intro f args H v H' h
  unfold yA at h
  split at h
  · rename_i hf
    subst hf
    split at h
    · rename_i p x
      refine ⟨⟨⟨Tryd.f97, Tryd.func97, by decide, by kernel_rfl⟩, fun _ => atY_heap h⟩, fun G w cargs hR ha => ?_⟩
      match cargs, ha with
      | [c, d], ha =>
        have h2 := ha.head.2.head.1
        cases h2
        exact at_sound (callL_sound ET_known noR_sound) h hR ha.head.1
      | [], ha => exact absurd ha.1 (by simp)
      | [_], ha => exact absurd ha.1 (by simp)
      | _ :: _ :: _ :: _, ha => exact absurd ha.1 (by simp)
    · cases h
  · cases h
end Go.X
