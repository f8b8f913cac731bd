import Derived.Test.YtdkgicdbjemalaaDoorMP
/-! Tones: a law that the small machine runs to true. -/
set_option linter.unusedSimpArgs false
set_option linter.unusedVariables false
namespace Go.X
open Go Go.RowKit
theorem law_soundY {P : Program} {E : Nat → Option XF} {Y : Run} (hE : Known P E) {W : World} [GlobOk W] (hY : CallSound P W Y) {f : Nat} {args : List AV} {H : Heap} (h : callL E Y f args [] = some (.bool true, H)) {cargs : List Value} (ha : VL W g0 0 args cargs) :
    Calls P f cargs.toArray W fun e w' => e = .returned (.bool true) ∧ Below W.heap.size W w' := by
  refine ((callL_sound hE hY _ _ _ _ _ h).2 g0 W cargs (rel0 W) ha).mono ?_
  rintro e w' ⟨c, G', rfl, hv, hr, _, _⟩
  cases hv
  exact ⟨rfl, hr.below⟩
end Go.X
