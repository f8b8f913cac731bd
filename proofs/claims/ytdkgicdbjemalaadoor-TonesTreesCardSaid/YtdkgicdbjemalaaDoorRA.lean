import Derived.Test.YtdkgicdbjemalaaDoorNI
import Derived.Test.YtdkgicdbjemalaaDoorNR0
/-! Tones: frames that are renumbered: swaps of neighbours change no polynomial. -/
set_option linter.unusedSimpArgs false
set_option linter.unusedVariables false
set_option maxRecDepth 10000
namespace Go.X

/-- The knots 0 .. n - 1 with two neighbours swapped. -/
def swL (n i : Nat) : List Nat := (List.range n).map fun x => if x = i then i + 1 else if x = i + 1 then i else x
def renE (K : List Nat) (L : List Ent) : List Ent := L.map fun x => (ren K x.1, x.2.1, x.2.2)
def swapB (n i : Nat) : Bool := sameE (renE (swL n i) (ovY n (-1) (-2) 7 (full n))) (ovY n (-1) (-2) 7 (full n)) && (ovY n (-1) (-2) 7 (full n)).all fun x => Nat.blt x.1 (2 ^ (n * (n - 1) / 2))
def swapM (n i : Nat) : Bool := sameE (renE (swL n i) (maY n 7 (full n))) (maY n 7 (full n)) && (maY n 7 (full n)).all fun x => Nat.blt x.1 (2 ^ (n * (n - 1) / 2))
set_option maxRecDepth 1000000 in
theorem swap_6 : ((List.range 7).all fun n => (List.range (n - 1)).all fun i => swapB n i) = true := by kernel_rfl
set_option maxRecDepth 1000000 in
theorem swap_m : ((List.range 8).all fun n => (List.range (n - 1)).all fun i => swapM n i) = true := by kernel_rfl
def swap7 (i : Nat) : Bool := eqE (srt 14 (renE (swL 7 i) (dec 2461 big7))) (dec 2461 big7)
set_option maxRecDepth 1000000 in
theorem swap_70 : swap7 0 = true := by kernel_rfl
set_option maxRecDepth 1000000 in
theorem swap_71 : swap7 1 = true := by kernel_rfl
set_option maxRecDepth 1000000 in
theorem swap_72 : swap7 2 = true := by kernel_rfl
set_option maxRecDepth 1000000 in
theorem swap_73 : swap7 3 = true := by kernel_rfl
set_option maxRecDepth 1000000 in
theorem swap_74 : swap7 4 = true := by kernel_rfl
set_option maxRecDepth 1000000 in
theorem swap_75 : swap7 5 = true := by kernel_rfl
end Go.X
