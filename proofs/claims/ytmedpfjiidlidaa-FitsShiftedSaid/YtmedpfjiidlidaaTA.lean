import Derived.Test.YtmedpfjiidlidaaWN
import Derived.Test.YtmedpfjiidlidaaZK
/-! Fits: what lasts does not hang on the names of the fashions (plain laws). Printed in part by a program of our own (gents.py). -/
set_option linter.unusedSimpArgs false
set_option linter.unusedVariables false
set_option maxHeartbeats 4000000
set_option maxRecDepth 10000
namespace Go.X
open Go Go.RowKit

/-- What is asked of two others. -/
def t2 (al : Bool) (p q r : Int) : Bool := if p ≥ 0 ∨ r ≥ 0 then false else (al && decide (q ≤ 0)) || decide (q * q < p * r)
theorem t2_sym {al : Bool} {p q r : Int} : t2 al p q r = t2 al r q p := by
  unfold t2
  rw [Int.mul_comm p r]
  by_cases h : p ≥ 0 ∨ r ≥ 0
  · rw [if_pos h, if_pos (Or.symm h)]
  · rw [if_neg h, if_neg (fun c => h (Or.symm c))]
theorem t2_iff {p q r : Int} : t2 false p q r = true ↔ p < 0 ∧ r < 0 ∧ q * q < p * r := by
  unfold t2
  by_cases h : p ≥ 0 ∨ r ≥ 0
  · rw [if_pos h]; exact ⟨fun c => (by cases c), fun ⟨a, b, _⟩ => by omega⟩
  · rw [if_neg h, Bool.false_and, Bool.false_or, decide_eq_true_eq]
    exact ⟨fun c => ⟨by omega, by omega, c⟩, fun ⟨_, _, c⟩ => c⟩
theorem sq_nn (a : Int) : 0 ≤ a * a := by
  rcases Int.le_total 0 a with h | h
  · exact Int.mul_nonneg h h
  · exact Int.mul_nonneg_of_nonpos_of_nonpos h h
theorem neg_right {a c : Int} (ha : a < 0) (h : 0 < a * c) : c < 0 := by
  refine Decidable.byContradiction fun hc => ?_
  have := Int.mul_nonpos_of_nonpos_of_nonneg (Int.le_of_lt ha) (show 0 ≤ c by omega)
  omega
theorem t2_base {A B C : Int} : t2 false A (A - B) (A - 2 * B + C) = t2 false A B C := by
  rw [Bool.eq_iff_iff, t2_iff, t2_iff]
  have e1 : (A - B) * (A - B) = A * A - 2 * (A * B) + B * B := by grind
  have e2 : A * (A - 2 * B + C) = A * A - 2 * (A * B) + A * C := by grind
  rw [e1, e2]
  constructor
  · rintro ⟨h1, h2, h3⟩
    have := sq_nn B
    exact ⟨h1, neg_right h1 (by omega), by omega⟩
  · rintro ⟨h1, h2, h3⟩
    have := sq_nn (A - B)
    refine ⟨h1, neg_right (a := A) h1 ?_, by omega⟩
    rw [e2]; rw [e1] at this; omega
theorem t2_base2 {A B C : Int} : t2 false C (C - B) (A - 2 * B + C) = t2 false A B C := by
  have e : A - 2 * B + C = C - 2 * B + A := by omega
  rw [e, t2_base, t2_sym]

def W3 (A B C : Int) : Nat → Nat → Nat → Int
  | 0, 1, 1 => A
  | 0, 1, 2 => B
  | 0, 2, 1 => B
  | 0, 2, 2 => C
  | 1, 0, 0 => A
  | 1, 0, 2 => A - B
  | 1, 2, 0 => A - B
  | 1, 2, 2 => A - 2 * B + C
  | 2, 0, 0 => C
  | 2, 0, 1 => C - B
  | 2, 1, 0 => C - B
  | 2, 1, 1 => A - 2 * B + C
  | _, _, _ => 0
def tailW (W : Nat → Nat → Nat → Int) (o f : Nat) : List Nat → Bool
  | [] => true
  | [i] => decide (W f i i < 0)
  | i :: k :: _ => t2 (aloneS o) (W f i i) (W f i k) (W f k k)
def pm (p : Nat → Nat) (s : Nat) : Nat := (if bit s (p 0) then 1 else 0) + ((if bit s (p 1) then 2 else 0) + if bit s (p 2) then 4 else 0)
def perm (a b c : Nat) : Nat → Nat
  | 0 => a
  | 1 => b
  | _ => c
section
variable {A B C : Int}
theorem c021_1_1 : tailW (fun f i k => W3 A B C (perm 0 2 1 f) (perm 0 2 1 i) (perm 0 2 1 k)) 1 0 [] = tailW (W3 A B C) 1 0 [] := rfl
theorem c021_1_3 : tailW (fun f i k => W3 A B C (perm 0 2 1 f) (perm 0 2 1 i) (perm 0 2 1 k)) 1 0 [2] = tailW (W3 A B C) 1 0 [1] := rfl
theorem c021_1_5 : tailW (fun f i k => W3 A B C (perm 0 2 1 f) (perm 0 2 1 i) (perm 0 2 1 k)) 1 0 [1] = tailW (W3 A B C) 1 0 [2] := rfl
theorem c021_1_7 : tailW (fun f i k => W3 A B C (perm 0 2 1 f) (perm 0 2 1 i) (perm 0 2 1 k)) 1 0 [1, 2] = tailW (W3 A B C) 1 0 [1, 2] := t2_sym
theorem c021_2_2 : tailW (fun f i k => W3 A B C (perm 0 2 1 f) (perm 0 2 1 i) (perm 0 2 1 k)) 4 2 [] = tailW (W3 A B C) 2 1 [] := rfl
theorem c021_2_3 : tailW (fun f i k => W3 A B C (perm 0 2 1 f) (perm 0 2 1 i) (perm 0 2 1 k)) 4 2 [0] = tailW (W3 A B C) 2 1 [0] := rfl
theorem c021_2_6 : tailW (fun f i k => W3 A B C (perm 0 2 1 f) (perm 0 2 1 i) (perm 0 2 1 k)) 4 2 [1] = tailW (W3 A B C) 2 1 [2] := rfl
theorem c021_2_7 : tailW (fun f i k => W3 A B C (perm 0 2 1 f) (perm 0 2 1 i) (perm 0 2 1 k)) 4 2 [0, 1] = tailW (W3 A B C) 2 1 [0, 2] := rfl
theorem c021_3_3 : tailW (fun f i k => W3 A B C (perm 0 2 1 f) (perm 0 2 1 i) (perm 0 2 1 k)) 5 0 [2] = tailW (W3 A B C) 3 0 [1] := rfl
theorem c021_3_7 : tailW (fun f i k => W3 A B C (perm 0 2 1 f) (perm 0 2 1 i) (perm 0 2 1 k)) 5 0 [1, 2] = tailW (W3 A B C) 3 0 [1, 2] := t2_sym
theorem c021_4_4 : tailW (fun f i k => W3 A B C (perm 0 2 1 f) (perm 0 2 1 i) (perm 0 2 1 k)) 2 1 [] = tailW (W3 A B C) 4 2 [] := rfl
theorem c021_4_5 : tailW (fun f i k => W3 A B C (perm 0 2 1 f) (perm 0 2 1 i) (perm 0 2 1 k)) 2 1 [0] = tailW (W3 A B C) 4 2 [0] := rfl
theorem c021_4_6 : tailW (fun f i k => W3 A B C (perm 0 2 1 f) (perm 0 2 1 i) (perm 0 2 1 k)) 2 1 [2] = tailW (W3 A B C) 4 2 [1] := rfl
theorem c021_4_7 : tailW (fun f i k => W3 A B C (perm 0 2 1 f) (perm 0 2 1 i) (perm 0 2 1 k)) 2 1 [0, 2] = tailW (W3 A B C) 4 2 [0, 1] := rfl
theorem c021_5_5 : tailW (fun f i k => W3 A B C (perm 0 2 1 f) (perm 0 2 1 i) (perm 0 2 1 k)) 3 0 [1] = tailW (W3 A B C) 5 0 [2] := rfl
theorem c021_5_7 : tailW (fun f i k => W3 A B C (perm 0 2 1 f) (perm 0 2 1 i) (perm 0 2 1 k)) 3 0 [1, 2] = tailW (W3 A B C) 5 0 [1, 2] := t2_sym
theorem c021_6_6 : tailW (fun f i k => W3 A B C (perm 0 2 1 f) (perm 0 2 1 i) (perm 0 2 1 k)) 6 1 [2] = tailW (W3 A B C) 6 1 [2] := rfl
theorem c021_6_7 : tailW (fun f i k => W3 A B C (perm 0 2 1 f) (perm 0 2 1 i) (perm 0 2 1 k)) 6 1 [0, 2] = tailW (W3 A B C) 6 1 [0, 2] := by
  have x : t2 false C (C - B) (A - 2 * B + C) = t2 false A B C := t2_base2
  have y : t2 false A (A - B) (A - 2 * B + C) = t2 false A B C := t2_base
  exact x.trans y.symm
theorem c021_7_7 : tailW (fun f i k => W3 A B C (perm 0 2 1 f) (perm 0 2 1 i) (perm 0 2 1 k)) 7 0 [1, 2] = tailW (W3 A B C) 7 0 [1, 2] := t2_sym
theorem c102_1_1 : tailW (fun f i k => W3 A B C (perm 1 0 2 f) (perm 1 0 2 i) (perm 1 0 2 k)) 2 1 [] = tailW (W3 A B C) 1 0 [] := rfl
theorem c102_1_3 : tailW (fun f i k => W3 A B C (perm 1 0 2 f) (perm 1 0 2 i) (perm 1 0 2 k)) 2 1 [0] = tailW (W3 A B C) 1 0 [1] := rfl
theorem c102_1_5 : tailW (fun f i k => W3 A B C (perm 1 0 2 f) (perm 1 0 2 i) (perm 1 0 2 k)) 2 1 [2] = tailW (W3 A B C) 1 0 [2] := rfl
theorem c102_1_7 : tailW (fun f i k => W3 A B C (perm 1 0 2 f) (perm 1 0 2 i) (perm 1 0 2 k)) 2 1 [0, 2] = tailW (W3 A B C) 1 0 [1, 2] := rfl
theorem c102_2_2 : tailW (fun f i k => W3 A B C (perm 1 0 2 f) (perm 1 0 2 i) (perm 1 0 2 k)) 1 0 [] = tailW (W3 A B C) 2 1 [] := rfl
theorem c102_2_3 : tailW (fun f i k => W3 A B C (perm 1 0 2 f) (perm 1 0 2 i) (perm 1 0 2 k)) 1 0 [1] = tailW (W3 A B C) 2 1 [0] := rfl
theorem c102_2_6 : tailW (fun f i k => W3 A B C (perm 1 0 2 f) (perm 1 0 2 i) (perm 1 0 2 k)) 1 0 [2] = tailW (W3 A B C) 2 1 [2] := rfl
theorem c102_2_7 : tailW (fun f i k => W3 A B C (perm 1 0 2 f) (perm 1 0 2 i) (perm 1 0 2 k)) 1 0 [1, 2] = tailW (W3 A B C) 2 1 [0, 2] := rfl
theorem c102_3_3 : tailW (fun f i k => W3 A B C (perm 1 0 2 f) (perm 1 0 2 i) (perm 1 0 2 k)) 3 0 [1] = tailW (W3 A B C) 3 0 [1] := rfl
theorem c102_3_7 : tailW (fun f i k => W3 A B C (perm 1 0 2 f) (perm 1 0 2 i) (perm 1 0 2 k)) 3 0 [1, 2] = tailW (W3 A B C) 3 0 [1, 2] := by
  have x : t2 false A (A - B) (A - 2 * B + C) = t2 false A B C := t2_base
  have y : t2 false A B C = t2 false A B C := rfl
  exact x.trans y.symm
theorem c102_4_4 : tailW (fun f i k => W3 A B C (perm 1 0 2 f) (perm 1 0 2 i) (perm 1 0 2 k)) 4 2 [] = tailW (W3 A B C) 4 2 [] := rfl
theorem c102_4_5 : tailW (fun f i k => W3 A B C (perm 1 0 2 f) (perm 1 0 2 i) (perm 1 0 2 k)) 4 2 [1] = tailW (W3 A B C) 4 2 [0] := rfl
theorem c102_4_6 : tailW (fun f i k => W3 A B C (perm 1 0 2 f) (perm 1 0 2 i) (perm 1 0 2 k)) 4 2 [0] = tailW (W3 A B C) 4 2 [1] := rfl
theorem c102_4_7 : tailW (fun f i k => W3 A B C (perm 1 0 2 f) (perm 1 0 2 i) (perm 1 0 2 k)) 4 2 [0, 1] = tailW (W3 A B C) 4 2 [0, 1] := t2_sym
theorem c102_5_5 : tailW (fun f i k => W3 A B C (perm 1 0 2 f) (perm 1 0 2 i) (perm 1 0 2 k)) 6 1 [2] = tailW (W3 A B C) 5 0 [2] := rfl
theorem c102_5_7 : tailW (fun f i k => W3 A B C (perm 1 0 2 f) (perm 1 0 2 i) (perm 1 0 2 k)) 6 1 [0, 2] = tailW (W3 A B C) 5 0 [1, 2] := rfl
theorem c102_6_6 : tailW (fun f i k => W3 A B C (perm 1 0 2 f) (perm 1 0 2 i) (perm 1 0 2 k)) 5 0 [2] = tailW (W3 A B C) 6 1 [2] := rfl
theorem c102_6_7 : tailW (fun f i k => W3 A B C (perm 1 0 2 f) (perm 1 0 2 i) (perm 1 0 2 k)) 5 0 [1, 2] = tailW (W3 A B C) 6 1 [0, 2] := rfl
theorem c102_7_7 : tailW (fun f i k => W3 A B C (perm 1 0 2 f) (perm 1 0 2 i) (perm 1 0 2 k)) 7 0 [1, 2] = tailW (W3 A B C) 7 0 [1, 2] := by
  have x : t2 false A (A - B) (A - 2 * B + C) = t2 false A B C := t2_base
  have y : t2 false A B C = t2 false A B C := rfl
  exact x.trans y.symm
theorem c120_1_1 : tailW (fun f i k => W3 A B C (perm 1 2 0 f) (perm 1 2 0 i) (perm 1 2 0 k)) 4 2 [] = tailW (W3 A B C) 1 0 [] := rfl
theorem c120_1_3 : tailW (fun f i k => W3 A B C (perm 1 2 0 f) (perm 1 2 0 i) (perm 1 2 0 k)) 4 2 [0] = tailW (W3 A B C) 1 0 [1] := rfl
theorem c120_1_5 : tailW (fun f i k => W3 A B C (perm 1 2 0 f) (perm 1 2 0 i) (perm 1 2 0 k)) 4 2 [1] = tailW (W3 A B C) 1 0 [2] := rfl
theorem c120_1_7 : tailW (fun f i k => W3 A B C (perm 1 2 0 f) (perm 1 2 0 i) (perm 1 2 0 k)) 4 2 [0, 1] = tailW (W3 A B C) 1 0 [1, 2] := rfl
theorem c120_2_2 : tailW (fun f i k => W3 A B C (perm 1 2 0 f) (perm 1 2 0 i) (perm 1 2 0 k)) 1 0 [] = tailW (W3 A B C) 2 1 [] := rfl
theorem c120_2_3 : tailW (fun f i k => W3 A B C (perm 1 2 0 f) (perm 1 2 0 i) (perm 1 2 0 k)) 1 0 [2] = tailW (W3 A B C) 2 1 [0] := rfl
theorem c120_2_6 : tailW (fun f i k => W3 A B C (perm 1 2 0 f) (perm 1 2 0 i) (perm 1 2 0 k)) 1 0 [1] = tailW (W3 A B C) 2 1 [2] := rfl
theorem c120_2_7 : tailW (fun f i k => W3 A B C (perm 1 2 0 f) (perm 1 2 0 i) (perm 1 2 0 k)) 1 0 [1, 2] = tailW (W3 A B C) 2 1 [0, 2] := t2_sym
theorem c120_3_3 : tailW (fun f i k => W3 A B C (perm 1 2 0 f) (perm 1 2 0 i) (perm 1 2 0 k)) 5 0 [2] = tailW (W3 A B C) 3 0 [1] := rfl
theorem c120_3_7 : tailW (fun f i k => W3 A B C (perm 1 2 0 f) (perm 1 2 0 i) (perm 1 2 0 k)) 5 0 [1, 2] = tailW (W3 A B C) 3 0 [1, 2] := by
  have x : t2 false (A - 2 * B + C) (A - B) A = t2 false A B C := t2_sym.trans t2_base
  have y : t2 false A B C = t2 false A B C := rfl
  exact x.trans y.symm
theorem c120_4_4 : tailW (fun f i k => W3 A B C (perm 1 2 0 f) (perm 1 2 0 i) (perm 1 2 0 k)) 2 1 [] = tailW (W3 A B C) 4 2 [] := rfl
theorem c120_4_5 : tailW (fun f i k => W3 A B C (perm 1 2 0 f) (perm 1 2 0 i) (perm 1 2 0 k)) 2 1 [2] = tailW (W3 A B C) 4 2 [0] := rfl
theorem c120_4_6 : tailW (fun f i k => W3 A B C (perm 1 2 0 f) (perm 1 2 0 i) (perm 1 2 0 k)) 2 1 [0] = tailW (W3 A B C) 4 2 [1] := rfl
theorem c120_4_7 : tailW (fun f i k => W3 A B C (perm 1 2 0 f) (perm 1 2 0 i) (perm 1 2 0 k)) 2 1 [0, 2] = tailW (W3 A B C) 4 2 [0, 1] := t2_sym
theorem c120_5_5 : tailW (fun f i k => W3 A B C (perm 1 2 0 f) (perm 1 2 0 i) (perm 1 2 0 k)) 6 1 [2] = tailW (W3 A B C) 5 0 [2] := rfl
theorem c120_5_7 : tailW (fun f i k => W3 A B C (perm 1 2 0 f) (perm 1 2 0 i) (perm 1 2 0 k)) 6 1 [0, 2] = tailW (W3 A B C) 5 0 [1, 2] := by
  have x : t2 false (A - 2 * B + C) (C - B) C = t2 false A B C := t2_sym.trans t2_base2
  have y : t2 false A B C = t2 false A B C := rfl
  exact x.trans y.symm
theorem c120_6_6 : tailW (fun f i k => W3 A B C (perm 1 2 0 f) (perm 1 2 0 i) (perm 1 2 0 k)) 3 0 [1] = tailW (W3 A B C) 6 1 [2] := rfl
theorem c120_6_7 : tailW (fun f i k => W3 A B C (perm 1 2 0 f) (perm 1 2 0 i) (perm 1 2 0 k)) 3 0 [1, 2] = tailW (W3 A B C) 6 1 [0, 2] := t2_sym
theorem c120_7_7 : tailW (fun f i k => W3 A B C (perm 1 2 0 f) (perm 1 2 0 i) (perm 1 2 0 k)) 7 0 [1, 2] = tailW (W3 A B C) 7 0 [1, 2] := by
  have x : t2 false (A - 2 * B + C) (A - B) A = t2 false A B C := t2_sym.trans t2_base
  have y : t2 false A B C = t2 false A B C := rfl
  exact x.trans y.symm
theorem c201_1_1 : tailW (fun f i k => W3 A B C (perm 2 0 1 f) (perm 2 0 1 i) (perm 2 0 1 k)) 2 1 [] = tailW (W3 A B C) 1 0 [] := rfl
theorem c201_1_3 : tailW (fun f i k => W3 A B C (perm 2 0 1 f) (perm 2 0 1 i) (perm 2 0 1 k)) 2 1 [2] = tailW (W3 A B C) 1 0 [1] := rfl
theorem c201_1_5 : tailW (fun f i k => W3 A B C (perm 2 0 1 f) (perm 2 0 1 i) (perm 2 0 1 k)) 2 1 [0] = tailW (W3 A B C) 1 0 [2] := rfl
theorem c201_1_7 : tailW (fun f i k => W3 A B C (perm 2 0 1 f) (perm 2 0 1 i) (perm 2 0 1 k)) 2 1 [0, 2] = tailW (W3 A B C) 1 0 [1, 2] := t2_sym
theorem c201_2_2 : tailW (fun f i k => W3 A B C (perm 2 0 1 f) (perm 2 0 1 i) (perm 2 0 1 k)) 4 2 [] = tailW (W3 A B C) 2 1 [] := rfl
theorem c201_2_3 : tailW (fun f i k => W3 A B C (perm 2 0 1 f) (perm 2 0 1 i) (perm 2 0 1 k)) 4 2 [1] = tailW (W3 A B C) 2 1 [0] := rfl
theorem c201_2_6 : tailW (fun f i k => W3 A B C (perm 2 0 1 f) (perm 2 0 1 i) (perm 2 0 1 k)) 4 2 [0] = tailW (W3 A B C) 2 1 [2] := rfl
theorem c201_2_7 : tailW (fun f i k => W3 A B C (perm 2 0 1 f) (perm 2 0 1 i) (perm 2 0 1 k)) 4 2 [0, 1] = tailW (W3 A B C) 2 1 [0, 2] := t2_sym
theorem c201_3_3 : tailW (fun f i k => W3 A B C (perm 2 0 1 f) (perm 2 0 1 i) (perm 2 0 1 k)) 6 1 [2] = tailW (W3 A B C) 3 0 [1] := rfl
theorem c201_3_7 : tailW (fun f i k => W3 A B C (perm 2 0 1 f) (perm 2 0 1 i) (perm 2 0 1 k)) 6 1 [0, 2] = tailW (W3 A B C) 3 0 [1, 2] := t2_sym
theorem c201_4_4 : tailW (fun f i k => W3 A B C (perm 2 0 1 f) (perm 2 0 1 i) (perm 2 0 1 k)) 1 0 [] = tailW (W3 A B C) 4 2 [] := rfl
theorem c201_4_5 : tailW (fun f i k => W3 A B C (perm 2 0 1 f) (perm 2 0 1 i) (perm 2 0 1 k)) 1 0 [1] = tailW (W3 A B C) 4 2 [0] := rfl
theorem c201_4_6 : tailW (fun f i k => W3 A B C (perm 2 0 1 f) (perm 2 0 1 i) (perm 2 0 1 k)) 1 0 [2] = tailW (W3 A B C) 4 2 [1] := rfl
theorem c201_4_7 : tailW (fun f i k => W3 A B C (perm 2 0 1 f) (perm 2 0 1 i) (perm 2 0 1 k)) 1 0 [1, 2] = tailW (W3 A B C) 4 2 [0, 1] := rfl
theorem c201_5_5 : tailW (fun f i k => W3 A B C (perm 2 0 1 f) (perm 2 0 1 i) (perm 2 0 1 k)) 3 0 [1] = tailW (W3 A B C) 5 0 [2] := rfl
theorem c201_5_7 : tailW (fun f i k => W3 A B C (perm 2 0 1 f) (perm 2 0 1 i) (perm 2 0 1 k)) 3 0 [1, 2] = tailW (W3 A B C) 5 0 [1, 2] := by
  have x : t2 false C (C - B) (A - 2 * B + C) = t2 false A B C := t2_base2
  have y : t2 false A B C = t2 false A B C := rfl
  exact x.trans y.symm
theorem c201_6_6 : tailW (fun f i k => W3 A B C (perm 2 0 1 f) (perm 2 0 1 i) (perm 2 0 1 k)) 5 0 [2] = tailW (W3 A B C) 6 1 [2] := rfl
theorem c201_6_7 : tailW (fun f i k => W3 A B C (perm 2 0 1 f) (perm 2 0 1 i) (perm 2 0 1 k)) 5 0 [1, 2] = tailW (W3 A B C) 6 1 [0, 2] := by
  have x : t2 false C (C - B) (A - 2 * B + C) = t2 false A B C := t2_base2
  have y : t2 false A (A - B) (A - 2 * B + C) = t2 false A B C := t2_base
  exact x.trans y.symm
theorem c201_7_7 : tailW (fun f i k => W3 A B C (perm 2 0 1 f) (perm 2 0 1 i) (perm 2 0 1 k)) 7 0 [1, 2] = tailW (W3 A B C) 7 0 [1, 2] := by
  have x : t2 false C (C - B) (A - 2 * B + C) = t2 false A B C := t2_base2
  have y : t2 false A B C = t2 false A B C := rfl
  exact x.trans y.symm
theorem c210_1_1 : tailW (fun f i k => W3 A B C (perm 2 1 0 f) (perm 2 1 0 i) (perm 2 1 0 k)) 4 2 [] = tailW (W3 A B C) 1 0 [] := rfl
theorem c210_1_3 : tailW (fun f i k => W3 A B C (perm 2 1 0 f) (perm 2 1 0 i) (perm 2 1 0 k)) 4 2 [1] = tailW (W3 A B C) 1 0 [1] := rfl
theorem c210_1_5 : tailW (fun f i k => W3 A B C (perm 2 1 0 f) (perm 2 1 0 i) (perm 2 1 0 k)) 4 2 [0] = tailW (W3 A B C) 1 0 [2] := rfl
theorem c210_1_7 : tailW (fun f i k => W3 A B C (perm 2 1 0 f) (perm 2 1 0 i) (perm 2 1 0 k)) 4 2 [0, 1] = tailW (W3 A B C) 1 0 [1, 2] := t2_sym
theorem c210_2_2 : tailW (fun f i k => W3 A B C (perm 2 1 0 f) (perm 2 1 0 i) (perm 2 1 0 k)) 2 1 [] = tailW (W3 A B C) 2 1 [] := rfl
theorem c210_2_3 : tailW (fun f i k => W3 A B C (perm 2 1 0 f) (perm 2 1 0 i) (perm 2 1 0 k)) 2 1 [2] = tailW (W3 A B C) 2 1 [0] := rfl
theorem c210_2_6 : tailW (fun f i k => W3 A B C (perm 2 1 0 f) (perm 2 1 0 i) (perm 2 1 0 k)) 2 1 [0] = tailW (W3 A B C) 2 1 [2] := rfl
theorem c210_2_7 : tailW (fun f i k => W3 A B C (perm 2 1 0 f) (perm 2 1 0 i) (perm 2 1 0 k)) 2 1 [0, 2] = tailW (W3 A B C) 2 1 [0, 2] := t2_sym
theorem c210_3_3 : tailW (fun f i k => W3 A B C (perm 2 1 0 f) (perm 2 1 0 i) (perm 2 1 0 k)) 6 1 [2] = tailW (W3 A B C) 3 0 [1] := rfl
theorem c210_3_7 : tailW (fun f i k => W3 A B C (perm 2 1 0 f) (perm 2 1 0 i) (perm 2 1 0 k)) 6 1 [0, 2] = tailW (W3 A B C) 3 0 [1, 2] := by
  have x : t2 false (A - 2 * B + C) (A - B) A = t2 false A B C := t2_sym.trans t2_base
  have y : t2 false A B C = t2 false A B C := rfl
  exact x.trans y.symm
theorem c210_4_4 : tailW (fun f i k => W3 A B C (perm 2 1 0 f) (perm 2 1 0 i) (perm 2 1 0 k)) 1 0 [] = tailW (W3 A B C) 4 2 [] := rfl
theorem c210_4_5 : tailW (fun f i k => W3 A B C (perm 2 1 0 f) (perm 2 1 0 i) (perm 2 1 0 k)) 1 0 [2] = tailW (W3 A B C) 4 2 [0] := rfl
theorem c210_4_6 : tailW (fun f i k => W3 A B C (perm 2 1 0 f) (perm 2 1 0 i) (perm 2 1 0 k)) 1 0 [1] = tailW (W3 A B C) 4 2 [1] := rfl
theorem c210_4_7 : tailW (fun f i k => W3 A B C (perm 2 1 0 f) (perm 2 1 0 i) (perm 2 1 0 k)) 1 0 [1, 2] = tailW (W3 A B C) 4 2 [0, 1] := t2_sym
theorem c210_5_5 : tailW (fun f i k => W3 A B C (perm 2 1 0 f) (perm 2 1 0 i) (perm 2 1 0 k)) 5 0 [2] = tailW (W3 A B C) 5 0 [2] := rfl
theorem c210_5_7 : tailW (fun f i k => W3 A B C (perm 2 1 0 f) (perm 2 1 0 i) (perm 2 1 0 k)) 5 0 [1, 2] = tailW (W3 A B C) 5 0 [1, 2] := by
  have x : t2 false (A - 2 * B + C) (C - B) C = t2 false A B C := t2_sym.trans t2_base2
  have y : t2 false A B C = t2 false A B C := rfl
  exact x.trans y.symm
theorem c210_6_6 : tailW (fun f i k => W3 A B C (perm 2 1 0 f) (perm 2 1 0 i) (perm 2 1 0 k)) 3 0 [1] = tailW (W3 A B C) 6 1 [2] := rfl
theorem c210_6_7 : tailW (fun f i k => W3 A B C (perm 2 1 0 f) (perm 2 1 0 i) (perm 2 1 0 k)) 3 0 [1, 2] = tailW (W3 A B C) 6 1 [0, 2] := by
  have x : t2 false (A - 2 * B + C) (C - B) C = t2 false A B C := t2_sym.trans t2_base2
  have y : t2 false A (A - B) (A - 2 * B + C) = t2 false A B C := t2_base
  exact x.trans y.symm
theorem c210_7_7 : tailW (fun f i k => W3 A B C (perm 2 1 0 f) (perm 2 1 0 i) (perm 2 1 0 k)) 7 0 [1, 2] = tailW (W3 A B C) 7 0 [1, 2] := by
  have x : t2 false (A - 2 * B + C) (C - B) C = t2 false A B C := t2_sym.trans t2_base2
  have y : t2 false A B C = t2 false A B C := rfl
  exact x.trans y.symm
theorem tail_021 {o b : Nat} (ho : 0 < o ∧ o < 8) (hb : 0 < b ∧ b < 8) (hs : subS o b = true) : tailW (fun f i k => W3 A B C (perm 0 2 1 f) (perm 0 2 1 i) (perm 0 2 1 k)) (pm (perm 0 2 1) o) (partsO (pm (perm 0 2 1) o) (pm (perm 0 2 1) b) 3).1 (partsO (pm (perm 0 2 1) o) (pm (perm 0 2 1) b) 3).2 = tailW (W3 A B C) o (partsO o b 3).1 (partsO o b 3).2 := by
  have h1 : o = 1 ∨ o = 2 ∨ o = 3 ∨ o = 4 ∨ o = 5 ∨ o = 6 ∨ o = 7 := by omega
  have h2 : b = 1 ∨ b = 2 ∨ b = 3 ∨ b = 4 ∨ b = 5 ∨ b = 6 ∨ b = 7 := by omega
  rcases h1 with rfl | rfl | rfl | rfl | rfl | rfl | rfl <;> rcases h2 with rfl | rfl | rfl | rfl | rfl | rfl | rfl
  · exact c021_1_1
  · exact absurd hs (by decide)
  · exact c021_1_3
  · exact absurd hs (by decide)
  · exact c021_1_5
  · exact absurd hs (by decide)
  · exact c021_1_7
  · exact absurd hs (by decide)
  · exact c021_2_2
  · exact c021_2_3
  · exact absurd hs (by decide)
  · exact absurd hs (by decide)
  · exact c021_2_6
  · exact c021_2_7
  · exact absurd hs (by decide)
  · exact absurd hs (by decide)
  · exact c021_3_3
  · exact absurd hs (by decide)
  · exact absurd hs (by decide)
  · exact absurd hs (by decide)
  · exact c021_3_7
  · exact absurd hs (by decide)
  · exact absurd hs (by decide)
  · exact absurd hs (by decide)
  · exact c021_4_4
  · exact c021_4_5
  · exact c021_4_6
  · exact c021_4_7
  · exact absurd hs (by decide)
  · exact absurd hs (by decide)
  · exact absurd hs (by decide)
  · exact absurd hs (by decide)
  · exact c021_5_5
  · exact absurd hs (by decide)
  · exact c021_5_7
  · exact absurd hs (by decide)
  · exact absurd hs (by decide)
  · exact absurd hs (by decide)
  · exact absurd hs (by decide)
  · exact absurd hs (by decide)
  · exact c021_6_6
  · exact c021_6_7
  · exact absurd hs (by decide)
  · exact absurd hs (by decide)
  · exact absurd hs (by decide)
  · exact absurd hs (by decide)
  · exact absurd hs (by decide)
  · exact absurd hs (by decide)
  · exact c021_7_7
theorem tail_102 {o b : Nat} (ho : 0 < o ∧ o < 8) (hb : 0 < b ∧ b < 8) (hs : subS o b = true) : tailW (fun f i k => W3 A B C (perm 1 0 2 f) (perm 1 0 2 i) (perm 1 0 2 k)) (pm (perm 1 0 2) o) (partsO (pm (perm 1 0 2) o) (pm (perm 1 0 2) b) 3).1 (partsO (pm (perm 1 0 2) o) (pm (perm 1 0 2) b) 3).2 = tailW (W3 A B C) o (partsO o b 3).1 (partsO o b 3).2 := by
  have h1 : o = 1 ∨ o = 2 ∨ o = 3 ∨ o = 4 ∨ o = 5 ∨ o = 6 ∨ o = 7 := by omega
  have h2 : b = 1 ∨ b = 2 ∨ b = 3 ∨ b = 4 ∨ b = 5 ∨ b = 6 ∨ b = 7 := by omega
  rcases h1 with rfl | rfl | rfl | rfl | rfl | rfl | rfl <;> rcases h2 with rfl | rfl | rfl | rfl | rfl | rfl | rfl
  · exact c102_1_1
  · exact absurd hs (by decide)
  · exact c102_1_3
  · exact absurd hs (by decide)
  · exact c102_1_5
  · exact absurd hs (by decide)
  · exact c102_1_7
  · exact absurd hs (by decide)
  · exact c102_2_2
  · exact c102_2_3
  · exact absurd hs (by decide)
  · exact absurd hs (by decide)
  · exact c102_2_6
  · exact c102_2_7
  · exact absurd hs (by decide)
  · exact absurd hs (by decide)
  · exact c102_3_3
  · exact absurd hs (by decide)
  · exact absurd hs (by decide)
  · exact absurd hs (by decide)
  · exact c102_3_7
  · exact absurd hs (by decide)
  · exact absurd hs (by decide)
  · exact absurd hs (by decide)
  · exact c102_4_4
  · exact c102_4_5
  · exact c102_4_6
  · exact c102_4_7
  · exact absurd hs (by decide)
  · exact absurd hs (by decide)
  · exact absurd hs (by decide)
  · exact absurd hs (by decide)
  · exact c102_5_5
  · exact absurd hs (by decide)
  · exact c102_5_7
  · exact absurd hs (by decide)
  · exact absurd hs (by decide)
  · exact absurd hs (by decide)
  · exact absurd hs (by decide)
  · exact absurd hs (by decide)
  · exact c102_6_6
  · exact c102_6_7
  · exact absurd hs (by decide)
  · exact absurd hs (by decide)
  · exact absurd hs (by decide)
  · exact absurd hs (by decide)
  · exact absurd hs (by decide)
  · exact absurd hs (by decide)
  · exact c102_7_7
theorem tail_120 {o b : Nat} (ho : 0 < o ∧ o < 8) (hb : 0 < b ∧ b < 8) (hs : subS o b = true) : tailW (fun f i k => W3 A B C (perm 1 2 0 f) (perm 1 2 0 i) (perm 1 2 0 k)) (pm (perm 1 2 0) o) (partsO (pm (perm 1 2 0) o) (pm (perm 1 2 0) b) 3).1 (partsO (pm (perm 1 2 0) o) (pm (perm 1 2 0) b) 3).2 = tailW (W3 A B C) o (partsO o b 3).1 (partsO o b 3).2 := by
  have h1 : o = 1 ∨ o = 2 ∨ o = 3 ∨ o = 4 ∨ o = 5 ∨ o = 6 ∨ o = 7 := by omega
  have h2 : b = 1 ∨ b = 2 ∨ b = 3 ∨ b = 4 ∨ b = 5 ∨ b = 6 ∨ b = 7 := by omega
  rcases h1 with rfl | rfl | rfl | rfl | rfl | rfl | rfl <;> rcases h2 with rfl | rfl | rfl | rfl | rfl | rfl | rfl
  · exact c120_1_1
  · exact absurd hs (by decide)
  · exact c120_1_3
  · exact absurd hs (by decide)
  · exact c120_1_5
  · exact absurd hs (by decide)
  · exact c120_1_7
  · exact absurd hs (by decide)
  · exact c120_2_2
  · exact c120_2_3
  · exact absurd hs (by decide)
  · exact absurd hs (by decide)
  · exact c120_2_6
  · exact c120_2_7
  · exact absurd hs (by decide)
  · exact absurd hs (by decide)
  · exact c120_3_3
  · exact absurd hs (by decide)
  · exact absurd hs (by decide)
  · exact absurd hs (by decide)
  · exact c120_3_7
  · exact absurd hs (by decide)
  · exact absurd hs (by decide)
  · exact absurd hs (by decide)
  · exact c120_4_4
  · exact c120_4_5
  · exact c120_4_6
  · exact c120_4_7
  · exact absurd hs (by decide)
  · exact absurd hs (by decide)
  · exact absurd hs (by decide)
  · exact absurd hs (by decide)
  · exact c120_5_5
  · exact absurd hs (by decide)
  · exact c120_5_7
  · exact absurd hs (by decide)
  · exact absurd hs (by decide)
  · exact absurd hs (by decide)
  · exact absurd hs (by decide)
  · exact absurd hs (by decide)
  · exact c120_6_6
  · exact c120_6_7
  · exact absurd hs (by decide)
  · exact absurd hs (by decide)
  · exact absurd hs (by decide)
  · exact absurd hs (by decide)
  · exact absurd hs (by decide)
  · exact absurd hs (by decide)
  · exact c120_7_7
theorem tail_201 {o b : Nat} (ho : 0 < o ∧ o < 8) (hb : 0 < b ∧ b < 8) (hs : subS o b = true) : tailW (fun f i k => W3 A B C (perm 2 0 1 f) (perm 2 0 1 i) (perm 2 0 1 k)) (pm (perm 2 0 1) o) (partsO (pm (perm 2 0 1) o) (pm (perm 2 0 1) b) 3).1 (partsO (pm (perm 2 0 1) o) (pm (perm 2 0 1) b) 3).2 = tailW (W3 A B C) o (partsO o b 3).1 (partsO o b 3).2 := by
  have h1 : o = 1 ∨ o = 2 ∨ o = 3 ∨ o = 4 ∨ o = 5 ∨ o = 6 ∨ o = 7 := by omega
  have h2 : b = 1 ∨ b = 2 ∨ b = 3 ∨ b = 4 ∨ b = 5 ∨ b = 6 ∨ b = 7 := by omega
  rcases h1 with rfl | rfl | rfl | rfl | rfl | rfl | rfl <;> rcases h2 with rfl | rfl | rfl | rfl | rfl | rfl | rfl
  · exact c201_1_1
  · exact absurd hs (by decide)
  · exact c201_1_3
  · exact absurd hs (by decide)
  · exact c201_1_5
  · exact absurd hs (by decide)
  · exact c201_1_7
  · exact absurd hs (by decide)
  · exact c201_2_2
  · exact c201_2_3
  · exact absurd hs (by decide)
  · exact absurd hs (by decide)
  · exact c201_2_6
  · exact c201_2_7
  · exact absurd hs (by decide)
  · exact absurd hs (by decide)
  · exact c201_3_3
  · exact absurd hs (by decide)
  · exact absurd hs (by decide)
  · exact absurd hs (by decide)
  · exact c201_3_7
  · exact absurd hs (by decide)
  · exact absurd hs (by decide)
  · exact absurd hs (by decide)
  · exact c201_4_4
  · exact c201_4_5
  · exact c201_4_6
  · exact c201_4_7
  · exact absurd hs (by decide)
  · exact absurd hs (by decide)
  · exact absurd hs (by decide)
  · exact absurd hs (by decide)
  · exact c201_5_5
  · exact absurd hs (by decide)
  · exact c201_5_7
  · exact absurd hs (by decide)
  · exact absurd hs (by decide)
  · exact absurd hs (by decide)
  · exact absurd hs (by decide)
  · exact absurd hs (by decide)
  · exact c201_6_6
  · exact c201_6_7
  · exact absurd hs (by decide)
  · exact absurd hs (by decide)
  · exact absurd hs (by decide)
  · exact absurd hs (by decide)
  · exact absurd hs (by decide)
  · exact absurd hs (by decide)
  · exact c201_7_7
theorem tail_210 {o b : Nat} (ho : 0 < o ∧ o < 8) (hb : 0 < b ∧ b < 8) (hs : subS o b = true) : tailW (fun f i k => W3 A B C (perm 2 1 0 f) (perm 2 1 0 i) (perm 2 1 0 k)) (pm (perm 2 1 0) o) (partsO (pm (perm 2 1 0) o) (pm (perm 2 1 0) b) 3).1 (partsO (pm (perm 2 1 0) o) (pm (perm 2 1 0) b) 3).2 = tailW (W3 A B C) o (partsO o b 3).1 (partsO o b 3).2 := by
  have h1 : o = 1 ∨ o = 2 ∨ o = 3 ∨ o = 4 ∨ o = 5 ∨ o = 6 ∨ o = 7 := by omega
  have h2 : b = 1 ∨ b = 2 ∨ b = 3 ∨ b = 4 ∨ b = 5 ∨ b = 6 ∨ b = 7 := by omega
  rcases h1 with rfl | rfl | rfl | rfl | rfl | rfl | rfl <;> rcases h2 with rfl | rfl | rfl | rfl | rfl | rfl | rfl
  · exact c210_1_1
  · exact absurd hs (by decide)
  · exact c210_1_3
  · exact absurd hs (by decide)
  · exact c210_1_5
  · exact absurd hs (by decide)
  · exact c210_1_7
  · exact absurd hs (by decide)
  · exact c210_2_2
  · exact c210_2_3
  · exact absurd hs (by decide)
  · exact absurd hs (by decide)
  · exact c210_2_6
  · exact c210_2_7
  · exact absurd hs (by decide)
  · exact absurd hs (by decide)
  · exact c210_3_3
  · exact absurd hs (by decide)
  · exact absurd hs (by decide)
  · exact absurd hs (by decide)
  · exact c210_3_7
  · exact absurd hs (by decide)
  · exact absurd hs (by decide)
  · exact absurd hs (by decide)
  · exact c210_4_4
  · exact c210_4_5
  · exact c210_4_6
  · exact c210_4_7
  · exact absurd hs (by decide)
  · exact absurd hs (by decide)
  · exact absurd hs (by decide)
  · exact absurd hs (by decide)
  · exact c210_5_5
  · exact absurd hs (by decide)
  · exact c210_5_7
  · exact absurd hs (by decide)
  · exact absurd hs (by decide)
  · exact absurd hs (by decide)
  · exact absurd hs (by decide)
  · exact absurd hs (by decide)
  · exact c210_6_6
  · exact c210_6_7
  · exact absurd hs (by decide)
  · exact absurd hs (by decide)
  · exact absurd hs (by decide)
  · exact absurd hs (by decide)
  · exact absurd hs (by decide)
  · exact absurd hs (by decide)
  · exact c210_7_7
end
end Go.X
