import Derived.Test.YtdkgicdbjemalaaDoorNH
import Derived.Test.YtdkgicdbjemalaaDoorNM
/-! Tones: matchings as lists of sets of wires; frames without knots or wires. -/
set_option linter.unusedSimpArgs false
set_option linter.unusedVariables false
set_option maxRecDepth 10000
namespace Go.X

/-- Matchings of some knots. -/
def maY (n : Nat) : Nat → Nat → List Ent
  | 0, _ => [(0, 0, 1)]
  | d + 1, left => if left = 0 then [(0, 0, 1)] else
    maY n d (dl left (2 ^ ctz left))
      ++ (List.range n).flatMap (fun k => if (dl left (2 ^ ctz left)).testBit k then mulE (eb (ctz left) k) 2 (-1) (maY n d (dl (dl left (2 ^ ctz left)) (2 ^ k))) else [])

theorem ma_sym {f : List Nat} (hS : Sy f) (h7 : f.length ≤ 7) : ∀ (d left j : Nat), left < 2 ^ f.length → evE f (maY f.length d left) j = ovS f (-1) 0 d left j
  | 0, left, j, _ => by simp [maY, ovS, evE, hs_zero, eq_comm]
  | d + 1, left, j, hl => by
    simp only [maY, ovS]
    by_cases h0 : left = 0
    · rw [if_pos h0, if_pos h0]; simp [evE, hs_zero, eq_comm]
    · rw [if_neg h0, if_neg h0, onS_zero, Int.add_zero]
      have h128 : 2 ^ f.length ≤ 128 := by
        have : (2 : Nat) ^ f.length ≤ 2 ^ 7 := Nat.pow_le_pow_right (by decide) h7
        omega
      have hb := ctz_ok (m := left) (by omega) h0
      have hin : ctz left < f.length := by
        rcases Nat.lt_or_ge (ctz left) f.length with e | e
        · exact e
        · rw [Nat.testBit_lt_two_pow (Nat.lt_of_lt_of_le hl (Nat.pow_le_pow_right (by decide) e))] at hb; cases hb
      have hSl : dl left (2 ^ ctz left) < 2 ^ f.length := Nat.lt_of_le_of_lt (dl_le _ _) hl
      have hiS : (dl left (2 ^ ctz left)).testBit (ctz left) = false := by rw [dl_bit, Nat.testBit_two_pow_self]; simp
      generalize ctz left = i at *
      generalize dl left (2 ^ i) = S at *
      rw [evE_app, ma_sym hS h7 d S j hSl, evE_flat]
      congr 1
      refine sumZ_congr fun k hk => ?_
      have hk' := List.mem_range.1 hk
      rw [Nat.testBit_and]
      cases hd : S.testBit k with
      | false => simp [evE]
      | true =>
        have hik : i ≠ k := fun e => by rw [← e, hiS] at hd; cases hd
        rw [if_pos rfl, evE_mul, hs_eb hS hin hk' h7 hik, Bool.and_true]
        split
        · congr 1
          exact sft_congr (fun j => ma_sym hS h7 d _ j (Nat.lt_of_le_of_lt (dl_le _ _) hSl)) j
        · rfl

/-! ### At any knot, at any wire -/
def full (n : Nat) : Nat := 2 ^ n - 1
def knotB (n a : Nat) : Bool := sameE (maY n 7 (full n)) (maY n 7 (dl (full n) (2 ^ a)) ++ (List.range n).flatMap fun k => if a = k then [] else mulE (eb a k) 2 (-1) (maY n 7 (dl (full n) (2 ^ a ||| 2 ^ k))))
def wireB (n a b : Nat) : Bool := sameE (maY n 7 (full n)) ((maY n 7 (full n)).filter (fun x => !x.1.testBit (ix a b)) ++ mulE (eb a b) 2 (-1) (maY n 7 (dl (full n) (2 ^ a ||| 2 ^ b))))
set_option maxRecDepth 1000000 in
theorem knot_all : ((List.range 8).all fun n => (List.range n).all fun a => knotB n a) = true := by kernel_rfl
set_option maxRecDepth 1000000 in
theorem wire_all : ((List.range 8).all fun n => (List.range n).all fun a => (List.range n).all fun b => a == b || wireB n a b) = true := by kernel_rfl

/-! ### Without some knots -/
def kept (n set : Nat) : List Nat := (List.range n).filter fun i => !set.testBit i
def ren (K : List Nat) (m : Nat) : Nat := prs.foldl (fun acc p => if m.testBit (ix p.1 p.2) then acc ||| eb (K.getD p.1 0) (K.getD p.2 0) else acc) 0
def lessB (n set : Nat) : Bool := sameE ((maY (kept n set).length 7 (full (kept n set).length)).map fun x => (ren (kept n set) x.1, x.2.1, x.2.2)) (maY n 7 (dl (full n) set))
  && (maY (kept n set).length 7 (full (kept n set).length)).all (fun x => Nat.blt x.1 (2 ^ ((kept n set).length * ((kept n set).length - 1) / 2))) && (maY n 7 (dl (full n) set)).all (fun x => Nat.ble x.2.1 (kept n set).length)
set_option maxRecDepth 1000000 in
theorem less_all : ((List.range 8).all fun n => (List.range n).all fun a => (List.range n).all fun b => lessB n (2 ^ a ||| 2 ^ b)) = true := by kernel_rfl
end Go.X
