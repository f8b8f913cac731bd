import Derived.Test.YtdkgicdbjemalaaDoorNG
/-! Tones: the determinant as a list of sets of wires; lists in order. -/
set_option linter.unusedSimpArgs false
set_option linter.unusedVariables false
set_option maxRecDepth 10000
namespace Go.X

/-! ### Lists in order -/
def mrg : Nat → List Ent → List Ent → List Ent
  | 0, a, b => a ++ b
  | n + 1, a, b => match a, b with
    | [], b => b
    | a, [] => a
    | x :: a, y :: b => bif Nat.blt x.1 y.1 then x :: mrg n a (y :: b) else bif Nat.blt y.1 x.1 then y :: mrg n (x :: a) b else
        bif Nat.beq x.2.1 y.2.1 then (bif x.2.2 + y.2.2 == 0 then mrg n a b else (x.1, x.2.1, x.2.2 + y.2.2) :: mrg n a b) else x :: y :: mrg n a b

theorem evE_mrg (f : List Nat) (j : Nat) : ∀ (n : Nat) (a b : List Ent), evE f (mrg n a b) j = evE f a j + evE f b j
  | 0, a, b => evE_app f j a b
  | n + 1, [], b => by simp [mrg, evE]
  | n + 1, x :: a, [] => by simp [mrg, evE]
  | n + 1, x :: a, y :: b => by
    simp only [mrg]
    cases h1 : Nat.blt x.1 y.1 with
    | true =>
      simp only [cond_true, evE]
      rw [evE_mrg f j n a (y :: b)]
      simp only [evE]; omega
    | false =>
      simp only [cond_false]
      cases h2 : Nat.blt y.1 x.1 with
      | true =>
        simp only [cond_true, evE]
        rw [evE_mrg f j n (x :: a) b]
        simp only [evE]; omega
      | false =>
        have e : x.1 = y.1 := by
          simp only [Nat.blt] at h1 h2
          have a1 : ¬ (x.1 + 1 ≤ y.1) := fun h => by rw [Nat.ble_eq_true_of_le h] at h1; cases h1
          have a2 : ¬ (y.1 + 1 ≤ x.1) := fun h => by rw [Nat.ble_eq_true_of_le h] at h2; cases h2
          omega
        simp only [cond_false]
        cases h3 : Nat.beq x.2.1 y.2.1 with
        | true =>
          have e2 : x.2.1 = y.2.1 := Nat.eq_of_beq_eq_true h3
          simp only [cond_true]
          cases h4 : (x.2.2 + y.2.2 == 0) with
          | true =>
            have e3 : x.2.2 + y.2.2 = 0 := by simpa using h4
            simp only [cond_true, evE]
            rw [evE_mrg f j n a b, e, e2]
            split <;> omega
          | false =>
            simp only [cond_false, evE]
            rw [evE_mrg f j n a b, e, e2]
            split <;> omega
        | false =>
          simp only [cond_false, evE]
          rw [evE_mrg f j n a b]
          omega

def halves : List Ent → List Ent × List Ent
  | [] => ([], [])
  | x :: l => match halves l with | (a, b) => (x :: b, a)
theorem evE_halves (f : List Nat) (j : Nat) : ∀ (l : List Ent), evE f (halves l).1 j + evE f (halves l).2 j = evE f l j
  | [] => rfl
  | x :: l => by
    have := evE_halves f j l
    simp only [halves, evE]
    omega
def srt : Nat → List Ent → List Ent
  | 0, l => l
  | n + 1, l => match l with
    | [] => []
    | [x] => [x]
    | x :: y :: l => match halves (x :: y :: l) with | (a, b) => mrg 10000 (srt n a) (srt n b)
theorem evE_srt (f : List Nat) (j : Nat) : ∀ (n : Nat) (l : List Ent), evE f (srt n l) j = evE f l j
  | 0, l => rfl
  | n + 1, [] => rfl
  | n + 1, [x] => rfl
  | n + 1, x :: y :: l => by
    have h : srt (n + 1) (x :: y :: l) = mrg 10000 (srt n (halves (x :: y :: l)).1) (srt n (halves (x :: y :: l)).2) := rfl
    rw [h, evE_mrg, evE_srt f j n, evE_srt f j n, evE_halves]

def eqE : List Ent → List Ent → Bool
  | [], [] => true
  | x :: a, y :: b => Nat.beq x.1 y.1 && (Nat.beq x.2.1 y.2.1 && (x.2.2 == y.2.2 && eqE a b))
  | _, _ => false
theorem eqE_eq : ∀ {a b : List Ent}, eqE a b = true → a = b
  | [], [], _ => rfl
  | x :: a, y :: b, h => by
    simp only [eqE, Bool.and_eq_true] at h
    obtain ⟨h1, h2, h3, h4⟩ := h
    have e1 := Nat.eq_of_beq_eq_true h1
    have e2 := Nat.eq_of_beq_eq_true h2
    have e3 : x.2.2 = y.2.2 := by simpa using h3
    rw [eqE_eq h4]
    congr 1
    exact Prod.ext e1 (Prod.ext e2 e3)
  | [], _ :: _, h => by cases h
  | _ :: _, [], h => by cases h

/-- Two lists say the same. -/
def sameE (a b : List Ent) : Bool := eqE (srt 14 a) (srt 14 b)
theorem sameE_ev {a b : List Ent} (h : sameE a b = true) (f : List Nat) (j : Nat) : evE f a j = evE f b j := by
  rw [← evE_srt f j 14 a, eqE_eq h, evE_srt]
end Go.X
