import Derived.Test.YtmedpfjiidlidaaWB
import Derived.Test.YtmedpfjiidlidaaZM
/-! Fashions alone: the limits (plain laws). -/
set_option linter.unusedSimpArgs false
set_option linter.unusedVariables false
set_option maxHeartbeats 2000000
set_option maxRecDepth 10000
namespace Go.X
open Go Go.RowKit

theorem ent_len {t : List (List Int)} (hok : okTab t) {i : Nat} (hi : i < t.length) : t[i].length = t.length := (hok.2.2 t[i] (by simp)).1

def entS (t : List (List Int)) (i j : Nat) : Int := (t.getD i []).getD j 0

theorem ent_eq {t : List (List Int)} {i j : Nat} (hi : i < t.length) (hj : j < t[i].length) : t[i][j] = entS t i j := by
  simp [entS, List.getD_eq_getElem?_getD, hi, hj]

/-- Is fashion i fair to k? -/
def fairS (t : List (List Int)) (i k : Nat) : Prop := entS t i i > entS t k i ∨ entS t i i = entS t k i ∧ entS t i k > entS t k k

theorem alone_pq {t : List (List Int)} (hok : okTab t) {i k : Nat} (hi : i < t.length) (hk : k < t.length) :
    pS t (unit t.length i, 1) (unit t.length k, 1) = entS t i i - entS t k i ∧ qS t (unit t.length i, 1) (unit t.length k, 1) = entS t i k - entS t k k := by
  rcases shapes hok with ⟨a, rfl⟩ | ⟨a, b', c, d, rfl⟩ | ⟨a, b', c, d, e, f, g, h, l, rfl⟩
  · simp only [List.length_cons, List.length_nil] at hi hk
    obtain rfl : i = 0 := by omega
    obtain rfl : k = 0 := by omega
    simp [pS, qS, entS, unit, gainS, dotX]
  · simp only [List.length_cons, List.length_nil] at hi hk
    rcases (show i = 0 ∨ i = 1 by omega) with rfl | rfl <;> rcases (show k = 0 ∨ k = 1 by omega) with rfl | rfl <;> simp [pS, qS, entS, unit, gainS, dotX, List.replicate]
  · simp only [List.length_cons, List.length_nil] at hi hk
    rcases (show i = 0 ∨ i = 1 ∨ i = 2 by omega) with rfl | rfl | rfl <;> rcases (show k = 0 ∨ k = 1 ∨ k = 2 by omega) with rfl | rfl | rfl <;> simp [pS, qS, entS, unit, gainS, dotX, List.replicate]

theorem unit_ne {n i k : Nat} (hn : n ≤ 3) (hi : i < n) (hk : k < n) (h : i ≠ k) : unit n i ≠ unit n k := by
  have : ∀ n : Nat, n < 4 → ∀ i : Nat, i < n → ∀ k : Nat, k < n → i ≠ k → unit n i ≠ unit n k := by decide
  exact this n (by omega) i hi k hk h

theorem ask_alone {t : List (List Int)} (hok : okTab t) {i : Nat} (hi : i < t.length) : askS t [(unit t.length i, 1)] = true := by
  have hn := hok.2.1
  have m2 : mixS t.length (unit t.length i) 1 = true := by
    have : ∀ n : Nat, n < 4 → ∀ i : Nat, i < n → mixS (n : Int) (unit n i) 1 = true := by decide
    exact this t.length (by omega) i hi
  simp only [askS, hok, decide_true, List.all_cons, List.all_nil, m2, Bool.and_self]

theorem ask_alone2 {t : List (List Int)} (hok : okTab t) {i k : Nat} (hi : i < t.length) (hk : k < t.length) : askS t [(unit t.length i, 1), (unit t.length k, 1)] = true :=
  ask_unit (ask_alone hok hk) hi

theorem alone_lim {t : List (List Int)} (hok : okTab t) {i k : Nat} (hi : i < t.length) (hk : k < t.length) (h : i ≠ k) :
    ∃ m1 m2 f, limR t (unit t.length i, 1) (unit t.length k, 1) = .tup [.agg [vI m1, vI m2], vI f] ∧ ((fairS t i k ∧ f = 0 ∧ 1 ≤ m1 ∧ 1 ≤ m2) ∨ (¬ fairS t i k ∧ f = 9)) := by
  have hb := ask_alone2 hok hi hk
  have hne : ¬ ((1 : Int) = 1 ∧ unit t.length i = unit t.length k) := fun e => unit_ne hok.2.1 hi hk h e.2
  obtain ⟨e1, e2⟩ := alone_pq hok hi hk
  unfold limR limV
  rw [if_pos hb, if_neg hne, e1, e2]
  by_cases c : entS t i i - entS t k i < 0 ∨ entS t i i - entS t k i = 0 ∧ entS t i k - entS t k k ≤ 0
  · rw [if_pos c]
    refine ⟨0, 0, 9, rfl, .inr ⟨?_, rfl⟩⟩
    unfold fairS; omega
  · rw [if_neg c]
    have hf : fairS t i k := by unfold fairS; omega
    by_cases c2 : entS t i k - entS t k k ≥ 0
    · rw [if_pos c2]
      exact ⟨1, 1, 0, rfl, .inl ⟨hf, rfl, by omega, by omega⟩⟩
    · rw [if_neg c2, ratA_eq]
      obtain ⟨g, hg, a1, a2⟩ := rat_mul (a := entS t i i - entS t k i) (b := entS t i i - entS t k i - (entS t i k - entS t k k)) (by omega)
      obtain ⟨b1, b2, b3⟩ := rat_bound (a := entS t i i - entS t k i) (b := entS t i i - entS t k i - (entS t i k - entS t k k)) (by omega)
      refine ⟨_, _, 0, rfl, .inl ⟨hf, rfl, ?_, b1⟩⟩
      rcases Int.lt_or_le 0 (ratN (entS t i i - entS t k i) (entS t i i - entS t k i - (entS t i k - entS t k k))) with h' | h'
      · omega
      · have := Int.mul_nonpos_of_nonpos_of_nonneg h' (show 0 ≤ g by omega)
        omega

theorem alone_lasts {t : List (List Int)} (hok : okTab t) {i k : Nat} (hi : i < t.length) (hk : k < t.length) (h : i ≠ k) (hL : lastsP t (unit t.length i) = true) : fairS t i k := by
  have hb := ask_alone2 hok hi hk
  have hne : ¬ ((1 : Int) = 1 ∧ unit t.length i = unit t.length k) := fun e => unit_ne hok.2.1 hi hk h e.2
  have := limit_ok hb hL hne
  obtain ⟨e1, e2⟩ := alone_pq hok hi hk
  rw [e1, e2] at this
  unfold fairS; omega

theorem alone_two {t : List (List Int)} (hok : okTab t) {i k : Nat} (hi : i < t.length) (hk : k < t.length) (h : i ≠ k) (h2 : t.length = 2) (hf : fairS t i k) : lastsP t (unit t.length i) = true := by
  rcases shapes hok with ⟨a, rfl⟩ | ⟨a, b', c, d, rfl⟩ | ⟨a, b', c, d, e, f, g, h, l, rfl⟩
  · cases h2
  · simp only [List.length_cons, List.length_nil] at hi hk
    rcases (show i = 0 ∧ k = 1 ∨ i = 1 ∧ k = 0 by omega) with ⟨rfl, rfl⟩ | ⟨rfl, rfl⟩
    · have e : unit [[a, b'], [c, d]].length 0 = [1, 0] := rfl
      have hf' : a > c ∨ a = c ∧ b' > d := hf
      rw [e, haigh0, decide_eq_true_eq]; exact hf'
    · have e : unit [[a, b'], [c, d]].length 1 = [0, 1] := rfl
      have hf' : d > b' ∨ d = b' ∧ c > a := hf
      rw [e, haigh1, decide_eq_true_eq]; exact hf'
  · cases h2
end Go.X
