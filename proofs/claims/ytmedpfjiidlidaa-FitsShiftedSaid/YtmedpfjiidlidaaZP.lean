import Derived.Test.YtmedpfjiidlidaaZE
import Derived.Test.YtmedpfjiidlidaaZC
/-! Mixtures at rest (plain laws); ratios that are compared. -/
set_option linter.unusedSimpArgs false
set_option linter.unusedVariables false
set_option maxHeartbeats 2000000
set_option maxRecDepth 10000
namespace Go.X
open Go Go.RowKit

/-- A set's bits. -/
theorem bit_set {p : Int → Bool} {l : List Int} (hl : l.length ≤ 3) {i : Nat} (hi : i < l.length) : bit (setS p l 0) i = p l[i] := by
  match l, hl, i, hi with
  | [a], _, 0, _ => simp only [setS]; cases h : p a <;> simp [h, bit]
  | [a, b], _, 0, _ => simp only [setS]; cases h : p a <;> cases h2 : p b <;> simp [h, h2, bit]
  | [a, b], _, 1, _ => simp only [setS]; cases h : p a <;> cases h2 : p b <;> simp [h, h2, bit]
  | [a, b, c], _, 0, _ => simp only [setS]; cases h : p a <;> cases h2 : p b <;> cases h3 : p c <;> simp [h, h2, h3, bit]
  | [a, b, c], _, 1, _ => simp only [setS]; cases h : p a <;> cases h2 : p b <;> cases h3 : p c <;> simp [h, h2, h3, bit]
  | [a, b, c], _, 2, _ => simp only [setS]; cases h : p a <;> cases h2 : p b <;> cases h3 : p c <;> simp [h, h2, h3, bit]

theorem sub_all : ((List.range 8).all fun o => (List.range 8).all fun b => subS o b == ((List.range 3).all fun i => !bit o i || bit b i)) = true := by decide +kernel

theorem sub_bits {o b : Nat} (ho : o < 8) (hb : b < 8) : subS o b = true ↔ ∀ i, i < 3 → bit o i = true → bit b i = true := by
  have := List.all_eq_true.1 (List.all_eq_true.1 sub_all o (by simp; omega)) b (by simp; omega)
  rw [beq_iff_eq] at this
  rw [this, List.all_eq_true]
  constructor
  · intro h i hi h1
    have := h i (by simp; omega)
    rw [h1] at this; simpa using this
  · intro h i hi
    have := h i (by simpa using hi)
    cases h1 : bit o i
    · rfl
    · rw [this h1]; rfl

theorem bit_high {o i n : Nat} (h : o < 2 ^ n) (hi : n ≤ i) : bit o i = false := by
  have : o / 2 ^ i = 0 := Nat.div_eq_of_lt (Nat.lt_of_lt_of_le h (Nat.pow_le_pow_right (by decide) hi))
  unfold bit; rw [this]; rfl

/-- The gains of each fashion alone. -/
def gains (t : List (List Int)) (ys : List Int) : List Int := t.map (dotS · ys)

/-- A mixture is at rest just if all its fashions gain most. -/
theorem rest_iff {t : List (List Int)} {xs ys : List Int} (hok : okTab t) (hl : xs.length = t.length) (hnn : ∀ x ∈ xs, 0 ≤ x) :
    subS (fashS xs) (bestS t ys) = true ↔ ∀ i (h1 : i < xs.length) (h2 : i < (gains t ys).length), xs[i] = 0 ∨ (gains t ys)[i] = maxI (gains t ys) := by
  have h3 := hok.2.1
  have hgl : (gains t ys).length = t.length := by simp [gains]
  have h8 : 2 ^ t.length ≤ 8 := Nat.pow_le_pow_right (by decide) h3 (n := 2)
  have ho : fashS xs < 2 ^ t.length := fashS_lt hl
  have hb : bestS t ys < 2 ^ t.length := bestS_lt
  rw [sub_bits (by omega) (by omega)]
  have b1 : ∀ i (h : i < xs.length), bit (fashS xs) i = decide (xs[i] > 0) := fun i h => bit_set (p := fun x => decide (x > 0)) (by omega) h
  have b2 : ∀ i (h : i < (gains t ys).length), bit (bestS t ys) i = ((gains t ys)[i] == maxI (gains t ys)) := fun i h => bit_set (p := fun x => x == maxI (gains t ys)) (by omega) h
  constructor
  · intro h i h1 h2
    rcases Int.lt_or_le 0 xs[i] with hp | hp
    · have := h i (by omega) (by rw [b1 i h1]; simpa using hp)
      rw [b2 i h2] at this
      exact .inr (by simpa using this)
    · have := hnn xs[i] (by simp)
      exact .inl (by omega)
  · intro h i hi h1
    rcases Nat.lt_or_ge i xs.length with hx | hx
    · rw [b1 i hx] at h1
      have h1 : xs[i] > 0 := by simpa using h1
      have h2 : i < (gains t ys).length := by omega
      rw [b2 i h2]
      rcases h i hx h2 with h | h
      · omega
      · simpa using h
    · rw [bit_high (n := xs.length) (fashS_lt rfl) hx] at h1; cases h1

theorem best_pos {t : List (List Int)} {xs : List Int} (hok : okTab t) : 0 < bestS t xs := by
  have h1 := hok.1
  have hgl : (gains t xs).length = t.length := by simp [gains]
  refine setS_pos _ 0 ?_
  have : ∃ y ∈ gains t xs, y = maxI (gains t xs) := by
    have key : ∀ (l : List Int) (a : Int), l.foldl max a = a ∨ l.foldl max a ∈ l := by
      intro l
      induction l with
      | nil => intro a; exact .inl rfl
      | cons x l ih =>
        intro a
        rw [List.foldl_cons]
        rcases ih (max a x) with h | h
        · rw [h]
          rcases Int.le_total a x with hc | hc
          · right; rw [Int.max_eq_right hc]; simp
          · left; exact Int.max_eq_left hc
        · exact .inr (List.mem_cons_of_mem _ h)
    cases hg : gains t xs with
    | nil => rw [hg] at hgl; simp at hgl; omega
    | cons a l =>
      rcases key l a with h | h
      · exact ⟨a, by simp, h.symm⟩
      · exact ⟨_, List.mem_cons_of_mem _ h, rfl⟩
  obtain ⟨y, hy, e⟩ := this
  exact ⟨y, hy, by simpa [gains] using e⟩

/-! ### Ratios -/
end Go.X
