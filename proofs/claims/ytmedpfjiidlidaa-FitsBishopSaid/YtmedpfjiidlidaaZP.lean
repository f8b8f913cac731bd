import Derived.Test.YtmedpfjiidlidaaZE
import Derived.Test.YtmedpfjiidlidaaZC
/-! Mixtures at rest (plain laws); ratios that are compared. -/
set_option linter.unusedSimpArgs false
set_option linter.unusedVariables false
set_option maxHeartbeats 2000000
set_option maxRecDepth 10000
namespace Go.X
open Go Go.RowKit

theorem dot_le_max {M : Int} : ∀ {xs g : List Int}, xs.length = g.length → (∀ x ∈ xs, 0 ≤ x) → (∀ y ∈ g, y ≤ M) → dotS xs g ≤ sumL xs * M
  | [], [], _, _, _ => by simp [dotS, sumL]
  | x :: xs, y :: g, hl, hx, hg => by
    have h1 := dot_le_max (xs := xs) (g := g) (by simpa using hl) (fun z hz => hx z (List.mem_cons_of_mem _ hz)) (fun z hz => hg z (List.mem_cons_of_mem _ hz))
    have h2 : x * y ≤ x * M := Int.mul_le_mul_of_nonneg_left (hg y (by simp)) (hx x (by simp))
    have e : sumL (x :: xs) * M = x * M + sumL xs * M := by simp only [sumL, List.foldr_cons, Int.add_mul]
    rw [e]; simp only [dotS]; omega

theorem dot_eq_max {M : Int} : ∀ {xs g : List Int}, xs.length = g.length → (∀ i (h1 : i < xs.length) (h2 : i < g.length), xs[i] = 0 ∨ g[i] = M) → dotS xs g = sumL xs * M
  | [], [], _, _ => by simp [dotS, sumL]
  | x :: xs, y :: g, hl, h => by
    have h1 := dot_eq_max (xs := xs) (g := g) (by simpa using hl) (fun i a b => by have := h (i + 1) (by simpa using a) (by simpa using b); simpa using this)
    have h2 : x * y = x * M := by
      rcases h 0 (by simp) (by simp) with h | h
      · have : x = 0 := by simpa using h
        subst this; simp
      · have : y = M := by simpa using h
        rw [this]
    have e : sumL (x :: xs) * M = x * M + sumL xs * M := by simp only [sumL, List.foldr_cons, Int.add_mul]
    rw [e]; simp only [dotS]; omega

theorem dot_lt_max {M : Int} : ∀ {xs g : List Int}, xs.length = g.length → (∀ x ∈ xs, 0 ≤ x) → (∀ y ∈ g, y ≤ M) → (∃ i, ∃ (h1 : i < xs.length) (h2 : i < g.length), xs[i] > 0 ∧ g[i] < M) → dotS xs g < sumL xs * M
  | [], [], _, _, _, h => by obtain ⟨i, h1, _⟩ := h; simp at h1
  | x :: xs, y :: g, hl, hx, hg, h => by
    have hl' : xs.length = g.length := by simpa using hl
    have hx' : ∀ z ∈ xs, 0 ≤ z := fun z hz => hx z (List.mem_cons_of_mem _ hz)
    have hg' : ∀ z ∈ g, z ≤ M := fun z hz => hg z (List.mem_cons_of_mem _ hz)
    have e : sumL (x :: xs) * M = x * M + sumL xs * M := by simp only [sumL, List.foldr_cons, Int.add_mul]
    rw [e]; simp only [dotS]
    obtain ⟨i, h1, h2, h3, h4⟩ := h
    cases i with
    | zero =>
      have h5 := dot_le_max hl' hx' hg'
      have h3 : x > 0 := by simpa using h3
      have h4 : y < M := by simpa using h4
      have h6 : x * y < x * M := Int.mul_lt_mul_of_pos_left h4 h3
      omega
    | succ i =>
      have h5 := dot_lt_max hl' hx' hg' ⟨i, by simpa using h1, by simpa using h2, by simpa using h3, by simpa using h4⟩
      have h6 : x * y ≤ x * M := Int.mul_le_mul_of_nonneg_left (hg y (by simp)) (hx x (by simp))
      omega

theorem le_max {l : List Int} {x : Int} (h : x ∈ l) : x ≤ maxI l := by
  cases l with
  | nil => simp at h
  | cons a l =>
    obtain ⟨h1, h2⟩ := foldl_max_le l a
    rcases List.mem_cons.1 h with rfl | h
    · exact h1
    · exact h2 x h

/-- A set's bits. -/
theorem bit_set {p : Int → Bool} {l : List Int} (hl : l.length ≤ 3) {i : Nat} (hi : i < l.length) : bit (setS p l 0) i = p l[i] := by
  match l, hl, i, hi with
  | [a], _, 0, _ => simp only [setS]; cases h : p a <;> simp [h, bit]
  | [a, b], _, 0, _ => simp only [setS]; cases h : p a <;> cases h2 : p b <;> simp [h, h2, bit]
  | [a, b], _, 1, _ => simp only [setS]; cases h : p a <;> cases h2 : p b <;> simp [h, h2, bit]
  | [a, b, c], _, 0, _ => simp only [setS]; cases h : p a <;> cases h2 : p b <;> cases h3 : p c <;> simp [h, h2, h3, bit]
  | [a, b, c], _, 1, _ => simp only [setS]; cases h : p a <;> cases h2 : p b <;> cases h3 : p c <;> simp [h, h2, h3, bit]
  | [a, b, c], _, 2, _ => simp only [setS]; cases h : p a <;> cases h2 : p b <;> cases h3 : p c <;> simp [h, h2, h3, bit]

theorem sub_all : ((List.range 8).all fun o => (List.range 8).all fun b => subS o b == ((List.range 3).all fun i => !bit o i || bit b i)) = true := by decide +kernel

theorem sub_bits {o b : Nat} (ho : o < 8) (hb : b < 8) : subS o b = true ↔ ∀ i, i < 3 → bit o i = true → bit b i = true := by
  have := List.all_eq_true.1 (List.all_eq_true.1 sub_all o (by simp; omega)) b (by simp; omega)
  rw [beq_iff_eq] at this
  rw [this, List.all_eq_true]
  constructor
  · intro h i hi h1
    have := h i (by simp; omega)
    rw [h1] at this; simpa using this
  · intro h i hi
    have := h i (by simpa using hi)
    cases h1 : bit o i
    · rfl
    · rw [this h1]; rfl

theorem bit_high {o i n : Nat} (h : o < 2 ^ n) (hi : n ≤ i) : bit o i = false := by
  have : o / 2 ^ i = 0 := Nat.div_eq_of_lt (Nat.lt_of_lt_of_le h (Nat.pow_le_pow_right (by decide) hi))
  unfold bit; rw [this]; rfl

/-- The gains of each fashion alone. -/
def gains (t : List (List Int)) (ys : List Int) : List Int := t.map (dotS · ys)

/-- A mixture is at rest just if all its fashions gain most. -/
theorem rest_iff {t : List (List Int)} {xs ys : List Int} (hok : okTab t) (hl : xs.length = t.length) (hnn : ∀ x ∈ xs, 0 ≤ x) :
    subS (fashS xs) (bestS t ys) = true ↔ ∀ i (h1 : i < xs.length) (h2 : i < (gains t ys).length), xs[i] = 0 ∨ (gains t ys)[i] = maxI (gains t ys) := by
  have h3 := hok.2.1
  have hgl : (gains t ys).length = t.length := by simp [gains]
  have h8 : 2 ^ t.length ≤ 8 := Nat.pow_le_pow_right (by decide) h3 (n := 2)
  have ho : fashS xs < 2 ^ t.length := fashS_lt hl
  have hb : bestS t ys < 2 ^ t.length := bestS_lt
  rw [sub_bits (by omega) (by omega)]
  have b1 : ∀ i (h : i < xs.length), bit (fashS xs) i = decide (xs[i] > 0) := fun i h => bit_set (p := fun x => decide (x > 0)) (by omega) h
  have b2 : ∀ i (h : i < (gains t ys).length), bit (bestS t ys) i = ((gains t ys)[i] == maxI (gains t ys)) := fun i h => bit_set (p := fun x => x == maxI (gains t ys)) (by omega) h
  constructor
  · intro h i h1 h2
    rcases Int.lt_or_le 0 xs[i] with hp | hp
    · have := h i (by omega) (by rw [b1 i h1]; simpa using hp)
      rw [b2 i h2] at this
      exact .inr (by simpa using this)
    · have := hnn xs[i] (by simp)
      exact .inl (by omega)
  · intro h i hi h1
    rcases Nat.lt_or_ge i xs.length with hx | hx
    · rw [b1 i hx] at h1
      have h1 : xs[i] > 0 := by simpa using h1
      have h2 : i < (gains t ys).length := by omega
      rw [b2 i h2]
      rcases h i hx h2 with h | h
      · omega
      · simpa using h
    · rw [bit_high (n := xs.length) (fashS_lt rfl) hx] at h1; cases h1

theorem gain_gains (t : List (List Int)) (xs ys : List Int) : gainS t xs ys = dotS xs (gains t ys) := gain_dot t xs ys

/-- At rest: none gains more. -/
theorem rest_law {t : List (List Int)} {xs ys : List Int} {dx dy : Int} (hx : askS t [(xs, dx), (ys, dy)] = true) (h : subS (fashS xs) (bestS t xs) = true) :
    gainS t ys xs * (dx * dx) ≤ gainS t xs xs * (dy * dx) := by
  obtain ⟨hok, m1, m2⟩ := ask2 hx
  obtain ⟨l1, d1, d2, f1, s1, _⟩ := mix_ok m1
  obtain ⟨l2, d3, d4, f2, s2, _⟩ := mix_ok m2
  simp only at l1 d1 d2 f1 s1 l2 d3 d4 f2 s2
  have hgl : (gains t xs).length = t.length := by simp [gains]
  have e1 := dot_eq_max (M := maxI (gains t xs)) (by omega) ((rest_iff hok l1 fun x hx => (f1 x hx).1).1 h)
  have e2 := dot_le_max (xs := ys) (g := gains t xs) (M := maxI (gains t xs)) (by omega) (fun x hx => (f2 x hx).1) (fun y hy => le_max hy)
  rw [s1] at e1
  rw [s2] at e2
  rw [gain_gains, gain_gains, e1]
  have hd : 0 ≤ dx * dx := Int.mul_nonneg (by omega) (by omega)
  have := Int.mul_le_mul_of_nonneg_right e2 hd
  have e3 : dx * maxI (gains t xs) * (dy * dx) = dy * maxI (gains t xs) * (dx * dx) := by
    rw [Int.mul_assoc, Int.mul_assoc, Int.mul_left_comm (maxI (gains t xs)) dy dx, Int.mul_left_comm dx dy, Int.mul_left_comm dx (maxI (gains t xs)) dx]
  rw [e3]; exact this

/-- Not at rest: each of the best alone gains more. -/
theorem unrest_law {t : List (List Int)} {xs : List Int} {dx : Int} (hx : askS t [(xs, dx)] = true) (h : subS (fashS xs) (bestS t xs) = false) {j : Nat} (hj : j < t.length) (hb : bit (bestS t xs) j = true) :
    gainS t (unit t.length j) xs * (dx * dx) > gainS t xs xs * (1 * dx) := by
  obtain ⟨hok, m1⟩ := ask1 hx
  obtain ⟨l1, d1, d2, f1, s1, _⟩ := mix_ok m1
  simp only at l1 d1 d2 f1 s1
  have h3 := hok.2.1
  have hgl : (gains t xs).length = t.length := by simp [gains]
  have hnn : ∀ x ∈ xs, 0 ≤ x := fun x hx => (f1 x hx).1
  have hn : ¬ ∀ i (h1 : i < xs.length) (h2 : i < (gains t xs).length), xs[i] = 0 ∨ (gains t xs)[i] = maxI (gains t xs) := fun hh => by
    rw [← rest_iff hok l1 hnn] at hh
    rw [h] at hh; cases hh
  have hex : ∃ i, ∃ (h1 : i < xs.length) (h2 : i < (gains t xs).length), xs[i] > 0 ∧ (gains t xs)[i] < maxI (gains t xs) := by
    refine Classical.byContradiction fun hne => hn fun i h1 h2 => ?_
    rcases Int.lt_or_le 0 xs[i] with hp | hp
    · right
      have := le_max (List.getElem_mem h2)
      rcases Int.lt_or_le (gains t xs)[i] (maxI (gains t xs)) with hq | hq
      · exact (hne ⟨i, h1, h2, hp, hq⟩).elim
      · omega
    · have := hnn xs[i] (by simp)
      left; omega
  have e1 := dot_lt_max (by omega) hnn (fun y hy => le_max hy) hex
  rw [s1] at e1
  have hju : j < (gains t xs).length := by omega
  have b2 : bit (bestS t xs) j = ((gains t xs)[j] == maxI (gains t xs)) := bit_set (p := fun x => x == maxI (gains t xs)) (by omega) hju
  rw [b2] at hb
  have hb : (gains t xs)[j] = maxI (gains t xs) := by simpa using hb
  have e2 : gainS t (unit t.length j) xs = maxI (gains t xs) := by
    rw [gain_unit, ← hb]; simp [gains, List.getD_eq_getElem?_getD, hj]
  rw [e2, gain_gains]
  have := Int.mul_lt_mul_of_pos_right e1 (show 0 < dx by omega)
  have e3 : maxI (gains t xs) * (dx * dx) = dx * maxI (gains t xs) * dx := by rw [← Int.mul_assoc, Int.mul_comm (maxI (gains t xs)) dx]
  rw [e3, Int.one_mul]; exact this

theorem best_pos {t : List (List Int)} {xs : List Int} (hok : okTab t) : 0 < bestS t xs := by
  have h1 := hok.1
  have hgl : (gains t xs).length = t.length := by simp [gains]
  refine setS_pos _ 0 ?_
  have : ∃ y ∈ gains t xs, y = maxI (gains t xs) := by
    have key : ∀ (l : List Int) (a : Int), l.foldl max a = a ∨ l.foldl max a ∈ l := by
      intro l
      induction l with
      | nil => intro a; exact .inl rfl
      | cons x l ih =>
        intro a
        rw [List.foldl_cons]
        rcases ih (max a x) with h | h
        · rw [h]
          rcases Int.le_total a x with hc | hc
          · right; rw [Int.max_eq_right hc]; simp
          · left; exact Int.max_eq_left hc
        · exact .inr (List.mem_cons_of_mem _ h)
    cases hg : gains t xs with
    | nil => rw [hg] at hgl; simp at hgl; omega
    | cons a l =>
      rcases key l a with h | h
      · exact ⟨a, by simp, h.symm⟩
      · exact ⟨_, List.mem_cons_of_mem _ h, rfl⟩
  obtain ⟨y, hy, e⟩ := this
  exact ⟨y, hy, by simpa [gains] using e⟩

/-! ### Ratios -/
def ratN (a b : Int) : Int := a.tdiv (divR a b)
def ratD (a b : Int) : Int := b.tdiv (divR a b)
theorem ratA_eq (a b : Int) : ratA a b = .agg [vI (ratN a b), vI (ratD a b)] := rfl

theorem rat_mul {a b : Int} (hb : b > 0) : ∃ g : Int, g > 0 ∧ a = ratN a b * g ∧ b = ratD a b * g := by
  have hd : divR a b = Int.gcd a b := by unfold divR; rw [if_neg (by omega)]
  have hg : 0 < (Int.gcd a b : Int) := by
    have : Int.gcd a b ≠ 0 := fun h => by have := (Int.gcd_eq_zero_iff.1 h).2; omega
    omega
  refine ⟨Int.gcd a b, hg, ?_, ?_⟩
  · unfold ratN; rw [hd]; exact (Int.tdiv_mul_cancel (Int.gcd_dvd_left ..)).symm
  · unfold ratD; rw [hd]; exact (Int.tdiv_mul_cancel (Int.gcd_dvd_right ..)).symm

theorem rat_bound {a b : Int} (hb : b > 0) : 1 ≤ ratD a b ∧ ratD a b ≤ b ∧ (ratN a b).natAbs ≤ a.natAbs := by
  obtain ⟨g, hg, e1, e2⟩ := rat_mul (a := a) hb
  have h1 := tdiv_le a (divR a b)
  have h2 := tdiv_le b (divR a b)
  have hpos : ratD a b > 0 := by
    rcases Int.lt_or_le 0 (ratD a b) with h | h
    · exact h
    · have := Int.mul_nonpos_of_nonpos_of_nonneg h (show 0 ≤ g by omega)
      omega
  have h3 : (ratD a b).natAbs ≤ b.natAbs := h2
  exact ⟨by omega, by omega, h1⟩

/-- One ratio is greater than another one just if the products are. -/
theorem above_iff {a b c d : Int} (hb : b > 0) (hd : d > 0) : ratN a b * ratD c d > ratN c d * ratD a b ↔ a * d > c * b := by
  obtain ⟨g, hg, e1, e2⟩ := rat_mul (a := a) hb
  obtain ⟨k, hk, e3, e4⟩ := rat_mul (a := c) hd
  generalize ratN a b = n1 at *
  generalize ratD a b = m1 at *
  generalize ratN c d = n2 at *
  generalize ratD c d = m2 at *
  have hgk : 0 < g * k := Int.mul_pos hg hk
  have x1 : a * d = n1 * m2 * (g * k) := by rw [e1, e4, Int.mul_assoc, Int.mul_left_comm g, ← Int.mul_assoc]
  have x2 : c * b = n2 * m1 * (g * k) := by rw [e3, e2, Int.mul_assoc, Int.mul_left_comm k, ← Int.mul_assoc, Int.mul_comm k g]
  rw [x1, x2]
  constructor
  · intro h; exact Int.mul_lt_mul_of_pos_right h hgk
  · intro h; exact Int.lt_of_mul_lt_mul_right h (by omega)
end Go.X
