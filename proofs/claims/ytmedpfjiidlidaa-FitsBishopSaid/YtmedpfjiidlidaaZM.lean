import Derived.Test.YtmedpfjiidlidaaZC
/-! Two fashions: what lasts (plain laws). -/
set_option linter.unusedSimpArgs false
set_option linter.unusedVariables false
set_option maxHeartbeats 2000000
set_option maxRecDepth 10000
namespace Go.X
open Go Go.RowKit

theorem best_two {a b c d x y : Int} : bestS [[a, b], [c, d]] [x, y] = if a * x + b * y > c * x + d * y then 1 else if a * x + b * y = c * x + d * y then 3 else 2 := by
  simp only [bestS, List.map_cons, List.map_nil, dotS, Int.add_zero, maxI, List.foldl_cons, List.foldl_nil, setS]
  generalize a * x + b * y = p
  generalize c * x + d * y = q
  by_cases h1 : p > q
  · have e1 : max p q = p := by omega
    have e2 : (q == p) = false := by simp; omega
    simp [h1, e1, e2]
  · by_cases h2 : p = q
    · subst h2
      simp [h1]
    · have e1 : max p q = q := by omega
      have e2 : (p == q) = false := by simp; omega
      simp [h1, h2, e1, e2]

theorem lasts_two {t : List (List Int)} {ys : List Int} (hl : t.length = 2) : lastsP t ys = (subS (fashS ys) (bestS t ys) && tailP t (fashS ys) (partsO (fashS ys) (bestS t ys) 2).1 (partsO (fashS ys) (bestS t ys) 2).2) := by
  unfold lastsP; rw [hl]

theorem way_two {a b c d : Int} : wayS [[a, b], [c, d]] 0 1 1 = 2 * (d - c - b + a) ∧ wayS [[a, b], [c, d]] 1 0 0 = 2 * (a - b - c + d) := by
  constructor
  · have : wayS [[a, b], [c, d]] 0 1 1 = (d - c - b + a) + (d - c - b + a) := rfl
    rw [this]; omega
  · have : wayS [[a, b], [c, d]] 1 0 0 = (a - b - c + d) + (a - b - c + d) := rfl
    rw [this]; omega

theorem lasts_at {a b c d : Int} {ys : List Int} {o b' : Nat} (ho : fashS ys = o) (hb : bestS [[a, b], [c, d]] ys = b') :
    lastsP [[a, b], [c, d]] ys = (subS o b' && tailP [[a, b], [c, d]] o (partsO o b' 2).1 (partsO o b' 2).2) := by
  rw [lasts_two rfl, ho, hb]

/-- The first fashion alone. -/
theorem haigh0 (a b c d : Int) : lastsP [[a, b], [c, d]] [1, 0] = decide (a > c ∨ a = c ∧ b > d) := by
  have hb := best_two (a := a) (b := b) (c := c) (d := d) (x := 1) (y := 0)
  simp only [Int.mul_one, Int.mul_zero, Int.add_zero] at hb
  have ho : fashS [1, 0] = 1 := by decide
  by_cases h1 : a > c
  · rw [if_pos h1] at hb
    rw [lasts_at ho hb]
    simp only [h1, true_or, decide_true]
    rfl
  · rw [if_neg h1] at hb
    by_cases h2 : a = c
    · rw [if_pos h2] at hb
      rw [lasts_at ho hb]
      have e : (subS 1 3 && tailP [[a, b], [c, d]] 1 (partsO 1 3 2).1 (partsO 1 3 2).2) = decide (wayS [[a, b], [c, d]] 0 1 1 < 0) := rfl
      rw [e, way_two.1]
      simp only [h1, h2, true_and, false_or, decide_eq_decide]
      omega
    · rw [if_neg h2] at hb
      rw [lasts_at ho hb]
      have e : (subS 1 2 && tailP [[a, b], [c, d]] 1 (partsO 1 2 2).1 (partsO 1 2 2).2) = false := rfl
      rw [e]
      simp [h1, h2]

/-- The second fashion alone. -/
theorem haigh1 (a b c d : Int) : lastsP [[a, b], [c, d]] [0, 1] = decide (d > b ∨ d = b ∧ c > a) := by
  have hb := best_two (a := a) (b := b) (c := c) (d := d) (x := 0) (y := 1)
  simp only [Int.mul_one, Int.mul_zero, Int.zero_add] at hb
  have ho : fashS [0, 1] = 2 := by decide
  by_cases h1 : b > d
  · rw [if_pos h1] at hb
    rw [lasts_at ho hb]
    have e : (subS 2 1 && tailP [[a, b], [c, d]] 2 (partsO 2 1 2).1 (partsO 2 1 2).2) = false := rfl
    rw [e]
    symm
    simp only [decide_eq_false_iff_not]
    omega
  · rw [if_neg h1] at hb
    by_cases h2 : b = d
    · rw [if_pos h2] at hb
      rw [lasts_at ho hb]
      have e : (subS 2 3 && tailP [[a, b], [c, d]] 2 (partsO 2 3 2).1 (partsO 2 3 2).2) = decide (wayS [[a, b], [c, d]] 1 0 0 < 0) := rfl
      rw [e, way_two.2, decide_eq_decide]
      omega
    · rw [if_neg h2] at hb
      rw [lasts_at ho hb]
      have e : (subS 2 2 && tailP [[a, b], [c, d]] 2 (partsO 2 2 2).1 (partsO 2 2 2).2) = true := rfl
      rw [e]
      symm
      simp only [decide_eq_true_eq]
      omega

/-- Both together. -/
theorem haigh_both {a b c d p q : Int} (hp : p > 0) (hq : q > 0) : lastsP [[a, b], [c, d]] [p, q] = decide ((b - d) * q = (c - a) * p ∧ (b - d) + (c - a) > 0) := by
  have hb := best_two (a := a) (b := b) (c := c) (d := d) (x := p) (y := q)
  have ho : fashS [p, q] = 3 := by simp [fashS, setS, hp, hq]
  have hiff : a * p + b * q = c * p + d * q ↔ (b - d) * q = (c - a) * p := by
    rw [Int.sub_mul, Int.sub_mul]; omega
  by_cases h1 : a * p + b * q > c * p + d * q
  · rw [if_pos h1] at hb
    rw [lasts_at ho hb]
    have e : (subS 3 1 && tailP [[a, b], [c, d]] 3 (partsO 3 1 2).1 (partsO 3 1 2).2) = false := rfl
    rw [e]
    symm
    simp only [decide_eq_false_iff_not, ← hiff]
    omega
  · rw [if_neg h1] at hb
    by_cases h2 : a * p + b * q = c * p + d * q
    · rw [if_pos h2] at hb
      rw [lasts_at ho hb]
      have e : (subS 3 3 && tailP [[a, b], [c, d]] 3 (partsO 3 3 2).1 (partsO 3 3 2).2) = decide (wayS [[a, b], [c, d]] 0 1 1 < 0) := rfl
      rw [e, way_two.1, decide_eq_decide, ← hiff]
      omega
    · rw [if_neg h2] at hb
      rw [lasts_at ho hb]
      have e : (subS 3 2 && tailP [[a, b], [c, d]] 3 (partsO 3 2 2).1 (partsO 3 2 2).2) = false := rfl
      rw [e]
      symm
      simp only [decide_eq_false_iff_not, ← hiff]
      omega

/-- Numbers in the same ratio, the second ones without a common divisor. -/
theorem ratio_nat {P Q p q : Nat} (h : P * q = Q * p) (hc : Nat.gcd p q = 1) (hq : 0 < q) (hp : 0 < p) : ∃ m, P = p * m ∧ Q = q * m ∧ Nat.gcd P Q = m := by
  have h1 : p ∣ P * q := ⟨Q, by rw [h, Nat.mul_comm]⟩
  obtain ⟨m, rfl⟩ := Nat.Coprime.dvd_of_dvd_mul_right hc h1
  have h2 : q * m = Q := by
    have : p * (m * q) = p * Q := by rw [← Nat.mul_assoc, h, Nat.mul_comm]
    have := Nat.eq_of_mul_eq_mul_left hp this
    rw [Nat.mul_comm, this]
  refine ⟨m, rfl, h2.symm, ?_⟩
  rw [← h2, Nat.gcd_mul_right, hc, Nat.one_mul]

theorem gcd_two {den p q : Int} (h : gcdL den [p, q] = 1) (hs : sumL [p, q] = den) : Int.gcd p q = 1 := by
  simp only [gcdL] at h
  have h1 : ((Int.gcd p q : Nat) : Int) ∣ p := Int.gcd_dvd_left ..
  have h2 : ((Int.gcd p q : Nat) : Int) ∣ q := Int.gcd_dvd_right ..
  have h3 : ((Int.gcd p q : Nat) : Int) ∣ den := by
    rw [← hs]
    simp only [sumL, List.foldr_cons, List.foldr_nil, Int.add_zero]
    exact Int.dvd_add h1 h2
  have h4 : ((Int.gcd p q : Nat) : Int) ∣ (Int.gcd den p : Int) := Int.dvd_coe_gcd h3 h1
  have h5 : ((Int.gcd p q : Nat) : Int) ∣ (Int.gcd (Int.gcd den p : Int) q : Int) := Int.dvd_coe_gcd h4 h2
  rw [h] at h5
  have := Int.natCast_dvd_natCast.1 (by simpa using h5 : ((Int.gcd p q : Nat) : Int) ∣ ((1 : Nat) : Int))
  exact Nat.dvd_one.1 this

theorem nums_two {a b c d : Int} : numsT [[a, b], [c, d]] 3 = [b - d, c - a] := by kernel_rfl

/-- Resting of both, if both gain from the other one. -/
theorem rest_two {a b c d : Int} : restS [[a, b], [c, d]] 3 = if b - d > 0 ∧ c - a > 0 ∨ b - d < 0 ∧ c - a < 0 then
      some ([(b - d).tdiv (divS [b - d, c - a]), (c - a).tdiv (divS [b - d, c - a])], ((b - d) + (c - a)).tdiv (divS [b - d, c - a])) else none := by
  unfold restS
  rw [nums_two]
  generalize b - d = P
  generalize c - a = Q
  simp only [sumL, List.foldr_cons, List.foldr_nil, Int.add_zero, List.map_cons, List.map_nil]
  have hg : (Int.gcd (Int.gcd 0 P : Int) Q : Int) = Int.gcd P Q := by simp [Int.gcd]
  have hd : divS [P, Q] = if P + Q < 0 then -(Int.gcd P Q : Int) else Int.gcd P Q := by
    simp only [divS, sumL, gcdL, List.foldr_cons, List.foldr_nil, Int.add_zero, hg]
  have key : ∀ x : Int, (∃ k, x = (Int.gcd P Q : Int) * k) → P + Q ≠ 0 → (x.tdiv (divS [P, Q]) > 0 ↔ (P + Q < 0 ∧ x < 0 ∨ P + Q > 0 ∧ x > 0)) := by
    rintro x ⟨k, rfl⟩ h0
    have hgp : 0 < (Int.gcd P Q : Int) := by
      have : Int.gcd P Q ≠ 0 := fun h => by
        obtain ⟨h1, h2⟩ := Int.gcd_eq_zero_iff.1 h
        omega
      omega
    rw [hd]
    generalize (Int.gcd P Q : Int) = g at *
    have e1 : g * k > 0 ↔ k > 0 := by
      constructor
      · intro h
        rcases Int.lt_trichotomy k 0 with h1 | h1 | h1
        · have := Int.mul_neg_of_pos_of_neg hgp h1; omega
        · subst h1; simp at h
        · exact h1
      · intro h; exact Int.mul_pos hgp h
    have e2 : g * k < 0 ↔ k < 0 := by
      constructor
      · intro h
        rcases Int.lt_trichotomy k 0 with h1 | h1 | h1
        · exact h1
        · subst h1; simp at h
        · have := Int.mul_pos hgp h1; omega
      · intro h; exact Int.mul_neg_of_pos_of_neg hgp h
    by_cases c : P + Q < 0
    · rw [if_pos c]
      have : (g * k).tdiv (-g) = -k := by
        rw [Int.tdiv_neg, Int.mul_tdiv_cancel_left _ (by omega)]
      rw [this]; omega
    · rw [if_neg c]
      have : (g * k).tdiv g = k := Int.mul_tdiv_cancel_left _ (by omega)
      rw [this]; omega
  have hP : ∃ k, P = (Int.gcd P Q : Int) * k := Int.gcd_dvd_left ..
  have hQ : ∃ k, Q = (Int.gcd P Q : Int) * k := Int.gcd_dvd_right ..
  by_cases h0 : P + Q = 0
  · rw [if_neg (fun h => h.1 h0), if_neg (by omega)]
  · have k1 := key P hP h0
    have k2 := key Q hQ h0
    have hf : fairL 3 (divS [P, Q]) 0 [P, Q] = true ↔ (P > 0 ∧ Q > 0 ∨ P < 0 ∧ Q < 0) := by
      have b0 : bit 3 0 = true := by decide
      have b1 : bit 3 1 = true := by decide
      simp only [fairL, b0, b1, Bool.and_true, Bool.and_eq_true, beq_iff_eq, decide_eq_true_eq, k1, k2]
      omega
    by_cases h1 : P > 0 ∧ Q > 0 ∨ P < 0 ∧ Q < 0
    · rw [if_pos ⟨h0, hf.2 h1⟩, if_pos h1]
    · rw [if_neg (fun h => h1 (hf.1 h.2)), if_neg h1]

/-- What the statement says of both together. -/
theorem haigh_law {a b c d p q den : Int} (hp : p > 0) (hq : q > 0) (hs : p + q = den) (hg : Int.gcd p q = 1) :
    lastsP [[a, b], [c, d]] [p, q] = true ↔ (restS [[a, b], [c, d]] 3 = some ([p, q], den) ∧ c > a ∧ b > d) := by
  rw [haigh_both hp hq, decide_eq_true_eq, rest_two]
  generalize hP : b - d = P
  generalize hQ : c - a = Q
  have e1 : c > a ↔ Q > 0 := by omega
  have e2 : b > d ↔ P > 0 := by omega
  rw [e1, e2]
  have both : P > 0 → Q > 0 → P * q = Q * p → divS [P, Q] ≠ 0 ∧ P.tdiv (divS [P, Q]) = p ∧ Q.tdiv (divS [P, Q]) = q ∧ (P + Q).tdiv (divS [P, Q]) = den := by
    intro h1 h2 h3
    obtain ⟨P', rfl⟩ : ∃ n : Nat, P = n := ⟨P.toNat, by omega⟩
    obtain ⟨Q', rfl⟩ : ∃ n : Nat, Q = n := ⟨Q.toNat, by omega⟩
    obtain ⟨p', rfl⟩ : ∃ n : Nat, p = n := ⟨p.toNat, by omega⟩
    obtain ⟨q', rfl⟩ : ∃ n : Nat, q = n := ⟨q.toNat, by omega⟩
    have h3' : P' * q' = Q' * p' := by exact_mod_cast h3
    have hc : Nat.gcd p' q' = 1 := by simpa [Int.gcd] using hg
    obtain ⟨m, e1, e2, e3⟩ := ratio_nat h3' hc (by omega) (by omega)
    have hd : divS [(P' : Int), (Q' : Int)] = m := by
      have : ¬ ((P' : Int) + (Q' : Int) < 0) := by omega
      simp only [divS, sumL, gcdL, List.foldr_cons, List.foldr_nil, Int.add_zero, if_neg this]
      rw [← e3]; simp [Int.gcd]
    have hm : m ≠ 0 := by
      rintro rfl
      simp at e1; omega
    rw [hd]
    have hm' : (m : Int) ≠ 0 := by omega
    refine ⟨hm', ?_, ?_, ?_⟩
    · rw [e1]; push_cast; exact Int.mul_tdiv_cancel _ hm'
    · rw [e2]; push_cast; exact Int.mul_tdiv_cancel _ hm'
    · rw [e1, e2, ← hs]; push_cast
      rw [← Int.add_mul]; exact Int.mul_tdiv_cancel _ hm'
  constructor
  · rintro ⟨h1, h2⟩
    have hPp : P > 0 := by
      rcases Int.lt_or_le 0 P with h | h
      · exact h
      · have a1 : P * q ≤ 0 := Int.mul_nonpos_of_nonpos_of_nonneg h (by omega)
        have a2 : Q ≤ 0 := by
          rcases Int.lt_or_le 0 Q with h3 | h3
          · have := Int.mul_pos h3 hp; omega
          · exact h3
        omega
    have hQp : Q > 0 := by
      rcases Int.lt_or_le 0 Q with h | h
      · exact h
      · have a1 : Q * p ≤ 0 := Int.mul_nonpos_of_nonpos_of_nonneg h (by omega)
        have := Int.mul_pos hPp hq
        omega
    obtain ⟨h0, k1, k2, k3⟩ := both hPp hQp h1
    rw [if_pos (.inl ⟨hPp, hQp⟩), k1, k2, k3]
    exact ⟨rfl, hQp, hPp⟩
  · rintro ⟨h1, hQp, hPp⟩
    rw [if_pos (.inl ⟨hPp, hQp⟩)] at h1
    simp only [Option.some.injEq, Prod.mk.injEq, List.cons.injEq, and_true] at h1
    obtain ⟨⟨k1, k2⟩, _⟩ := h1
    refine ⟨?_, by omega⟩
    have hd : divS [P, Q] = Int.gcd P Q := by
      have : ¬ (P + Q < 0) := by omega
      simp only [divS, sumL, gcdL, List.foldr_cons, List.foldr_nil, Int.add_zero, if_neg this]
      simp [Int.gcd]
    have e3 : P = p * (Int.gcd P Q : Int) := by
      rw [← k1, hd]; exact (Int.tdiv_mul_cancel (Int.gcd_dvd_left ..)).symm
    have e4 : Q = q * (Int.gcd P Q : Int) := by
      rw [← k2, hd]; exact (Int.tdiv_mul_cancel (Int.gcd_dvd_right ..)).symm
    generalize (Int.gcd P Q : Int) = g at *
    rw [e3, e4, Int.mul_right_comm, Int.mul_comm p q, Int.mul_right_comm]
end Go.X
