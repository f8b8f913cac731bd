import Derived.Test.YtmedpfjiidlidaaZP
import Derived.Test.YtmedpfjiidlidaaZM
/-! A mixture that lasts stands against every other one (plain laws). -/
set_option linter.unusedSimpArgs false
set_option linter.unusedVariables false
set_option maxHeartbeats 2000000
set_option maxRecDepth 10000
namespace Go.X
open Go Go.RowKit

/-! ### Quadratic forms -/
theorem form_neg1 {A x : Int} (hA : A < 0) (hx : x ≠ 0) : A * (x * x) < 0 := by
  have : 0 < x * x := by
    rcases Int.lt_or_gt_of_ne hx with h | h
    · exact Int.mul_pos_of_neg_of_neg h h
    · exact Int.mul_pos h h
  exact Int.mul_neg_of_neg_of_pos hA this

theorem sq_nonneg (x : Int) : 0 ≤ x * x := by
  rcases Int.le_total 0 x with h | h
  · exact Int.mul_nonneg h h
  · exact Int.mul_nonneg_of_nonpos_of_nonpos h h

theorem form_neg2 {A B C x y : Int} (hA : A < 0) (hB : B < 0) (h : C * C < A * B) (hxy : x ≠ 0 ∨ y ≠ 0) : A * (x * x) + 2 * (C * (x * y)) + B * (y * y) < 0 := by
  by_cases hy : y = 0
  · subst hy
    have := form_neg1 hA (hxy.resolve_right (fun h => h rfl))
    simpa using this
  · have h1 : (A * x + C * y) * (A * x + C * y) + (A * B - C * C) * (y * y) = A * (A * (x * x) + 2 * (C * (x * y)) + B * (y * y)) := by grind
    have h2 := sq_nonneg (A * x + C * y)
    have h3 : 0 < y * y := by
      rcases Int.lt_or_gt_of_ne hy with h | h
      · exact Int.mul_pos_of_neg_of_neg h h
      · exact Int.mul_pos h h
    have h4 : 0 < (A * B - C * C) * (y * y) := Int.mul_pos (by omega) h3
    rcases Int.lt_or_le (A * (x * x) + 2 * (C * (x * y)) + B * (y * y)) 0 with h | h
    · exact h
    · have := Int.mul_nonpos_of_nonpos_of_nonneg (Int.le_of_lt hA) h
      omega

theorem form_neg3 {A B C x y : Int} (hA : A < 0) (hB : B < 0) (hC : C ≤ 0) (hx : 0 ≤ x) (hy : 0 ≤ y) (hxy : x ≠ 0 ∨ y ≠ 0) : A * (x * x) + 2 * (C * (x * y)) + B * (y * y) < 0 := by
  have h1 : C * (x * y) ≤ 0 := Int.mul_nonpos_of_nonpos_of_nonneg hC (Int.mul_nonneg hx hy)
  have h2 : A * (x * x) ≤ 0 := Int.mul_nonpos_of_nonpos_of_nonneg (by omega) (sq_nonneg x)
  have h3 : B * (y * y) ≤ 0 := Int.mul_nonpos_of_nonpos_of_nonneg (by omega) (sq_nonneg y)
  rcases hxy with h | h
  · have := form_neg1 hA h; omega
  · have := form_neg1 hB h; omega

/-! ### What lasting says, by its sets -/
theorem lasts_at3 {t : List (List Int)} {ys : List Int} {o b' : Nat} (hl : t.length = 3) (ho : fashS ys = o) (hb : bestS t ys = b') :
    lastsP t ys = (subS o b' && tailP t o (partsO o b' 3).1 (partsO o b' 3).2) := by
  unfold lastsP; rw [hl, ho, hb]

/-- Fashions that are not among the best have no part. -/
theorem off_zero {xs : List Int} {b i : Nat} (hl : xs.length ≤ 3) (hnn : ∀ x ∈ xs, 0 ≤ x) (hb : b < 8) (h : subS (fashS xs) b = true) (hi : i < xs.length) (hbit : bit b i = false) : xs[i] = 0 := by
  have hf : fashS xs < 8 := Nat.lt_of_lt_of_le (fashS_lt rfl) (Nat.pow_le_pow_right (by decide) hl (n := 2))
  have h1 := (sub_bits hf hb).1 h i (by omega)
  have h2 : bit (fashS xs) i = decide (xs[i] > 0) := bit_set (p := fun x => decide (x > 0)) hl hi
  have h3 := hnn xs[i] (by simp)
  rcases Int.lt_or_le 0 xs[i] with hp | hp
  · rw [h2] at h1
    have := h1 (by simpa using hp)
    rw [hbit] at this; cases this
  · omega

def diffL (xs ys : List Int) (dx dy : Int) : List Int := List.zipWith (fun y x => y * dx - x * dy) ys xs

theorem gcdL_dvd {m c : Int} : ∀ {l : List Int} {g : Int}, m ∣ g * c → (∀ x ∈ l, m ∣ x * c) → m ∣ gcdL g l * c
  | [], g, h, _ => h
  | x :: l, g, h, hl => by
    have h1 := hl x (by simp)
    have h2 : m ∣ (Int.gcd (g * c) (x * c) : Int) := Int.dvd_coe_gcd h h1
    rw [Int.gcd_mul_right] at h2
    refine gcdL_dvd (l := l) ?_ fun y hy => hl y (List.mem_cons_of_mem _ hy)
    have h3 : m ∣ ((Int.gcd g x : Int) * (c.natAbs : Int)) := by simpa using h2
    rcases Int.natAbs_eq c with e | e
    · rw [e]; exact h3
    · rw [e, Int.mul_neg]; exact (Int.dvd_neg).2 h3

/-- Mixtures in the same ratio are the same. -/
theorem same_ratio {xs ys : List Int} {dx dy : Int} (hl : xs.length = ys.length) (d1 : 0 < dx) (d2 : 0 < dy) (g1 : gcdL dx xs = 1) (g2 : gcdL dy ys = 1) (h : ∀ i (h1 : i < xs.length) (h2 : i < ys.length), ys[i] * dx = xs[i] * dy) : dx = dy ∧ xs = ys := by
  have a1 : dx ∣ gcdL dx xs * dy := gcdL_dvd ⟨dy, rfl⟩ fun x hx => by
    obtain ⟨i, hi, rfl⟩ := List.getElem_of_mem hx
    have := h i hi (by omega)
    exact ⟨ys[i], by rw [← this, Int.mul_comm]⟩
  have a2 : dy ∣ gcdL dy ys * dx := gcdL_dvd ⟨dx, rfl⟩ fun y hy => by
    obtain ⟨i, hi, rfl⟩ := List.getElem_of_mem hy
    have := h i (by omega) hi
    exact ⟨xs[i], by rw [this, Int.mul_comm]⟩
  rw [g1, Int.one_mul] at a1
  rw [g2, Int.one_mul] at a2
  have e : dx = dy := Int.le_antisymm (Int.le_of_dvd d2 a1) (Int.le_of_dvd d1 a2)
  subst e
  refine ⟨rfl, List.ext_getElem hl fun i h1 h2 => ?_⟩
  have := h i h1 h2
  exact (Int.eq_of_mul_eq_mul_right (by omega) this).symm

theorem diff_eq_zero {xs ys : List Int} {dx dy : Int} (hl : xs.length = ys.length) (d1 : 0 < dx) (d2 : 0 < dy) (g1 : gcdL dx xs = 1) (g2 : gcdL dy ys = 1) (hne : ¬ (dx = dy ∧ xs = ys)) : ¬ ∀ z ∈ diffL xs ys dx dy, z = 0 := by
  intro h
  refine hne (same_ratio hl d1 d2 g1 g2 fun i h1 h2 => ?_)
  have h3 : i < (diffL xs ys dx dy).length := by simp [diffL]; omega
  have := h (diffL xs ys dx dy)[i] (by simp)
  simp only [diffL, List.getElem_zipWith] at this
  omega

theorem mix_facts {t : List (List Int)} {xs : List Int} {dx : Int} (h : askS t [(xs, dx)] = true) : okTab t ∧ xs.length = t.length ∧ 1 ≤ dx ∧ dx ≤ 10000 ∧ (∀ x ∈ xs, 0 ≤ x) ∧ sumL xs = dx ∧ gcdL dx xs = 1 := by
  obtain ⟨hok, m⟩ := ask1 h
  obtain ⟨l, d1, d2, f, s, g⟩ := mix_ok m
  exact ⟨hok, l, d1, d2, fun x hx => (f x hx).1, s, g⟩

/-- The form is below 0 along each way to another mixture of the best fashions. -/
theorem ess {t : List (List Int)} {xs ys : List Int} {dx dy : Int} (hx : askS t [(xs, dx)] = true) (hy : askS t [(ys, dy)] = true) (hL : lastsP t xs = true) (hs : subS (fashS ys) (bestS t xs) = true) (hne : ¬ (dx = dy ∧ xs = ys)) :
    gainS t (diffL xs ys dx dy) (diffL xs ys dx dy) < 0 := by
  obtain ⟨hok, lx, dx1, dx2, nx, sx, gx⟩ := mix_facts hx
  obtain ⟨_, ly, dy1, dy2, ny, sy, gy⟩ := mix_facts hy
  have hD := diff_eq_zero (by omega) (by omega) (by omega) gx gy hne
  have hn3 := hok.2.1
  have hsx : subS (fashS xs) (bestS t xs) = true := by
    unfold lastsP at hL
    cases h : subS (fashS xs) (bestS t xs)
    · rw [h] at hL; simp at hL
    · rfl
  have hb8 : bestS t xs < 8 := Nat.lt_of_lt_of_le bestS_lt (Nat.pow_le_pow_right (by decide) hn3 (n := 2))
  have hbp := best_pos (xs := xs) hok
  have fp : 0 < fashS xs := by obtain ⟨_, m⟩ := ask1 hx; exact mix_fash m
  have fl : fashS xs < 2 ^ t.length := fashS_lt lx
  have bl : bestS t xs < 2 ^ t.length := bestS_lt
  have ox := fun i hi hb => off_zero (i := i) (by omega) nx hb8 hsx hi hb
  have oy := fun i hi hb => off_zero (i := i) (by omega) ny hb8 hs hi hb
  generalize hB : bestS t xs = b at *
  generalize hF : fashS xs = o at *
  rcases shapes hok with ⟨a, rfl⟩ | ⟨a, b', c, d, rfl⟩ | ⟨a, b', c, d, e, f, g, h, i, rfl⟩
  · match xs, lx, ys, ly with
    | [x], _, [y], _ =>
      simp only [sumL, List.foldr_cons, List.foldr_nil, Int.add_zero] at sx sy
      subst sx sy
      exact (hD fun z hz => by simp [diffL] at hz; rw [hz, Int.mul_comm]; omega).elim
  · match xs, lx, ys, ly with
    | [x0, x1], _, [y0, y1], _ =>
      simp only [sumL, List.foldr_cons, List.foldr_nil, Int.add_zero] at sx sy
      have hz : (y0 * dx - x0 * dy) + (y1 * dx - x1 * dy) = 0 := by
        have e1 : y0 * dx + y1 * dx = dy * dx := by rw [← Int.add_mul, sy]
        have e2 : x0 * dy + x1 * dy = dx * dy := by rw [← Int.add_mul, sx]
        rw [Int.mul_comm dx dy] at e2; omega
      have hdl : diffL [x0, x1] [y0, y1] dx dy = [y0 * dx - x0 * dy, y1 * dx - x1 * dy] := rfl
      rw [hdl] at hD ⊢
      have bl : b < 4 := bl
      have fl : o < 4 := fl
      have z0 : bit b 0 = false → y0 * dx - x0 * dy = 0 := fun hb => by
        have h1 := ox 0 (by simp) hb; have h2 := oy 0 (by simp) hb
        simp only [List.getElem_cons_zero] at h1 h2
        rw [h1, h2]; simp
      have z1 : bit b 1 = false → y1 * dx - x1 * dy = 0 := fun hb => by
        have h1 := ox 1 (by simp) hb; have h2 := oy 1 (by simp) hb
        simp only [List.getElem_cons_succ, List.getElem_cons_zero] at h1 h2
        rw [h1, h2]; simp
      generalize y0 * dx - x0 * dy = D0 at *
      generalize y1 * dx - x1 * dy = D1 at *
      have hlast := lasts_at (a := a) (b := b') (c := c) (d := d) (ys := [x0, x1]) hF hB
      rw [hL] at hlast
      have hg : gainS [[a, b'], [c, d]] [D0, D1] [D0, D1] = (a - b' - c + d) * (D0 * D0) := by
        have : D1 = -D0 := by omega
        subst this
        simp only [gainS, dotX]; grind
      have hd0 : D0 ≠ 0 := fun h0 => hD fun z hz => by
        simp only [List.mem_cons, List.not_mem_nil, or_false] at hz
        rcases hz with rfl | rfl <;> omega
      rw [hg]
      refine form_neg1 ?_ hd0
      rcases (show b = 1 ∨ b = 2 ∨ b = 3 by omega) with rfl | rfl | rfl
      · have := z1 (by decide); omega
      · have := z0 (by decide); omega
      · rcases (show o = 1 ∨ o = 2 ∨ o = 3 by omega) with rfl | rfl | rfl
        · have e : (subS 1 3 && tailP [[a, b'], [c, d]] 1 (partsO 1 3 2).1 (partsO 1 3 2).2) = decide (wayS [[a, b'], [c, d]] 0 1 1 < 0) := rfl
          rw [e, way_two.1] at hlast
          have := of_decide_eq_true hlast.symm
          omega
        · have e : (subS 2 3 && tailP [[a, b'], [c, d]] 2 (partsO 2 3 2).1 (partsO 2 3 2).2) = decide (wayS [[a, b'], [c, d]] 1 0 0 < 0) := rfl
          rw [e, way_two.2] at hlast
          have := of_decide_eq_true hlast.symm
          omega
        · have e : (subS 3 3 && tailP [[a, b'], [c, d]] 3 (partsO 3 3 2).1 (partsO 3 3 2).2) = decide (wayS [[a, b'], [c, d]] 0 1 1 < 0) := rfl
          rw [e, way_two.1] at hlast
          have := of_decide_eq_true hlast.symm
          omega
  · match xs, lx, ys, ly with
    | [x0, x1, x2], _, [y0, y1, y2], _ =>
      simp only [sumL, List.foldr_cons, List.foldr_nil, Int.add_zero] at sx sy
      have hz : (y0 * dx - x0 * dy) + (y1 * dx - x1 * dy) + (y2 * dx - x2 * dy) = 0 := by
        have e1 : y0 * dx + y1 * dx + y2 * dx = dy * dx := by rw [← Int.add_mul, ← Int.add_mul, ← sy, Int.add_assoc]
        have e2 : x0 * dy + x1 * dy + x2 * dy = dx * dy := by rw [← Int.add_mul, ← Int.add_mul, ← sx, Int.add_assoc]
        rw [Int.mul_comm dx dy] at e2; omega
      have hdl : diffL [x0, x1, x2] [y0, y1, y2] dx dy = [y0 * dx - x0 * dy, y1 * dx - x1 * dy, y2 * dx - x2 * dy] := rfl
      rw [hdl] at hD ⊢
      have bl : b < 8 := bl
      have fl : o < 8 := fl
      have z0 : bit b 0 = false → y0 * dx - x0 * dy = 0 := fun hb => by
        have h1 := ox 0 (by simp) hb; have h2 := oy 0 (by simp) hb
        simp only [List.getElem_cons_zero] at h1 h2
        rw [h1, h2]; simp
      have z1 : bit b 1 = false → y1 * dx - x1 * dy = 0 := fun hb => by
        have h1 := ox 1 (by simp) hb; have h2 := oy 1 (by simp) hb
        simp only [List.getElem_cons_succ, List.getElem_cons_zero] at h1 h2
        rw [h1, h2]; simp
      have z2 : bit b 2 = false → y2 * dx - x2 * dy = 0 := fun hb => by
        have h1 := ox 2 (by simp) hb; have h2 := oy 2 (by simp) hb
        simp only [List.getElem_cons_succ, List.getElem_cons_zero] at h1 h2
        rw [h1, h2]; simp
      -- a part of the other mixture is not below 0
      have hx3 : (List.length [x0, x1, x2]) ≤ 3 := by simp
      have b0 : bit o 0 = decide (x0 > 0) := by rw [← hF]; exact bit_set (p := fun x => decide (x > 0)) (l := [x0, x1, x2]) (i := 0) (by simp) (by simp)
      have b1 : bit o 1 = decide (x1 > 0) := by rw [← hF]; exact bit_set (p := fun x => decide (x > 0)) (l := [x0, x1, x2]) (i := 1) (by simp) (by simp)
      have b2 : bit o 2 = decide (x2 > 0) := by rw [← hF]; exact bit_set (p := fun x => decide (x > 0)) (l := [x0, x1, x2]) (i := 2) (by simp) (by simp)
      have n0 := nx x0 (by simp)
      have n1 := nx x1 (by simp)
      have n2 := nx x2 (by simp)
      have m0 := Int.mul_nonneg (ny y0 (by simp)) (show 0 ≤ dx by omega)
      have m1 := Int.mul_nonneg (ny y1 (by simp)) (show 0 ≤ dx by omega)
      have m2 := Int.mul_nonneg (ny y2 (by simp)) (show 0 ≤ dx by omega)
      have p0 : bit o 0 = false → 0 ≤ y0 * dx - x0 * dy := fun hb => by
        rw [b0] at hb
        have : x0 = 0 := by have := of_decide_eq_false hb; omega
        rw [this]; omega
      have p1 : bit o 1 = false → 0 ≤ y1 * dx - x1 * dy := fun hb => by
        rw [b1] at hb
        have : x1 = 0 := by have := of_decide_eq_false hb; omega
        rw [this]; omega
      have p2 : bit o 2 = false → 0 ≤ y2 * dx - x2 * dy := fun hb => by
        rw [b2] at hb
        have : x2 = 0 := by have := of_decide_eq_false hb; omega
        rw [this]; omega
      generalize y0 * dx - x0 * dy = D0 at *
      generalize y1 * dx - x1 * dy = D1 at *
      generalize y2 * dx - x2 * dy = D2 at *
      have hlast := lasts_at3 (t := [[a, b', c], [d, e, f], [g, h, i]]) (ys := [x0, x1, x2]) rfl hF hB
      rw [hL] at hlast
      have hnz : D0 ≠ 0 ∨ D1 ≠ 0 ∨ D2 ≠ 0 := Classical.byContradiction fun hc => hD fun z hz => by
        simp only [List.mem_cons, List.not_mem_nil, or_false] at hz
        rcases hz with rfl | rfl | rfl <;> omega
      -- the forms
      have q0 : 2 * gainS [[a, b', c], [d, e, f], [g, h, i]] [D0, D1, D2] [D0, D1, D2] = wayS [[a, b', c], [d, e, f], [g, h, i]] 0 1 1 * (D1 * D1) + 2 * (wayS [[a, b', c], [d, e, f], [g, h, i]] 0 1 2 * (D1 * D2)) + wayS [[a, b', c], [d, e, f], [g, h, i]] 0 2 2 * (D2 * D2) := by
        have : D0 = -D1 - D2 := by omega
        subst this
        have e1 : wayS [[a, b', c], [d, e, f], [g, h, i]] 0 1 1 = (e - d - b' + a) + (e - d - b' + a) := rfl
        have e2 : wayS [[a, b', c], [d, e, f], [g, h, i]] 0 1 2 = (f - d - c + a) + (h - g - b' + a) := rfl
        have e3 : wayS [[a, b', c], [d, e, f], [g, h, i]] 0 2 2 = (i - g - c + a) + (i - g - c + a) := rfl
        rw [e1, e2, e3]
        simp only [gainS, dotX]; grind
      have q1 : 2 * gainS [[a, b', c], [d, e, f], [g, h, i]] [D0, D1, D2] [D0, D1, D2] = wayS [[a, b', c], [d, e, f], [g, h, i]] 1 0 0 * (D0 * D0) + 2 * (wayS [[a, b', c], [d, e, f], [g, h, i]] 1 0 2 * (D0 * D2)) + wayS [[a, b', c], [d, e, f], [g, h, i]] 1 2 2 * (D2 * D2) := by
        have : D1 = -D0 - D2 := by omega
        subst this
        have e1 : wayS [[a, b', c], [d, e, f], [g, h, i]] 1 0 0 = (a - b' - d + e) + (a - b' - d + e) := rfl
        have e2 : wayS [[a, b', c], [d, e, f], [g, h, i]] 1 0 2 = (c - b' - f + e) + (g - h - d + e) := rfl
        have e3 : wayS [[a, b', c], [d, e, f], [g, h, i]] 1 2 2 = (i - h - f + e) + (i - h - f + e) := rfl
        rw [e1, e2, e3]
        simp only [gainS, dotX]; grind
      have q2 : 2 * gainS [[a, b', c], [d, e, f], [g, h, i]] [D0, D1, D2] [D0, D1, D2] = wayS [[a, b', c], [d, e, f], [g, h, i]] 2 0 0 * (D0 * D0) + 2 * (wayS [[a, b', c], [d, e, f], [g, h, i]] 2 0 1 * (D0 * D1)) + wayS [[a, b', c], [d, e, f], [g, h, i]] 2 1 1 * (D1 * D1) := by
        have : D2 = -D0 - D1 := by omega
        subst this
        have e1 : wayS [[a, b', c], [d, e, f], [g, h, i]] 2 0 0 = (a - c - g + i) + (a - c - g + i) := rfl
        have e2 : wayS [[a, b', c], [d, e, f], [g, h, i]] 2 0 1 = (b' - c - h + i) + (d - f - g + i) := rfl
        have e3 : wayS [[a, b', c], [d, e, f], [g, h, i]] 2 1 1 = (e - f - h + i) + (e - f - h + i) := rfl
        rw [e1, e2, e3]
        simp only [gainS, dotX]; grind
      have s01 : wayS [[a, b', c], [d, e, f], [g, h, i]] 0 1 1 = wayS [[a, b', c], [d, e, f], [g, h, i]] 1 0 0 := by
        have e1 : wayS [[a, b', c], [d, e, f], [g, h, i]] 0 1 1 = (e - d - b' + a) + (e - d - b' + a) := rfl
        have e2 : wayS [[a, b', c], [d, e, f], [g, h, i]] 1 0 0 = (a - b' - d + e) + (a - b' - d + e) := rfl
        omega
      have s02 : wayS [[a, b', c], [d, e, f], [g, h, i]] 0 2 2 = wayS [[a, b', c], [d, e, f], [g, h, i]] 2 0 0 := by
        have e1 : wayS [[a, b', c], [d, e, f], [g, h, i]] 0 2 2 = (i - g - c + a) + (i - g - c + a) := rfl
        have e2 : wayS [[a, b', c], [d, e, f], [g, h, i]] 2 0 0 = (a - c - g + i) + (a - c - g + i) := rfl
        omega
      have s12 : wayS [[a, b', c], [d, e, f], [g, h, i]] 1 2 2 = wayS [[a, b', c], [d, e, f], [g, h, i]] 2 1 1 := by
        have e1 : wayS [[a, b', c], [d, e, f], [g, h, i]] 1 2 2 = (i - h - f + e) + (i - h - f + e) := rfl
        have e2 : wayS [[a, b', c], [d, e, f], [g, h, i]] 2 1 1 = (e - f - h + i) + (e - f - h + i) := rfl
        omega
      generalize hT : ([[a, b', c], [d, e, f], [g, h, i]] : List (List Int)) = T at *
      generalize gainS T [D0, D1, D2] [D0, D1, D2] = Q at *
      clear hok hB hF ox oy hL hsx hs b0 b1 b2 hx hy hD hT
      -- two ways
      have two : ∀ f' i' k' : Nat, ∀ X Z : Int, (2 * Q = wayS T f' i' i' * (X * X) + 2 * (wayS T f' i' k' * (X * Z)) + wayS T f' k' k' * (Z * Z)) → (X ≠ 0 ∨ Z ≠ 0) → (aloneS o = true → 0 ≤ X ∧ 0 ≤ Z) → (true = tailP T o f' [i', k']) → Q < 0 := by
        intro f' i' k' X Z hq hxz hal ht
        simp only [tailP] at ht
        split at ht
        · cases ht
        · rename_i hn
          have hA : wayS T f' i' i' < 0 := by omega
          have hBB : wayS T f' k' k' < 0 := by omega
          rcases Bool.or_eq_true _ _ |>.mp ht.symm with h | h
          · rw [Bool.and_eq_true] at h
            obtain ⟨h1, h2⟩ := hal h.1
            have := form_neg3 hA hBB (of_decide_eq_true h.2) h1 h2 hxz
            omega
          · have := form_neg2 hA hBB (of_decide_eq_true h) hxz
            omega
      have onew : ∀ f' i' k' : Nat, ∀ X Z : Int, (2 * Q = wayS T f' i' i' * (X * X) + 2 * (wayS T f' i' k' * (X * Z)) + wayS T f' k' k' * (Z * Z)) → X ≠ 0 → Z = 0 → wayS T f' i' i' < 0 → Q < 0 := by
        intro f' i' k' X Z hq hx0 hz0 hA
        subst hz0
        have := form_neg1 hA hx0
        simp at hq; omega
      rcases (show b = 1 ∨ b = 2 ∨ b = 3 ∨ b = 4 ∨ b = 5 ∨ b = 6 ∨ b = 7 by omega) with rfl | rfl | rfl | rfl | rfl | rfl | rfl
      · have := z1 (by decide); have := z2 (by decide); omega
      · have := z0 (by decide); have := z2 (by decide); omega
      · have h2 := z2 (by decide)
        have hA : wayS T 0 1 1 < 0 := by
          rcases (show o = 1 ∨ o = 2 ∨ o = 3 ∨ o = 4 ∨ o = 5 ∨ o = 6 ∨ o = 7 by omega) with rfl | rfl | rfl | rfl | rfl | rfl | rfl
          · exact of_decide_eq_true hlast.symm
          · rw [s01]; exact of_decide_eq_true hlast.symm
          · exact of_decide_eq_true hlast.symm
          all_goals exact absurd hlast (by simp [show subS 4 3 = false from rfl, show subS 5 3 = false from rfl, show subS 6 3 = false from rfl, show subS 7 3 = false from rfl])
        exact onew 0 1 2 D1 D2 q0 (by omega) h2 hA
      · have := z0 (by decide); have := z1 (by decide); omega
      · have h1 := z1 (by decide)
        have hA : wayS T 0 2 2 < 0 := by
          rcases (show o = 1 ∨ o = 2 ∨ o = 3 ∨ o = 4 ∨ o = 5 ∨ o = 6 ∨ o = 7 by omega) with rfl | rfl | rfl | rfl | rfl | rfl | rfl
          · exact of_decide_eq_true hlast.symm
          · exact absurd hlast (by simp [show subS 2 5 = false from rfl])
          · exact absurd hlast (by simp [show subS 3 5 = false from rfl])
          · rw [s02]; exact of_decide_eq_true hlast.symm
          · exact of_decide_eq_true hlast.symm
          all_goals exact absurd hlast (by simp [show subS 6 5 = false from rfl, show subS 7 5 = false from rfl])
        refine onew 0 2 1 D2 D1 ?_ (by omega) h1 hA
        subst h1; simp at q0 ⊢; omega
      · have h0 := z0 (by decide)
        have hA : wayS T 1 2 2 < 0 := by
          rcases (show o = 1 ∨ o = 2 ∨ o = 3 ∨ o = 4 ∨ o = 5 ∨ o = 6 ∨ o = 7 by omega) with rfl | rfl | rfl | rfl | rfl | rfl | rfl
          · exact absurd hlast (by simp [show subS 1 6 = false from rfl])
          · exact of_decide_eq_true hlast.symm
          · exact absurd hlast (by simp [show subS 3 6 = false from rfl])
          · rw [s12]; exact of_decide_eq_true hlast.symm
          · exact absurd hlast (by simp [show subS 5 6 = false from rfl])
          · exact of_decide_eq_true hlast.symm
          · exact absurd hlast (by simp [show subS 7 6 = false from rfl])
        refine onew 1 2 0 D2 D0 ?_ (by omega) h0 hA
        subst h0; simp at q1 ⊢; omega
      · rcases (show o = 1 ∨ o = 2 ∨ o = 3 ∨ o = 4 ∨ o = 5 ∨ o = 6 ∨ o = 7 by omega) with rfl | rfl | rfl | rfl | rfl | rfl | rfl
        · exact two 0 1 2 D1 D2 q0 (by omega) (fun _ => ⟨p1 (by decide), p2 (by decide)⟩) hlast
        · exact two 1 0 2 D0 D2 q1 (by omega) (fun _ => ⟨p0 (by decide), p2 (by decide)⟩) hlast
        · exact two 0 1 2 D1 D2 q0 (by omega) (fun h => absurd h (by decide)) hlast
        · exact two 2 0 1 D0 D1 q2 (by omega) (fun _ => ⟨p0 (by decide), p1 (by decide)⟩) hlast
        · exact two 0 1 2 D1 D2 q0 (by omega) (fun h => absurd h (by decide)) hlast
        · exact two 1 0 2 D0 D2 q1 (by omega) (fun h => absurd h (by decide)) hlast
        · exact two 0 1 2 D1 D2 q0 (by omega) (fun h => absurd h (by decide)) hlast
end Go.X
