import Derived.Test.YtmedpfjiidlidaaZD
import Derived.Test.YtmedpfjiidlidaaXH2
/-! Limits: both ways. -/
set_option linter.unusedSimpArgs false
set_option linter.unusedVariables false
set_option maxHeartbeats 2000000
set_option maxRecDepth 10000
namespace Go.X
open Go Go.RowKit
section
variable {Y : Run} {H : Heap}

/-! ### Pure laws -/
theorem scal_bound {A a y : Int} (ha : -A ≤ a ∧ a ≤ A) (hy : 0 ≤ y) : -(A * y) ≤ a * y ∧ a * y ≤ A * y := by
  constructor
  · rw [← Int.neg_mul]; exact Int.mul_le_mul_of_nonneg_right ha.1 hy
  · exact Int.mul_le_mul_of_nonneg_right ha.2 hy

theorem sum_nonneg {l : List Int} (h : ∀ x ∈ l, 0 ≤ x) : 0 ≤ sumL l := by
  induction l with
  | nil => simp [sumL]
  | cons x l ih =>
    have h1 := ih fun y hy => h y (List.mem_cons_of_mem _ hy)
    have h2 := h x (by simp)
    simp only [sumL, List.foldr_cons] at h1 ⊢
    omega

theorem dotS_sum {A : Int} (hA : 0 ≤ A) : ∀ {r ys : List Int}, (∀ a ∈ r, -A ≤ a ∧ a ≤ A) → (∀ y ∈ ys, 0 ≤ y) → -(A * sumL ys) ≤ dotS r ys ∧ dotS r ys ≤ A * sumL ys
  | [], ys, _, h => by
    have := Int.mul_nonneg hA (sum_nonneg h)
    simp only [dotS]; omega
  | _ :: _, [], _, _ => by simp [dotS, sumL]
  | a :: r, y :: ys, h1, h2 => by
    have h3 := dotS_sum hA (r := r) (ys := ys) (fun x hx => h1 x (List.mem_cons_of_mem _ hx)) (fun x hx => h2 x (List.mem_cons_of_mem _ hx))
    have h4 := scal_bound (h1 a (by simp)) (h2 y (by simp))
    have e : A * sumL (y :: ys) = A * y + A * sumL ys := by simp only [sumL, List.foldr_cons, Int.mul_add]
    simp only [dotS, e]
    omega

theorem dotS_comm : ∀ (r ys : List Int), dotS r ys = dotS ys r
  | [], ys => by cases ys <;> rfl
  | _ :: _, [] => rfl
  | a :: r, y :: ys => by simp only [dotS, dotS_comm r ys, Int.mul_comm a y]

theorem gainM_bound {t : List (List Int)} {xs ys : List Int} {dx dy : Int} (hok : okTab t) (hx : fit dx xs) (hy : fit dy ys) (sx : sumL xs = dx) (sy : sumL ys = dy) (d1 : 1 ≤ dx ∧ dx ≤ 10000) (d2 : 1 ≤ dy ∧ dy ≤ 10000) : (gainS t xs ys).natAbs ≤ 2000000000 := by
  rw [gain_dot, dotS_comm]
  have hg : ∀ x ∈ t.map (dotS · ys), -200000 ≤ x ∧ x ≤ 200000 := by
    intro x hx
    obtain ⟨r, hr, rfl⟩ := List.mem_map.1 hx
    have h1 := dotS_sum (A := 20) (by omega) (r := r) (ys := ys) (hok.tame r hr) fun y h => (hy y h).1
    rw [sy] at h1
    omega
  have h1 := dotS_sum (A := 200000) (by omega) (r := t.map (dotS · ys)) (ys := xs) hg fun y h => (hx y h).1
  rw [sx] at h1
  omega

/-- What the one gains more than the other one, against the first, and against the second. -/
def pS (t : List (List Int)) (x y : List Int × Int) : Int := (gainS t x.1 x.1 * y.2 - gainS t y.1 x.1 * x.2) * y.2
def qS (t : List (List Int)) (x y : List Int × Int) : Int := (gainS t x.1 y.1 * y.2 - gainS t y.1 y.1 * x.2) * x.2

theorem pq_bound {t : List (List Int)} {xs ys : List Int} {dx dy : Int} (h : askS t [(xs, dx), (ys, dy)] = true) : (pS t (xs, dx) (ys, dy)).natAbs ≤ 400000000000000000 ∧ (qS t (xs, dx) (ys, dy)).natAbs ≤ 400000000000000000 := by
  obtain ⟨hok, m1, m2⟩ := ask2 h
  obtain ⟨l1, d1, d2, f1, s1, _⟩ := mix_ok m1
  obtain ⟨l2, d3, d4, f2, s2, _⟩ := mix_ok m2
  simp only at l1 d1 d2 f1 s1 l2 d3 d4 f2 s2
  have b1 := gainM_bound hok f1 f1 s1 s1 ⟨d1, d2⟩ ⟨d1, d2⟩
  have b2 := gainM_bound hok f2 f1 s2 s1 ⟨d3, d4⟩ ⟨d1, d2⟩
  have b3 := gainM_bound hok f1 f2 s1 s2 ⟨d1, d2⟩ ⟨d3, d4⟩
  have b4 := gainM_bound hok f2 f2 s2 s2 ⟨d3, d4⟩ ⟨d3, d4⟩
  have c1 := mulB (A := 2000000000) (B := 10000) (a := gainS t xs xs) (b := dy) (by omega) (by omega)
  have c2 := mulB (A := 2000000000) (B := 10000) (a := gainS t ys xs) (b := dx) (by omega) (by omega)
  have c3 := mulB (A := 2000000000) (B := 10000) (a := gainS t xs ys) (b := dy) (by omega) (by omega)
  have c4 := mulB (A := 2000000000) (B := 10000) (a := gainS t ys ys) (b := dx) (by omega) (by omega)
  have e1 := mulB (A := 40000000000000) (B := 10000) (a := gainS t xs xs * dy - gainS t ys xs * dx) (b := dy) (by omega) (by omega)
  have e2 := mulB (A := 40000000000000) (B := 10000) (a := gainS t xs ys * dy - gainS t ys ys * dx) (b := dx) (by omega) (by omega)
  unfold pS qS
  exact ⟨by simp only; omega, by simp only; omega⟩

def limV (p q : Int) : AV :=
  if p < 0 ∨ p = 0 ∧ q ≤ 0 then .tup [.agg [vI 0, vI 0], vI 9] else if q ≥ 0 then .tup [.agg [vI 1, vI 1], vI 0] else .tup [ratA p (p - q), vI 0]
def limR (t : List (List Int)) (x y : List Int × Int) : AV :=
  if askS t [x, y] = true then (if x.2 = y.2 ∧ x.1 = y.1 then .tup [.agg [vI 0, vI 0], vI 10] else limV (pS t x y) (qS t x y)) else .tup [.agg [vI 0, vI 0], vI 2]

/-! ### The specification's lists -/
end
end Go.X
