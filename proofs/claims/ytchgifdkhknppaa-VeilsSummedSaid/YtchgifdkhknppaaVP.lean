import Derived.Test.YtchgifdkhknppaaVO
/-! Veils and steep tables: the plain law. -/
set_option linter.unusedSimpArgs false
set_option linter.unusedVariables false
set_option maxHeartbeats 4000000
set_option maxRecDepth 10000
namespace Go.X
open Go Go.RowKit

def pm (x : Int) : Prop := x = 1 ∨ x = -1
/-- Heights that differ by one from those next to them, with their borders. -/
structure Steep (n : Nat) (h : List (List Int)) : Prop where
  n1 : 1 ≤ n
  n5 : n ≤ 5
  len : h.length = n + 1
  row : ∀ r ∈ h, r.length = n + 1
  top : ∀ j, j ≤ n → at2 h 0 j = j
  left : ∀ i, i ≤ n → at2 h i 0 = i
  bot : ∀ j, j ≤ n → at2 h n j = n - j
  right : ∀ i, i ≤ n → at2 h i n = n - i
  hor : ∀ i j, i ≤ n → j < n → pm (at2 h i (j + 1) - at2 h i j)
  ver : ∀ i j, i < n → j ≤ n → pm (at2 h (i + 1) j - at2 h i j)

theorem Steep.bd {n : Nat} {h : List (List Int)} (S : Steep n h) {i : Nat} (hi : i ≤ n) : ∀ j, j ≤ n → -(j : Int) ≤ at2 h i j - i ∧ at2 h i j - i ≤ j
  | 0, _ => by rw [S.left i hi]; omega
  | j + 1, hj => by
    have h1 := S.bd hi j (by omega)
    have h2 := S.hor i j hi (by omega)
    unfold pm at h2; omega
theorem Steep.hts {n : Nat} {h : List (List Int)} (S : Steep n h) : Hts (n + 1) h := by
  refine ⟨S.len, S.row, fun r hr x hx => ?_⟩
  obtain ⟨i, hi, rfl⟩ := List.getElem_of_mem hr
  obtain ⟨j, hj, rfl⟩ := List.getElem_of_mem hx
  have h1 := S.row _ (List.getElem_mem hi)
  have h2 := S.len
  have h3 := S.bd (i := i) (by omega) j (by omega)
  have h5 := S.n5
  rw [at2_get hi hj] at h3
  omega
theorem Steep.even1 {n : Nat} {h : List (List Int)} (S : Steep n h) {i : Nat} (hi : i ≤ n) : ∀ j, j ≤ n → ∃ s : Int, (i : Int) + j - at2 h i j = 2 * s
  | 0, _ => ⟨0, by rw [S.left i hi]; omega⟩
  | j + 1, hj => by
    obtain ⟨s, h1⟩ := S.even1 hi j (by omega)
    have h2 := S.hor i j hi (by omega)
    unfold pm at h2
    rcases h2 with h2 | h2
    · exact ⟨s, by omega⟩
    · exact ⟨s + 1, by omega⟩
theorem Steep.even {n : Nat} {h : List (List Int)} (S : Steep n h) : Even2 (n + 1) h := fun i j hi hj => S.even1 (by omega) j (by omega)

/-- Two squares are the same if their numbers are. -/
theorem sq_ext {m : Nat} {a b : List (List Int)} (la : a.length = m) (ra : ∀ r ∈ a, r.length = m) (lb : b.length = m) (rb : ∀ r ∈ b, r.length = m) (h : ∀ i j, i < m → j < m → at2 a i j = at2 b i j) : a = b := by
  refine List.ext_getElem (by omega) fun i h1 h2 => ?_
  have e1 := ra _ (List.getElem_mem h1)
  have e2 := rb _ (List.getElem_mem h2)
  refine List.ext_getElem (by omega) fun j h3 h4 => ?_
  have := h i j (by omega) (by omega)
  rwa [at2_get h1 h3, at2_get h2 h4] at this

theorem runS_of : ∀ (l : List Int) (s : Int), (∀ m, m ≤ l.length → 0 ≤ s + sumI (l.take m) ∧ s + sumI (l.take m) ≤ 1) → runS s l = some (s + sumI l)
  | [], s, _ => by simp [runS, sumI]
  | x :: l, s, h => by
    have h0 := h 0 (by simp)
    have h1 := h 1 (by simp)
    simp only [List.take_zero, List.take_succ_cons, sumI, Int.add_zero] at h0 h1
    simp only [runS]
    rw [if_neg (by omega), runS_of l (s + x) fun m hm => by
      have := h (m + 1) (by simpa using hm)
      simp only [List.take_succ_cons, sumI] at this
      omega]
    simp only [sumI, Int.add_assoc]
theorem altB_of {l : List Int} (h : ∀ m, m ≤ l.length → 0 ≤ sumI (l.take m) ∧ sumI (l.take m) ≤ 1) (h1 : sumI l = 1) : altB l = true := by
  unfold altB
  rw [runS_of l 0 fun m hm => by have := h m hm; omega, Int.zero_add, h1]
  rfl

theorem rowS_full {t : List (List Int)} {a : Nat} (ha : a < t.length) {m : Nat} : rowS t a m = sumI (t[a].take m) := by unfold rowS; rw [getD_get ha]
theorem rowS_0 {t : List (List Int)} {a : Nat} : rowS t a 0 = 0 := by simp [rowS, sumI]
theorem Veil.rowb {t : List (List Int)} (h : Veil t) {a m : Nat} (ha : a < t.length) : 0 ≤ rowS t a m ∧ rowS t a m ≤ 1 := by
  have h1 := h.alt _ (List.getElem_mem ha)
  unfold altB at h1
  have := runS_pre m (by omega) (eq_of_beq h1)
  rw [rowS_full ha]; omega
theorem Veil.rowt {t : List (List Int)} (h : Veil t) {a : Nat} (ha : a < t.length) : rowS t a t.length = 1 := by
  have h1 := h.alt _ (List.getElem_mem ha)
  unfold altB at h1
  have := runS_all (eq_of_beq h1)
  rw [rowS_full ha, List.take_of_length_le (by rw [h.row _ (List.getElem_mem ha)]; omega)]; omega
theorem Veil.colt {t : List (List Int)} (h : Veil t) {j : Nat} (hj : j < t.length) : sumF (fun x => at2 t x j) 0 t.length = 1 := by
  have h1 := h.col j hj
  unfold altB at h1
  have := runS_all (eq_of_beq h1)
  rw [col_F (Nat.le_refl _), List.take_of_length_le (by simp [colD])]; omega
theorem sumV_row {t : List (List Int)} {i k : Nat} (hi : i < t.length) : sumV t (i + 1) k = sumV t i k + rowS t i k := by
  rw [sumV_F (by omega), sumV_F (by omega), sumF_add i 0 1, Nat.zero_add, sumF_s, sumF_0, Int.add_zero]
theorem sumV_00 {t : List (List Int)} {i : Nat} : ∀ {i : Nat}, i ≤ t.length → sumV t i 0 = 0
  | 0, _ => by simp [sumV, sumI]
  | i + 1, h => by rw [sumV_row (by omega), sumV_00 (i := i) (by omega), rowS_0]; rfl
theorem sumV_n {t : List (List Int)} (h : Veil t) : ∀ {i : Nat}, i ≤ t.length → sumV t i t.length = i
  | 0, _ => by simp [sumV, sumI]
  | i + 1, hi => by rw [sumV_row (by omega), sumV_n h (i := i) (by omega), h.rowt (by omega)]; omega
theorem sumV_m {t : List (List Int)} (h : Veil t) : ∀ {j : Nat}, j ≤ t.length → sumV t t.length j = j
  | 0, _ => sumV_00 (i := 0) (Nat.le_refl _)
  | j + 1, hj => by rw [sumV_s rfl h.row (Nat.le_refl _) (by omega), sumV_m h (j := j) (by omega), h.colt (by omega)]; omega

def hgtT (t : List (List Int)) : List (List Int) := tabF (t.length + 1) (hgt t)

/-- The heights of a veil are steep. -/
theorem Veil.steep {t : List (List Int)} (h : Veil t) : Steep t.length (hgtT t) := by
  have ha : ∀ i j, i ≤ t.length → j ≤ t.length → at2 (hgtT t) i j = hgt t i j := fun i j hi hj => at2_tabF (by omega) (by omega)
  refine ⟨h.n1, h.n5, tabF_len, tabF_mem, fun j hj => ?_, fun i hi => ?_, fun j hj => ?_, fun i hi => ?_, fun i j hi hj => ?_, fun i j hi hj => ?_⟩
  · rw [ha _ _ (by omega) hj]; simp [hgt, sumV, sumI]
  · rw [ha _ _ hi (by omega)]; unfold hgt; rw [sumV_00 (i := i) hi]; simp
  · rw [ha _ _ (Nat.le_refl _) hj]; unfold hgt; rw [sumV_m h hj]; omega
  · rw [ha _ _ hi (Nat.le_refl _)]; unfold hgt; rw [sumV_n h hi]; omega
  · rw [ha _ _ hi (by omega), ha _ _ hi (by omega)]
    unfold hgt pm
    rw [sumV_s rfl h.row hi hj]
    have := h.colb (j := j) (m := i) hj hi
    omega
  · rw [ha _ _ (by omega) hj, ha _ _ (by omega) hj]
    unfold hgt pm
    rw [sumV_row hi]
    have := h.rowb (a := i) (m := j) hi
    omega

def vOf (n : Nat) (h : List (List Int)) : List (List Int) := tabF n (tabH h)
theorem vOf_len {n : Nat} {h : List (List Int)} : (vOf n h).length = n := tabF_len

/-- The table of a veil's heights is the veil. -/
theorem Veil.back {t : List (List Int)} (h : Veil t) : vOf t.length (hgtT t) = t := by
  refine sq_ext tabF_len tabF_mem rfl h.row fun i j hi hj => ?_
  rw [vOf, at2_tabF hi hj]
  have ha : ∀ i j, i ≤ t.length → j ≤ t.length → at2 (hgtT t) i j = hgt t i j := fun i j hi hj => at2_tabF (by omega) (by omega)
  unfold tabH
  rw [ha _ _ (by omega) (by omega), ha _ _ (by omega) (by omega), ha _ _ (by omega) (by omega), ha _ _ (by omega) (by omega)]
  unfold hgt
  rw [sumV_row (i := i) (k := j + 1) hi, sumV_row (i := i) (k := j) hi, rowS_s hi (by rw [h.row _ (List.getElem_mem hi)]; exact hj)]
  have : ((i : Int) + ((j + 1 : Nat) : Int) - 2 * sumV t i (j + 1) + (((i + 1 : Nat) : Int) + j - 2 * (sumV t i j + rowS t i j)) - (i + j - 2 * sumV t i j) - (((i + 1 : Nat) : Int) + ((j + 1 : Nat) : Int) - 2 * (sumV t i (j + 1) + (rowS t i j + at2 t i j)))) = 2 * at2 t i j := by omega
  rw [this, Int.mul_tdiv_cancel_left _ (by decide)]

section
variable {n : Nat} {h : List (List Int)} (S : Steep n h)
include S
theorem Steep.s_eq {i j : Nat} (hi : i ≤ n) (hj : j ≤ n) : (i : Int) + j - at2 h i j = 2 * sH h i j := by
  obtain ⟨s, e⟩ := S.even1 hi j hj
  rw [sH_even (m := n) e]; exact e
theorem Steep.cell {i j : Nat} (hi : i < n) (hj : j < n) : at2 (vOf n h) i j = sH h (i + 1) (j + 1) - sH h i (j + 1) - sH h (i + 1) j + sH h i j := by
  rw [vOf, at2_tabF hi hj]
  have e1 := S.s_eq (i := i + 1) (j := j + 1) (by omega) (by omega)
  have e2 := S.s_eq (i := i) (j := j + 1) (by omega) (by omega)
  have e3 := S.s_eq (i := i + 1) (j := j) (by omega) (by omega)
  have e4 := S.s_eq (i := i) (j := j) (by omega) (by omega)
  unfold tabH
  have : at2 h i (j + 1) + at2 h (i + 1) j - at2 h i j - at2 h (i + 1) (j + 1) = 2 * (sH h (i + 1) (j + 1) - sH h i (j + 1) - sH h (i + 1) j + sH h i j) := by omega
  rw [this, Int.mul_tdiv_cancel_left _ (by decide)]
theorem Steep.rows {i : Nat} (hi : i < n) : ∀ {k : Nat}, k ≤ n → rowS (vOf n h) i k = sH h (i + 1) k - sH h i k
  | 0, _ => by
    have e1 := S.s_eq (i := i + 1) (j := 0) (by omega) (by omega)
    have e2 := S.s_eq (i := i) (j := 0) (by omega) (by omega)
    rw [S.left _ (by omega)] at e1 e2
    rw [rowS_0]; omega
  | k + 1, hk => by
    have hl : i < (vOf n h).length := by rw [vOf_len]; exact hi
    rw [rowS_s hl (by rw [tabF_mem _ (List.getElem_mem hl)]; omega), Steep.rows hi (k := k) (by omega), S.cell hi (by omega)]
    omega
theorem Steep.cols {j : Nat} (hj : j < n) : ∀ {m : Nat}, m ≤ n → sumF (fun x => at2 (vOf n h) x j) 0 m = sH h m (j + 1) - sH h m j
  | 0, _ => by
    have e1 := S.s_eq (i := 0) (j := j + 1) (by omega) (by omega)
    have e2 := S.s_eq (i := 0) (j := j) (by omega) (by omega)
    rw [S.top _ (by omega)] at e1 e2
    rw [sumF_0]; omega
  | m + 1, hm => by
    rw [sumF_add m 0 1, Nat.zero_add, sumF_s, sumF_0, Steep.cols hj (m := m) (by omega), S.cell (by omega) hj]
    omega
/-- A steep table is told by a veil. -/
theorem Steep.veil : Veil (vOf n h) := by
  have hl : (vOf n h).length = n := vOf_len
  refine ⟨by rw [hl]; exact S.n1, by rw [hl]; exact S.n5, fun r hr => by rw [hl]; exact tabF_mem r hr, fun r hr => ?_, fun j hj => ?_⟩
  · obtain ⟨i, hi, rfl⟩ := List.getElem_of_mem hr
    have hin : i < n := by omega
    have hrl : (vOf n h)[i].length = n := tabF_mem _ (List.getElem_mem hi)
    refine altB_of (fun m hm => ?_) ?_
    · rw [← rowS_full hi, S.rows hin (by omega)]
      have e1 := S.s_eq (i := i + 1) (j := m) (by omega) (by omega)
      have e2 := S.s_eq (i := i) (j := m) (by omega) (by omega)
      have e3 := S.ver i m hin (by omega)
      unfold pm at e3
      omega
    · have := S.rows hin (k := n) (Nat.le_refl _)
      rw [rowS_full hi, List.take_of_length_le (by omega)] at this
      rw [this]
      have e1 := S.s_eq (i := i + 1) (j := n) (by omega) (by omega)
      have e2 := S.s_eq (i := i) (j := n) (by omega) (by omega)
      rw [S.right _ (by omega)] at e1 e2
      omega
  · rw [hl] at hj
    have hcl : (colD (vOf n h) j).length = n := by simp [colD, hl]
    refine altB_of (fun m hm => ?_) ?_
    · rw [← col_F (by omega), S.cols hj (by omega)]
      have e1 := S.s_eq (i := m) (j := j + 1) (by omega) (by omega)
      have e2 := S.s_eq (i := m) (j := j) (by omega) (by omega)
      have e3 := S.hor m j (by omega) hj
      unfold pm at e3
      omega
    · have := S.cols hj (m := n) (Nat.le_refl _)
      rw [col_F (by omega), List.take_of_length_le (by omega)] at this
      rw [this]
      have e1 := S.s_eq (i := n) (j := j + 1) (by omega) (by omega)
      have e2 := S.s_eq (i := n) (j := j) (by omega) (by omega)
      rw [S.bot _ (by omega)] at e1 e2
      omega
theorem Steep.sums {j : Nat} (hj : j ≤ n) : ∀ {i : Nat}, i ≤ n → sumV (vOf n h) i j = sH h i j
  | 0, _ => by
    have e2 := S.s_eq (i := 0) (j := j) (by omega) hj
    rw [S.top _ hj] at e2
    have : sumV (vOf n h) 0 j = 0 := by simp [sumV, sumI]
    omega
  | i + 1, hi => by
    rw [sumV_row (by rw [vOf_len]; omega), Steep.sums hj (i := i) (by omega), S.rows (by omega) hj]; omega
/-- Its heights are the table. -/
theorem Steep.hgts : hgtT (vOf n h) = h := by
  have hl : (vOf n h).length = n := vOf_len
  refine sq_ext (m := n + 1) (by rw [hgtT, tabF_len, hl]) (fun r hr => by rw [hgtT, hl] at hr; exact tabF_mem r hr) S.len S.row fun i j hi hj => ?_
  rw [hgtT, hl, at2_tabF hi hj]
  unfold hgt
  rw [S.sums (by omega) (by omega)]
  have := S.s_eq (i := i) (j := j) (by omega) (by omega)
  omega
end

/-! ### Turning -/
def setT (h : List (List Int)) (i j : Nat) (x : Int) : List (List Int) := h.set i ((h.getD i []).set j x)
theorem at2_setT {h : List (List Int)} {i j a b : Nat} {x : Int} (hi : i < h.length) (hj : j < h[i].length) : at2 (setT h i j x) a b = if a = i ∧ b = j then x else at2 h a b := by
  unfold setT; rw [getD_get hi]; exact at2_set hi hj
def fridB (h : List (List Int)) (i j : Nat) : Bool := decide (at2 h (i + 1) j = at2 h (i - 1) j) && decide (at2 h i (j - 1) = at2 h (i - 1) j) && decide (at2 h i (j + 1) = at2 h (i - 1) j)
def turnV (h : List (List Int)) (i j : Nat) : Int := 2 * at2 h (i - 1) j - at2 h i j
def turnT (h : List (List Int)) (i j : Nat) : List (List Int) := setT h i j (turnV h i j)

theorem Steep.in {n : Nat} {h : List (List Int)} (S : Steep n h) {i j : Nat} (hi : i ≤ n) (hj : j ≤ n) : ∃ (h1 : i < h.length), j < h[i].length := by
  have h1 : i < h.length := by rw [S.len]; omega
  exact ⟨h1, by rw [S.row _ (List.getElem_mem h1)]; omega⟩

theorem Steep.turn {n : Nat} {h : List (List Int)} (S : Steep n h) {i j : Nat} (hi : 1 ≤ i ∧ i < n) (hj : 1 ≤ j ∧ j < n) (hf : fridB h i j = true) : Steep n (turnT h i j) := by
  obtain ⟨b1, b2⟩ := S.in (i := i) (j := j) (by omega) (by omega)
  have hs := fun a b => at2_setT (a := a) (b := b) (x := turnV h i j) b1 b2
  simp only [fridB, Bool.and_eq_true, decide_eq_true_eq] at hf
  obtain ⟨⟨f1, f2⟩, f3⟩ := hf
  have g1 := S.ver (i - 1) j (by omega) (by omega)
  rw [show i - 1 + 1 = i by omega] at g1
  have hv : turnV h i j = 2 * at2 h (i - 1) j - at2 h i j := rfl
  unfold pm at g1
  refine ⟨S.n1, S.n5, by unfold turnT setT; rw [List.length_set]; exact S.len, fun r hr => ?_, fun b hb => ?_, fun a ha => ?_, fun b hb => ?_, fun a ha => ?_, fun a b ha hb => ?_, fun a b ha hb => ?_⟩
  · unfold turnT setT at hr
    rcases List.mem_or_eq_of_mem_set hr with h1 | h1
    · exact S.row r h1
    · rw [h1, List.length_set, getD_get b1]; exact S.row _ (List.getElem_mem b1)
  · rw [turnT, hs, if_neg (by omega)]; exact S.top b hb
  · rw [turnT, hs, if_neg (by omega)]; exact S.left a ha
  · rw [turnT, hs, if_neg (by omega)]; exact S.bot b hb
  · rw [turnT, hs, if_neg (by omega)]; exact S.right a ha
  · have g := S.hor a b ha hb
    unfold pm at g ⊢
    rw [turnT, hs, hs]
    by_cases c1 : a = i ∧ b + 1 = j
    · obtain ⟨rfl, rfl⟩ := c1
      rw [if_pos ⟨rfl, rfl⟩, if_neg (by omega), hv]
      rw [Nat.add_sub_cancel] at f2
      omega
    · by_cases c2 : a = i ∧ b = j
      · obtain ⟨rfl, rfl⟩ := c2
        rw [if_neg (by omega), if_pos ⟨rfl, rfl⟩, hv]
        omega
      · rw [if_neg c1, if_neg c2]; exact g
  · have g := S.ver a b ha hb
    unfold pm at g ⊢
    rw [turnT, hs, hs]
    by_cases c1 : a + 1 = i ∧ b = j
    · obtain ⟨rfl, rfl⟩ := c1
      rw [if_pos ⟨rfl, rfl⟩, if_neg (by omega), hv]
      rw [Nat.add_sub_cancel]
      omega
    · by_cases c2 : a = i ∧ b = j
      · obtain ⟨rfl, rfl⟩ := c2
        rw [if_neg (by omega), if_pos ⟨rfl, rfl⟩, hv]
        omega
      · rw [if_neg c1, if_neg c2]; exact g

/-! ### Gyration -/
def gyrStep (rest : Nat) (i j : Nat) (h : List (List Int)) : List (List Int) := if fridB h i j = true ∧ (i + j) % 2 = rest then turnT h i j else h
def gyrRow (rest i : Nat) : Nat → Nat → List (List Int) → List (List Int)
  | _, 0, h => h
  | j, d + 1, h => gyrRow rest i (j + 1) d (gyrStep rest i j h)
def gyrAll (n rest : Nat) : Nat → Nat → List (List Int) → List (List Int)
  | _, 0, h => h
  | i, d + 1, h => gyrAll n rest (i + 1) d (gyrRow rest i 1 (n - 1) h)
def gyr (n : Nat) (h : List (List Int)) : List (List Int) := gyrAll n 0 1 (n - 1) (gyrAll n 1 1 (n - 1) h)
theorem Steep.gyrStep {n rest : Nat} {h : List (List Int)} (S : Steep n h) {i j : Nat} (hi : 1 ≤ i ∧ i < n) (hj : 1 ≤ j ∧ j < n) : Steep n (Go.X.gyrStep rest i j h) := by
  unfold Go.X.gyrStep
  split
  · rename_i c; exact S.turn hi hj c.1
  · exact S
theorem Steep.gyrRow {n rest i : Nat} (hi : 1 ≤ i ∧ i < n) : ∀ (d j : Nat) {h : List (List Int)}, Steep n h → 1 ≤ j → j + d ≤ n → Steep n (Go.X.gyrRow rest i j d h)
  | 0, j, h, S, _, _ => S
  | d + 1, j, h, S, h1, h2 => Steep.gyrRow hi d (j + 1) (S.gyrStep hi ⟨h1, by omega⟩) (by omega) (by omega)
theorem Steep.gyrAll {n rest : Nat} : ∀ (d i : Nat) {h : List (List Int)}, Steep n h → 1 ≤ i → i + d ≤ n → Steep n (Go.X.gyrAll n rest i d h)
  | 0, i, h, S, _, _ => S
  | d + 1, i, h, S, h1, h2 => Steep.gyrAll d (i + 1) (S.gyrRow ⟨h1, by omega⟩ (n - 1) 1 (by omega) (by omega)) (by omega) (by omega)
theorem Steep.gyr {n : Nat} {h : List (List Int)} (S : Steep n h) : Steep n (Go.X.gyr n h) :=
  Steep.gyrAll (n - 1) 1 (S.gyrAll (n - 1) 1 (by omega) (by have := S.n1; omega)) (by omega) (by have := S.n1; omega)

/-! ### Lesser and greater -/
theorem Steep.meet {n : Nat} {a b : List (List Int)} (A : Steep n a) (B : Steep n b) (f : Int → Int → Int) (hf : ∀ x y, f x y = min x y ∨ f x y = max x y) (hall : (∀ x y, f x y = min x y) ∨ (∀ x y, f x y = max x y)) : Steep n (tabF (n + 1) fun i j => f (at2 a i j) (at2 b i j)) := by
  have ha : ∀ i j, i ≤ n → j ≤ n → at2 (tabF (n + 1) fun i j => f (at2 a i j) (at2 b i j)) i j = f (at2 a i j) (at2 b i j) := fun i j hi hj => at2_tabF (by omega) (by omega)
  refine ⟨A.n1, A.n5, tabF_len, tabF_mem, fun j hj => ?_, fun i hi => ?_, fun j hj => ?_, fun i hi => ?_, fun i j hi hj => ?_, fun i j hi hj => ?_⟩
  · rw [ha _ _ (by omega) hj, A.top _ hj, B.top _ hj]; have := hf j j; omega
  · rw [ha _ _ hi (by omega), A.left _ hi, B.left _ hi]; have := hf i i; omega
  · rw [ha _ _ (Nat.le_refl _) hj, A.bot _ hj, B.bot _ hj]; have := hf (n - j) (n - j); omega
  · rw [ha _ _ hi (Nat.le_refl _), A.right _ hi, B.right _ hi]; have := hf (n - i) (n - i); omega
  · rw [ha _ _ hi (by omega), ha _ _ hi (by omega)]
    obtain ⟨s1, e1⟩ := A.even1 hi j (by omega)
    obtain ⟨s2, e2⟩ := B.even1 hi j (by omega)
    have g1 := A.hor i j hi hj
    have g2 := B.hor i j hi hj
    unfold pm at *
    rcases hall with h | h <;> rw [h, h] <;> omega
  · rw [ha _ _ (by omega) hj, ha _ _ (by omega) hj]
    obtain ⟨s1, e1⟩ := A.even1 (i := i) (by omega) j hj
    obtain ⟨s2, e2⟩ := B.even1 (i := i) (by omega) j hj
    have g1 := A.ver i j hi hj
    have g2 := B.ver i j hi hj
    unfold pm at *
    rcases hall with h | h <;> rw [h, h] <;> omega
end Go.X
