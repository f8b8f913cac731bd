import Derived.Test.YtchgifdkhknppaaVZ9
/-! Veils: a veil's triangle is one that From takes. -/
set_option linter.unusedSimpArgs false
set_option linter.unusedVariables false
namespace Go.X
open Go Go.RowKit

theorem triR_snoc {p : Nat → Bool} {d : Nat} : triR p 0 (d + 1) = triR p 0 d ++ (if p d = true then [(d : Int) + 1] else []) := by
  unfold triR
  rw [List.range'_concat, List.filter_append, List.map_append]
  congr 1
  by_cases c : p d = true
  · simp [c]
  · simp [c]

theorem triR_mem {p : Nat → Bool} {a d : Nat} {x : Int} (h : x ∈ triR p a d) : (a : Int) + 1 ≤ x ∧ x ≤ (a : Int) + d := by
  unfold triR at h
  obtain ⟨k, hk, rfl⟩ := List.mem_map.1 h
  have := (List.mem_filter.1 hk).1
  rw [List.mem_range'_1] at this
  omega

theorem triR_pair {p : Nat → Bool} : ∀ (d a : Nat), (triR p a d).Pairwise (· < ·)
  | 0, a => List.Pairwise.nil
  | d + 1, a => by
    rw [triR_s]
    have ih := triR_pair (p := p) d (a + 1)
    by_cases c : p a = true
    · rw [if_pos c, List.pairwise_cons]
      exact ⟨fun x hx => by have := (triR_mem hx).1; omega, ih⟩
    · rw [if_neg c]; exact ih

theorem ascB_of {n : Nat} {r : List Int} (hp : r.Pairwise (· < ·)) (hb : ∀ x ∈ r, 1 ≤ x ∧ x ≤ (n : Int)) : ascB n r 0 r.length = true := by
  refine List.all_eq_true.2 fun b hb' => decide_eq_true ?_
  have h1 : b < r.length := by simp at hb'; omega
  rw [getD_get h1]
  refine ⟨hb _ (List.getElem_mem h1), fun h0 => ?_⟩
  rw [getD_get (by omega : b - 1 < r.length)]
  exact List.pairwise_iff_getElem.1 hp (b - 1) b (by omega) h1 (by omega)

theorem triR_cnt {t : List (List Int)} (h : Veil t) {i : Nat} (hi : i < t.length) : ∀ (j : Nat), j ≤ t.length → ((triR (pR t i) 0 j).length : Int) = sumV t (i + 1) j
  | 0, _ => by rw [triR_0, sumV_00 (i := i + 1) (by omega)]; rfl
  | j + 1, hj => by
    have ih := triR_cnt h hi j (by omega)
    have hb := h.colb (j := j) (m := i + 1) (by omega) (by omega)
    rw [triR_snoc, List.length_append, sumV_s rfl h.row (by omega) (by omega)]
    by_cases c : pR t i j = true
    · rw [if_pos c]
      have : sumF (fun x => at2 t x j) 0 (i + 1) = 1 := by unfold pR at c; exact eq_of_beq c
      rw [this, List.length_singleton]; omega
    · rw [if_neg c]
      have : sumF (fun x => at2 t x j) 0 (i + 1) ≠ 1 := fun e => c (by unfold pR; rw [e]; rfl)
      rw [List.length_nil]; omega

theorem Veil.triB {t : List (List Int)} (h : Veil t) : triB t.length (triT (pR t) t.length t.length) 0 t.length = true := by
  refine List.all_eq_true.2 fun i hi => ?_
  have hi : i < t.length := by simp at hi; omega
  have e : (triT (pR t) t.length t.length).getD i [] = triR (pR t i) 0 t.length := by
    have hl : i < (triT (pR t) t.length t.length).length := by simp [triT]; exact hi
    rw [getD_get hl]; simp [triT]
  have hl : (triR (pR t i) 0 t.length).length = i + 1 := by
    have a := triR_cnt h hi t.length (Nat.le_refl _)
    rw [sumV_n h (by omega)] at a
    omega
  rw [e, Bool.and_eq_true, decide_eq_true_eq]
  refine ⟨hl, ?_⟩
  have := ascB_of (n := t.length) (triR_pair (p := pR t i) t.length 0) fun x hx => by have := triR_mem hx; omega
  rwa [hl] at this
/-- What ref's From asks of its table is what From asks. -/
theorem from_iff {l : List (List Int)} (h : 1 ≤ l.length ∧ l.length ≤ 5) : fromOk l = true ↔ (readOk (triV l) = true ∧ triT (pR (triV l)) l.length l.length = l) := by
  unfold fromOk
  rw [decide_eq_true h, Bool.true_and, Bool.and_eq_true]
  constructor
  · rintro ⟨a, b⟩
    exact ⟨b, tri_back a⟩
  · rintro ⟨a, b⟩
    refine ⟨?_, a⟩
    have := (veil_iff.1 a).triB
    rw [triV_len, b] at this
    exact this
end Go.X
