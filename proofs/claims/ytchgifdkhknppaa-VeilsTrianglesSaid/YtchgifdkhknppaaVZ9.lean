import Derived.Test.YtchgifdkhknppaaVZ8
/-! Veils: the triangle of a triangle's table. -/
set_option linter.unusedSimpArgs false
set_option linter.unusedVariables false
namespace Go.X
open Go Go.RowKit

theorem sT_0 {l : List (List Int)} {j : Nat} : sT l 0 j = 0 := rfl
theorem triV_len {l : List (List Int)} : (triV l).length = l.length := tabF_len

theorem triV_col {l : List (List Int)} {k : Nat} (hk : k < l.length) : ∀ {m : Nat}, m ≤ l.length → sumF (fun x => at2 (triV l) x k) 0 m = sT l m (k + 1) - sT l m k
  | 0, _ => by rw [sT_0, sT_0]; rfl
  | m + 1, hm => by
    have e : at2 (triV l) m k = ofT l m k := at2_tabF (by omega) hk
    rw [sumF_add m 0 1, Nat.zero_add, sumF_s, sumF_0, triV_col hk (by omega : m ≤ l.length), e, ofT]
    omega

theorem cntLe_mem {a : Int} : ∀ {r : List Int}, r.Pairwise (· < ·) → (cntLe a r : Int) - cntLe (a - 1) r = if a ∈ r then 1 else 0
  | [], _ => by simp [cntLe]
  | x :: r, h => by
    rw [List.pairwise_cons] at h
    have ih := cntLe_mem (a := a) h.2
    unfold cntLe
    by_cases e : a = x
    · subst e
      have hn : a ∉ r := fun q => by have := h.1 a q; omega
      rw [if_neg hn] at ih
      rw [if_pos (Int.le_refl a), if_neg (by omega), if_pos (List.mem_cons_self)]
      omega
    · have hm : (a ∈ x :: r) ↔ a ∈ r := by rw [List.mem_cons]; exact ⟨fun q => q.resolve_left e, Or.inr⟩
      by_cases c : x ≤ a
      · rw [if_pos c, if_pos (by omega)]
        by_cases q : a ∈ r
        · rw [if_pos q] at ih; rw [if_pos (hm.2 q)]; omega
        · rw [if_neg q] at ih; rw [if_neg (fun z => q (hm.1 z))]; omega
      · rw [if_neg c, if_neg (by omega)]
        by_cases q : a ∈ r
        · rw [if_pos q] at ih; rw [if_pos (hm.2 q)]; omega
        · rw [if_neg q] at ih; rw [if_neg (fun z => q (hm.1 z))]; omega

theorem triR_asc {p : Nat → Bool} : ∀ (d a : Nat) {r : List Int}, r.Pairwise (· < ·) → (∀ x ∈ r, (a : Int) < x ∧ x ≤ (a : Int) + d) → (∀ k, a ≤ k → k < a + d → (p k = true ↔ ((k : Int) + 1) ∈ r)) → triR p a d = r
  | 0, a, r, hp, hb, hm => by
    cases r with
    | nil => rfl
    | cons x r => have := hb x List.mem_cons_self; omega
  | d + 1, a, r, hp, hb, hm => by
    rw [triR_s]
    have h0 := hm a (Nat.le_refl _) (by omega)
    by_cases c : p a = true
    · rw [if_pos c]
      have hin := h0.1 c
      cases r with
      | nil => cases hin
      | cons x r =>
        rw [List.pairwise_cons] at hp
        have hx : x = (a : Int) + 1 := by
          rcases List.mem_cons.1 hin with e | e
          · exact e.symm
          · have := hp.1 _ e; have := hb x List.mem_cons_self; omega
        subst hx
        rw [triR_asc d (a + 1) hp.2 (fun x hx => by have := hp.1 x hx; have := hb x (List.mem_cons_of_mem _ hx); omega) (fun k h1 h2 => by
          rw [hm k (by omega) (by omega), List.mem_cons]
          exact ⟨fun q => q.resolve_left (by omega), Or.inr⟩)]
    · rw [if_neg c]
      exact triR_asc d (a + 1) hp (fun x hx => by
        have := hb x hx
        have : x ≠ (a : Int) + 1 := fun e => c (h0.2 (e ▸ hx))
        omega) (fun k h1 h2 => hm k (by omega) (by omega))
theorem asc_at {n : Nat} {r : List Int} (h : ascB n r 0 r.length = true) {b : Nat} (hb : b < r.length) : (1 ≤ r[b] ∧ r[b] ≤ n) ∧ ∀ (h0 : 0 < b), r[b - 1] < r[b] := by
  have := of_decide_eq_true (List.all_eq_true.1 h b (by simp; omega))
  rw [getD_get hb] at this
  refine ⟨this.1, fun h0 => ?_⟩
  have h2 := this.2 h0
  rwa [getD_get (by omega : b - 1 < r.length)] at h2
theorem asc_lt {n : Nat} {r : List Int} (h : ascB n r 0 r.length = true) {i : Nat} : ∀ (d : Nat) (hj : i + d + 1 < r.length), r[i]'(by omega) < r[i + d + 1]
  | 0, hj => (asc_at h hj).2 (by omega)
  | d + 1, hj => by
    have a := asc_lt h (i := i) d (by omega)
    have b := (asc_at h hj).2 (by omega)
    have e : r[i + (d + 1) + 1 - 1]'(by omega) = r[i + d + 1]'(by omega) := rfl
    rw [e] at b
    omega
theorem asc_pair {n : Nat} {r : List Int} (h : ascB n r 0 r.length = true) : r.Pairwise (· < ·) :=
  List.pairwise_iff_getElem.2 fun i j hi hj hij => by
    obtain ⟨d, rfl⟩ : ∃ d, j = i + d + 1 := ⟨j - i - 1, by omega⟩
    exact asc_lt h d hj

theorem tri_back {l : List (List Int)} (hT : triB l.length l 0 l.length = true) : triT (pR (triV l)) l.length l.length = l := by
  refine List.ext_getElem (by simp [triT]) fun i h1 h2 => ?_
  have hq := List.all_eq_true.1 hT i (by simp; omega)
  rw [Bool.and_eq_true, decide_eq_true_eq, getD_get h2] at hq
  have ha : ascB l.length l[i] 0 l[i].length = true := by rw [hq.1]; exact hq.2
  have hp := asc_pair ha
  have e : (triT (pR (triV l)) l.length l.length)[i] = triR (pR (triV l) i) 0 l.length := by simp [triT]
  rw [e]
  refine triR_asc _ 0 hp (fun x hx => ?_) fun k _ hk => ?_
  · obtain ⟨b, hb, rfl⟩ := List.getElem_of_mem hx
    have := (asc_at ha hb).1
    omega
  · have hk : k < l.length := by omega
    have c := triV_col (l := l) (k := k) hk (m := i + 1) (by omega)
    have s1 : sT l (i + 1) (k + 1) = (cntLe ((k + 1 : Nat) : Int) l[i] : Nat) := by unfold sT; rw [if_neg (by omega), Nat.add_sub_cancel, getD_get h2]
    have s2 : sT l (i + 1) k = (cntLe (((k + 1 : Nat) : Int) - 1) l[i] : Nat) := by
      unfold sT; rw [if_neg (by omega), Nat.add_sub_cancel, getD_get h2]; congr 2; omega
    have m := cntLe_mem (a := ((k + 1 : Nat) : Int)) hp
    rw [s1, s2, m] at c
    unfold pR
    rw [c]
    have e3 : ((k + 1 : Nat) : Int) = (k : Int) + 1 := by omega
    rw [e3]
    by_cases q : ((k : Int) + 1) ∈ l[i]
    · simp [q]
    · simp [q]
end Go.X
