import Derived.Test.YtmedpfjiidlidaaZB
/-! Resting and Lasts, both ways; the law on them. -/
set_option linter.unusedSimpArgs false
set_option linter.unusedVariables false
set_option maxHeartbeats 2000000
set_option maxRecDepth 10000
namespace Go.X
open Go Go.RowKit
section
variable {Y : Run} {H : Heap}

theorem setS_pos {p : Int → Bool} : ∀ (l : List Int) (i : Nat), (∃ x ∈ l, p x = true) → 0 < setS p l i
  | [], _, h => by simp at h
  | x :: l, i, h => by
    have hp := Nat.two_pow_pos i
    rw [setS]
    by_cases c : p x = true
    · rw [if_pos c]; omega
    · obtain ⟨y, hy, hpy⟩ := h
      rcases List.mem_cons.1 hy with rfl | hy
      · exact absurd hpy c
      · have := setS_pos l (i + 1) ⟨y, hy, hpy⟩
        omega

theorem sum_pos {l : List Int} : (∀ x ∈ l, ¬ x > 0) → sumL l ≤ 0 := by
  induction l with
  | nil => intro _; simp [sumL]
  | cons x l ih =>
    intro h
    have h1 := ih fun y hy => h y (List.mem_cons_of_mem _ hy)
    have h2 := h x (by simp)
    simp only [sumL, List.foldr_cons] at h1 ⊢
    omega

theorem mix_fash {n : Nat} {l : List Int} {den : Int} (h : mixS n l den = true) : 0 < fashS l := by
  obtain ⟨_, h1, _, _, h5, _⟩ := mix_ok h
  refine setS_pos l 0 (Classical.byContradiction fun hn => ?_)
  have := sum_pos (l := l) fun x hx hp => hn ⟨x, hx, by simpa using hp⟩
  omega

end
end Go.X
