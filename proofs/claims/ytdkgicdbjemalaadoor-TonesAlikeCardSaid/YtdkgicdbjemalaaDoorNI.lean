import Derived.Test.YtdkgicdbjemalaaDoorNI0
/-! Tones: Sachs' theorem, for frames of at most seven knots: our sums over figures are the specification's determinant. -/
set_option linter.unusedVariables false
namespace Go.X
set_option maxRecDepth 1000000 in
theorem sachs_6 : ([1, 2, 3, 4, 5, 6].all fun n => sameE (ovY n (-1) (-2) 7 (2 ^ n - 1)) (detY n n 0 0 0 1 0)) = true := by kernel_rfl

theorem sachs_all {n : Nat} (h1 : 1 ≤ n) (h7 : n ≤ 7) : sameE (ovY n (-1) (-2) 7 (2 ^ n - 1)) (detY n n 0 0 0 1 0) = true := by
  rcases Nat.lt_or_ge n 7 with h | h
  · exact List.all_eq_true.1 sachs_6 n (by simp; omega)
  · have : n = 7 := by omega
    subst this; exact sachs_7

theorem frame_sy {l : List Int} (hf : frameB l = true) : Sy (l.map Int.toNat) := by
  unfold frameB at hf
  simp only [Bool.and_eq_true, decide_eq_true_eq] at hf
  obtain ⟨⟨⟨h1, h2⟩, h3⟩, h4⟩ := hf
  intro i k hi hk
  rw [List.length_map] at hi hk
  have := List.all_eq_true.1 (List.all_eq_true.1 h4 i (List.mem_range.2 hi)) k (List.mem_range.2 hk)
  unfold symE at this
  have hnn := okL_nn h3
  have e : ∀ j, j < l.length → l.getD j 0 = (((l.map Int.toNat).getD j 0 : Nat) : Int) := fun j hj => by
    have := hnn j hj
    rw [getD_get hj] at this ⊢
    rw [getD_get (by simpa using hj), List.getElem_map]
    omega
  rw [e i hi, e k hk, sh_bit, sh_bit] at this
  generalize ((l.map Int.toNat).getD i 0).testBit k = x at *
  generalize ((l.map Int.toNat).getD k 0).testBit i = y at *
  clear e hnn h4 h3
  cases x <;> cases y <;> first | rfl | (exact absurd this (by decide))

/-- Our tones are the specification's. -/
theorem tones_same {f : List Nat} (hS : Sy f) (h1 : 1 ≤ f.length) (hn : f.length ≤ 7) : polyL f (-1) (-2) = detL f := by
  refine ext_getD (by rw [polyL_len, detL_len]) fun j hj => ?_
  rw [polyL_len] at hj
  have h2 : 1 ≤ 2 ^ f.length := Nat.pow_pos (by decide)
  rw [polyL_get (by omega), detL, det_sym hS hn f.length 0 0 0 1 0 _ j (by omega) (Nat.le_refl _) (hs_zero f) (by omega) (by simp), rep_getD, Int.zero_add,
    ← sameE_ev (sachs_all h1 hn), ov_sym hS hn _ _ _ (by omega)]
end Go.X
