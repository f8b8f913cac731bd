import Derived.Test.YtchgifdkhknppaaVZ2
/-! Veils: steep, whole. -/
set_option linter.unusedSimpArgs false
set_option linter.unusedVariables false
set_option maxHeartbeats 8000000
set_option maxRecDepth 10000
namespace Go.X
open Go Go.RowKit
section
variable {Y : Run} {H : Heap}

theorem Steep.bdt {n : Nat} {h : List (List Int)} (S : Steep n h) {j : Nat} (hj : j ≤ n) : ∀ i, i ≤ n → -(i : Int) ≤ at2 h i j - j ∧ at2 h i j - j ≤ i
  | 0, _ => by rw [S.top j hj]; omega
  | i + 1, hi => by
    have := S.bdt hj i (by omega)
    have := S.ver i j (by omega) hj
    unfold pm at this
    omega
theorem Steep.bdr {n : Nat} {h : List (List Int)} (S : Steep n h) {i : Nat} (hi : i ≤ n) : ∀ d j, j + d = n → -(d : Int) ≤ at2 h i j - (n - i) ∧ at2 h i j - (n - i) ≤ d
  | 0, j, hj => by
    obtain rfl : j = n := by omega
    rw [S.right i hi]; omega
  | d + 1, j, hj => by
    have := S.bdr hi d (j + 1) (by omega)
    have := S.hor i j hi (by omega)
    unfold pm at this
    omega
theorem Steep.range {n : Nat} {h : List (List Int)} (S : Steep n h) {i j : Nat} (hi : i ≤ n) (hj : j ≤ n) : 0 ≤ at2 h i j ∧ at2 h i j ≤ n := by
  have a := S.bd hi j hj
  have b := S.bdt hj i hi
  have c := S.bdr hi (n - j) j (by omega)
  omega

theorem rowsIn_iff {n : Nat} {M : Int} {h : List (List Int)} (hl : h.length = n + 1) : rowsIn n M h 0 (n + 1) = true ↔ (∀ i, ∀ (hi : i < h.length), h[i].length = n + 1) ∧ ∀ i j, i ≤ n → j ≤ n → 0 ≤ at2 h i j ∧ at2 h i j ≤ M := by
  constructor
  · intro b
    have hq : ∀ i, i ≤ n → (h.getD i []).length = n + 1 ∧ rowIn M h i 0 (n + 1) = true := fun i hi => by
      have := List.all_eq_true.1 b i (by simp; omega)
      rw [Bool.and_eq_true, decide_eq_true_eq] at this
      exact this
    refine ⟨fun i hi => ?_, fun i j hi hj => ?_⟩
    · have := (hq i (by omega)).1
      rwa [getD_get hi] at this
    · exact of_decide_eq_true (List.all_eq_true.1 (hq i hi).2 j (by simp; omega))
  · rintro ⟨a, b⟩
    refine List.all_eq_true.2 fun i hi => ?_
    have hi : i ≤ n := by simp at hi; omega
    rw [Bool.and_eq_true, decide_eq_true_eq]
    refine ⟨?_, List.all_eq_true.2 fun j hj => decide_eq_true (b i j hi (by simp at hj; omega))⟩
    have : i < h.length := by omega
    rw [getD_get this]
    exact a i this

theorem rowsPm_iff {n : Nat} {h : List (List Int)} : rowsPm n h 0 (n + 1) = true ↔ (∀ i, i ≤ n → edge4 n h i) ∧ ∀ i j, i ≤ n → j < n → pm (at2 h i (j + 1) - at2 h i j) ∧ pm (at2 h (j + 1) i - at2 h j i) := by
  constructor
  · intro b
    have hq : ∀ i, i ≤ n → edge4 n h i ∧ rowPm h i 0 n = true := fun i hi => by
      have := List.all_eq_true.1 b i (by simp; omega)
      rw [Bool.and_eq_true, decide_eq_true_eq] at this
      exact this
    exact ⟨fun i hi => (hq i hi).1, fun i j hi hj => of_decide_eq_true (List.all_eq_true.1 (hq i hi).2 j (by simp; omega))⟩
  · rintro ⟨a, b⟩
    refine List.all_eq_true.2 fun i hi => ?_
    have hi : i ≤ n := by simp at hi; omega
    rw [Bool.and_eq_true, decide_eq_true_eq]
    exact ⟨a i hi, List.all_eq_true.2 fun j hj => decide_eq_true (b i j hi (by simp at hj; omega))⟩

theorem steep_iff {n : Nat} {h : List (List Int)} (h1 : 1 ≤ n) (h5 : n ≤ 5) (hl : h.length = n + 1) : (rowsIn n n h 0 (n + 1) = true ∧ rowsPm n h 0 (n + 1) = true) ↔ Steep n h := by
  rw [rowsIn_iff hl, rowsPm_iff]
  constructor
  · rintro ⟨⟨a, b⟩, c, d⟩
    refine ⟨h1, h5, hl, fun r hr => ?_, fun j hj => (c j hj).1, fun j hj => (c j hj).2.1, fun j hj => (c j hj).2.2.1, fun j hj => (c j hj).2.2.2, fun i j hi hj => (d i j hi hj).1, fun i j hi hj => (d j i hj hi).2⟩
    obtain ⟨i, hi, rfl⟩ := List.getElem_of_mem hr
    exact a i hi
  · intro S
    exact ⟨⟨fun i hi => S.row _ (List.getElem_mem hi), fun i j hi hj => S.range hi hj⟩, fun i hi => ⟨S.top i hi, S.left i hi, S.bot i hi, S.right i hi⟩, fun i j hi hj => ⟨S.hor i j hi hj, S.ver j i hj hi⟩⟩

theorem steep42 {hv : AV} {h : List (List Int)} (ht : IsTab hv h) (hb : h.length ≤ 1000) : freeX H (callL EV Y 42 [hv] []) = some (.bool (ofOk h), H) := by
  rw [call42 rfl]
  by_cases c1 : h.length < 2
  · have w : IntKind.wrap .i64 ((h.length : Int) - 1) = (h.length : Int) - 1 := wrap_id (by omega) (by omega)
    have c : (h.length : Int) - 1 < 1 := by omega
    have e : ofOk h = false := by unfold ofOk; rw [decide_eq_false (by omega), Bool.false_and]
    simp only [F42B, SS, insA, wantedA, Opd.ev, putA, binA, eqbA, unA, fldA, partA, reduceIte, reduceCtorEq, Nat.reduceMod, Nat.reduceDiv, Nat.reduceBEq, resultA, resA, vI, Nat.reduceMul, Nat.reduceAdd, Nat.reduceSub, Nat.reduceEqDiff, Nat.reduceLT, Nat.reducePow, Nat.reduceLeDiff, st, Option.bind_eq_bind, Option.pure_def, List.length_nil, Int.cast_ofNat_Int, List.reverse_nil, UU, idxP, cellsAt, storeA, fillA, zerosA, putAll, optNat, sliceA, row, Int.reduceLT, Int.reduceLE, Int.reduceGT, Int.reduceGE, Int.reduceEq, Int.reduceNe, Int.reduceToNat, Int.reduceBEq, Int.reduceBNe, Nat.reduceLeDiff, Nat.reduceLT, Nat.reduceBNe, Nat.reduceGT, List.drop_nil, List.take_nil, Option.isSome_none, Int.ofNat_one, Int.ofNat_zero, ht.len, w, c, e]
  · by_cases c2 : h.length > 6
    · have w : IntKind.wrap .i64 ((h.length : Int) - 1) = (h.length : Int) - 1 := wrap_id (by omega) (by omega)
      have c : ¬ (h.length : Int) - 1 < 1 := by omega
      have c' : (h.length : Int) - 1 > 5 := by omega
      have e : ofOk h = false := by unfold ofOk; rw [decide_eq_false (by omega), Bool.false_and]
      simp only [F42B, SS, insA, wantedA, Opd.ev, putA, binA, eqbA, unA, fldA, partA, reduceIte, reduceCtorEq, Nat.reduceMod, Nat.reduceDiv, Nat.reduceBEq, resultA, resA, vI, Nat.reduceMul, Nat.reduceAdd, Nat.reduceSub, Nat.reduceEqDiff, Nat.reduceLT, Nat.reducePow, Nat.reduceLeDiff, st, Option.bind_eq_bind, Option.pure_def, List.length_nil, Int.cast_ofNat_Int, List.reverse_nil, UU, idxP, cellsAt, storeA, fillA, zerosA, putAll, optNat, sliceA, row, Int.reduceLT, Int.reduceLE, Int.reduceGT, Int.reduceGE, Int.reduceEq, Int.reduceNe, Int.reduceToNat, Int.reduceBEq, Int.reduceBNe, Nat.reduceLeDiff, Nat.reduceLT, Nat.reduceBNe, Nat.reduceGT, List.drop_nil, List.take_nil, Option.isSome_none, Int.ofNat_one, Int.ofNat_zero, ht.len, w, c, c', e]
    · obtain ⟨n, hl⟩ : ∃ n, h.length = n + 1 := ⟨h.length - 1, by omega⟩
      have w : IntKind.wrap .i64 (((n + 1 : Nat) : Int) - 1) = (n : Int) := wrap_pred (by omega) (by omega)
      have c : ¬ (n : Int) < 1 := by omega
      have c' : ¬ (n : Int) > 5 := by omega
      have si := steep_iff (h := h) (show 1 ≤ n by omega) (by omega) hl
      have oi := ofOk_iff hl
      have h0 := L42_1 (Y := Y) (H := []) ht (by omega) hl (n + 1) 0 (by omega)
      cases r1 : rowsIn n n h 0 (n + 1)
      · have e : ofOk h = false := by
          cases q : ofOk h
          · rfl
          · have := (si.2 (oi.1 q)).1; rw [r1] at this; exact absurd this (by decide)
        rw [r1, if_neg (by decide)] at h0
        simp only [SS, insA, wantedA, Opd.ev, putA, binA, eqbA, unA, fldA, partA, reduceIte, reduceCtorEq, Nat.reduceMod, Nat.reduceDiv, Nat.reduceBEq, resultA, resA, vI, Nat.reduceMul, Nat.reduceAdd, Nat.reduceSub, Nat.reduceEqDiff, Nat.reduceLT, Nat.reducePow, Nat.reduceLeDiff, st, Option.bind_eq_bind, Option.pure_def, List.length_nil, Int.cast_ofNat_Int, List.reverse_nil, Int.ofNat_zero] at h0
        simp only [F42B, SS, insA, wantedA, Opd.ev, putA, binA, eqbA, unA, fldA, partA, reduceIte, reduceCtorEq, Nat.reduceMod, Nat.reduceDiv, Nat.reduceBEq, resultA, resA, vI, Nat.reduceMul, Nat.reduceAdd, Nat.reduceSub, Nat.reduceEqDiff, Nat.reduceLT, Nat.reducePow, Nat.reduceLeDiff, st, Option.bind_eq_bind, Option.pure_def, List.length_nil, Int.cast_ofNat_Int, List.reverse_nil, UU, idxP, cellsAt, storeA, fillA, zerosA, putAll, optNat, sliceA, row, Int.reduceLT, Int.reduceLE, Int.reduceGT, Int.reduceGE, Int.reduceEq, Int.reduceNe, Int.reduceToNat, Int.reduceBEq, Int.reduceBNe, Nat.reduceLeDiff, Nat.reduceLT, Nat.reduceBNe, Nat.reduceGT, List.drop_nil, List.take_nil, Option.isSome_none, Int.ofNat_one, Int.ofNat_zero, ht.len, hl, w, c, c', h0, in42_1, e]
      · obtain ⟨a, b⟩ := (rowsIn_iff hl).1 r1
        have I : In42 n h := ⟨by omega, by omega, hl, a, b⟩
        have h2 := L42_3 (Y := Y) (H := []) ht I (n + 1) 0 (by omega)
        rw [r1, if_pos rfl] at h0
        cases r2 : rowsPm n h 0 (n + 1)
        · have e : ofOk h = false := by
            cases q : ofOk h
            · rfl
            · have := (si.2 (oi.1 q)).2; rw [r2] at this; exact absurd this (by decide)
          rw [r2, if_neg (by decide)] at h2
          simp only [SS, insA, wantedA, Opd.ev, putA, binA, eqbA, unA, fldA, partA, reduceIte, reduceCtorEq, Nat.reduceMod, Nat.reduceDiv, Nat.reduceBEq, resultA, resA, vI, Nat.reduceMul, Nat.reduceAdd, Nat.reduceSub, Nat.reduceEqDiff, Nat.reduceLT, Nat.reducePow, Nat.reduceLeDiff, st, Option.bind_eq_bind, Option.pure_def, List.length_nil, Int.cast_ofNat_Int, List.reverse_nil, Int.ofNat_zero] at h0 h2
          simp only [F42B, F42T3, SS, insA, wantedA, Opd.ev, putA, binA, eqbA, unA, fldA, partA, reduceIte, reduceCtorEq, Nat.reduceMod, Nat.reduceDiv, Nat.reduceBEq, resultA, resA, vI, Nat.reduceMul, Nat.reduceAdd, Nat.reduceSub, Nat.reduceEqDiff, Nat.reduceLT, Nat.reducePow, Nat.reduceLeDiff, st, Option.bind_eq_bind, Option.pure_def, List.length_nil, Int.cast_ofNat_Int, List.reverse_nil, UU, idxP, cellsAt, storeA, fillA, zerosA, putAll, optNat, sliceA, row, Int.reduceLT, Int.reduceLE, Int.reduceGT, Int.reduceGE, Int.reduceEq, Int.reduceNe, Int.reduceToNat, Int.reduceBEq, Int.reduceBNe, Nat.reduceLeDiff, Nat.reduceLT, Nat.reduceBNe, Nat.reduceGT, List.drop_nil, List.take_nil, Option.isSome_none, Int.ofNat_one, Int.ofNat_zero, ht.len, hl, w, c, c', h0, in42_1, in42_3, h2, e]
        · have e : ofOk h = true := oi.2 (si.1 ⟨r1, r2⟩)
          rw [r2, if_pos rfl] at h2
          simp only [SS, insA, wantedA, Opd.ev, putA, binA, eqbA, unA, fldA, partA, reduceIte, reduceCtorEq, Nat.reduceMod, Nat.reduceDiv, Nat.reduceBEq, resultA, resA, vI, Nat.reduceMul, Nat.reduceAdd, Nat.reduceSub, Nat.reduceEqDiff, Nat.reduceLT, Nat.reducePow, Nat.reduceLeDiff, st, Option.bind_eq_bind, Option.pure_def, List.length_nil, Int.cast_ofNat_Int, List.reverse_nil, Int.ofNat_zero] at h0 h2
          simp only [F42B, F42T2, F42T3, SS, insA, wantedA, Opd.ev, putA, binA, eqbA, unA, fldA, partA, reduceIte, reduceCtorEq, Nat.reduceMod, Nat.reduceDiv, Nat.reduceBEq, resultA, resA, vI, Nat.reduceMul, Nat.reduceAdd, Nat.reduceSub, Nat.reduceEqDiff, Nat.reduceLT, Nat.reducePow, Nat.reduceLeDiff, st, Option.bind_eq_bind, Option.pure_def, List.length_nil, Int.cast_ofNat_Int, List.reverse_nil, UU, idxP, cellsAt, storeA, fillA, zerosA, putAll, optNat, sliceA, row, Int.reduceLT, Int.reduceLE, Int.reduceGT, Int.reduceGE, Int.reduceEq, Int.reduceNe, Int.reduceToNat, Int.reduceBEq, Int.reduceBNe, Nat.reduceLeDiff, Nat.reduceLT, Nat.reduceBNe, Nat.reduceGT, List.drop_nil, List.take_nil, Option.isSome_none, Int.ofNat_one, Int.ofNat_zero, ht.len, hl, w, c, c', h0, in42_1, in42_3, h2, e]
end
end Go.X
