import Derived.Test.YtchgifdkhknppaaVZ1
/-! Veils: steep. -/
set_option linter.unusedSimpArgs false
set_option linter.unusedVariables false
set_option maxHeartbeats 8000000
set_option maxRecDepth 10000
namespace Go.X
open Go Go.RowKit
section
variable {Y : Run} {H : Heap}

instance (x : Int) : Decidable (pm x) := by unfold pm; exact inferInstance
def edge4 (n : Nat) (h : List (List Int)) (i : Nat) : Prop := at2 h 0 i = i ∧ at2 h i 0 = i ∧ at2 h n i = (n : Int) - i ∧ at2 h i n = (n : Int) - i
instance (n : Nat) (h : List (List Int)) (i : Nat) : Decidable (edge4 n h i) := by unfold edge4; exact inferInstance
def rowPm (h : List (List Int)) (i j d : Nat) : Bool := (List.range' j d).all fun b => decide (pm (at2 h i (b + 1) - at2 h i b) ∧ pm (at2 h (b + 1) i - at2 h b i))
def rowsPm (n : Nat) (h : List (List Int)) (i d : Nat) : Bool := (List.range' i d).all fun a => decide (edge4 n h a) && rowPm h a 0 n

structure In42 (n : Nat) (h : List (List Int)) : Prop where
  n1 : 1 ≤ n
  n5 : n ≤ 5
  len : h.length = n + 1
  row : ∀ i, ∀ (hi : i < h.length), h[i].length = n + 1
  bd : ∀ i j, i ≤ n → j ≤ n → 0 ≤ at2 h i j ∧ at2 h i j ≤ n
theorem In42.cell {n i j : Nat} {hv : AV} {h : List (List Int)} (I : In42 n h) (hi : i ≤ n) (hj : j ≤ n) : Cell hv h i j :=
  ⟨by have := I.len; omega, by rw [I.row]; omega⟩

theorem L42_2 {hv : AV} {h : List (List Int)} {n i : Nat} (ht : IsTab hv h) (I : In42 n h) (hi : i ≤ n) (d : Nat) : ∀ (j : Nat), j + d = n →
    lp EV Y F42L2 (sp 182 [(7, vI j), (6, vI i), (3, vI n), (0, hv)]) H =
      if rowPm h i j d = true then some (.x 6, sp 182 [(6, vI i), (3, vI n), (0, hv)], H) else some (.r, sp 182 [(2, .bool false)], H) := by
  have h5 := I.n5
  induction d with
  | zero =>
    intro j hj
    have : ¬ ((j : Int) < (n : Int)) := by omega
    rw [un42_2, if_pos (show rowPm h i j 0 = true from rfl)]
    simp only [F42L2b, SS, insA, wantedA, Opd.ev, putA, binA, eqbA, unA, fldA, partA, reduceIte, reduceCtorEq, Nat.reduceMod, Nat.reduceDiv, Nat.reduceBEq, resultA, resA, vI, Nat.reduceMul, Nat.reduceAdd, Nat.reduceSub, Nat.reduceEqDiff, Nat.reduceLT, Nat.reducePow, Nat.reduceLeDiff, st, Option.bind_eq_bind, Option.pure_def, List.length_nil, Int.cast_ofNat_Int, List.reverse_nil, UU, idxP, cellsAt, storeA, fillA, zerosA, putAll, optNat, sliceA, row, Int.reduceLT, Int.reduceLE, Int.reduceGT, Int.reduceGE, Int.reduceEq, Int.reduceNe, Int.reduceToNat, Int.reduceBEq, Int.reduceBNe, Nat.reduceLeDiff, Nat.reduceLT, Nat.reduceBNe, Nat.reduceGT, List.drop_nil, List.take_nil, Option.isSome_none, Int.ofNat_one, Int.ofNat_zero, this]
  | succ d ih =>
    intro j hj
    have hc : (j : Int) < (n : Int) := by omega
    have hww := wrap_succ (n := j) (by omega)
    have k1 : Cell hv h i j := I.cell hi (by omega)
    have k2 : Cell hv h i (j + 1) := I.cell hi (by omega)
    have k3 : Cell hv h j i := I.cell (by omega) hi
    have k4 : Cell hv h (j + 1) i := I.cell (by omega) hi
    have b1 := I.bd i j hi (by omega)
    have b2 := I.bd i (j + 1) hi (by omega)
    have b3 := I.bd j i (by omega) hi
    have b4 := I.bd (j + 1) i (by omega) hi
    have w1 : IntKind.wrap .i64 (at2 h i (j + 1) - at2 h i j) = at2 h i (j + 1) - at2 h i j := wrap_id (by omega) (by omega)
    have w2 : IntKind.wrap .i64 (at2 h (j + 1) i - at2 h j i) = at2 h (j + 1) i - at2 h j i := wrap_id (by omega) (by omega)
    have ih := ih (j + 1) (by omega)
    have hrow : rowPm h i j (d + 1) = (decide (pm (at2 h i (j + 1) - at2 h i j) ∧ pm (at2 h (j + 1) i - at2 h j i)) && rowPm h i (j + 1) d) := by simp only [rowPm, List.range'_succ, List.all_cons]
    rw [un42_2, hrow]
    simp only [SS, insA, wantedA, Opd.ev, putA, binA, eqbA, unA, fldA, partA, reduceIte, reduceCtorEq, Nat.reduceMod, Nat.reduceDiv, Nat.reduceBEq, resultA, resA, vI, Nat.reduceMul, Nat.reduceAdd, Nat.reduceSub, Nat.reduceEqDiff, Nat.reduceLT, Nat.reducePow, Nat.reduceLeDiff, st, Option.bind_eq_bind, Option.pure_def, List.length_nil, Int.cast_ofNat_Int, List.reverse_nil] at ih
    generalize hx : at2 h i (j + 1) - at2 h i j = x at *
    generalize hy : at2 h (j + 1) i - at2 h j i = y at *
    have i1 := k1.idx ht; have l1 := fun H => k1.load (H := H) ht; have m1 := k1.idx2 ht; have n1 := fun H => k1.load2 (H := H) ht
    have i2 := k2.idx ht; have l2 := fun H => k2.load (H := H) ht; have m2 := k2.idx2 ht; have n2 := fun H => k2.load2 (H := H) ht
    have i3 := k3.idx ht; have l3 := fun H => k3.load (H := H) ht; have m3 := k3.idx2 ht; have n3 := fun H => k3.load2 (H := H) ht
    have i4 := k4.idx ht; have l4 := fun H => k4.load (H := H) ht; have m4 := k4.idx2 ht; have n4 := fun H => k4.load2 (H := H) ht
    by_cases p1 : pm x
    · by_cases p2 : pm y
      · rw [decide_eq_true ⟨p1, p2⟩, Bool.true_and]
        unfold pm at p1 p2
        rcases p1 with p1 | p1 <;> rcases p2 with p2 | p2
        · have x1 : (x != 1) = false := by rw [p1]; decide
          have y1 : (y != 1) = false := by rw [p2]; decide
          simp only [F42L2b, SS, insA, wantedA, Opd.ev, putA, binA, eqbA, unA, fldA, partA, reduceIte, reduceCtorEq, Nat.reduceMod, Nat.reduceDiv, Nat.reduceBEq, resultA, resA, vI, Nat.reduceMul, Nat.reduceAdd, Nat.reduceSub, Nat.reduceEqDiff, Nat.reduceLT, Nat.reducePow, Nat.reduceLeDiff, st, Option.bind_eq_bind, Option.pure_def, List.length_nil, Int.cast_ofNat_Int, List.reverse_nil, UU, idxP, cellsAt, storeA, fillA, zerosA, putAll, optNat, sliceA, row, Int.reduceLT, Int.reduceLE, Int.reduceGT, Int.reduceGE, Int.reduceEq, Int.reduceNe, Int.reduceToNat, Int.reduceBEq, Int.reduceBNe, Nat.reduceLeDiff, Nat.reduceLT, Nat.reduceBNe, Nat.reduceGT, List.drop_nil, List.take_nil, Option.isSome_none, Int.ofNat_one, Int.ofNat_zero, hc, i1, l1, m1, n1, i2, l2, m2, n2, i3, l3, m3, n3, i4, l4, m4, n4, hww, hx, hy, w1, w2, x1, y1, ih]
        · have x1 : (x != 1) = false := by rw [p1]; decide
          have y1 : (y != 1) = true := by rw [p2]; decide
          have y2 : (y != -1) = false := by rw [p2]; decide
          simp only [F42L2b, SS, insA, wantedA, Opd.ev, putA, binA, eqbA, unA, fldA, partA, reduceIte, reduceCtorEq, Nat.reduceMod, Nat.reduceDiv, Nat.reduceBEq, resultA, resA, vI, Nat.reduceMul, Nat.reduceAdd, Nat.reduceSub, Nat.reduceEqDiff, Nat.reduceLT, Nat.reducePow, Nat.reduceLeDiff, st, Option.bind_eq_bind, Option.pure_def, List.length_nil, Int.cast_ofNat_Int, List.reverse_nil, UU, idxP, cellsAt, storeA, fillA, zerosA, putAll, optNat, sliceA, row, Int.reduceLT, Int.reduceLE, Int.reduceGT, Int.reduceGE, Int.reduceEq, Int.reduceNe, Int.reduceToNat, Int.reduceBEq, Int.reduceBNe, Nat.reduceLeDiff, Nat.reduceLT, Nat.reduceBNe, Nat.reduceGT, List.drop_nil, List.take_nil, Option.isSome_none, Int.ofNat_one, Int.ofNat_zero, hc, i1, l1, m1, n1, i2, l2, m2, n2, i3, l3, m3, n3, i4, l4, m4, n4, hww, hx, hy, w1, w2, x1, y1, y2, ih]
        · have x1 : (x != 1) = true := by rw [p1]; decide
          have x2 : (x != -1) = false := by rw [p1]; decide
          have y1 : (y != 1) = false := by rw [p2]; decide
          simp only [F42L2b, SS, insA, wantedA, Opd.ev, putA, binA, eqbA, unA, fldA, partA, reduceIte, reduceCtorEq, Nat.reduceMod, Nat.reduceDiv, Nat.reduceBEq, resultA, resA, vI, Nat.reduceMul, Nat.reduceAdd, Nat.reduceSub, Nat.reduceEqDiff, Nat.reduceLT, Nat.reducePow, Nat.reduceLeDiff, st, Option.bind_eq_bind, Option.pure_def, List.length_nil, Int.cast_ofNat_Int, List.reverse_nil, UU, idxP, cellsAt, storeA, fillA, zerosA, putAll, optNat, sliceA, row, Int.reduceLT, Int.reduceLE, Int.reduceGT, Int.reduceGE, Int.reduceEq, Int.reduceNe, Int.reduceToNat, Int.reduceBEq, Int.reduceBNe, Nat.reduceLeDiff, Nat.reduceLT, Nat.reduceBNe, Nat.reduceGT, List.drop_nil, List.take_nil, Option.isSome_none, Int.ofNat_one, Int.ofNat_zero, hc, i1, l1, m1, n1, i2, l2, m2, n2, i3, l3, m3, n3, i4, l4, m4, n4, hww, hx, hy, w1, w2, x1, x2, y1, ih]
        · have x1 : (x != 1) = true := by rw [p1]; decide
          have x2 : (x != -1) = false := by rw [p1]; decide
          have y1 : (y != 1) = true := by rw [p2]; decide
          have y2 : (y != -1) = false := by rw [p2]; decide
          simp only [F42L2b, SS, insA, wantedA, Opd.ev, putA, binA, eqbA, unA, fldA, partA, reduceIte, reduceCtorEq, Nat.reduceMod, Nat.reduceDiv, Nat.reduceBEq, resultA, resA, vI, Nat.reduceMul, Nat.reduceAdd, Nat.reduceSub, Nat.reduceEqDiff, Nat.reduceLT, Nat.reducePow, Nat.reduceLeDiff, st, Option.bind_eq_bind, Option.pure_def, List.length_nil, Int.cast_ofNat_Int, List.reverse_nil, UU, idxP, cellsAt, storeA, fillA, zerosA, putAll, optNat, sliceA, row, Int.reduceLT, Int.reduceLE, Int.reduceGT, Int.reduceGE, Int.reduceEq, Int.reduceNe, Int.reduceToNat, Int.reduceBEq, Int.reduceBNe, Nat.reduceLeDiff, Nat.reduceLT, Nat.reduceBNe, Nat.reduceGT, List.drop_nil, List.take_nil, Option.isSome_none, Int.ofNat_one, Int.ofNat_zero, hc, i1, l1, m1, n1, i2, l2, m2, n2, i3, l3, m3, n3, i4, l4, m4, n4, hww, hx, hy, w1, w2, x1, x2, y1, y2, ih]
      · rw [decide_eq_false (fun q => p2 q.2), Bool.false_and, if_neg (by decide)]
        unfold pm at p1 p2
        have y1 : (y != 1) = true := by simp; omega
        have y2 : (y != -1) = true := by simp; omega
        rcases p1 with p1 | p1
        · have x1 : (x != 1) = false := by rw [p1]; decide
          simp only [F42L2b, SS, insA, wantedA, Opd.ev, putA, binA, eqbA, unA, fldA, partA, reduceIte, reduceCtorEq, Nat.reduceMod, Nat.reduceDiv, Nat.reduceBEq, resultA, resA, vI, Nat.reduceMul, Nat.reduceAdd, Nat.reduceSub, Nat.reduceEqDiff, Nat.reduceLT, Nat.reducePow, Nat.reduceLeDiff, st, Option.bind_eq_bind, Option.pure_def, List.length_nil, Int.cast_ofNat_Int, List.reverse_nil, UU, idxP, cellsAt, storeA, fillA, zerosA, putAll, optNat, sliceA, row, Int.reduceLT, Int.reduceLE, Int.reduceGT, Int.reduceGE, Int.reduceEq, Int.reduceNe, Int.reduceToNat, Int.reduceBEq, Int.reduceBNe, Nat.reduceLeDiff, Nat.reduceLT, Nat.reduceBNe, Nat.reduceGT, List.drop_nil, List.take_nil, Option.isSome_none, Int.ofNat_one, Int.ofNat_zero, hc, i1, l1, m1, n1, i2, l2, m2, n2, i3, l3, m3, n3, i4, l4, m4, n4, hww, hx, hy, w1, w2, x1, y1, y2]
        · have x1 : (x != 1) = true := by rw [p1]; decide
          have x2 : (x != -1) = false := by rw [p1]; decide
          simp only [F42L2b, SS, insA, wantedA, Opd.ev, putA, binA, eqbA, unA, fldA, partA, reduceIte, reduceCtorEq, Nat.reduceMod, Nat.reduceDiv, Nat.reduceBEq, resultA, resA, vI, Nat.reduceMul, Nat.reduceAdd, Nat.reduceSub, Nat.reduceEqDiff, Nat.reduceLT, Nat.reducePow, Nat.reduceLeDiff, st, Option.bind_eq_bind, Option.pure_def, List.length_nil, Int.cast_ofNat_Int, List.reverse_nil, UU, idxP, cellsAt, storeA, fillA, zerosA, putAll, optNat, sliceA, row, Int.reduceLT, Int.reduceLE, Int.reduceGT, Int.reduceGE, Int.reduceEq, Int.reduceNe, Int.reduceToNat, Int.reduceBEq, Int.reduceBNe, Nat.reduceLeDiff, Nat.reduceLT, Nat.reduceBNe, Nat.reduceGT, List.drop_nil, List.take_nil, Option.isSome_none, Int.ofNat_one, Int.ofNat_zero, hc, i1, l1, m1, n1, i2, l2, m2, n2, i3, l3, m3, n3, i4, l4, m4, n4, hww, hx, hy, w1, w2, x1, x2, y1, y2]
    · rw [decide_eq_false (fun q => p1 q.1), Bool.false_and, if_neg (by decide)]
      unfold pm at p1
      have x1 : (x != 1) = true := by simp; omega
      have x2 : (x != -1) = true := by simp; omega
      simp only [F42L2b, SS, insA, wantedA, Opd.ev, putA, binA, eqbA, unA, fldA, partA, reduceIte, reduceCtorEq, Nat.reduceMod, Nat.reduceDiv, Nat.reduceBEq, resultA, resA, vI, Nat.reduceMul, Nat.reduceAdd, Nat.reduceSub, Nat.reduceEqDiff, Nat.reduceLT, Nat.reducePow, Nat.reduceLeDiff, st, Option.bind_eq_bind, Option.pure_def, List.length_nil, Int.cast_ofNat_Int, List.reverse_nil, UU, idxP, cellsAt, storeA, fillA, zerosA, putAll, optNat, sliceA, row, Int.reduceLT, Int.reduceLE, Int.reduceGT, Int.reduceGE, Int.reduceEq, Int.reduceNe, Int.reduceToNat, Int.reduceBEq, Int.reduceBNe, Nat.reduceLeDiff, Nat.reduceLT, Nat.reduceBNe, Nat.reduceGT, List.drop_nil, List.take_nil, Option.isSome_none, Int.ofNat_one, Int.ofNat_zero, hc, i1, l1, m1, n1, i2, l2, m2, n2, i3, l3, m3, n3, i4, l4, m4, n4, hww, hx, hy, w1, w2, x1, x2]

theorem L42_3 {hv : AV} {h : List (List Int)} {n : Nat} (ht : IsTab hv h) (I : In42 n h) (d : Nat) : ∀ (i : Nat), i + d = n + 1 →
    lp EV Y F42L3 (sp 182 [(6, vI i), (3, vI n), (0, hv)]) H =
      if rowsPm n h i d = true then some (.x 4, sp 182 [], H) else some (.r, sp 182 [(2, .bool false)], H) := by
  have h5 := I.n5
  induction d with
  | zero =>
    intro i hi
    have : ¬ ((i : Int) ≤ (n : Int)) := by omega
    rw [un42_3, if_pos (show rowsPm n h i 0 = true from rfl)]
    simp only [F42L3b, SS, insA, wantedA, Opd.ev, putA, binA, eqbA, unA, fldA, partA, reduceIte, reduceCtorEq, Nat.reduceMod, Nat.reduceDiv, Nat.reduceBEq, resultA, resA, vI, Nat.reduceMul, Nat.reduceAdd, Nat.reduceSub, Nat.reduceEqDiff, Nat.reduceLT, Nat.reducePow, Nat.reduceLeDiff, st, Option.bind_eq_bind, Option.pure_def, List.length_nil, Int.cast_ofNat_Int, List.reverse_nil, UU, idxP, cellsAt, storeA, fillA, zerosA, putAll, optNat, sliceA, row, Int.reduceLT, Int.reduceLE, Int.reduceGT, Int.reduceGE, Int.reduceEq, Int.reduceNe, Int.reduceToNat, Int.reduceBEq, Int.reduceBNe, Nat.reduceLeDiff, Nat.reduceLT, Nat.reduceBNe, Nat.reduceGT, List.drop_nil, List.take_nil, Option.isSome_none, Int.ofNat_one, Int.ofNat_zero, this]
  | succ d ih =>
    intro i hi
    have hn : i ≤ n := by omega
    have hc : (i : Int) ≤ (n : Int) := by omega
    have hww := wrap_succ (n := i) (by omega)
    have wni : IntKind.wrap .i64 ((n : Int) - i) = (n : Int) - i := wrap_id (by omega) (by omega)
    have k1 : Cell hv h 0 i := I.cell (by omega) hn
    have k2 : Cell hv h i 0 := I.cell hn (by omega)
    have k3 : Cell hv h n i := I.cell (by omega) hn
    have k4 : Cell hv h i n := I.cell hn (by omega)
    have i1 := k1.idx ht; have l1 := fun H => k1.load (H := H) ht; have m1 := k1.idx2 ht; have n1 := fun H => k1.load2 (H := H) ht
    have i2 := k2.idx ht; have l2 := fun H => k2.load (H := H) ht; have m2 := k2.idx2 ht; have n2 := fun H => k2.load2 (H := H) ht
    have i3 := k3.idx ht; have l3 := fun H => k3.load (H := H) ht; have m3 := k3.idx2 ht; have n3 := fun H => k3.load2 (H := H) ht
    have i4 := k4.idx ht; have l4 := fun H => k4.load (H := H) ht; have m4 := k4.idx2 ht; have n4 := fun H => k4.load2 (H := H) ht
    have ih := ih (i + 1) (by omega)
    have h0 := L42_2 (Y := Y) (H := H) ht I hn n 0 (by omega)
    have hok : rowsPm n h i (d + 1) = (decide (edge4 n h i) && rowPm h i 0 n && rowsPm n h (i + 1) d) := by simp only [rowsPm, List.range'_succ, List.all_cons]
    rw [un42_3, hok]
    simp only [SS, insA, wantedA, Opd.ev, putA, binA, eqbA, unA, fldA, partA, reduceIte, reduceCtorEq, Nat.reduceMod, Nat.reduceDiv, Nat.reduceBEq, resultA, resA, vI, Nat.reduceMul, Nat.reduceAdd, Nat.reduceSub, Nat.reduceEqDiff, Nat.reduceLT, Nat.reducePow, Nat.reduceLeDiff, st, Option.bind_eq_bind, Option.pure_def, List.length_nil, Int.cast_ofNat_Int, List.reverse_nil, Int.ofNat_zero] at ih h0 i1 m2
    by_cases c1 : at2 h 0 i = i
    · by_cases c2 : at2 h i 0 = i
      · by_cases c3 : at2 h n i = (n : Int) - i
        · by_cases c4 : at2 h i n = (n : Int) - i
          · rw [decide_eq_true (show edge4 n h i from ⟨c1, c2, c3, c4⟩), Bool.true_and]
            cases hu : rowPm h i 0 n
            · rw [hu, if_neg (by decide)] at h0
              rw [Bool.false_and, if_neg (by decide)]
              simp only [F42L3b, F42T1, in42_2, SS, insA, wantedA, Opd.ev, putA, binA, eqbA, unA, fldA, partA, reduceIte, reduceCtorEq, Nat.reduceMod, Nat.reduceDiv, Nat.reduceBEq, resultA, resA, vI, Nat.reduceMul, Nat.reduceAdd, Nat.reduceSub, Nat.reduceEqDiff, Nat.reduceLT, Nat.reducePow, Nat.reduceLeDiff, st, Option.bind_eq_bind, Option.pure_def, List.length_nil, Int.cast_ofNat_Int, List.reverse_nil, UU, idxP, cellsAt, storeA, fillA, zerosA, putAll, optNat, sliceA, row, Int.reduceLT, Int.reduceLE, Int.reduceGT, Int.reduceGE, Int.reduceEq, Int.reduceNe, Int.reduceToNat, Int.reduceBEq, Int.reduceBNe, Nat.reduceLeDiff, Nat.reduceLT, Nat.reduceBNe, Nat.reduceGT, List.drop_nil, List.take_nil, Option.isSome_none, Int.ofNat_one, Int.ofNat_zero, hc, i1, l1, m1, n1, i2, l2, m2, n2, i3, l3, m3, n3, i4, l4, m4, n4, hww, wni, c1, c2, c3, c4, bne_self_eq_false, h0]
            · rw [hu, if_pos rfl] at h0
              rw [Bool.true_and]
              simp only [F42L3b, F42T1, in42_2, SS, insA, wantedA, Opd.ev, putA, binA, eqbA, unA, fldA, partA, reduceIte, reduceCtorEq, Nat.reduceMod, Nat.reduceDiv, Nat.reduceBEq, resultA, resA, vI, Nat.reduceMul, Nat.reduceAdd, Nat.reduceSub, Nat.reduceEqDiff, Nat.reduceLT, Nat.reducePow, Nat.reduceLeDiff, st, Option.bind_eq_bind, Option.pure_def, List.length_nil, Int.cast_ofNat_Int, List.reverse_nil, UU, idxP, cellsAt, storeA, fillA, zerosA, putAll, optNat, sliceA, row, Int.reduceLT, Int.reduceLE, Int.reduceGT, Int.reduceGE, Int.reduceEq, Int.reduceNe, Int.reduceToNat, Int.reduceBEq, Int.reduceBNe, Nat.reduceLeDiff, Nat.reduceLT, Nat.reduceBNe, Nat.reduceGT, List.drop_nil, List.take_nil, Option.isSome_none, Int.ofNat_one, Int.ofNat_zero, hc, i1, l1, m1, n1, i2, l2, m2, n2, i3, l3, m3, n3, i4, l4, m4, n4, hww, wni, c1, c2, c3, c4, bne_self_eq_false, h0, ih]
          · have c' : (at2 h i n != (n : Int) - i) = true := bne_iff_ne.2 c4
            rw [decide_eq_false (fun q : edge4 n h i => c4 q.2.2.2), Bool.false_and, Bool.false_and, if_neg (by decide)]
            simp only [F42L3b, SS, insA, wantedA, Opd.ev, putA, binA, eqbA, unA, fldA, partA, reduceIte, reduceCtorEq, Nat.reduceMod, Nat.reduceDiv, Nat.reduceBEq, resultA, resA, vI, Nat.reduceMul, Nat.reduceAdd, Nat.reduceSub, Nat.reduceEqDiff, Nat.reduceLT, Nat.reducePow, Nat.reduceLeDiff, st, Option.bind_eq_bind, Option.pure_def, List.length_nil, Int.cast_ofNat_Int, List.reverse_nil, UU, idxP, cellsAt, storeA, fillA, zerosA, putAll, optNat, sliceA, row, Int.reduceLT, Int.reduceLE, Int.reduceGT, Int.reduceGE, Int.reduceEq, Int.reduceNe, Int.reduceToNat, Int.reduceBEq, Int.reduceBNe, Nat.reduceLeDiff, Nat.reduceLT, Nat.reduceBNe, Nat.reduceGT, List.drop_nil, List.take_nil, Option.isSome_none, Int.ofNat_one, Int.ofNat_zero, hc, i1, l1, m1, n1, i2, l2, m2, n2, i3, l3, m3, n3, i4, l4, m4, n4, hww, wni, c1, c2, c3, c', bne_self_eq_false]
        · have c' : (at2 h n i != (n : Int) - i) = true := bne_iff_ne.2 c3
          rw [decide_eq_false (fun q : edge4 n h i => c3 q.2.2.1), Bool.false_and, Bool.false_and, if_neg (by decide)]
          simp only [F42L3b, SS, insA, wantedA, Opd.ev, putA, binA, eqbA, unA, fldA, partA, reduceIte, reduceCtorEq, Nat.reduceMod, Nat.reduceDiv, Nat.reduceBEq, resultA, resA, vI, Nat.reduceMul, Nat.reduceAdd, Nat.reduceSub, Nat.reduceEqDiff, Nat.reduceLT, Nat.reducePow, Nat.reduceLeDiff, st, Option.bind_eq_bind, Option.pure_def, List.length_nil, Int.cast_ofNat_Int, List.reverse_nil, UU, idxP, cellsAt, storeA, fillA, zerosA, putAll, optNat, sliceA, row, Int.reduceLT, Int.reduceLE, Int.reduceGT, Int.reduceGE, Int.reduceEq, Int.reduceNe, Int.reduceToNat, Int.reduceBEq, Int.reduceBNe, Nat.reduceLeDiff, Nat.reduceLT, Nat.reduceBNe, Nat.reduceGT, List.drop_nil, List.take_nil, Option.isSome_none, Int.ofNat_one, Int.ofNat_zero, hc, i1, l1, m1, n1, i2, l2, m2, n2, i3, l3, m3, n3, hww, wni, c1, c2, c', bne_self_eq_false]
      · have c' : (at2 h i 0 != (i : Int)) = true := bne_iff_ne.2 c2
        rw [decide_eq_false (fun q : edge4 n h i => c2 q.2.1), Bool.false_and, Bool.false_and, if_neg (by decide)]
        simp only [F42L3b, SS, insA, wantedA, Opd.ev, putA, binA, eqbA, unA, fldA, partA, reduceIte, reduceCtorEq, Nat.reduceMod, Nat.reduceDiv, Nat.reduceBEq, resultA, resA, vI, Nat.reduceMul, Nat.reduceAdd, Nat.reduceSub, Nat.reduceEqDiff, Nat.reduceLT, Nat.reducePow, Nat.reduceLeDiff, st, Option.bind_eq_bind, Option.pure_def, List.length_nil, Int.cast_ofNat_Int, List.reverse_nil, UU, idxP, cellsAt, storeA, fillA, zerosA, putAll, optNat, sliceA, row, Int.reduceLT, Int.reduceLE, Int.reduceGT, Int.reduceGE, Int.reduceEq, Int.reduceNe, Int.reduceToNat, Int.reduceBEq, Int.reduceBNe, Nat.reduceLeDiff, Nat.reduceLT, Nat.reduceBNe, Nat.reduceGT, List.drop_nil, List.take_nil, Option.isSome_none, Int.ofNat_one, Int.ofNat_zero, hc, i1, l1, m1, n1, i2, l2, m2, n2, hww, wni, c1, c', bne_self_eq_false]
    · have c' : (at2 h 0 i != (i : Int)) = true := bne_iff_ne.2 c1
      rw [decide_eq_false (fun q : edge4 n h i => c1 q.1), Bool.false_and, Bool.false_and, if_neg (by decide)]
      simp only [F42L3b, SS, insA, wantedA, Opd.ev, putA, binA, eqbA, unA, fldA, partA, reduceIte, reduceCtorEq, Nat.reduceMod, Nat.reduceDiv, Nat.reduceBEq, resultA, resA, vI, Nat.reduceMul, Nat.reduceAdd, Nat.reduceSub, Nat.reduceEqDiff, Nat.reduceLT, Nat.reducePow, Nat.reduceLeDiff, st, Option.bind_eq_bind, Option.pure_def, List.length_nil, Int.cast_ofNat_Int, List.reverse_nil, UU, idxP, cellsAt, storeA, fillA, zerosA, putAll, optNat, sliceA, row, Int.reduceLT, Int.reduceLE, Int.reduceGT, Int.reduceGE, Int.reduceEq, Int.reduceNe, Int.reduceToNat, Int.reduceBEq, Int.reduceBNe, Nat.reduceLeDiff, Nat.reduceLT, Nat.reduceBNe, Nat.reduceGT, List.drop_nil, List.take_nil, Option.isSome_none, Int.ofNat_one, Int.ofNat_zero, hc, i1, l1, m1, n1, hww, wni, c', bne_self_eq_false]
end
end Go.X
