import Derived.Test.YtchgifdkhknppaaVZ
/-! Veils: heights within bounds (Of of ref; steep). -/
set_option linter.unusedSimpArgs false
set_option linter.unusedVariables false
set_option maxHeartbeats 8000000
set_option maxRecDepth 10000
namespace Go.X
open Go Go.RowKit
section
variable {Y : Run} {H : Heap}

def rowIn (M : Int) (h : List (List Int)) (i j d : Nat) : Bool := (List.range' j d).all fun b => decide (0 ≤ at2 h i b ∧ at2 h i b ≤ M)
def rowsIn (n : Nat) (M : Int) (h : List (List Int)) (i d : Nat) : Bool := (List.range' i d).all fun a => decide ((h.getD a []).length = n + 1) && rowIn M h a 0 (n + 1)

theorem L49_0 {hv : AV} {h : List (List Int)} {n i : Nat} (ht : IsTab hv h) (h5 : n ≤ 5) (hit : i < h.length) (hr : h[i].length = n + 1) (d : Nat) : ∀ (j : Nat), j + d = n + 1 →
    lp EV Y F49L0 (sp 68 [(6, vI j), (5, vI i), (4, vI n), (0, hv)]) H =
      if rowIn (2 * n) h i j d = true then some (.x 2, sp 68 [(5, vI i), (4, vI n), (0, hv)], H) else some (.r, sp 68 [(3, vI 2), (2, .nils)], H) := by
  have r1 := ht.row hit
  rw [getD_get hit] at r1
  have wm : IntKind.wrap .i64 (2 * (n : Int)) = 2 * (n : Int) := wrap_id (by omega) (by omega)
  induction d with
  | zero =>
    intro j hj
    have : ¬ ((j : Int) ≤ (n : Int)) := by omega
    rw [un49_0, if_pos (show rowIn (2 * n) h i j 0 = true from rfl)]
    simp only [F49L0b, SS, insA, wantedA, Opd.ev, putA, binA, eqbA, unA, fldA, partA, reduceIte, reduceCtorEq, Nat.reduceMod, Nat.reduceDiv, Nat.reduceBEq, resultA, resA, vI, Nat.reduceMul, Nat.reduceAdd, Nat.reduceSub, Nat.reduceEqDiff, Nat.reduceLT, Nat.reducePow, Nat.reduceLeDiff, st, Option.bind_eq_bind, Option.pure_def, List.length_nil, Int.cast_ofNat_Int, List.reverse_nil, UU, idxP, cellsAt, storeA, fillA, zerosA, putAll, optNat, sliceA, row, Int.reduceLT, Int.reduceLE, Int.reduceGT, Int.reduceGE, Int.reduceEq, Int.reduceNe, Int.reduceToNat, Int.reduceBEq, Int.reduceBNe, Nat.reduceLeDiff, Nat.reduceLT, Nat.reduceBNe, Nat.reduceGT, List.drop_nil, List.take_nil, Option.isSome_none, Int.ofNat_one, Int.ofNat_zero, this]
  | succ d ih =>
    intro j hj
    have hc : (j : Int) ≤ (n : Int) := by omega
    have hww := wrap_succ (n := j) (by omega)
    have j1 : j < h[i].length := by omega
    have g1 : h[i].getD j 0 = at2 h i j := by unfold at2; rw [getD_get hit]
    have ih := ih (j + 1) (by omega)
    have hrow : rowIn (2 * n) h i j (d + 1) = (decide (0 ≤ at2 h i j ∧ at2 h i j ≤ 2 * n) && rowIn (2 * n) h i (j + 1) d) := by simp only [rowIn, List.range'_succ, List.all_cons]
    rw [un49_0, hrow]
    simp only [SS, insA, wantedA, Opd.ev, putA, binA, eqbA, unA, fldA, partA, reduceIte, reduceCtorEq, Nat.reduceMod, Nat.reduceDiv, Nat.reduceBEq, resultA, resA, vI, Nat.reduceMul, Nat.reduceAdd, Nat.reduceSub, Nat.reduceEqDiff, Nat.reduceLT, Nat.reducePow, Nat.reduceLeDiff, st, Option.bind_eq_bind, Option.pure_def, List.length_nil, Int.cast_ofNat_Int, List.reverse_nil] at ih
    by_cases c1 : at2 h i j < 0
    · rw [decide_eq_false (by omega), Bool.false_and, if_neg (by decide)]
      simp only [F49L0b, SS, insA, wantedA, Opd.ev, putA, binA, eqbA, unA, fldA, partA, reduceIte, reduceCtorEq, Nat.reduceMod, Nat.reduceDiv, Nat.reduceBEq, resultA, resA, vI, Nat.reduceMul, Nat.reduceAdd, Nat.reduceSub, Nat.reduceEqDiff, Nat.reduceLT, Nat.reducePow, Nat.reduceLeDiff, st, Option.bind_eq_bind, Option.pure_def, List.length_nil, Int.cast_ofNat_Int, List.reverse_nil, UU, idxP, cellsAt, storeA, fillA, zerosA, putAll, optNat, sliceA, row, Int.reduceLT, Int.reduceLE, Int.reduceGT, Int.reduceGE, Int.reduceEq, Int.reduceNe, Int.reduceToNat, Int.reduceBEq, Int.reduceBNe, Nat.reduceLeDiff, Nat.reduceLT, Nat.reduceBNe, Nat.reduceGT, List.drop_nil, List.take_nil, Option.isSome_none, Int.ofNat_one, Int.ofNat_zero, hc, ht.idx hit, ht.load hit, r1.idx j1, r1.load j1, g1, c1]
    · by_cases c2 : at2 h i j > 2 * n
      · rw [decide_eq_false (by omega), Bool.false_and, if_neg (by decide)]
        simp only [F49L0b, SS, insA, wantedA, Opd.ev, putA, binA, eqbA, unA, fldA, partA, reduceIte, reduceCtorEq, Nat.reduceMod, Nat.reduceDiv, Nat.reduceBEq, resultA, resA, vI, Nat.reduceMul, Nat.reduceAdd, Nat.reduceSub, Nat.reduceEqDiff, Nat.reduceLT, Nat.reducePow, Nat.reduceLeDiff, st, Option.bind_eq_bind, Option.pure_def, List.length_nil, Int.cast_ofNat_Int, List.reverse_nil, UU, idxP, cellsAt, storeA, fillA, zerosA, putAll, optNat, sliceA, row, Int.reduceLT, Int.reduceLE, Int.reduceGT, Int.reduceGE, Int.reduceEq, Int.reduceNe, Int.reduceToNat, Int.reduceBEq, Int.reduceBNe, Nat.reduceLeDiff, Nat.reduceLT, Nat.reduceBNe, Nat.reduceGT, List.drop_nil, List.take_nil, Option.isSome_none, Int.ofNat_one, Int.ofNat_zero, hc, ht.idx hit, ht.load hit, r1.idx j1, r1.load j1, g1, c1, wm, c2]
      · rw [decide_eq_true (by omega), Bool.true_and]
        simp only [F49L0b, SS, insA, wantedA, Opd.ev, putA, binA, eqbA, unA, fldA, partA, reduceIte, reduceCtorEq, Nat.reduceMod, Nat.reduceDiv, Nat.reduceBEq, resultA, resA, vI, Nat.reduceMul, Nat.reduceAdd, Nat.reduceSub, Nat.reduceEqDiff, Nat.reduceLT, Nat.reducePow, Nat.reduceLeDiff, st, Option.bind_eq_bind, Option.pure_def, List.length_nil, Int.cast_ofNat_Int, List.reverse_nil, UU, idxP, cellsAt, storeA, fillA, zerosA, putAll, optNat, sliceA, row, Int.reduceLT, Int.reduceLE, Int.reduceGT, Int.reduceGE, Int.reduceEq, Int.reduceNe, Int.reduceToNat, Int.reduceBEq, Int.reduceBNe, Nat.reduceLeDiff, Nat.reduceLT, Nat.reduceBNe, Nat.reduceGT, List.drop_nil, List.take_nil, Option.isSome_none, Int.ofNat_one, Int.ofNat_zero, hc, ht.idx hit, ht.load hit, r1.idx j1, r1.load j1, g1, c1, wm, c2, hww, ih]

theorem L49_1 {hv : AV} {h : List (List Int)} {n : Nat} (ht : IsTab hv h) (h5 : n ≤ 5) (hl : h.length = n + 1) (d : Nat) : ∀ (i : Nat), i + d = n + 1 →
    lp EV Y F49L1 (sp 68 [(5, vI i), (4, vI n), (0, hv)]) H =
      if rowsIn n (2 * n) h i d = true then some (.x 0, sp 68 [(0, hv)], H) else some (.r, sp 68 [(3, vI 2), (2, .nils)], H) := by
  induction d with
  | zero =>
    intro i hi
    have : ¬ ((i : Int) ≤ (n : Int)) := by omega
    rw [un49_1, if_pos (show rowsIn n (2 * n) h i 0 = true from rfl)]
    simp only [F49L1b, SS, insA, wantedA, Opd.ev, putA, binA, eqbA, unA, fldA, partA, reduceIte, reduceCtorEq, Nat.reduceMod, Nat.reduceDiv, Nat.reduceBEq, resultA, resA, vI, Nat.reduceMul, Nat.reduceAdd, Nat.reduceSub, Nat.reduceEqDiff, Nat.reduceLT, Nat.reducePow, Nat.reduceLeDiff, st, Option.bind_eq_bind, Option.pure_def, List.length_nil, Int.cast_ofNat_Int, List.reverse_nil, UU, idxP, cellsAt, storeA, fillA, zerosA, putAll, optNat, sliceA, row, Int.reduceLT, Int.reduceLE, Int.reduceGT, Int.reduceGE, Int.reduceEq, Int.reduceNe, Int.reduceToNat, Int.reduceBEq, Int.reduceBNe, Nat.reduceLeDiff, Nat.reduceLT, Nat.reduceBNe, Nat.reduceGT, List.drop_nil, List.take_nil, Option.isSome_none, Int.ofNat_one, Int.ofNat_zero, this]
  | succ d ih =>
    intro i hi
    have k1 : i < h.length := by omega
    have hc : (i : Int) ≤ (n : Int) := by omega
    have hww := wrap_succ (n := i) (by omega)
    have wn : IntKind.wrap .i64 ((n : Int) + 1) = ((n + 1 : Nat) : Int) := wrap_succ (by omega)
    have r1 := ht.row k1
    rw [getD_get k1] at r1
    have hlen : lenA (cellAt hv i) = some h[i].length := r1.len
    have ih := ih (i + 1) (by omega)
    have hok : rowsIn n (2 * n) h i (d + 1) = (decide (h[i].length = n + 1) && rowIn (2 * n) h i 0 (n + 1) && rowsIn n (2 * n) h (i + 1) d) := by simp only [rowsIn, List.range'_succ, List.all_cons, getD_get k1]
    rw [un49_1, hok]
    simp only [SS, insA, wantedA, Opd.ev, putA, binA, eqbA, unA, fldA, partA, reduceIte, reduceCtorEq, Nat.reduceMod, Nat.reduceDiv, Nat.reduceBEq, resultA, resA, vI, Nat.reduceMul, Nat.reduceAdd, Nat.reduceSub, Nat.reduceEqDiff, Nat.reduceLT, Nat.reducePow, Nat.reduceLeDiff, st, Option.bind_eq_bind, Option.pure_def, List.length_nil, Int.cast_ofNat_Int, List.reverse_nil] at ih
    by_cases c1 : h[i].length = n + 1
    · have h0 := L49_0 (Y := Y) (H := H) ht h5 k1 c1 (n + 1) 0 (by omega)
      rw [decide_eq_true c1, Bool.true_and]
      cases hu : rowIn (2 * n) h i 0 (n + 1)
      · rw [hu, if_neg (by decide)] at h0
        rw [Bool.false_and, if_neg (by decide)]
        simp only [SS, insA, wantedA, Opd.ev, putA, binA, eqbA, unA, fldA, partA, reduceIte, reduceCtorEq, Nat.reduceMod, Nat.reduceDiv, Nat.reduceBEq, resultA, resA, vI, Nat.reduceMul, Nat.reduceAdd, Nat.reduceSub, Nat.reduceEqDiff, Nat.reduceLT, Nat.reducePow, Nat.reduceLeDiff, st, Option.bind_eq_bind, Option.pure_def, List.length_nil, Int.cast_ofNat_Int, List.reverse_nil, Int.ofNat_zero] at h0
        simp only [F49L1b, F49T0, in49_0, SS, insA, wantedA, Opd.ev, putA, binA, eqbA, unA, fldA, partA, reduceIte, reduceCtorEq, Nat.reduceMod, Nat.reduceDiv, Nat.reduceBEq, resultA, resA, vI, Nat.reduceMul, Nat.reduceAdd, Nat.reduceSub, Nat.reduceEqDiff, Nat.reduceLT, Nat.reducePow, Nat.reduceLeDiff, st, Option.bind_eq_bind, Option.pure_def, List.length_nil, Int.cast_ofNat_Int, List.reverse_nil, UU, idxP, cellsAt, storeA, fillA, zerosA, putAll, optNat, sliceA, row, Int.reduceLT, Int.reduceLE, Int.reduceGT, Int.reduceGE, Int.reduceEq, Int.reduceNe, Int.reduceToNat, Int.reduceBEq, Int.reduceBNe, Nat.reduceLeDiff, Nat.reduceLT, Nat.reduceBNe, Nat.reduceGT, List.drop_nil, List.take_nil, Option.isSome_none, Int.ofNat_one, Int.ofNat_zero, hc, ht.idx k1, ht.load k1, hlen, c1, wn, h0, bne_self_eq_false]
      · rw [hu, if_pos rfl] at h0
        rw [Bool.true_and]
        simp only [SS, insA, wantedA, Opd.ev, putA, binA, eqbA, unA, fldA, partA, reduceIte, reduceCtorEq, Nat.reduceMod, Nat.reduceDiv, Nat.reduceBEq, resultA, resA, vI, Nat.reduceMul, Nat.reduceAdd, Nat.reduceSub, Nat.reduceEqDiff, Nat.reduceLT, Nat.reducePow, Nat.reduceLeDiff, st, Option.bind_eq_bind, Option.pure_def, List.length_nil, Int.cast_ofNat_Int, List.reverse_nil, Int.ofNat_zero] at h0
        simp only [F49L1b, F49T0, in49_0, SS, insA, wantedA, Opd.ev, putA, binA, eqbA, unA, fldA, partA, reduceIte, reduceCtorEq, Nat.reduceMod, Nat.reduceDiv, Nat.reduceBEq, resultA, resA, vI, Nat.reduceMul, Nat.reduceAdd, Nat.reduceSub, Nat.reduceEqDiff, Nat.reduceLT, Nat.reducePow, Nat.reduceLeDiff, st, Option.bind_eq_bind, Option.pure_def, List.length_nil, Int.cast_ofNat_Int, List.reverse_nil, UU, idxP, cellsAt, storeA, fillA, zerosA, putAll, optNat, sliceA, row, Int.reduceLT, Int.reduceLE, Int.reduceGT, Int.reduceGE, Int.reduceEq, Int.reduceNe, Int.reduceToNat, Int.reduceBEq, Int.reduceBNe, Nat.reduceLeDiff, Nat.reduceLT, Nat.reduceBNe, Nat.reduceGT, List.drop_nil, List.take_nil, Option.isSome_none, Int.ofNat_one, Int.ofNat_zero, hc, ht.idx k1, ht.load k1, hlen, c1, wn, h0, bne_self_eq_false, hww, ih]
    · have c1' : ((h[i].length : Int) != ((n + 1 : Nat) : Int)) = true := by simp; omega
      rw [decide_eq_false c1, Bool.false_and, Bool.false_and, if_neg (by decide)]
      simp only [F49L1b, F49T0, in49_0, SS, insA, wantedA, Opd.ev, putA, binA, eqbA, unA, fldA, partA, reduceIte, reduceCtorEq, Nat.reduceMod, Nat.reduceDiv, Nat.reduceBEq, resultA, resA, vI, Nat.reduceMul, Nat.reduceAdd, Nat.reduceSub, Nat.reduceEqDiff, Nat.reduceLT, Nat.reducePow, Nat.reduceLeDiff, st, Option.bind_eq_bind, Option.pure_def, List.length_nil, Int.cast_ofNat_Int, List.reverse_nil, UU, idxP, cellsAt, storeA, fillA, zerosA, putAll, optNat, sliceA, row, Int.reduceLT, Int.reduceLE, Int.reduceGT, Int.reduceGE, Int.reduceEq, Int.reduceNe, Int.reduceToNat, Int.reduceBEq, Int.reduceBNe, Nat.reduceLeDiff, Nat.reduceLT, Nat.reduceBNe, Nat.reduceGT, List.drop_nil, List.take_nil, Option.isSome_none, Int.ofNat_one, Int.ofNat_zero, hc, ht.idx k1, ht.load k1, hlen, wn, c1']

theorem L42_0 {hv : AV} {h : List (List Int)} {n i : Nat} (ht : IsTab hv h) (h5 : n ≤ 5) (hit : i < h.length) (hr : h[i].length = n + 1) (d : Nat) : ∀ (j : Nat), j + d = n + 1 →
    lp EV Y F42L0 (sp 182 [(5, vI j), (4, vI i), (3, vI n), (0, hv)]) H =
      if rowIn n h i j d = true then some (.x 2, sp 182 [(4, vI i), (3, vI n), (0, hv)], H) else some (.r, sp 182 [(2, .bool false)], H) := by
  have r1 := ht.row hit
  rw [getD_get hit] at r1
  induction d with
  | zero =>
    intro j hj
    have : ¬ ((j : Int) ≤ (n : Int)) := by omega
    rw [un42_0, if_pos (show rowIn n h i j 0 = true from rfl)]
    simp only [F42L0b, SS, insA, wantedA, Opd.ev, putA, binA, eqbA, unA, fldA, partA, reduceIte, reduceCtorEq, Nat.reduceMod, Nat.reduceDiv, Nat.reduceBEq, resultA, resA, vI, Nat.reduceMul, Nat.reduceAdd, Nat.reduceSub, Nat.reduceEqDiff, Nat.reduceLT, Nat.reducePow, Nat.reduceLeDiff, st, Option.bind_eq_bind, Option.pure_def, List.length_nil, Int.cast_ofNat_Int, List.reverse_nil, UU, idxP, cellsAt, storeA, fillA, zerosA, putAll, optNat, sliceA, row, Int.reduceLT, Int.reduceLE, Int.reduceGT, Int.reduceGE, Int.reduceEq, Int.reduceNe, Int.reduceToNat, Int.reduceBEq, Int.reduceBNe, Nat.reduceLeDiff, Nat.reduceLT, Nat.reduceBNe, Nat.reduceGT, List.drop_nil, List.take_nil, Option.isSome_none, Int.ofNat_one, Int.ofNat_zero, this]
  | succ d ih =>
    intro j hj
    have hc : (j : Int) ≤ (n : Int) := by omega
    have hww := wrap_succ (n := j) (by omega)
    have j1 : j < h[i].length := by omega
    have g1 : h[i].getD j 0 = at2 h i j := by unfold at2; rw [getD_get hit]
    have ih := ih (j + 1) (by omega)
    have hrow : rowIn n h i j (d + 1) = (decide (0 ≤ at2 h i j ∧ at2 h i j ≤ n) && rowIn n h i (j + 1) d) := by simp only [rowIn, List.range'_succ, List.all_cons]
    rw [un42_0, hrow]
    simp only [SS, insA, wantedA, Opd.ev, putA, binA, eqbA, unA, fldA, partA, reduceIte, reduceCtorEq, Nat.reduceMod, Nat.reduceDiv, Nat.reduceBEq, resultA, resA, vI, Nat.reduceMul, Nat.reduceAdd, Nat.reduceSub, Nat.reduceEqDiff, Nat.reduceLT, Nat.reducePow, Nat.reduceLeDiff, st, Option.bind_eq_bind, Option.pure_def, List.length_nil, Int.cast_ofNat_Int, List.reverse_nil] at ih
    by_cases c1 : at2 h i j < 0
    · rw [decide_eq_false (by omega), Bool.false_and, if_neg (by decide)]
      simp only [F42L0b, SS, insA, wantedA, Opd.ev, putA, binA, eqbA, unA, fldA, partA, reduceIte, reduceCtorEq, Nat.reduceMod, Nat.reduceDiv, Nat.reduceBEq, resultA, resA, vI, Nat.reduceMul, Nat.reduceAdd, Nat.reduceSub, Nat.reduceEqDiff, Nat.reduceLT, Nat.reducePow, Nat.reduceLeDiff, st, Option.bind_eq_bind, Option.pure_def, List.length_nil, Int.cast_ofNat_Int, List.reverse_nil, UU, idxP, cellsAt, storeA, fillA, zerosA, putAll, optNat, sliceA, row, Int.reduceLT, Int.reduceLE, Int.reduceGT, Int.reduceGE, Int.reduceEq, Int.reduceNe, Int.reduceToNat, Int.reduceBEq, Int.reduceBNe, Nat.reduceLeDiff, Nat.reduceLT, Nat.reduceBNe, Nat.reduceGT, List.drop_nil, List.take_nil, Option.isSome_none, Int.ofNat_one, Int.ofNat_zero, hc, ht.idx hit, ht.load hit, r1.idx j1, r1.load j1, g1, c1]
    · by_cases c2 : at2 h i j > n
      · rw [decide_eq_false (by omega), Bool.false_and, if_neg (by decide)]
        simp only [F42L0b, SS, insA, wantedA, Opd.ev, putA, binA, eqbA, unA, fldA, partA, reduceIte, reduceCtorEq, Nat.reduceMod, Nat.reduceDiv, Nat.reduceBEq, resultA, resA, vI, Nat.reduceMul, Nat.reduceAdd, Nat.reduceSub, Nat.reduceEqDiff, Nat.reduceLT, Nat.reducePow, Nat.reduceLeDiff, st, Option.bind_eq_bind, Option.pure_def, List.length_nil, Int.cast_ofNat_Int, List.reverse_nil, UU, idxP, cellsAt, storeA, fillA, zerosA, putAll, optNat, sliceA, row, Int.reduceLT, Int.reduceLE, Int.reduceGT, Int.reduceGE, Int.reduceEq, Int.reduceNe, Int.reduceToNat, Int.reduceBEq, Int.reduceBNe, Nat.reduceLeDiff, Nat.reduceLT, Nat.reduceBNe, Nat.reduceGT, List.drop_nil, List.take_nil, Option.isSome_none, Int.ofNat_one, Int.ofNat_zero, hc, ht.idx hit, ht.load hit, r1.idx j1, r1.load j1, g1, c1, c2]
      · rw [decide_eq_true (by omega), Bool.true_and]
        simp only [F42L0b, SS, insA, wantedA, Opd.ev, putA, binA, eqbA, unA, fldA, partA, reduceIte, reduceCtorEq, Nat.reduceMod, Nat.reduceDiv, Nat.reduceBEq, resultA, resA, vI, Nat.reduceMul, Nat.reduceAdd, Nat.reduceSub, Nat.reduceEqDiff, Nat.reduceLT, Nat.reducePow, Nat.reduceLeDiff, st, Option.bind_eq_bind, Option.pure_def, List.length_nil, Int.cast_ofNat_Int, List.reverse_nil, UU, idxP, cellsAt, storeA, fillA, zerosA, putAll, optNat, sliceA, row, Int.reduceLT, Int.reduceLE, Int.reduceGT, Int.reduceGE, Int.reduceEq, Int.reduceNe, Int.reduceToNat, Int.reduceBEq, Int.reduceBNe, Nat.reduceLeDiff, Nat.reduceLT, Nat.reduceBNe, Nat.reduceGT, List.drop_nil, List.take_nil, Option.isSome_none, Int.ofNat_one, Int.ofNat_zero, hc, ht.idx hit, ht.load hit, r1.idx j1, r1.load j1, g1, c1, c2, hww, ih]

theorem L42_1 {hv : AV} {h : List (List Int)} {n : Nat} (ht : IsTab hv h) (h5 : n ≤ 5) (hl : h.length = n + 1) (d : Nat) : ∀ (i : Nat), i + d = n + 1 →
    lp EV Y F42L1 (sp 182 [(4, vI i), (3, vI n), (0, hv)]) H =
      if rowsIn n n h i d = true then some (.x 0, sp 182 [(3, vI n), (0, hv)], H) else some (.r, sp 182 [(2, .bool false)], H) := by
  induction d with
  | zero =>
    intro i hi
    have : ¬ ((i : Int) ≤ (n : Int)) := by omega
    rw [un42_1, if_pos (show rowsIn n n h i 0 = true from rfl)]
    simp only [F42L1b, SS, insA, wantedA, Opd.ev, putA, binA, eqbA, unA, fldA, partA, reduceIte, reduceCtorEq, Nat.reduceMod, Nat.reduceDiv, Nat.reduceBEq, resultA, resA, vI, Nat.reduceMul, Nat.reduceAdd, Nat.reduceSub, Nat.reduceEqDiff, Nat.reduceLT, Nat.reducePow, Nat.reduceLeDiff, st, Option.bind_eq_bind, Option.pure_def, List.length_nil, Int.cast_ofNat_Int, List.reverse_nil, UU, idxP, cellsAt, storeA, fillA, zerosA, putAll, optNat, sliceA, row, Int.reduceLT, Int.reduceLE, Int.reduceGT, Int.reduceGE, Int.reduceEq, Int.reduceNe, Int.reduceToNat, Int.reduceBEq, Int.reduceBNe, Nat.reduceLeDiff, Nat.reduceLT, Nat.reduceBNe, Nat.reduceGT, List.drop_nil, List.take_nil, Option.isSome_none, Int.ofNat_one, Int.ofNat_zero, this]
  | succ d ih =>
    intro i hi
    have k1 : i < h.length := by omega
    have hc : (i : Int) ≤ (n : Int) := by omega
    have hww := wrap_succ (n := i) (by omega)
    have wn : IntKind.wrap .i64 ((n : Int) + 1) = ((n + 1 : Nat) : Int) := wrap_succ (by omega)
    have r1 := ht.row k1
    rw [getD_get k1] at r1
    have hlen : lenA (cellAt hv i) = some h[i].length := r1.len
    have ih := ih (i + 1) (by omega)
    have hok : rowsIn n n h i (d + 1) = (decide (h[i].length = n + 1) && rowIn n h i 0 (n + 1) && rowsIn n n h (i + 1) d) := by simp only [rowsIn, List.range'_succ, List.all_cons, getD_get k1]
    rw [un42_1, hok]
    simp only [SS, insA, wantedA, Opd.ev, putA, binA, eqbA, unA, fldA, partA, reduceIte, reduceCtorEq, Nat.reduceMod, Nat.reduceDiv, Nat.reduceBEq, resultA, resA, vI, Nat.reduceMul, Nat.reduceAdd, Nat.reduceSub, Nat.reduceEqDiff, Nat.reduceLT, Nat.reducePow, Nat.reduceLeDiff, st, Option.bind_eq_bind, Option.pure_def, List.length_nil, Int.cast_ofNat_Int, List.reverse_nil] at ih
    by_cases c1 : h[i].length = n + 1
    · have h0 := L42_0 (Y := Y) (H := H) ht h5 k1 c1 (n + 1) 0 (by omega)
      rw [decide_eq_true c1, Bool.true_and]
      cases hu : rowIn n h i 0 (n + 1)
      · rw [hu, if_neg (by decide)] at h0
        rw [Bool.false_and, if_neg (by decide)]
        simp only [SS, insA, wantedA, Opd.ev, putA, binA, eqbA, unA, fldA, partA, reduceIte, reduceCtorEq, Nat.reduceMod, Nat.reduceDiv, Nat.reduceBEq, resultA, resA, vI, Nat.reduceMul, Nat.reduceAdd, Nat.reduceSub, Nat.reduceEqDiff, Nat.reduceLT, Nat.reducePow, Nat.reduceLeDiff, st, Option.bind_eq_bind, Option.pure_def, List.length_nil, Int.cast_ofNat_Int, List.reverse_nil, Int.ofNat_zero] at h0
        simp only [F42L1b, F42T0, in42_0, SS, insA, wantedA, Opd.ev, putA, binA, eqbA, unA, fldA, partA, reduceIte, reduceCtorEq, Nat.reduceMod, Nat.reduceDiv, Nat.reduceBEq, resultA, resA, vI, Nat.reduceMul, Nat.reduceAdd, Nat.reduceSub, Nat.reduceEqDiff, Nat.reduceLT, Nat.reducePow, Nat.reduceLeDiff, st, Option.bind_eq_bind, Option.pure_def, List.length_nil, Int.cast_ofNat_Int, List.reverse_nil, UU, idxP, cellsAt, storeA, fillA, zerosA, putAll, optNat, sliceA, row, Int.reduceLT, Int.reduceLE, Int.reduceGT, Int.reduceGE, Int.reduceEq, Int.reduceNe, Int.reduceToNat, Int.reduceBEq, Int.reduceBNe, Nat.reduceLeDiff, Nat.reduceLT, Nat.reduceBNe, Nat.reduceGT, List.drop_nil, List.take_nil, Option.isSome_none, Int.ofNat_one, Int.ofNat_zero, hc, ht.idx k1, ht.load k1, hlen, c1, wn, h0, bne_self_eq_false]
      · rw [hu, if_pos rfl] at h0
        rw [Bool.true_and]
        simp only [SS, insA, wantedA, Opd.ev, putA, binA, eqbA, unA, fldA, partA, reduceIte, reduceCtorEq, Nat.reduceMod, Nat.reduceDiv, Nat.reduceBEq, resultA, resA, vI, Nat.reduceMul, Nat.reduceAdd, Nat.reduceSub, Nat.reduceEqDiff, Nat.reduceLT, Nat.reducePow, Nat.reduceLeDiff, st, Option.bind_eq_bind, Option.pure_def, List.length_nil, Int.cast_ofNat_Int, List.reverse_nil, Int.ofNat_zero] at h0
        simp only [F42L1b, F42T0, in42_0, SS, insA, wantedA, Opd.ev, putA, binA, eqbA, unA, fldA, partA, reduceIte, reduceCtorEq, Nat.reduceMod, Nat.reduceDiv, Nat.reduceBEq, resultA, resA, vI, Nat.reduceMul, Nat.reduceAdd, Nat.reduceSub, Nat.reduceEqDiff, Nat.reduceLT, Nat.reducePow, Nat.reduceLeDiff, st, Option.bind_eq_bind, Option.pure_def, List.length_nil, Int.cast_ofNat_Int, List.reverse_nil, UU, idxP, cellsAt, storeA, fillA, zerosA, putAll, optNat, sliceA, row, Int.reduceLT, Int.reduceLE, Int.reduceGT, Int.reduceGE, Int.reduceEq, Int.reduceNe, Int.reduceToNat, Int.reduceBEq, Int.reduceBNe, Nat.reduceLeDiff, Nat.reduceLT, Nat.reduceBNe, Nat.reduceGT, List.drop_nil, List.take_nil, Option.isSome_none, Int.ofNat_one, Int.ofNat_zero, hc, ht.idx k1, ht.load k1, hlen, c1, wn, h0, bne_self_eq_false, hww, ih]
    · have c1' : ((h[i].length : Int) != ((n + 1 : Nat) : Int)) = true := by simp; omega
      rw [decide_eq_false c1, Bool.false_and, Bool.false_and, if_neg (by decide)]
      simp only [F42L1b, F42T0, in42_0, SS, insA, wantedA, Opd.ev, putA, binA, eqbA, unA, fldA, partA, reduceIte, reduceCtorEq, Nat.reduceMod, Nat.reduceDiv, Nat.reduceBEq, resultA, resA, vI, Nat.reduceMul, Nat.reduceAdd, Nat.reduceSub, Nat.reduceEqDiff, Nat.reduceLT, Nat.reducePow, Nat.reduceLeDiff, st, Option.bind_eq_bind, Option.pure_def, List.length_nil, Int.cast_ofNat_Int, List.reverse_nil, UU, idxP, cellsAt, storeA, fillA, zerosA, putAll, optNat, sliceA, row, Int.reduceLT, Int.reduceLE, Int.reduceGT, Int.reduceGE, Int.reduceEq, Int.reduceNe, Int.reduceToNat, Int.reduceBEq, Int.reduceBNe, Nat.reduceLeDiff, Nat.reduceLT, Nat.reduceBNe, Nat.reduceGT, List.drop_nil, List.take_nil, Option.isSome_none, Int.ofNat_one, Int.ofNat_zero, hc, ht.idx k1, ht.load k1, hlen, wn, c1']
end
end Go.X
