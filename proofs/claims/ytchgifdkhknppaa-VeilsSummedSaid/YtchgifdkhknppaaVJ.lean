import Derived.Test.YtchgifdkhknppaaVI
/-! Veils: IsVeil of the specification; heights, both ways. -/
set_option linter.unusedSimpArgs false
set_option linter.unusedVariables false
set_option maxHeartbeats 4000000
set_option maxRecDepth 10000
namespace Go.X
open Go Go.RowKit
section
variable {Y : Run} {H : Heap}

/-! ### IsVeil of the specification -/
def unitB (l : List Int) : Bool := l.all fun x => decide (-1 ≤ x ∧ x ≤ 1)
theorem unitB_iff {l : List Int} : unitB l = true ↔ unitR l := by simp [unitB, unitR]

theorem L26_0 {vt : AV} {t : List (List Int)} {n i : Nat} (ht : IsTab vt t) (hi : i < t.length) (hl : t[i].length = n) (hn : n ≤ 20) (d : Nat) : ∀ (k : Nat), k + d = n →
    lp EV Y F26L0 (sp 101 [(5, vI k), (4, vI i), (3, vI n), (0, vt)]) H = if unitB (t[i].drop k) = true then some (.x 2, sp 101 [(4, vI i), (3, vI n), (0, vt)], H) else some (.r, sp 101 [(2, .bool false)], H) := by
  have r1 := ht.row hi
  rw [getD_get hi] at r1
  induction d with
  | zero =>
    intro k hk
    rw [un26_0, List.drop_eq_nil_of_le (by omega), if_pos (show unitB [] = true from rfl)]
    have : ¬ ((k : Int) < (n : Int)) := by omega
    simp only [F26L0b, SS, insA, wantedA, Opd.ev, putA, binA, eqbA, unA, fldA, partA, reduceIte, reduceCtorEq, Nat.reduceMod, Nat.reduceDiv, Nat.reduceBEq, resultA, resA, vI, Nat.reduceMul, Nat.reduceAdd, Nat.reduceSub, Nat.reduceEqDiff, Nat.reduceLT, Nat.reducePow, Nat.reduceLeDiff, st, Option.bind_eq_bind, Option.pure_def, List.length_nil, Int.cast_ofNat_Int, List.reverse_nil, UU, idxP, cellsAt, storeA, fillA, zerosA, putAll, optNat, sliceA, row, Int.reduceLT, Int.reduceLE, Int.reduceGT, Int.reduceGE, Int.reduceEq, Int.reduceNe, Int.reduceToNat, Int.reduceBEq, Int.reduceBNe, Nat.reduceLeDiff, Nat.reduceLT, Nat.reduceBNe, Nat.reduceGT, List.drop_nil, List.take_nil, Option.isSome_none, Int.ofNat_one, Int.ofNat_zero, this]
  | succ d ih =>
    intro k hk
    have k1 : k < t[i].length := by omega
    have hc : (k : Int) < (n : Int) := by omega
    have hww := wrap_succ (n := k) (by omega)
    have g1 : t[i].getD k 0 = t[i][k] := getD_get k1
    have ih := ih (k + 1) (by omega)
    rw [un26_0, List.drop_eq_getElem_cons k1]
    have hok : unitB (t[i][k] :: t[i].drop (k + 1)) = (decide (-1 ≤ t[i][k] ∧ t[i][k] ≤ 1) && unitB (t[i].drop (k + 1))) := rfl
    rw [hok]
    by_cases c1 : t[i][k] < -1
    · rw [decide_eq_false (by omega), Bool.false_and, if_neg (by decide)]
      simp only [F26L0b, SS, insA, wantedA, Opd.ev, putA, binA, eqbA, unA, fldA, partA, reduceIte, reduceCtorEq, Nat.reduceMod, Nat.reduceDiv, Nat.reduceBEq, resultA, resA, vI, Nat.reduceMul, Nat.reduceAdd, Nat.reduceSub, Nat.reduceEqDiff, Nat.reduceLT, Nat.reducePow, Nat.reduceLeDiff, st, Option.bind_eq_bind, Option.pure_def, List.length_nil, Int.cast_ofNat_Int, List.reverse_nil, UU, idxP, cellsAt, storeA, fillA, zerosA, putAll, optNat, sliceA, row, Int.reduceLT, Int.reduceLE, Int.reduceGT, Int.reduceGE, Int.reduceEq, Int.reduceNe, Int.reduceToNat, Int.reduceBEq, Int.reduceBNe, Nat.reduceLeDiff, Nat.reduceLT, Nat.reduceBNe, Nat.reduceGT, List.drop_nil, List.take_nil, Option.isSome_none, Int.ofNat_one, Int.ofNat_zero, hc, ht.idx hi, ht.load hi, r1.idx k1, r1.load k1, g1, c1]
    · by_cases c2 : t[i][k] > 1
      · rw [decide_eq_false (by omega), Bool.false_and, if_neg (by decide)]
        simp only [F26L0b, SS, insA, wantedA, Opd.ev, putA, binA, eqbA, unA, fldA, partA, reduceIte, reduceCtorEq, Nat.reduceMod, Nat.reduceDiv, Nat.reduceBEq, resultA, resA, vI, Nat.reduceMul, Nat.reduceAdd, Nat.reduceSub, Nat.reduceEqDiff, Nat.reduceLT, Nat.reducePow, Nat.reduceLeDiff, st, Option.bind_eq_bind, Option.pure_def, List.length_nil, Int.cast_ofNat_Int, List.reverse_nil, UU, idxP, cellsAt, storeA, fillA, zerosA, putAll, optNat, sliceA, row, Int.reduceLT, Int.reduceLE, Int.reduceGT, Int.reduceGE, Int.reduceEq, Int.reduceNe, Int.reduceToNat, Int.reduceBEq, Int.reduceBNe, Nat.reduceLeDiff, Nat.reduceLT, Nat.reduceBNe, Nat.reduceGT, List.drop_nil, List.take_nil, Option.isSome_none, Int.ofNat_one, Int.ofNat_zero, hc, ht.idx hi, ht.load hi, r1.idx k1, r1.load k1, g1, c1, c2]
      · rw [decide_eq_true (by omega), Bool.true_and]
        simp only [SS, insA, wantedA, Opd.ev, putA, binA, eqbA, unA, fldA, partA, reduceIte, reduceCtorEq, Nat.reduceMod, Nat.reduceDiv, Nat.reduceBEq, resultA, resA, vI, Nat.reduceMul, Nat.reduceAdd, Nat.reduceSub, Nat.reduceEqDiff, Nat.reduceLT, Nat.reducePow, Nat.reduceLeDiff, st, Option.bind_eq_bind, Option.pure_def, List.length_nil, Int.cast_ofNat_Int, List.reverse_nil] at ih
        simp only [F26L0b, SS, insA, wantedA, Opd.ev, putA, binA, eqbA, unA, fldA, partA, reduceIte, reduceCtorEq, Nat.reduceMod, Nat.reduceDiv, Nat.reduceBEq, resultA, resA, vI, Nat.reduceMul, Nat.reduceAdd, Nat.reduceSub, Nat.reduceEqDiff, Nat.reduceLT, Nat.reducePow, Nat.reduceLeDiff, st, Option.bind_eq_bind, Option.pure_def, List.length_nil, Int.cast_ofNat_Int, List.reverse_nil, UU, idxP, cellsAt, storeA, fillA, zerosA, putAll, optNat, sliceA, row, Int.reduceLT, Int.reduceLE, Int.reduceGT, Int.reduceGE, Int.reduceEq, Int.reduceNe, Int.reduceToNat, Int.reduceBEq, Int.reduceBNe, Nat.reduceLeDiff, Nat.reduceLT, Nat.reduceBNe, Nat.reduceGT, List.drop_nil, List.take_nil, Option.isSome_none, Int.ofNat_one, Int.ofNat_zero, hc, ht.idx hi, ht.load hi, r1.idx k1, r1.load k1, g1, c1, c2, hww, ih]

def rowsB (n : Nat) (t : List (List Int)) : Bool := t.all fun r => decide (r.length = n) && unitB r

theorem L26_1 {vt : AV} {t : List (List Int)} {n : Nat} (ht : IsTab vt t) (hn : n ≤ 20) (hnt : n = t.length) (d : Nat) : ∀ (i : Nat), i + d = n →
    lp EV Y F26L1 (sp 101 [(4, vI i), (3, vI n), (0, vt)]) H = if rowsB n (t.drop i) = true then some (.x 0, sp 101 [(3, vI n), (0, vt)], H) else some (.r, sp 101 [(2, .bool false)], H) := by
  induction d with
  | zero =>
    intro i hi
    rw [un26_1, List.drop_eq_nil_of_le (by omega), if_pos (show rowsB n [] = true from rfl)]
    have : ¬ ((i : Int) < (n : Int)) := by omega
    simp only [F26L1b, SS, insA, wantedA, Opd.ev, putA, binA, eqbA, unA, fldA, partA, reduceIte, reduceCtorEq, Nat.reduceMod, Nat.reduceDiv, Nat.reduceBEq, resultA, resA, vI, Nat.reduceMul, Nat.reduceAdd, Nat.reduceSub, Nat.reduceEqDiff, Nat.reduceLT, Nat.reducePow, Nat.reduceLeDiff, st, Option.bind_eq_bind, Option.pure_def, List.length_nil, Int.cast_ofNat_Int, List.reverse_nil, UU, idxP, cellsAt, storeA, fillA, zerosA, putAll, optNat, sliceA, row, Int.reduceLT, Int.reduceLE, Int.reduceGT, Int.reduceGE, Int.reduceEq, Int.reduceNe, Int.reduceToNat, Int.reduceBEq, Int.reduceBNe, Nat.reduceLeDiff, Nat.reduceLT, Nat.reduceBNe, Nat.reduceGT, List.drop_nil, List.take_nil, Option.isSome_none, Int.ofNat_one, Int.ofNat_zero, this]
  | succ d ih =>
    intro i hi
    have k1 : i < t.length := by omega
    have hc : (i : Int) < (n : Int) := by omega
    have hww := wrap_succ (n := i) (by omega)
    have r1 := ht.row k1
    rw [getD_get k1] at r1
    have ih := ih (i + 1) (by omega)
    rw [un26_1, List.drop_eq_getElem_cons k1]
    have hok : rowsB n (t[i] :: t.drop (i + 1)) = ((decide (t[i].length = n) && unitB t[i]) && rowsB n (t.drop (i + 1))) := rfl
    rw [hok]
    by_cases c1 : t[i].length = n
    · have c1' : ((t[i].length : Int) != (n : Int)) = false := by simp [c1]
      have h0 := L26_0 (Y := Y) (H := H) ht k1 c1 hn n 0 (by omega)
      rw [List.drop_zero] at h0
      rw [decide_eq_true c1, Bool.true_and]
      cases hu : unitB t[i]
      · rw [hu] at h0
        simp only [SS, insA, wantedA, Opd.ev, putA, binA, eqbA, unA, fldA, partA, reduceIte, reduceCtorEq, Nat.reduceMod, Nat.reduceDiv, Nat.reduceBEq, resultA, resA, vI, Nat.reduceMul, Nat.reduceAdd, Nat.reduceSub, Nat.reduceEqDiff, Nat.reduceLT, Nat.reducePow, Nat.reduceLeDiff, st, Option.bind_eq_bind, Option.pure_def, List.length_nil, Int.cast_ofNat_Int, List.reverse_nil, Int.ofNat_zero, Bool.false_eq_true] at h0
        simp only [F26L1b, F26T0, in26_0, SS, insA, wantedA, Opd.ev, putA, binA, eqbA, unA, fldA, partA, reduceIte, reduceCtorEq, Nat.reduceMod, Nat.reduceDiv, Nat.reduceBEq, resultA, resA, vI, Nat.reduceMul, Nat.reduceAdd, Nat.reduceSub, Nat.reduceEqDiff, Nat.reduceLT, Nat.reducePow, Nat.reduceLeDiff, st, Option.bind_eq_bind, Option.pure_def, List.length_nil, Int.cast_ofNat_Int, List.reverse_nil, UU, idxP, cellsAt, storeA, fillA, zerosA, putAll, optNat, sliceA, row, Int.reduceLT, Int.reduceLE, Int.reduceGT, Int.reduceGE, Int.reduceEq, Int.reduceNe, Int.reduceToNat, Int.reduceBEq, Int.reduceBNe, Nat.reduceLeDiff, Nat.reduceLT, Nat.reduceBNe, Nat.reduceGT, List.drop_nil, List.take_nil, Option.isSome_none, Int.ofNat_one, Int.ofNat_zero, hc, ht.idx k1, ht.load k1, r1.len, c1', h0, Bool.false_and, Bool.false_eq_true]
      · rw [hu] at h0
        simp only [SS, insA, wantedA, Opd.ev, putA, binA, eqbA, unA, fldA, partA, reduceIte, reduceCtorEq, Nat.reduceMod, Nat.reduceDiv, Nat.reduceBEq, resultA, resA, vI, Nat.reduceMul, Nat.reduceAdd, Nat.reduceSub, Nat.reduceEqDiff, Nat.reduceLT, Nat.reducePow, Nat.reduceLeDiff, st, Option.bind_eq_bind, Option.pure_def, List.length_nil, Int.cast_ofNat_Int, List.reverse_nil, Int.ofNat_zero] at h0 ih
        simp only [F26L1b, F26T0, in26_0, SS, insA, wantedA, Opd.ev, putA, binA, eqbA, unA, fldA, partA, reduceIte, reduceCtorEq, Nat.reduceMod, Nat.reduceDiv, Nat.reduceBEq, resultA, resA, vI, Nat.reduceMul, Nat.reduceAdd, Nat.reduceSub, Nat.reduceEqDiff, Nat.reduceLT, Nat.reducePow, Nat.reduceLeDiff, st, Option.bind_eq_bind, Option.pure_def, List.length_nil, Int.cast_ofNat_Int, List.reverse_nil, UU, idxP, cellsAt, storeA, fillA, zerosA, putAll, optNat, sliceA, row, Int.reduceLT, Int.reduceLE, Int.reduceGT, Int.reduceGE, Int.reduceEq, Int.reduceNe, Int.reduceToNat, Int.reduceBEq, Int.reduceBNe, Nat.reduceLeDiff, Nat.reduceLT, Nat.reduceBNe, Nat.reduceGT, List.drop_nil, List.take_nil, Option.isSome_none, Int.ofNat_one, Int.ofNat_zero, hc, ht.idx k1, ht.load k1, r1.len, c1', h0, hww, ih, Bool.true_and]
    · have c1' : ((t[i].length : Int) != (n : Int)) = true := by simp; omega
      rw [decide_eq_false c1, Bool.false_and, Bool.false_and, if_neg (by decide)]
      simp only [F26L1b, F26T0, in26_0, SS, insA, wantedA, Opd.ev, putA, binA, eqbA, unA, fldA, partA, reduceIte, reduceCtorEq, Nat.reduceMod, Nat.reduceDiv, Nat.reduceBEq, resultA, resA, vI, Nat.reduceMul, Nat.reduceAdd, Nat.reduceSub, Nat.reduceEqDiff, Nat.reduceLT, Nat.reducePow, Nat.reduceLeDiff, st, Option.bind_eq_bind, Option.pure_def, List.length_nil, Int.cast_ofNat_Int, List.reverse_nil, UU, idxP, cellsAt, storeA, fillA, zerosA, putAll, optNat, sliceA, row, Int.reduceLT, Int.reduceLE, Int.reduceGT, Int.reduceGE, Int.reduceEq, Int.reduceNe, Int.reduceToNat, Int.reduceBEq, Int.reduceBNe, Nat.reduceLeDiff, Nat.reduceLT, Nat.reduceBNe, Nat.reduceGT, List.drop_nil, List.take_nil, Option.isSome_none, Int.ofNat_one, Int.ofNat_zero, hc, ht.idx k1, ht.load k1, r1.len, c1']

/-- Both sums along a row and a column, place by place. -/
def runP (a b : Int) : List (Int × Int) → Option (Int × Int)
  | [] => some (a, b)
  | (x, y) :: l => if a + x < 0 ∨ a + x > 1 ∨ b + y < 0 ∨ b + y > 1 then none else runP (a + x) (b + y) l
def crossL (t : List (List Int)) (i : Nat) (l : List Nat) : List (Int × Int) := l.map fun k => ((t.getD i []).getD k 0, (t.getD k []).getD i 0)

theorem L26_2 {vt : AV} {t : List (List Int)} {n i : Nat} (ht : IsTab vt t) (hn : n ≤ 20) (hnt : n = t.length) (hr : ∀ r ∈ t, r.length = n) (hu : unitT t) (hi : i < n) (d : Nat) : ∀ (k : Nat) (a b : Int), k + d = n → 0 ≤ a ∧ a ≤ 1 → 0 ≤ b ∧ b ≤ 1 →
    lp EV Y F26L2 (sp 101 [(9, vI k), (8, vI b), (7, vI a), (6, vI i), (3, vI n), (0, vt)]) H = match runP a b (crossL t i (List.range' k d)) with
      | some (x, y) => some (.x 6, sp 101 [(8, vI y), (7, vI x), (6, vI i), (3, vI n), (0, vt)], H)
      | none => some (.r, sp 101 [(2, .bool false)], H) := by
  have hit : i < t.length := by omega
  have ri := ht.row hit
  rw [getD_get hit] at ri
  have hli : t[i].length = n := hr _ (by simp)
  induction d with
  | zero =>
    intro k a b hk ha hb
    have : ¬ ((k : Int) < (n : Int)) := by omega
    rw [un26_2]
    simp only [F26L2b, SS, insA, wantedA, Opd.ev, putA, binA, eqbA, unA, fldA, partA, reduceIte, reduceCtorEq, Nat.reduceMod, Nat.reduceDiv, Nat.reduceBEq, resultA, resA, vI, Nat.reduceMul, Nat.reduceAdd, Nat.reduceSub, Nat.reduceEqDiff, Nat.reduceLT, Nat.reducePow, Nat.reduceLeDiff, st, Option.bind_eq_bind, Option.pure_def, List.length_nil, Int.cast_ofNat_Int, List.reverse_nil, UU, idxP, cellsAt, storeA, fillA, zerosA, putAll, optNat, sliceA, row, Int.reduceLT, Int.reduceLE, Int.reduceGT, Int.reduceGE, Int.reduceEq, Int.reduceNe, Int.reduceToNat, Int.reduceBEq, Int.reduceBNe, Nat.reduceLeDiff, Nat.reduceLT, Nat.reduceBNe, Nat.reduceGT, List.drop_nil, List.take_nil, Option.isSome_none, Int.ofNat_one, Int.ofNat_zero, this, List.range'_zero, crossL, List.map_nil, runP]
  | succ d ih =>
    intro k a b hk ha hb
    have k1 : k < t.length := by omega
    have hc : (k : Int) < (n : Int) := by omega
    have hww := wrap_succ (n := k) (by omega)
    have rk := ht.row k1
    rw [getD_get k1] at rk
    have hlk : t[k].length = n := hr _ (by simp)
    have kk : k < t[i].length := by omega
    have ii : i < t[k].length := by omega
    have g1 : (t.getD i []).getD k 0 = t[i][k] := by rw [getD_get hit, getD_get kk]
    have g2 : (t.getD k []).getD i 0 = t[k][i] := by rw [getD_get k1, getD_get ii]
    have g3 : t[i].getD k 0 = t[i][k] := getD_get kk
    have g4 : t[k].getD i 0 = t[k][i] := getD_get ii
    have b1 := hu t[i] (by simp) t[i][k] (by simp)
    have b2 := hu t[k] (by simp) t[k][i] (by simp)
    have w1 : IntKind.wrap .i64 (a + t[i][k]) = a + t[i][k] := wrap_id (by omega) (by omega)
    have w2 : IntKind.wrap .i64 (b + t[k][i]) = b + t[k][i] := wrap_id (by omega) (by omega)
    have e : crossL t i (List.range' k (d + 1)) = (t[i][k], t[k][i]) :: crossL t i (List.range' (k + 1) d) := by
      simp only [crossL, List.range'_succ, List.map_cons, g1, g2]
    have ih := ih (k + 1) (a + t[i][k]) (b + t[k][i]) (by omega)
    rw [un26_2, e]
    simp only [runP]
    by_cases c1 : a + t[i][k] < 0
    · simp only [F26L2b, SS, insA, wantedA, Opd.ev, putA, binA, eqbA, unA, fldA, partA, reduceIte, reduceCtorEq, Nat.reduceMod, Nat.reduceDiv, Nat.reduceBEq, resultA, resA, vI, Nat.reduceMul, Nat.reduceAdd, Nat.reduceSub, Nat.reduceEqDiff, Nat.reduceLT, Nat.reducePow, Nat.reduceLeDiff, st, Option.bind_eq_bind, Option.pure_def, List.length_nil, Int.cast_ofNat_Int, List.reverse_nil, UU, idxP, cellsAt, storeA, fillA, zerosA, putAll, optNat, sliceA, row, Int.reduceLT, Int.reduceLE, Int.reduceGT, Int.reduceGE, Int.reduceEq, Int.reduceNe, Int.reduceToNat, Int.reduceBEq, Int.reduceBNe, Nat.reduceLeDiff, Nat.reduceLT, Nat.reduceBNe, Nat.reduceGT, List.drop_nil, List.take_nil, Option.isSome_none, Int.ofNat_one, Int.ofNat_zero, hc, ht.idx hit, ht.load hit, ht.idx k1, ht.load k1, ri.idx kk, ri.load kk, rk.idx ii, rk.load ii, g3, g4, w1, w2, c1, true_or]
    · by_cases c2 : a + t[i][k] > 1
      · simp only [F26L2b, SS, insA, wantedA, Opd.ev, putA, binA, eqbA, unA, fldA, partA, reduceIte, reduceCtorEq, Nat.reduceMod, Nat.reduceDiv, Nat.reduceBEq, resultA, resA, vI, Nat.reduceMul, Nat.reduceAdd, Nat.reduceSub, Nat.reduceEqDiff, Nat.reduceLT, Nat.reducePow, Nat.reduceLeDiff, st, Option.bind_eq_bind, Option.pure_def, List.length_nil, Int.cast_ofNat_Int, List.reverse_nil, UU, idxP, cellsAt, storeA, fillA, zerosA, putAll, optNat, sliceA, row, Int.reduceLT, Int.reduceLE, Int.reduceGT, Int.reduceGE, Int.reduceEq, Int.reduceNe, Int.reduceToNat, Int.reduceBEq, Int.reduceBNe, Nat.reduceLeDiff, Nat.reduceLT, Nat.reduceBNe, Nat.reduceGT, List.drop_nil, List.take_nil, Option.isSome_none, Int.ofNat_one, Int.ofNat_zero, hc, ht.idx hit, ht.load hit, ht.idx k1, ht.load k1, ri.idx kk, ri.load kk, rk.idx ii, rk.load ii, g3, g4, w1, w2, c1, c2, true_or, or_true]
      · by_cases c3 : b + t[k][i] < 0
        · simp only [F26L2b, SS, insA, wantedA, Opd.ev, putA, binA, eqbA, unA, fldA, partA, reduceIte, reduceCtorEq, Nat.reduceMod, Nat.reduceDiv, Nat.reduceBEq, resultA, resA, vI, Nat.reduceMul, Nat.reduceAdd, Nat.reduceSub, Nat.reduceEqDiff, Nat.reduceLT, Nat.reducePow, Nat.reduceLeDiff, st, Option.bind_eq_bind, Option.pure_def, List.length_nil, Int.cast_ofNat_Int, List.reverse_nil, UU, idxP, cellsAt, storeA, fillA, zerosA, putAll, optNat, sliceA, row, Int.reduceLT, Int.reduceLE, Int.reduceGT, Int.reduceGE, Int.reduceEq, Int.reduceNe, Int.reduceToNat, Int.reduceBEq, Int.reduceBNe, Nat.reduceLeDiff, Nat.reduceLT, Nat.reduceBNe, Nat.reduceGT, List.drop_nil, List.take_nil, Option.isSome_none, Int.ofNat_one, Int.ofNat_zero, hc, ht.idx hit, ht.load hit, ht.idx k1, ht.load k1, ri.idx kk, ri.load kk, rk.idx ii, rk.load ii, g3, g4, w1, w2, c1, c2, c3, true_or, or_true]
        · by_cases c4 : b + t[k][i] > 1
          · simp only [F26L2b, SS, insA, wantedA, Opd.ev, putA, binA, eqbA, unA, fldA, partA, reduceIte, reduceCtorEq, Nat.reduceMod, Nat.reduceDiv, Nat.reduceBEq, resultA, resA, vI, Nat.reduceMul, Nat.reduceAdd, Nat.reduceSub, Nat.reduceEqDiff, Nat.reduceLT, Nat.reducePow, Nat.reduceLeDiff, st, Option.bind_eq_bind, Option.pure_def, List.length_nil, Int.cast_ofNat_Int, List.reverse_nil, UU, idxP, cellsAt, storeA, fillA, zerosA, putAll, optNat, sliceA, row, Int.reduceLT, Int.reduceLE, Int.reduceGT, Int.reduceGE, Int.reduceEq, Int.reduceNe, Int.reduceToNat, Int.reduceBEq, Int.reduceBNe, Nat.reduceLeDiff, Nat.reduceLT, Nat.reduceBNe, Nat.reduceGT, List.drop_nil, List.take_nil, Option.isSome_none, Int.ofNat_one, Int.ofNat_zero, hc, ht.idx hit, ht.load hit, ht.idx k1, ht.load k1, ri.idx kk, ri.load kk, rk.idx ii, rk.load ii, g3, g4, w1, w2, c1, c2, c3, c4, true_or, or_true]
          · have ih := ih (by omega) (by omega)
            simp only [SS, insA, wantedA, Opd.ev, putA, binA, eqbA, unA, fldA, partA, reduceIte, reduceCtorEq, Nat.reduceMod, Nat.reduceDiv, Nat.reduceBEq, resultA, resA, vI, Nat.reduceMul, Nat.reduceAdd, Nat.reduceSub, Nat.reduceEqDiff, Nat.reduceLT, Nat.reducePow, Nat.reduceLeDiff, st, Option.bind_eq_bind, Option.pure_def, List.length_nil, Int.cast_ofNat_Int, List.reverse_nil] at ih
            simp only [F26L2b, SS, insA, wantedA, Opd.ev, putA, binA, eqbA, unA, fldA, partA, reduceIte, reduceCtorEq, Nat.reduceMod, Nat.reduceDiv, Nat.reduceBEq, resultA, resA, vI, Nat.reduceMul, Nat.reduceAdd, Nat.reduceSub, Nat.reduceEqDiff, Nat.reduceLT, Nat.reducePow, Nat.reduceLeDiff, st, Option.bind_eq_bind, Option.pure_def, List.length_nil, Int.cast_ofNat_Int, List.reverse_nil, UU, idxP, cellsAt, storeA, fillA, zerosA, putAll, optNat, sliceA, row, Int.reduceLT, Int.reduceLE, Int.reduceGT, Int.reduceGE, Int.reduceEq, Int.reduceNe, Int.reduceToNat, Int.reduceBEq, Int.reduceBNe, Nat.reduceLeDiff, Nat.reduceLT, Nat.reduceBNe, Nat.reduceGT, List.drop_nil, List.take_nil, Option.isSome_none, Int.ofNat_one, Int.ofNat_zero, hc, ht.idx hit, ht.load hit, ht.idx k1, ht.load k1, ri.idx kk, ri.load kk, rk.idx ii, rk.load ii, g3, g4, w1, w2, c1, c2, c3, c4, hww, ih, or_self]

def sumsB (t : List (List Int)) (n i : Nat) : Bool := runP 0 0 (crossL t i (List.range n)) == some (1, 1)

theorem L26_3 {vt : AV} {t : List (List Int)} {n : Nat} (ht : IsTab vt t) (hn : n ≤ 20) (hnt : n = t.length) (hr : ∀ r ∈ t, r.length = n) (hu : unitT t) (d : Nat) : ∀ (i : Nat), i + d = n →
    lp EV Y F26L3 (sp 101 [(6, vI i), (3, vI n), (0, vt)]) H = if ((List.range' i d).all (sumsB t n)) = true then some (.x 4, sp 101 [], H) else some (.r, sp 101 [(2, .bool false)], H) := by
  induction d with
  | zero =>
    intro i hi
    have : ¬ ((i : Int) < (n : Int)) := by omega
    rw [un26_3]
    simp only [F26L3b, SS, insA, wantedA, Opd.ev, putA, binA, eqbA, unA, fldA, partA, reduceIte, reduceCtorEq, Nat.reduceMod, Nat.reduceDiv, Nat.reduceBEq, resultA, resA, vI, Nat.reduceMul, Nat.reduceAdd, Nat.reduceSub, Nat.reduceEqDiff, Nat.reduceLT, Nat.reducePow, Nat.reduceLeDiff, st, Option.bind_eq_bind, Option.pure_def, List.length_nil, Int.cast_ofNat_Int, List.reverse_nil, UU, idxP, cellsAt, storeA, fillA, zerosA, putAll, optNat, sliceA, row, Int.reduceLT, Int.reduceLE, Int.reduceGT, Int.reduceGE, Int.reduceEq, Int.reduceNe, Int.reduceToNat, Int.reduceBEq, Int.reduceBNe, Nat.reduceLeDiff, Nat.reduceLT, Nat.reduceBNe, Nat.reduceGT, List.drop_nil, List.take_nil, Option.isSome_none, Int.ofNat_one, Int.ofNat_zero, this, List.range'_zero, List.all_nil, if_true]
  | succ d ih =>
    intro i hi
    have hc : (i : Int) < (n : Int) := by omega
    have hww := wrap_succ (n := i) (by omega)
    have h0 := L26_2 (Y := Y) (H := H) ht hn hnt hr hu (show i < n by omega) n 0 0 0 (by omega) (by omega) (by omega)
    rw [← List.range_eq_range'] at h0
    have ih := ih (i + 1) (by omega)
    rw [un26_3, List.range'_succ, List.all_cons]
    unfold sumsB
    cases hrun : runP 0 0 (crossL t i (List.range n)) with
    | none =>
      rw [hrun] at h0
      simp only [SS, insA, wantedA, Opd.ev, putA, binA, eqbA, unA, fldA, partA, reduceIte, reduceCtorEq, Nat.reduceMod, Nat.reduceDiv, Nat.reduceBEq, resultA, resA, vI, Nat.reduceMul, Nat.reduceAdd, Nat.reduceSub, Nat.reduceEqDiff, Nat.reduceLT, Nat.reducePow, Nat.reduceLeDiff, st, Option.bind_eq_bind, Option.pure_def, List.length_nil, Int.cast_ofNat_Int, List.reverse_nil, Int.ofNat_zero] at h0
      have e : ((none : Option (Int × Int)) == some (1, 1)) = false := rfl
      rw [e, Bool.false_and, if_neg (by decide)]
      simp only [F26L3b, F26T1, F26T2, in26_2, SS, insA, wantedA, Opd.ev, putA, binA, eqbA, unA, fldA, partA, reduceIte, reduceCtorEq, Nat.reduceMod, Nat.reduceDiv, Nat.reduceBEq, resultA, resA, vI, Nat.reduceMul, Nat.reduceAdd, Nat.reduceSub, Nat.reduceEqDiff, Nat.reduceLT, Nat.reducePow, Nat.reduceLeDiff, st, Option.bind_eq_bind, Option.pure_def, List.length_nil, Int.cast_ofNat_Int, List.reverse_nil, UU, idxP, cellsAt, storeA, fillA, zerosA, putAll, optNat, sliceA, row, Int.reduceLT, Int.reduceLE, Int.reduceGT, Int.reduceGE, Int.reduceEq, Int.reduceNe, Int.reduceToNat, Int.reduceBEq, Int.reduceBNe, Nat.reduceLeDiff, Nat.reduceLT, Nat.reduceBNe, Nat.reduceGT, List.drop_nil, List.take_nil, Option.isSome_none, Int.ofNat_one, Int.ofNat_zero, hc, h0]
    | some p =>
      obtain ⟨x, y⟩ := p
      rw [hrun] at h0
      have e : (some (x, y) == some ((1 : Int), (1 : Int))) = (decide (x = 1) && decide (y = 1)) := by
        show ((x, y) == ((1 : Int), (1 : Int))) = _
        show (x == 1 && y == 1) = _
        by_cases a : x = 1 <;> by_cases b : y = 1 <;> simp [a, b]
      rw [e]
      by_cases c1 : x = 1
      · have c1' : (x != 1) = false := by simp [c1]
        by_cases c2 : y = 1
        · have c2' : (y != 1) = false := by simp [c2]
          rw [decide_eq_true c1, decide_eq_true c2, Bool.true_and, Bool.true_and]
          simp only [SS, insA, wantedA, Opd.ev, putA, binA, eqbA, unA, fldA, partA, reduceIte, reduceCtorEq, Nat.reduceMod, Nat.reduceDiv, Nat.reduceBEq, resultA, resA, vI, Nat.reduceMul, Nat.reduceAdd, Nat.reduceSub, Nat.reduceEqDiff, Nat.reduceLT, Nat.reducePow, Nat.reduceLeDiff, st, Option.bind_eq_bind, Option.pure_def, List.length_nil, Int.cast_ofNat_Int, List.reverse_nil, Int.ofNat_zero] at h0 ih
          simp only [F26L3b, F26T1, F26T2, in26_2, SS, insA, wantedA, Opd.ev, putA, binA, eqbA, unA, fldA, partA, reduceIte, reduceCtorEq, Nat.reduceMod, Nat.reduceDiv, Nat.reduceBEq, resultA, resA, vI, Nat.reduceMul, Nat.reduceAdd, Nat.reduceSub, Nat.reduceEqDiff, Nat.reduceLT, Nat.reducePow, Nat.reduceLeDiff, st, Option.bind_eq_bind, Option.pure_def, List.length_nil, Int.cast_ofNat_Int, List.reverse_nil, UU, idxP, cellsAt, storeA, fillA, zerosA, putAll, optNat, sliceA, row, Int.reduceLT, Int.reduceLE, Int.reduceGT, Int.reduceGE, Int.reduceEq, Int.reduceNe, Int.reduceToNat, Int.reduceBEq, Int.reduceBNe, Nat.reduceLeDiff, Nat.reduceLT, Nat.reduceBNe, Nat.reduceGT, List.drop_nil, List.take_nil, Option.isSome_none, Int.ofNat_one, Int.ofNat_zero, hc, h0, c1', c2', hww]
          exact ih
        · have c2' : (y != 1) = true := by simp [c2]
          rw [decide_eq_true c1, decide_eq_false c2, Bool.and_false, Bool.false_and, if_neg (by decide)]
          simp only [SS, insA, wantedA, Opd.ev, putA, binA, eqbA, unA, fldA, partA, reduceIte, reduceCtorEq, Nat.reduceMod, Nat.reduceDiv, Nat.reduceBEq, resultA, resA, vI, Nat.reduceMul, Nat.reduceAdd, Nat.reduceSub, Nat.reduceEqDiff, Nat.reduceLT, Nat.reducePow, Nat.reduceLeDiff, st, Option.bind_eq_bind, Option.pure_def, List.length_nil, Int.cast_ofNat_Int, List.reverse_nil, Int.ofNat_zero] at h0
          simp only [F26L3b, F26T1, F26T2, in26_2, SS, insA, wantedA, Opd.ev, putA, binA, eqbA, unA, fldA, partA, reduceIte, reduceCtorEq, Nat.reduceMod, Nat.reduceDiv, Nat.reduceBEq, resultA, resA, vI, Nat.reduceMul, Nat.reduceAdd, Nat.reduceSub, Nat.reduceEqDiff, Nat.reduceLT, Nat.reducePow, Nat.reduceLeDiff, st, Option.bind_eq_bind, Option.pure_def, List.length_nil, Int.cast_ofNat_Int, List.reverse_nil, UU, idxP, cellsAt, storeA, fillA, zerosA, putAll, optNat, sliceA, row, Int.reduceLT, Int.reduceLE, Int.reduceGT, Int.reduceGE, Int.reduceEq, Int.reduceNe, Int.reduceToNat, Int.reduceBEq, Int.reduceBNe, Nat.reduceLeDiff, Nat.reduceLT, Nat.reduceBNe, Nat.reduceGT, List.drop_nil, List.take_nil, Option.isSome_none, Int.ofNat_one, Int.ofNat_zero, hc, h0, c1', c2']
      · have c1' : (x != 1) = true := by simp [c1]
        rw [decide_eq_false c1, Bool.false_and, Bool.false_and, if_neg (by decide)]
        simp only [SS, insA, wantedA, Opd.ev, putA, binA, eqbA, unA, fldA, partA, reduceIte, reduceCtorEq, Nat.reduceMod, Nat.reduceDiv, Nat.reduceBEq, resultA, resA, vI, Nat.reduceMul, Nat.reduceAdd, Nat.reduceSub, Nat.reduceEqDiff, Nat.reduceLT, Nat.reducePow, Nat.reduceLeDiff, st, Option.bind_eq_bind, Option.pure_def, List.length_nil, Int.cast_ofNat_Int, List.reverse_nil, Int.ofNat_zero] at h0
        simp only [F26L3b, F26T1, F26T2, in26_2, SS, insA, wantedA, Opd.ev, putA, binA, eqbA, unA, fldA, partA, reduceIte, reduceCtorEq, Nat.reduceMod, Nat.reduceDiv, Nat.reduceBEq, resultA, resA, vI, Nat.reduceMul, Nat.reduceAdd, Nat.reduceSub, Nat.reduceEqDiff, Nat.reduceLT, Nat.reducePow, Nat.reduceLeDiff, st, Option.bind_eq_bind, Option.pure_def, List.length_nil, Int.cast_ofNat_Int, List.reverse_nil, UU, idxP, cellsAt, storeA, fillA, zerosA, putAll, optNat, sliceA, row, Int.reduceLT, Int.reduceLE, Int.reduceGT, Int.reduceGE, Int.reduceEq, Int.reduceNe, Int.reduceToNat, Int.reduceBEq, Int.reduceBNe, Nat.reduceLeDiff, Nat.reduceLT, Nat.reduceBNe, Nat.reduceGT, List.drop_nil, List.take_nil, Option.isSome_none, Int.ofNat_one, Int.ofNat_zero, hc, h0, c1']

def refOk (t : List (List Int)) : Bool := decide (1 ≤ t.length ∧ t.length ≤ 5) && rowsB t.length t && (List.range t.length).all (sumsB t t.length)

theorem rowsB_iff {n : Nat} {t : List (List Int)} : rowsB n t = true ↔ (∀ r ∈ t, r.length = n) ∧ unitT t := by
  simp only [rowsB, List.all_eq_true, Bool.and_eq_true, decide_eq_true_eq, unitB_iff, unitT]
  exact ⟨fun h => ⟨fun r hr => (h r hr).1, fun r hr => (h r hr).2⟩, fun h r hr => ⟨h.1 r hr, h.2 r hr⟩⟩

theorem isveil26 {vt : AV} {t : List (List Int)} (ht : IsTab vt t) (hs : Small t) : freeX H (callL EV Y 26 [vt] []) = some (.bool (refOk t), H) := by
  have hn := hs.1
  have h1 := L26_1 (Y := Y) (H := []) ht hn rfl t.length 0 (by omega)
  rw [List.drop_zero] at h1
  rw [call26 rfl]
  unfold refOk
  by_cases c1 : t.length < 1
  · have c1' : ((t.length : Int) < 1) := by omega
    have e : decide (1 ≤ t.length ∧ t.length ≤ 5) = false := by simp; omega
    simp only [F26B, SS, insA, wantedA, Opd.ev, putA, binA, eqbA, unA, fldA, partA, reduceIte, reduceCtorEq, Nat.reduceMod, Nat.reduceDiv, Nat.reduceBEq, resultA, resA, vI, Nat.reduceMul, Nat.reduceAdd, Nat.reduceSub, Nat.reduceEqDiff, Nat.reduceLT, Nat.reducePow, Nat.reduceLeDiff, st, Option.bind_eq_bind, Option.pure_def, List.length_nil, Int.cast_ofNat_Int, List.reverse_nil, UU, idxP, cellsAt, storeA, fillA, zerosA, putAll, optNat, sliceA, row, Int.reduceLT, Int.reduceLE, Int.reduceGT, Int.reduceGE, Int.reduceEq, Int.reduceNe, Int.reduceToNat, Int.reduceBEq, Int.reduceBNe, Nat.reduceLeDiff, Nat.reduceLT, Nat.reduceBNe, Nat.reduceGT, List.drop_nil, List.take_nil, Option.isSome_none, Int.ofNat_one, Int.ofNat_zero, ht.len, c1', e, Bool.false_and]
  · have c1' : ¬ ((t.length : Int) < 1) := by omega
    by_cases c2 : t.length > 5
    · have c2' : ((t.length : Int) > 5) := by omega
      have e : decide (1 ≤ t.length ∧ t.length ≤ 5) = false := by simp; omega
      simp only [F26B, SS, insA, wantedA, Opd.ev, putA, binA, eqbA, unA, fldA, partA, reduceIte, reduceCtorEq, Nat.reduceMod, Nat.reduceDiv, Nat.reduceBEq, resultA, resA, vI, Nat.reduceMul, Nat.reduceAdd, Nat.reduceSub, Nat.reduceEqDiff, Nat.reduceLT, Nat.reducePow, Nat.reduceLeDiff, st, Option.bind_eq_bind, Option.pure_def, List.length_nil, Int.cast_ofNat_Int, List.reverse_nil, UU, idxP, cellsAt, storeA, fillA, zerosA, putAll, optNat, sliceA, row, Int.reduceLT, Int.reduceLE, Int.reduceGT, Int.reduceGE, Int.reduceEq, Int.reduceNe, Int.reduceToNat, Int.reduceBEq, Int.reduceBNe, Nat.reduceLeDiff, Nat.reduceLT, Nat.reduceBNe, Nat.reduceGT, List.drop_nil, List.take_nil, Option.isSome_none, Int.ofNat_one, Int.ofNat_zero, ht.len, c1', c2', e, Bool.false_and]
    · have c2' : ¬ ((t.length : Int) > 5) := by omega
      have e : decide (1 ≤ t.length ∧ t.length ≤ 5) = true := by simp; omega
      rw [e, Bool.true_and]
      cases hrows : rowsB t.length t
      · rw [hrows] at h1
        simp only [SS, insA, wantedA, Opd.ev, putA, binA, eqbA, unA, fldA, partA, reduceIte, reduceCtorEq, Nat.reduceMod, Nat.reduceDiv, Nat.reduceBEq, resultA, resA, vI, Nat.reduceMul, Nat.reduceAdd, Nat.reduceSub, Nat.reduceEqDiff, Nat.reduceLT, Nat.reducePow, Nat.reduceLeDiff, st, Option.bind_eq_bind, Option.pure_def, List.length_nil, Int.cast_ofNat_Int, List.reverse_nil, Int.ofNat_zero, Bool.false_eq_true] at h1
        simp only [F26B, in26_1, SS, insA, wantedA, Opd.ev, putA, binA, eqbA, unA, fldA, partA, reduceIte, reduceCtorEq, Nat.reduceMod, Nat.reduceDiv, Nat.reduceBEq, resultA, resA, vI, Nat.reduceMul, Nat.reduceAdd, Nat.reduceSub, Nat.reduceEqDiff, Nat.reduceLT, Nat.reducePow, Nat.reduceLeDiff, st, Option.bind_eq_bind, Option.pure_def, List.length_nil, Int.cast_ofNat_Int, List.reverse_nil, UU, idxP, cellsAt, storeA, fillA, zerosA, putAll, optNat, sliceA, row, Int.reduceLT, Int.reduceLE, Int.reduceGT, Int.reduceGE, Int.reduceEq, Int.reduceNe, Int.reduceToNat, Int.reduceBEq, Int.reduceBNe, Nat.reduceLeDiff, Nat.reduceLT, Nat.reduceBNe, Nat.reduceGT, List.drop_nil, List.take_nil, Option.isSome_none, Int.ofNat_one, Int.ofNat_zero, ht.len, c1', c2', h1, Bool.false_and]
      · rw [hrows] at h1
        obtain ⟨hr, hu⟩ := rowsB_iff.1 hrows
        have h3 := L26_3 (Y := Y) (H := []) ht hn rfl hr hu t.length 0 (by omega)
        rw [← List.range_eq_range'] at h3
        rw [Bool.true_and]
        cases hsum : (List.range t.length).all (sumsB t t.length)
        · rw [hsum] at h3
          simp only [SS, insA, wantedA, Opd.ev, putA, binA, eqbA, unA, fldA, partA, reduceIte, reduceCtorEq, Nat.reduceMod, Nat.reduceDiv, Nat.reduceBEq, resultA, resA, vI, Nat.reduceMul, Nat.reduceAdd, Nat.reduceSub, Nat.reduceEqDiff, Nat.reduceLT, Nat.reducePow, Nat.reduceLeDiff, st, Option.bind_eq_bind, Option.pure_def, List.length_nil, Int.cast_ofNat_Int, List.reverse_nil, Int.ofNat_zero, Bool.false_eq_true] at h1 h3
          simp only [F26B, F26T3, F26T4, in26_1, in26_3, SS, insA, wantedA, Opd.ev, putA, binA, eqbA, unA, fldA, partA, reduceIte, reduceCtorEq, Nat.reduceMod, Nat.reduceDiv, Nat.reduceBEq, resultA, resA, vI, Nat.reduceMul, Nat.reduceAdd, Nat.reduceSub, Nat.reduceEqDiff, Nat.reduceLT, Nat.reducePow, Nat.reduceLeDiff, st, Option.bind_eq_bind, Option.pure_def, List.length_nil, Int.cast_ofNat_Int, List.reverse_nil, UU, idxP, cellsAt, storeA, fillA, zerosA, putAll, optNat, sliceA, row, Int.reduceLT, Int.reduceLE, Int.reduceGT, Int.reduceGE, Int.reduceEq, Int.reduceNe, Int.reduceToNat, Int.reduceBEq, Int.reduceBNe, Nat.reduceLeDiff, Nat.reduceLT, Nat.reduceBNe, Nat.reduceGT, List.drop_nil, List.take_nil, Option.isSome_none, Int.ofNat_one, Int.ofNat_zero, ht.len, c1', c2', h1, h3]
        · rw [hsum] at h3
          simp only [SS, insA, wantedA, Opd.ev, putA, binA, eqbA, unA, fldA, partA, reduceIte, reduceCtorEq, Nat.reduceMod, Nat.reduceDiv, Nat.reduceBEq, resultA, resA, vI, Nat.reduceMul, Nat.reduceAdd, Nat.reduceSub, Nat.reduceEqDiff, Nat.reduceLT, Nat.reducePow, Nat.reduceLeDiff, st, Option.bind_eq_bind, Option.pure_def, List.length_nil, Int.cast_ofNat_Int, List.reverse_nil, Int.ofNat_zero] at h1 h3
          simp only [F26B, F26T3, F26T4, in26_1, in26_3, SS, insA, wantedA, Opd.ev, putA, binA, eqbA, unA, fldA, partA, reduceIte, reduceCtorEq, Nat.reduceMod, Nat.reduceDiv, Nat.reduceBEq, resultA, resA, vI, Nat.reduceMul, Nat.reduceAdd, Nat.reduceSub, Nat.reduceEqDiff, Nat.reduceLT, Nat.reducePow, Nat.reduceLeDiff, st, Option.bind_eq_bind, Option.pure_def, List.length_nil, Int.cast_ofNat_Int, List.reverse_nil, UU, idxP, cellsAt, storeA, fillA, zerosA, putAll, optNat, sliceA, row, Int.reduceLT, Int.reduceLE, Int.reduceGT, Int.reduceGE, Int.reduceEq, Int.reduceNe, Int.reduceToNat, Int.reduceBEq, Int.reduceBNe, Nat.reduceLeDiff, Nat.reduceLT, Nat.reduceBNe, Nat.reduceGT, List.drop_nil, List.take_nil, Option.isSome_none, Int.ofNat_one, Int.ofNat_zero, ht.len, c1', c2', h1, h3]

/-! ### Both ways are the same -/
theorem runP_run : ∀ (l : List (Int × Int)) (a b : Int), (∀ p ∈ l, (-1 ≤ p.1 ∧ p.1 ≤ 1) ∧ (-1 ≤ p.2 ∧ p.2 ≤ 1)) →
    runP a b l = match runS a (l.map (·.1)), runS b (l.map (·.2)) with
      | some x, some y => some (x, y)
      | _, _ => none
  | [], a, b, _ => rfl
  | (x, y) :: l, a, b, h => by
    have h1 := h (x, y) (by simp)
    have ih := runP_run l (a + x) (b + y) fun p hp => h p (List.mem_cons_of_mem _ hp)
    simp only [runP, List.map_cons, runS]
    by_cases c1 : a + x < 0 ∨ a + x > 1
    · rw [if_pos (by omega), if_pos (by omega)]
    · rw [if_neg (c := x < -1 ∨ x > 1 ∨ a + x < 0 ∨ a + x > 1) (by omega)]
      by_cases c2 : b + y < 0 ∨ b + y > 1
      · rw [if_pos (by omega), if_pos (by omega)]
        cases runS (a + x) (l.map (·.1)) <;> rfl
      · rw [if_neg (by omega), if_neg (by omega), ih]

theorem altB_unit : ∀ {l : List Int} {s z : Int}, runS s l = some z → unitR l
  | [], _, _, _ => fun x hx => by simp at hx
  | x :: l, s, z, h => by
    simp only [runS] at h
    split at h
    · cases h
    · rename_i hn
      intro y hy
      rcases List.mem_cons.1 hy with rfl | hy
      · omega
      · exact altB_unit h y hy

theorem sumsB_iff {t : List (List Int)} {n i : Nat} (hn : t.length = n) (hr : ∀ r ∈ t, r.length = n) (hu : unitT t) (hi : i < t.length) : sumsB t n i = (altB t[i] && altB (colD t i)) := by
  have hl : t[i].length = n := hr _ (by simp)
  have e1 : (crossL t i (List.range n)).map (·.1) = t[i] := by
    simp only [crossL, List.map_map]
    refine List.ext_getElem (by simp [hl]) fun k h1 h2 => ?_
    rw [List.getElem_map, List.getElem_range]
    show (t.getD i []).getD k 0 = t[i][k]
    rw [getD_get hi, getD_get h2]
  have e2 : (crossL t i (List.range n)).map (·.2) = colD t i := by
    simp only [crossL, colD, List.map_map]
    refine List.ext_getElem (by simp [hn]) fun k h1 h2 => ?_
    have : k < t.length := by simpa using h2
    rw [List.getElem_map, List.getElem_range, List.getElem_map]
    show (t.getD k []).getD i 0 = t[k].getD i 0
    rw [getD_get this]
  have hb : ∀ p ∈ crossL t i (List.range n), (-1 ≤ p.1 ∧ p.1 ≤ 1) ∧ (-1 ≤ p.2 ∧ p.2 ≤ 1) := by
    intro p hp
    simp only [crossL, List.mem_map, List.mem_range] at hp
    obtain ⟨k, hk, rfl⟩ := hp
    have k1 : k < t.length := by omega
    have kk : k < t[i].length := by omega
    have ii : i < t[k].length := by have := hr t[k] (by simp); omega
    constructor
    · show -1 ≤ (t.getD i []).getD k 0 ∧ (t.getD i []).getD k 0 ≤ 1
      rw [getD_get hi, getD_get kk]; exact hu t[i] (List.getElem_mem hi) t[i][k] (List.getElem_mem kk)
    · show -1 ≤ (t.getD k []).getD i 0 ∧ (t.getD k []).getD i 0 ≤ 1
      rw [getD_get k1, getD_get ii]; exact hu t[k] (List.getElem_mem k1) t[k][i] (List.getElem_mem ii)
  unfold sumsB altB
  rw [runP_run _ _ _ hb, e1, e2]
  cases runS 0 t[i] with
  | none => rfl
  | some x =>
    cases runS 0 (colD t i) with
    | none => simp
    | some y => rfl

theorem ref_read {t : List (List Int)} : refOk t = readOk t := by
  unfold refOk readOk
  by_cases c1 : 1 ≤ t.length ∧ t.length ≤ 5
  · rw [decide_eq_true c1, Bool.true_and, Bool.true_and]
    rw [Bool.eq_iff_iff]
    simp only [Bool.and_eq_true, rowsB_iff, List.all_eq_true, List.mem_range, Bool.not_eq_true', List.any_eq_false, badR, Bool.or_eq_true, decide_eq_true_eq, not_or, Bool.not_eq_true']
    constructor
    · rintro ⟨⟨hr, hu⟩, hs⟩
      have hs' := fun i (hi : i < t.length) => by
        have := hs i hi
        rw [sumsB_iff rfl hr hu hi, Bool.and_eq_true] at this
        exact this
      refine ⟨fun r hr' => ⟨fun h => h (hr r hr'), ?_⟩, fun j hj => (hs' j hj).2⟩
      obtain ⟨i, hi, rfl⟩ := List.getElem_of_mem hr'
      simp [(hs' i hi).1]
    · rintro ⟨hr, hc⟩
      have h1 : ∀ r ∈ t, r.length = t.length := fun r h => Decidable.not_not.1 (hr r h).1
      have h2 : ∀ r ∈ t, altB r = true := fun r h => by simpa using (hr r h).2
      have hu : unitT t := fun r h => by
        have := h2 r h
        unfold altB at this
        exact altB_unit (eq_of_beq this)
      refine ⟨⟨h1, hu⟩, fun i hi => ?_⟩
      rw [sumsB_iff rfl h1 hu hi, h2 _ (by simp), hc i hi]; rfl
  · rw [decide_eq_false c1]; rfl

/-- What a veil is, for what follows. -/
structure Veil (t : List (List Int)) : Prop where
  n1 : 1 ≤ t.length
  n5 : t.length ≤ 5
  row : ∀ r ∈ t, r.length = t.length
  alt : ∀ r ∈ t, altB r = true
  col : ∀ j, j < t.length → altB (colD t j) = true
theorem veil_iff {t : List (List Int)} : readOk t = true ↔ Veil t := by
  unfold readOk
  simp only [Bool.and_eq_true, decide_eq_true_eq, List.all_eq_true, List.mem_range, Bool.not_eq_true', List.any_eq_false, badR, Bool.or_eq_true, not_or, Bool.not_eq_true']
  constructor
  · rintro ⟨⟨⟨a, b⟩, c⟩, d⟩
    exact ⟨a, b, fun r h => Decidable.not_not.1 (c r h).1, fun r h => by simpa using (c r h).2, d⟩
  · rintro ⟨a, b, c, d, e⟩
    exact ⟨⟨⟨a, b⟩, fun r h => ⟨fun q => q (c r h), by simp [d r h]⟩⟩, e⟩
theorem Veil.unit {t : List (List Int)} (h : Veil t) : unitT t := fun r hr => altB_unit (eq_of_beq (h.alt r hr))
theorem Veil.small {t : List (List Int)} (h : Veil t) : Small t := ⟨by have := h.n5; omega, fun r hr => by have := h.row r hr; have := h.n5; omega⟩

/-! ### zeros -/
def zeroT (n : Nat) : List (List Int) := List.replicate n (List.replicate n 0)
theorem L54 {n : Nat} (hn : n ≤ 20) (d : Nat) : ∀ (i : Nat) (R : Heap) (v : AV) (cells : List AV), i + d = n → HTab 0 R v (List.replicate i (List.replicate n 0)) cells →
    ∃ R' v' cells', lp EV Y F54L0 (sp 16 [(4, vI i), (3, v), (0, vI n)]) R = some (.x 0, sp 16 [(3, v')], R') ∧ HTab 0 R' v' (zeroT n) cells' := by
  induction d with
  | zero =>
    intro i R v cells hi hT
    have : ¬ ((i : Int) < (n : Int)) := by omega
    refine ⟨R, v, cells, ?_, ?_⟩
    · rw [un54_0]
      simp only [F54L0b, SS, insA, wantedA, Opd.ev, putA, binA, eqbA, unA, fldA, partA, reduceIte, reduceCtorEq, Nat.reduceMod, Nat.reduceDiv, Nat.reduceBEq, resultA, resA, vI, Nat.reduceMul, Nat.reduceAdd, Nat.reduceSub, Nat.reduceEqDiff, Nat.reduceLT, Nat.reducePow, Nat.reduceLeDiff, st, Option.bind_eq_bind, Option.pure_def, List.length_nil, Int.cast_ofNat_Int, List.reverse_nil, UU, idxP, cellsAt, storeA, fillA, zerosA, putAll, optNat, sliceA, row, Int.reduceLT, Int.reduceLE, Int.reduceGT, Int.reduceGE, Int.reduceEq, Int.reduceNe, Int.reduceToNat, Int.reduceBEq, Int.reduceBNe, Nat.reduceLeDiff, Nat.reduceLT, Nat.reduceBNe, Nat.reduceGT, List.drop_nil, List.take_nil, Option.isSome_none, Int.ofNat_one, Int.ofNat_zero, this]
    · have : i = n := by omega
      rw [this] at hT; exact hT
  | succ d ih =>
    intro i R v cells hi hT
    have hc : (i : Int) < (n : Int) := by omega
    have hww := wrap_succ (n := i) (by omega)
    have hki : 0 ≤ (n : Int) ∧ (n : Int) * 8 ≤ 140737488355328 ∧ (n : Int) ≤ 9223372036854775807 := by omega
    have hT2 := hT.more [⟨0, (List.replicate n (0 : Int)).map vI⟩]
    have hrow : Gro 0 1 (R ++ [⟨0, (List.replicate n (0 : Int)).map vI⟩]) (.sl R.length 0 1 0 (List.replicate n (0 : Int)).length none) (List.replicate n (0 : Int)).length ((List.replicate n (0 : Int)).map vI) := Gro.made (by simp) (by omega)
    obtain ⟨v', R', b1, b2, b3, b4, b5⟩ := hT2.add (c := _) (l := List.replicate n 0) (by omega) hrow
      (fun a ha hb => by cases ha; have := hT.gro.id_lt hb; omega)
      (fun j a hj ha hb => by cases hb; have := (hT.row j hj).id_lt ha; omega) (by simp; omega)
    have e : List.replicate i (List.replicate n (0 : Int)) ++ [List.replicate n 0] = List.replicate (i + 1) (List.replicate n 0) := by rw [List.replicate_succ']
    rw [e] at b2
    obtain ⟨R2, v2, c2, q1, q2⟩ := ih (i + 1) R' v' _ (by omega) b2
    refine ⟨R2, v2, c2, ?_, q2⟩
    rw [un54_0]
    have hz := zeros_int (n := n)
    simp only [SS, insA, wantedA, Opd.ev, putA, binA, eqbA, unA, fldA, partA, reduceIte, reduceCtorEq, Nat.reduceMod, Nat.reduceDiv, Nat.reduceBEq, resultA, resA, vI, Nat.reduceMul, Nat.reduceAdd, Nat.reduceSub, Nat.reduceEqDiff, Nat.reduceLT, Nat.reducePow, Nat.reduceLeDiff, st, Option.bind_eq_bind, Option.pure_def, List.length_nil, Int.cast_ofNat_Int, List.reverse_nil] at q1 hz
    simp only [List.length_append, List.append_assoc, List.length_replicate, List.length_cons, List.length_nil, Nat.zero_add, List.cons_append, List.nil_append, List.map_replicate] at b1
    simp only [List.map_replicate] at hz
    simp only [F54L0b, SS, insA, wantedA, Opd.ev, putA, binA, eqbA, unA, fldA, partA, reduceIte, reduceCtorEq, Nat.reduceMod, Nat.reduceDiv, Nat.reduceBEq, resultA, resA, vI, Nat.reduceMul, Nat.reduceAdd, Nat.reduceSub, Nat.reduceEqDiff, Nat.reduceLT, Nat.reducePow, Nat.reduceLeDiff, st, Option.bind_eq_bind, Option.pure_def, List.length_nil, Int.cast_ofNat_Int, List.reverse_nil, UU, idxP, cellsAt, storeA, fillA, putAll, optNat, sliceA, row, Int.reduceLT, Int.reduceLE, Int.reduceGT, Int.reduceGE, Int.reduceEq, Int.reduceNe, Int.reduceToNat, Int.reduceBEq, Int.reduceBNe, Nat.reduceLeDiff, Nat.reduceLT, Nat.reduceBNe, Nat.reduceGT, List.drop_nil, List.take_nil, Option.isSome_none, Int.ofNat_one, Int.ofNat_zero, hc, hki, Int.toNat_natCast, Int.natCast_nonneg, Nat.mul_one, hz]
    simp only [SS, insA, wantedA, Opd.ev, putA, binA, eqbA, unA, fldA, partA, reduceIte, reduceCtorEq, Nat.reduceMod, Nat.reduceDiv, Nat.reduceBEq, resultA, resA, vI, Nat.reduceMul, Nat.reduceAdd, Nat.reduceSub, Nat.reduceEqDiff, Nat.reduceLT, Nat.reducePow, Nat.reduceLeDiff, st, Option.bind_eq_bind, Option.pure_def, List.length_nil, Int.cast_ofNat_Int, List.reverse_nil, UU, idxP, cellsAt, storeA, fillA, zerosA, putAll, optNat, sliceA, row, Int.reduceLT, Int.reduceLE, Int.reduceGT, Int.reduceGE, Int.reduceEq, Int.reduceNe, Int.reduceToNat, Int.reduceBEq, Int.reduceBNe, Nat.reduceLeDiff, Nat.reduceLT, Nat.reduceBNe, Nat.reduceGT, List.drop_nil, List.take_nil, Option.isSome_none, Int.ofNat_one, Int.ofNat_zero, b1, hww, q1]

theorem zeros54 {n : Nat} (hn : n ≤ 20) : ∃ v R cells, callL EV Y 54 [vI n] [] = some (v, R) ∧ HTab 0 R v (zeroT n) cells := by
  obtain ⟨R', v', cells', q1, q2⟩ := L54 (Y := Y) hn n 0 [] .nils [] (by omega) (HTab.nil _ _)
  refine ⟨v', R', cells', ?_, q2⟩
  rw [call54 rfl]
  simp only [SS, insA, wantedA, Opd.ev, putA, binA, eqbA, unA, fldA, partA, reduceIte, reduceCtorEq, Nat.reduceMod, Nat.reduceDiv, Nat.reduceBEq, resultA, resA, vI, Nat.reduceMul, Nat.reduceAdd, Nat.reduceSub, Nat.reduceEqDiff, Nat.reduceLT, Nat.reducePow, Nat.reduceLeDiff, st, Option.bind_eq_bind, Option.pure_def, List.length_nil, Int.cast_ofNat_Int, List.reverse_nil, Int.ofNat_zero] at q1
  simp only [F54B, F54T0, in54_0, SS, insA, wantedA, Opd.ev, putA, binA, eqbA, unA, fldA, partA, reduceIte, reduceCtorEq, Nat.reduceMod, Nat.reduceDiv, Nat.reduceBEq, resultA, resA, vI, Nat.reduceMul, Nat.reduceAdd, Nat.reduceSub, Nat.reduceEqDiff, Nat.reduceLT, Nat.reducePow, Nat.reduceLeDiff, st, Option.bind_eq_bind, Option.pure_def, List.length_nil, Int.cast_ofNat_Int, List.reverse_nil, UU, idxP, cellsAt, storeA, fillA, zerosA, putAll, optNat, sliceA, row, Int.reduceLT, Int.reduceLE, Int.reduceGT, Int.reduceGE, Int.reduceEq, Int.reduceNe, Int.reduceToNat, Int.reduceBEq, Int.reduceBNe, Nat.reduceLeDiff, Nat.reduceLT, Nat.reduceBNe, Nat.reduceGT, List.drop_nil, List.take_nil, Option.isSome_none, Int.ofNat_one, Int.ofNat_zero, q1]
end
end Go.X
