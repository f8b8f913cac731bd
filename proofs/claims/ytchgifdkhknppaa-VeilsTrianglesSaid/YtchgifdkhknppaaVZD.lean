import Derived.Test.YtchgifdkhknppaaVZA
/-! Veils: triangles that are fair. -/
set_option linter.unusedSimpArgs false
set_option linter.unusedVariables false
set_option maxHeartbeats 8000000
set_option maxRecDepth 10000
namespace Go.X
open Go Go.RowKit
section
variable {Y : Run} {H : Heap}

def lieB (a b : List Int) (k d : Nat) : Bool := (List.range' k d).all fun x => decide (b.getD x 0 ≤ a.getD x 0 ∧ a.getD x 0 ≤ b.getD (x + 1) 0)
def liesB (l : List (List Int)) (i d : Nat) : Bool := (List.range' i d).all fun a => lieB (l.getD a []) (l.getD (a + 1) []) 0 (a + 1)
def fairB (l : List (List Int)) : Bool := decide (1 ≤ l.length ∧ l.length ≤ 5) && (triB l.length l 0 l.length && liesB l 0 (l.length - 1))

theorem L44_0 {lv : AV} {l : List (List Int)} {n i : Nat} (ht : IsTab lv l) (hi : i < l.length) (hm : (l.getD i []).length = i + 1) (h5 : i < 5) (d : Nat) : ∀ (j : Nat), j + d = i + 1 →
    lp EV Y F44L0 (sp 121 [(5, vI j), (4, vI i), (3, vI n), (0, lv)]) H =
      if ascB n (l.getD i []) j d = true then some (.x 2, sp 121 [(4, vI i), (3, vI n), (0, lv)], H) else some (.r, sp 121 [(2, .bool false)], H) := by
  have hr := ht.row hi
  generalize hrr : l.getD i [] = r at *
  induction d with
  | zero =>
    intro j hj
    have : ¬ ((j : Int) ≤ (i : Int)) := by omega
    rw [un44_0, if_pos (show ascB n r j 0 = true from rfl)]
    simp only [F44L0b, SS, insA, wantedA, Opd.ev, putA, binA, eqbA, unA, fldA, partA, reduceIte, reduceCtorEq, Nat.reduceMod, Nat.reduceDiv, Nat.reduceBEq, resultA, resA, vI, Nat.reduceMul, Nat.reduceAdd, Nat.reduceSub, Nat.reduceEqDiff, Nat.reduceLT, Nat.reducePow, Nat.reduceLeDiff, st, Option.bind_eq_bind, Option.pure_def, List.length_nil, Int.cast_ofNat_Int, List.reverse_nil, UU, idxP, cellsAt, storeA, fillA, zerosA, putAll, optNat, sliceA, row, Int.reduceLT, Int.reduceLE, Int.reduceGT, Int.reduceGE, Int.reduceEq, Int.reduceNe, Int.reduceToNat, Int.reduceBEq, Int.reduceBNe, Nat.reduceLeDiff, Nat.reduceLT, Nat.reduceBNe, Nat.reduceGT, List.drop_nil, List.take_nil, Option.isSome_none, Int.ofNat_one, Int.ofNat_zero, this]
  | succ d ih =>
    intro j hj
    have hc : (j : Int) ≤ (i : Int) := by omega
    have hww := wrap_succ (n := j) (by omega)
    have j1 : j < r.length := by omega
    have ih := ih (j + 1) (by omega)
    have hrow : ascB n r j (d + 1) = (decide ((1 ≤ r.getD j 0 ∧ r.getD j 0 ≤ n) ∧ (0 < j → r.getD (j - 1) 0 < r.getD j 0)) && ascB n r (j + 1) d) := by simp only [ascB, List.range'_succ, List.all_cons]
    rw [un44_0, hrow]
    generalize hx : r.getD j 0 = x at *
    simp only [SS, insA, wantedA, Opd.ev, putA, binA, eqbA, unA, fldA, partA, reduceIte, reduceCtorEq, Nat.reduceMod, Nat.reduceDiv, Nat.reduceBEq, resultA, resA, vI, Nat.reduceMul, Nat.reduceAdd, Nat.reduceSub, Nat.reduceEqDiff, Nat.reduceLT, Nat.reducePow, Nat.reduceLeDiff, st, Option.bind_eq_bind, Option.pure_def, List.length_nil, Int.cast_ofNat_Int, List.reverse_nil] at ih
    by_cases c1 : x < 1
    · rw [decide_eq_false (by omega), Bool.false_and, if_neg (by decide)]
      simp only [F44L0b, SS, insA, wantedA, Opd.ev, putA, binA, eqbA, unA, fldA, partA, reduceIte, reduceCtorEq, Nat.reduceMod, Nat.reduceDiv, Nat.reduceBEq, resultA, resA, vI, Nat.reduceMul, Nat.reduceAdd, Nat.reduceSub, Nat.reduceEqDiff, Nat.reduceLT, Nat.reducePow, Nat.reduceLeDiff, st, Option.bind_eq_bind, Option.pure_def, List.length_nil, Int.cast_ofNat_Int, List.reverse_nil, UU, idxP, cellsAt, storeA, fillA, zerosA, putAll, optNat, sliceA, row, Int.reduceLT, Int.reduceLE, Int.reduceGT, Int.reduceGE, Int.reduceEq, Int.reduceNe, Int.reduceToNat, Int.reduceBEq, Int.reduceBNe, Nat.reduceLeDiff, Nat.reduceLT, Nat.reduceBNe, Nat.reduceGT, List.drop_nil, List.take_nil, Option.isSome_none, Int.ofNat_one, Int.ofNat_zero, hc, ht.idx hi, ht.load hi, hr.idx j1, hr.load j1, hx, c1]
    · by_cases c2 : x > (n : Int)
      · rw [decide_eq_false (by omega), Bool.false_and, if_neg (by decide)]
        simp only [F44L0b, SS, insA, wantedA, Opd.ev, putA, binA, eqbA, unA, fldA, partA, reduceIte, reduceCtorEq, Nat.reduceMod, Nat.reduceDiv, Nat.reduceBEq, resultA, resA, vI, Nat.reduceMul, Nat.reduceAdd, Nat.reduceSub, Nat.reduceEqDiff, Nat.reduceLT, Nat.reducePow, Nat.reduceLeDiff, st, Option.bind_eq_bind, Option.pure_def, List.length_nil, Int.cast_ofNat_Int, List.reverse_nil, UU, idxP, cellsAt, storeA, fillA, zerosA, putAll, optNat, sliceA, row, Int.reduceLT, Int.reduceLE, Int.reduceGT, Int.reduceGE, Int.reduceEq, Int.reduceNe, Int.reduceToNat, Int.reduceBEq, Int.reduceBNe, Nat.reduceLeDiff, Nat.reduceLT, Nat.reduceBNe, Nat.reduceGT, List.drop_nil, List.take_nil, Option.isSome_none, Int.ofNat_one, Int.ofNat_zero, hc, ht.idx hi, ht.load hi, hr.idx j1, hr.load j1, hx, c1, c2]
      · by_cases c3 : (j : Int) > 0
        · have jp : j - 1 < r.length := by omega
          have wp : IntKind.wrap .i64 ((j : Int) - 1) = ((j - 1 : Nat) : Int) := wrap_pred (by omega) (by omega)
          by_cases c4 : x ≤ r.getD (j - 1) 0
          · rw [decide_eq_false (by omega), Bool.false_and, if_neg (by decide)]
            simp only [F44L0b, SS, insA, wantedA, Opd.ev, putA, binA, eqbA, unA, fldA, partA, reduceIte, reduceCtorEq, Nat.reduceMod, Nat.reduceDiv, Nat.reduceBEq, resultA, resA, vI, Nat.reduceMul, Nat.reduceAdd, Nat.reduceSub, Nat.reduceEqDiff, Nat.reduceLT, Nat.reducePow, Nat.reduceLeDiff, st, Option.bind_eq_bind, Option.pure_def, List.length_nil, Int.cast_ofNat_Int, List.reverse_nil, UU, idxP, cellsAt, storeA, fillA, zerosA, putAll, optNat, sliceA, row, Int.reduceLT, Int.reduceLE, Int.reduceGT, Int.reduceGE, Int.reduceEq, Int.reduceNe, Int.reduceToNat, Int.reduceBEq, Int.reduceBNe, Nat.reduceLeDiff, Nat.reduceLT, Nat.reduceBNe, Nat.reduceGT, List.drop_nil, List.take_nil, Option.isSome_none, Int.ofNat_one, Int.ofNat_zero, hc, ht.idx hi, ht.load hi, hr.idx j1, hr.load j1, hx, c1, c2, c3, wp, hr.idx jp, hr.load jp, c4]
          · rw [decide_eq_true (by omega), Bool.true_and]
            simp only [F44L0b, SS, insA, wantedA, Opd.ev, putA, binA, eqbA, unA, fldA, partA, reduceIte, reduceCtorEq, Nat.reduceMod, Nat.reduceDiv, Nat.reduceBEq, resultA, resA, vI, Nat.reduceMul, Nat.reduceAdd, Nat.reduceSub, Nat.reduceEqDiff, Nat.reduceLT, Nat.reducePow, Nat.reduceLeDiff, st, Option.bind_eq_bind, Option.pure_def, List.length_nil, Int.cast_ofNat_Int, List.reverse_nil, UU, idxP, cellsAt, storeA, fillA, zerosA, putAll, optNat, sliceA, row, Int.reduceLT, Int.reduceLE, Int.reduceGT, Int.reduceGE, Int.reduceEq, Int.reduceNe, Int.reduceToNat, Int.reduceBEq, Int.reduceBNe, Nat.reduceLeDiff, Nat.reduceLT, Nat.reduceBNe, Nat.reduceGT, List.drop_nil, List.take_nil, Option.isSome_none, Int.ofNat_one, Int.ofNat_zero, hc, ht.idx hi, ht.load hi, hr.idx j1, hr.load j1, hx, c1, c2, c3, wp, hr.idx jp, hr.load jp, c4, hww, ih]
        · rw [decide_eq_true (by omega), Bool.true_and]
          simp only [F44L0b, SS, insA, wantedA, Opd.ev, putA, binA, eqbA, unA, fldA, partA, reduceIte, reduceCtorEq, Nat.reduceMod, Nat.reduceDiv, Nat.reduceBEq, resultA, resA, vI, Nat.reduceMul, Nat.reduceAdd, Nat.reduceSub, Nat.reduceEqDiff, Nat.reduceLT, Nat.reducePow, Nat.reduceLeDiff, st, Option.bind_eq_bind, Option.pure_def, List.length_nil, Int.cast_ofNat_Int, List.reverse_nil, UU, idxP, cellsAt, storeA, fillA, zerosA, putAll, optNat, sliceA, row, Int.reduceLT, Int.reduceLE, Int.reduceGT, Int.reduceGE, Int.reduceEq, Int.reduceNe, Int.reduceToNat, Int.reduceBEq, Int.reduceBNe, Nat.reduceLeDiff, Nat.reduceLT, Nat.reduceBNe, Nat.reduceGT, List.drop_nil, List.take_nil, Option.isSome_none, Int.ofNat_one, Int.ofNat_zero, hc, ht.idx hi, ht.load hi, hr.idx j1, hr.load j1, hx, c1, c2, c3, hww, ih]

theorem L44_1 {lv : AV} {l : List (List Int)} {n : Nat} (ht : IsTab lv l) (h5 : n ≤ 5) (hl : l.length = n) (d : Nat) : ∀ (i : Nat), i + d = n →
    lp EV Y F44L1 (sp 121 [(4, vI i), (3, vI n), (0, lv)]) H =
      if triB n l i d = true then some (.x 0, sp 121 [(3, vI n), (0, lv)], H) else some (.r, sp 121 [(2, .bool false)], H) := by
  induction d with
  | zero =>
    intro i hi
    have : ¬ ((i : Int) < (n : Int)) := by omega
    rw [un44_1, if_pos (show triB n l i 0 = true from rfl)]
    simp only [F44L1b, SS, insA, wantedA, Opd.ev, putA, binA, eqbA, unA, fldA, partA, reduceIte, reduceCtorEq, Nat.reduceMod, Nat.reduceDiv, Nat.reduceBEq, resultA, resA, vI, Nat.reduceMul, Nat.reduceAdd, Nat.reduceSub, Nat.reduceEqDiff, Nat.reduceLT, Nat.reducePow, Nat.reduceLeDiff, st, Option.bind_eq_bind, Option.pure_def, List.length_nil, Int.cast_ofNat_Int, List.reverse_nil, UU, idxP, cellsAt, storeA, fillA, zerosA, putAll, optNat, sliceA, row, Int.reduceLT, Int.reduceLE, Int.reduceGT, Int.reduceGE, Int.reduceEq, Int.reduceNe, Int.reduceToNat, Int.reduceBEq, Int.reduceBNe, Nat.reduceLeDiff, Nat.reduceLT, Nat.reduceBNe, Nat.reduceGT, List.drop_nil, List.take_nil, Option.isSome_none, Int.ofNat_one, Int.ofNat_zero, this]
  | succ d ih =>
    intro i hi
    have k1 : i < l.length := by omega
    have hc : (i : Int) < (n : Int) := by omega
    have hww := wrap_succ (n := i) (by omega)
    have r1 := ht.row k1
    have hlen : lenA (cellAt lv i) = some (l.getD i []).length := r1.len
    have ih := ih (i + 1) (by omega)
    have hok : triB n l i (d + 1) = (decide ((l.getD i []).length = i + 1) && ascB n (l.getD i []) 0 (i + 1) && triB n l (i + 1) d) := by simp only [triB, List.range'_succ, List.all_cons]
    rw [un44_1, hok]
    simp only [SS, insA, wantedA, Opd.ev, putA, binA, eqbA, unA, fldA, partA, reduceIte, reduceCtorEq, Nat.reduceMod, Nat.reduceDiv, Nat.reduceBEq, resultA, resA, vI, Nat.reduceMul, Nat.reduceAdd, Nat.reduceSub, Nat.reduceEqDiff, Nat.reduceLT, Nat.reducePow, Nat.reduceLeDiff, st, Option.bind_eq_bind, Option.pure_def, List.length_nil, Int.cast_ofNat_Int, List.reverse_nil] at ih
    by_cases c1 : (l.getD i []).length = i + 1
    · have h0 := L44_0 (Y := Y) (H := H) (n := n) ht k1 c1 (by omega) (i + 1) 0 (by omega)
      rw [decide_eq_true c1, Bool.true_and]
      cases hu : ascB n (l.getD i []) 0 (i + 1)
      · rw [hu, if_neg (by decide)] at h0
        rw [Bool.false_and, if_neg (by decide)]
        simp only [SS, insA, wantedA, Opd.ev, putA, binA, eqbA, unA, fldA, partA, reduceIte, reduceCtorEq, Nat.reduceMod, Nat.reduceDiv, Nat.reduceBEq, resultA, resA, vI, Nat.reduceMul, Nat.reduceAdd, Nat.reduceSub, Nat.reduceEqDiff, Nat.reduceLT, Nat.reducePow, Nat.reduceLeDiff, st, Option.bind_eq_bind, Option.pure_def, List.length_nil, Int.cast_ofNat_Int, List.reverse_nil, Int.ofNat_zero] at h0
        simp only [F44L1b, F44T0, in44_0, SS, insA, wantedA, Opd.ev, putA, binA, eqbA, unA, fldA, partA, reduceIte, reduceCtorEq, Nat.reduceMod, Nat.reduceDiv, Nat.reduceBEq, resultA, resA, vI, Nat.reduceMul, Nat.reduceAdd, Nat.reduceSub, Nat.reduceEqDiff, Nat.reduceLT, Nat.reducePow, Nat.reduceLeDiff, st, Option.bind_eq_bind, Option.pure_def, List.length_nil, Int.cast_ofNat_Int, List.reverse_nil, UU, idxP, cellsAt, storeA, fillA, zerosA, putAll, optNat, sliceA, row, Int.reduceLT, Int.reduceLE, Int.reduceGT, Int.reduceGE, Int.reduceEq, Int.reduceNe, Int.reduceToNat, Int.reduceBEq, Int.reduceBNe, Nat.reduceLeDiff, Nat.reduceLT, Nat.reduceBNe, Nat.reduceGT, List.drop_nil, List.take_nil, Option.isSome_none, Int.ofNat_one, Int.ofNat_zero, hc, ht.idx k1, ht.load k1, hlen, c1, hww, h0, bne_self_eq_false]
      · rw [hu, if_pos rfl] at h0
        rw [Bool.true_and]
        simp only [SS, insA, wantedA, Opd.ev, putA, binA, eqbA, unA, fldA, partA, reduceIte, reduceCtorEq, Nat.reduceMod, Nat.reduceDiv, Nat.reduceBEq, resultA, resA, vI, Nat.reduceMul, Nat.reduceAdd, Nat.reduceSub, Nat.reduceEqDiff, Nat.reduceLT, Nat.reducePow, Nat.reduceLeDiff, st, Option.bind_eq_bind, Option.pure_def, List.length_nil, Int.cast_ofNat_Int, List.reverse_nil, Int.ofNat_zero] at h0
        simp only [F44L1b, F44T0, in44_0, SS, insA, wantedA, Opd.ev, putA, binA, eqbA, unA, fldA, partA, reduceIte, reduceCtorEq, Nat.reduceMod, Nat.reduceDiv, Nat.reduceBEq, resultA, resA, vI, Nat.reduceMul, Nat.reduceAdd, Nat.reduceSub, Nat.reduceEqDiff, Nat.reduceLT, Nat.reducePow, Nat.reduceLeDiff, st, Option.bind_eq_bind, Option.pure_def, List.length_nil, Int.cast_ofNat_Int, List.reverse_nil, UU, idxP, cellsAt, storeA, fillA, zerosA, putAll, optNat, sliceA, row, Int.reduceLT, Int.reduceLE, Int.reduceGT, Int.reduceGE, Int.reduceEq, Int.reduceNe, Int.reduceToNat, Int.reduceBEq, Int.reduceBNe, Nat.reduceLeDiff, Nat.reduceLT, Nat.reduceBNe, Nat.reduceGT, List.drop_nil, List.take_nil, Option.isSome_none, Int.ofNat_one, Int.ofNat_zero, hc, ht.idx k1, ht.load k1, hlen, c1, hww, h0, bne_self_eq_false, ih]
    · have c1' : (((l.getD i []).length : Int) != ((i + 1 : Nat) : Int)) = true := by rw [bne_iff_ne]; omega
      rw [decide_eq_false c1, Bool.false_and, Bool.false_and, if_neg (by decide)]
      simp only [F44L1b, F44T0, in44_0, SS, insA, wantedA, Opd.ev, putA, binA, eqbA, unA, fldA, partA, reduceIte, reduceCtorEq, Nat.reduceMod, Nat.reduceDiv, Nat.reduceBEq, resultA, resA, vI, Nat.reduceMul, Nat.reduceAdd, Nat.reduceSub, Nat.reduceEqDiff, Nat.reduceLT, Nat.reducePow, Nat.reduceLeDiff, st, Option.bind_eq_bind, Option.pure_def, List.length_nil, Int.cast_ofNat_Int, List.reverse_nil, UU, idxP, cellsAt, storeA, fillA, zerosA, putAll, optNat, sliceA, row, Int.reduceLT, Int.reduceLE, Int.reduceGT, Int.reduceGE, Int.reduceEq, Int.reduceNe, Int.reduceToNat, Int.reduceBEq, Int.reduceBNe, Nat.reduceLeDiff, Nat.reduceLT, Nat.reduceBNe, Nat.reduceGT, List.drop_nil, List.take_nil, Option.isSome_none, Int.ofNat_one, Int.ofNat_zero, hc, ht.idx k1, ht.load k1, hlen, hww, c1']

theorem L44_2 {lv : AV} {l : List (List Int)} {n i : Nat} (ht : IsTab lv l) (hi : i < l.length) (hi' : i + 1 < l.length) (hm : (l.getD i []).length = i + 1) (hm' : (l.getD (i + 1) []).length = i + 2) (h5 : i < 5) (d : Nat) : ∀ (k : Nat), k + d = i + 1 →
    lp EV Y F44L2 (sp 121 [(7, vI k), (6, vI i), (3, vI n), (0, lv)]) H =
      if lieB (l.getD i []) (l.getD (i + 1) []) k d = true then some (.x 6, sp 121 [(6, vI i), (3, vI n), (0, lv)], H) else some (.r, sp 121 [(2, .bool false)], H) := by
  have hr := ht.row hi
  have hs := ht.row hi'
  have hwi := wrap_succ (n := i) (by omega)
  generalize hrr : l.getD i [] = a at *
  generalize hss : l.getD (i + 1) [] = b at *
  induction d with
  | zero =>
    intro j hj
    have : ¬ ((j : Int) ≤ (i : Int)) := by omega
    rw [un44_2, if_pos (show lieB a b j 0 = true from rfl)]
    simp only [F44L2b, SS, insA, wantedA, Opd.ev, putA, binA, eqbA, unA, fldA, partA, reduceIte, reduceCtorEq, Nat.reduceMod, Nat.reduceDiv, Nat.reduceBEq, resultA, resA, vI, Nat.reduceMul, Nat.reduceAdd, Nat.reduceSub, Nat.reduceEqDiff, Nat.reduceLT, Nat.reducePow, Nat.reduceLeDiff, st, Option.bind_eq_bind, Option.pure_def, List.length_nil, Int.cast_ofNat_Int, List.reverse_nil, UU, idxP, cellsAt, storeA, fillA, zerosA, putAll, optNat, sliceA, row, Int.reduceLT, Int.reduceLE, Int.reduceGT, Int.reduceGE, Int.reduceEq, Int.reduceNe, Int.reduceToNat, Int.reduceBEq, Int.reduceBNe, Nat.reduceLeDiff, Nat.reduceLT, Nat.reduceBNe, Nat.reduceGT, List.drop_nil, List.take_nil, Option.isSome_none, Int.ofNat_one, Int.ofNat_zero, this]
  | succ d ih =>
    intro k hj
    have hc : (k : Int) ≤ (i : Int) := by omega
    have hww := wrap_succ (n := k) (by omega)
    have j1 : k < a.length := by omega
    have j2 : k < b.length := by omega
    have j3 : k + 1 < b.length := by omega
    have ih := ih (k + 1) (by omega)
    have hrow : lieB a b k (d + 1) = (decide (b.getD k 0 ≤ a.getD k 0 ∧ a.getD k 0 ≤ b.getD (k + 1) 0) && lieB a b (k + 1) d) := by simp only [lieB, List.range'_succ, List.all_cons]
    rw [un44_2, hrow]
    generalize hx : a.getD k 0 = x at *
    generalize hy : b.getD k 0 = y at *
    generalize hz : b.getD (k + 1) 0 = z at *
    simp only [SS, insA, wantedA, Opd.ev, putA, binA, eqbA, unA, fldA, partA, reduceIte, reduceCtorEq, Nat.reduceMod, Nat.reduceDiv, Nat.reduceBEq, resultA, resA, vI, Nat.reduceMul, Nat.reduceAdd, Nat.reduceSub, Nat.reduceEqDiff, Nat.reduceLT, Nat.reducePow, Nat.reduceLeDiff, st, Option.bind_eq_bind, Option.pure_def, List.length_nil, Int.cast_ofNat_Int, List.reverse_nil] at ih
    by_cases c1 : x < y
    · rw [decide_eq_false (by omega), Bool.false_and, if_neg (by decide)]
      simp only [F44L2b, SS, insA, wantedA, Opd.ev, putA, binA, eqbA, unA, fldA, partA, reduceIte, reduceCtorEq, Nat.reduceMod, Nat.reduceDiv, Nat.reduceBEq, resultA, resA, vI, Nat.reduceMul, Nat.reduceAdd, Nat.reduceSub, Nat.reduceEqDiff, Nat.reduceLT, Nat.reducePow, Nat.reduceLeDiff, st, Option.bind_eq_bind, Option.pure_def, List.length_nil, Int.cast_ofNat_Int, List.reverse_nil, UU, idxP, cellsAt, storeA, fillA, zerosA, putAll, optNat, sliceA, row, Int.reduceLT, Int.reduceLE, Int.reduceGT, Int.reduceGE, Int.reduceEq, Int.reduceNe, Int.reduceToNat, Int.reduceBEq, Int.reduceBNe, Nat.reduceLeDiff, Nat.reduceLT, Nat.reduceBNe, Nat.reduceGT, List.drop_nil, List.take_nil, Option.isSome_none, Int.ofNat_one, Int.ofNat_zero, hc, ht.idx hi, ht.load hi, ht.idx hi', ht.load hi', hr.idx j1, hr.load j1, hs.idx j2, hs.load j2, hs.idx j3, hs.load j3, hwi, hww, hx, hy, hz, c1]
    · by_cases c2 : x > z
      · rw [decide_eq_false (by omega), Bool.false_and, if_neg (by decide)]
        simp only [F44L2b, SS, insA, wantedA, Opd.ev, putA, binA, eqbA, unA, fldA, partA, reduceIte, reduceCtorEq, Nat.reduceMod, Nat.reduceDiv, Nat.reduceBEq, resultA, resA, vI, Nat.reduceMul, Nat.reduceAdd, Nat.reduceSub, Nat.reduceEqDiff, Nat.reduceLT, Nat.reducePow, Nat.reduceLeDiff, st, Option.bind_eq_bind, Option.pure_def, List.length_nil, Int.cast_ofNat_Int, List.reverse_nil, UU, idxP, cellsAt, storeA, fillA, zerosA, putAll, optNat, sliceA, row, Int.reduceLT, Int.reduceLE, Int.reduceGT, Int.reduceGE, Int.reduceEq, Int.reduceNe, Int.reduceToNat, Int.reduceBEq, Int.reduceBNe, Nat.reduceLeDiff, Nat.reduceLT, Nat.reduceBNe, Nat.reduceGT, List.drop_nil, List.take_nil, Option.isSome_none, Int.ofNat_one, Int.ofNat_zero, hc, ht.idx hi, ht.load hi, ht.idx hi', ht.load hi', hr.idx j1, hr.load j1, hs.idx j2, hs.load j2, hs.idx j3, hs.load j3, hwi, hww, hx, hy, hz, c1, c2]
      · rw [decide_eq_true (by omega), Bool.true_and]
        simp only [F44L2b, SS, insA, wantedA, Opd.ev, putA, binA, eqbA, unA, fldA, partA, reduceIte, reduceCtorEq, Nat.reduceMod, Nat.reduceDiv, Nat.reduceBEq, resultA, resA, vI, Nat.reduceMul, Nat.reduceAdd, Nat.reduceSub, Nat.reduceEqDiff, Nat.reduceLT, Nat.reducePow, Nat.reduceLeDiff, st, Option.bind_eq_bind, Option.pure_def, List.length_nil, Int.cast_ofNat_Int, List.reverse_nil, UU, idxP, cellsAt, storeA, fillA, zerosA, putAll, optNat, sliceA, row, Int.reduceLT, Int.reduceLE, Int.reduceGT, Int.reduceGE, Int.reduceEq, Int.reduceNe, Int.reduceToNat, Int.reduceBEq, Int.reduceBNe, Nat.reduceLeDiff, Nat.reduceLT, Nat.reduceBNe, Nat.reduceGT, List.drop_nil, List.take_nil, Option.isSome_none, Int.ofNat_one, Int.ofNat_zero, hc, ht.idx hi, ht.load hi, ht.idx hi', ht.load hi', hr.idx j1, hr.load j1, hs.idx j2, hs.load j2, hs.idx j3, hs.load j3, hwi, hww, hx, hy, hz, c1, c2, ih]

theorem L44_3 {lv : AV} {l : List (List Int)} {n : Nat} (ht : IsTab lv l) (h1 : 1 ≤ n) (h5 : n ≤ 5) (hl : l.length = n) (hm : ∀ a, a < n → (l.getD a []).length = a + 1) (d : Nat) : ∀ (i : Nat), i + d = n - 1 →
    lp EV Y F44L3 (sp 121 [(6, vI i), (3, vI n), (0, lv)]) H =
      if liesB l i d = true then some (.x 4, sp 121 [], H) else some (.r, sp 121 [(2, .bool false)], H) := by
  induction d with
  | zero =>
    intro i hi
    have : ¬ (((i + 1 : Nat) : Int) < (n : Int)) := by omega
    have hww := wrap_succ (n := i) (by omega)
    rw [un44_3, if_pos (show liesB l i 0 = true from rfl)]
    simp only [F44L3b, SS, insA, wantedA, Opd.ev, putA, binA, eqbA, unA, fldA, partA, reduceIte, reduceCtorEq, Nat.reduceMod, Nat.reduceDiv, Nat.reduceBEq, resultA, resA, vI, Nat.reduceMul, Nat.reduceAdd, Nat.reduceSub, Nat.reduceEqDiff, Nat.reduceLT, Nat.reducePow, Nat.reduceLeDiff, st, Option.bind_eq_bind, Option.pure_def, List.length_nil, Int.cast_ofNat_Int, List.reverse_nil, UU, idxP, cellsAt, storeA, fillA, zerosA, putAll, optNat, sliceA, row, Int.reduceLT, Int.reduceLE, Int.reduceGT, Int.reduceGE, Int.reduceEq, Int.reduceNe, Int.reduceToNat, Int.reduceBEq, Int.reduceBNe, Nat.reduceLeDiff, Nat.reduceLT, Nat.reduceBNe, Nat.reduceGT, List.drop_nil, List.take_nil, Option.isSome_none, Int.ofNat_one, Int.ofNat_zero, hww, this]
  | succ d ih =>
    intro i hi
    have hc : ((i + 1 : Nat) : Int) < (n : Int) := by omega
    have hww := wrap_succ (n := i) (by omega)
    have ih := ih (i + 1) (by omega)
    have hok : liesB l i (d + 1) = (lieB (l.getD i []) (l.getD (i + 1) []) 0 (i + 1) && liesB l (i + 1) d) := by simp only [liesB, List.range'_succ, List.all_cons]
    have h0 := L44_2 (Y := Y) (H := H) (n := n) ht (i := i) (by omega) (by omega) (hm i (by omega)) (hm (i + 1) (by omega)) (by omega) (i + 1) 0 (by omega)
    rw [un44_3, hok]
    simp only [SS, insA, wantedA, Opd.ev, putA, binA, eqbA, unA, fldA, partA, reduceIte, reduceCtorEq, Nat.reduceMod, Nat.reduceDiv, Nat.reduceBEq, resultA, resA, vI, Nat.reduceMul, Nat.reduceAdd, Nat.reduceSub, Nat.reduceEqDiff, Nat.reduceLT, Nat.reducePow, Nat.reduceLeDiff, st, Option.bind_eq_bind, Option.pure_def, List.length_nil, Int.cast_ofNat_Int, List.reverse_nil] at ih
    cases hu : lieB (l.getD i []) (l.getD (i + 1) []) 0 (i + 1)
    · rw [hu, if_neg (by decide)] at h0
      rw [Bool.false_and, if_neg (by decide)]
      simp only [SS, insA, wantedA, Opd.ev, putA, binA, eqbA, unA, fldA, partA, reduceIte, reduceCtorEq, Nat.reduceMod, Nat.reduceDiv, Nat.reduceBEq, resultA, resA, vI, Nat.reduceMul, Nat.reduceAdd, Nat.reduceSub, Nat.reduceEqDiff, Nat.reduceLT, Nat.reducePow, Nat.reduceLeDiff, st, Option.bind_eq_bind, Option.pure_def, List.length_nil, Int.cast_ofNat_Int, List.reverse_nil, Int.ofNat_zero] at h0
      simp only [F44L3b, F44T1, in44_2, SS, insA, wantedA, Opd.ev, putA, binA, eqbA, unA, fldA, partA, reduceIte, reduceCtorEq, Nat.reduceMod, Nat.reduceDiv, Nat.reduceBEq, resultA, resA, vI, Nat.reduceMul, Nat.reduceAdd, Nat.reduceSub, Nat.reduceEqDiff, Nat.reduceLT, Nat.reducePow, Nat.reduceLeDiff, st, Option.bind_eq_bind, Option.pure_def, List.length_nil, Int.cast_ofNat_Int, List.reverse_nil, UU, idxP, cellsAt, storeA, fillA, zerosA, putAll, optNat, sliceA, row, Int.reduceLT, Int.reduceLE, Int.reduceGT, Int.reduceGE, Int.reduceEq, Int.reduceNe, Int.reduceToNat, Int.reduceBEq, Int.reduceBNe, Nat.reduceLeDiff, Nat.reduceLT, Nat.reduceBNe, Nat.reduceGT, List.drop_nil, List.take_nil, Option.isSome_none, Int.ofNat_one, Int.ofNat_zero, hc, hww, h0]
    · rw [hu, if_pos rfl] at h0
      rw [Bool.true_and]
      simp only [SS, insA, wantedA, Opd.ev, putA, binA, eqbA, unA, fldA, partA, reduceIte, reduceCtorEq, Nat.reduceMod, Nat.reduceDiv, Nat.reduceBEq, resultA, resA, vI, Nat.reduceMul, Nat.reduceAdd, Nat.reduceSub, Nat.reduceEqDiff, Nat.reduceLT, Nat.reducePow, Nat.reduceLeDiff, st, Option.bind_eq_bind, Option.pure_def, List.length_nil, Int.cast_ofNat_Int, List.reverse_nil, Int.ofNat_zero] at h0
      simp only [F44L3b, F44T1, in44_2, SS, insA, wantedA, Opd.ev, putA, binA, eqbA, unA, fldA, partA, reduceIte, reduceCtorEq, Nat.reduceMod, Nat.reduceDiv, Nat.reduceBEq, resultA, resA, vI, Nat.reduceMul, Nat.reduceAdd, Nat.reduceSub, Nat.reduceEqDiff, Nat.reduceLT, Nat.reducePow, Nat.reduceLeDiff, st, Option.bind_eq_bind, Option.pure_def, List.length_nil, Int.cast_ofNat_Int, List.reverse_nil, UU, idxP, cellsAt, storeA, fillA, zerosA, putAll, optNat, sliceA, row, Int.reduceLT, Int.reduceLE, Int.reduceGT, Int.reduceGE, Int.reduceEq, Int.reduceNe, Int.reduceToNat, Int.reduceBEq, Int.reduceBNe, Nat.reduceLeDiff, Nat.reduceLT, Nat.reduceBNe, Nat.reduceGT, List.drop_nil, List.take_nil, Option.isSome_none, Int.ofNat_one, Int.ofNat_zero, hc, hww, h0, ih]

theorem triB_len {n : Nat} {l : List (List Int)} (h : triB n l 0 n = true) (a : Nat) (ha : a < n) : (l.getD a []).length = a + 1 := by
  have hq := List.all_eq_true.1 h a (by simp; omega)
  rw [Bool.and_eq_true, decide_eq_true_eq] at hq
  exact hq.1

theorem fair44 {hv : AV} {h : List (List Int)} (ht : IsTab hv h) (hs : h.length ≤ 1000) : freeX H (callL EV Y 44 [hv] []) = some (.bool (fairB h), H) := by
  rw [call44 rfl]
  by_cases c1 : h.length < 1
  · have c : (h.length : Int) < 1 := by omega
    have e : fairB h = false := by unfold fairB; rw [decide_eq_false (by omega), Bool.false_and]
    rw [e]
    simp only [F44B, SS, insA, wantedA, Opd.ev, putA, binA, eqbA, unA, fldA, partA, reduceIte, reduceCtorEq, Nat.reduceMod, Nat.reduceDiv, Nat.reduceBEq, resultA, resA, vI, Nat.reduceMul, Nat.reduceAdd, Nat.reduceSub, Nat.reduceEqDiff, Nat.reduceLT, Nat.reducePow, Nat.reduceLeDiff, st, Option.bind_eq_bind, Option.pure_def, List.length_nil, Int.cast_ofNat_Int, List.reverse_nil, UU, idxP, cellsAt, storeA, fillA, zerosA, putAll, optNat, sliceA, row, Int.reduceLT, Int.reduceLE, Int.reduceGT, Int.reduceGE, Int.reduceEq, Int.reduceNe, Int.reduceToNat, Int.reduceBEq, Int.reduceBNe, Nat.reduceLeDiff, Nat.reduceLT, Nat.reduceBNe, Nat.reduceGT, List.drop_nil, List.take_nil, Option.isSome_none, Int.ofNat_one, Int.ofNat_zero, ht.len, c]
  · by_cases c2 : h.length > 5
    · have c : ¬ (h.length : Int) < 1 := by omega
      have c' : (h.length : Int) > 5 := by omega
      have e : fairB h = false := by unfold fairB; rw [decide_eq_false (by omega), Bool.false_and]
      rw [e]
      simp only [F44B, SS, insA, wantedA, Opd.ev, putA, binA, eqbA, unA, fldA, partA, reduceIte, reduceCtorEq, Nat.reduceMod, Nat.reduceDiv, Nat.reduceBEq, resultA, resA, vI, Nat.reduceMul, Nat.reduceAdd, Nat.reduceSub, Nat.reduceEqDiff, Nat.reduceLT, Nat.reducePow, Nat.reduceLeDiff, st, Option.bind_eq_bind, Option.pure_def, List.length_nil, Int.cast_ofNat_Int, List.reverse_nil, UU, idxP, cellsAt, storeA, fillA, zerosA, putAll, optNat, sliceA, row, Int.reduceLT, Int.reduceLE, Int.reduceGT, Int.reduceGE, Int.reduceEq, Int.reduceNe, Int.reduceToNat, Int.reduceBEq, Int.reduceBNe, Nat.reduceLeDiff, Nat.reduceLT, Nat.reduceBNe, Nat.reduceGT, List.drop_nil, List.take_nil, Option.isSome_none, Int.ofNat_one, Int.ofNat_zero, ht.len, c, c']
    · have c : ¬ (h.length : Int) < 1 := by omega
      have c' : ¬ (h.length : Int) > 5 := by omega
      have h0 := L44_1 (Y := Y) (H := []) ht (by omega) rfl h.length 0 (by omega)
      have e : fairB h = (triB h.length h 0 h.length && liesB h 0 (h.length - 1)) := by unfold fairB; rw [decide_eq_true (by omega), Bool.true_and]
      rw [e]
      cases r1 : triB h.length h 0 h.length
      · rw [r1, if_neg (by decide)] at h0
        simp only [SS, insA, wantedA, Opd.ev, putA, binA, eqbA, unA, fldA, partA, reduceIte, reduceCtorEq, Nat.reduceMod, Nat.reduceDiv, Nat.reduceBEq, resultA, resA, vI, Nat.reduceMul, Nat.reduceAdd, Nat.reduceSub, Nat.reduceEqDiff, Nat.reduceLT, Nat.reducePow, Nat.reduceLeDiff, st, Option.bind_eq_bind, Option.pure_def, List.length_nil, Int.cast_ofNat_Int, List.reverse_nil, Int.ofNat_zero] at h0
        simp only [F44B, F44T3, SS, insA, wantedA, Opd.ev, putA, binA, eqbA, unA, fldA, partA, reduceIte, reduceCtorEq, Nat.reduceMod, Nat.reduceDiv, Nat.reduceBEq, resultA, resA, vI, Nat.reduceMul, Nat.reduceAdd, Nat.reduceSub, Nat.reduceEqDiff, Nat.reduceLT, Nat.reducePow, Nat.reduceLeDiff, st, Option.bind_eq_bind, Option.pure_def, List.length_nil, Int.cast_ofNat_Int, List.reverse_nil, UU, idxP, cellsAt, storeA, fillA, zerosA, putAll, optNat, sliceA, row, Int.reduceLT, Int.reduceLE, Int.reduceGT, Int.reduceGE, Int.reduceEq, Int.reduceNe, Int.reduceToNat, Int.reduceBEq, Int.reduceBNe, Nat.reduceLeDiff, Nat.reduceLT, Nat.reduceBNe, Nat.reduceGT, List.drop_nil, List.take_nil, Option.isSome_none, Int.ofNat_one, Int.ofNat_zero, ht.len, c, c', h0, in44_1, Bool.false_and]
      · rw [r1, if_pos rfl] at h0
        have h1 := L44_3 (Y := Y) (H := []) ht (by omega) (by omega) rfl (triB_len r1) (h.length - 1) 0 (by omega)
        rw [Bool.true_and]
        cases r2 : liesB h 0 (h.length - 1)
        · rw [r2, if_neg (by decide)] at h1
          simp only [SS, insA, wantedA, Opd.ev, putA, binA, eqbA, unA, fldA, partA, reduceIte, reduceCtorEq, Nat.reduceMod, Nat.reduceDiv, Nat.reduceBEq, resultA, resA, vI, Nat.reduceMul, Nat.reduceAdd, Nat.reduceSub, Nat.reduceEqDiff, Nat.reduceLT, Nat.reducePow, Nat.reduceLeDiff, st, Option.bind_eq_bind, Option.pure_def, List.length_nil, Int.cast_ofNat_Int, List.reverse_nil, Int.ofNat_zero] at h0 h1
          simp only [F44B, F44T3, F44T2, SS, insA, wantedA, Opd.ev, putA, binA, eqbA, unA, fldA, partA, reduceIte, reduceCtorEq, Nat.reduceMod, Nat.reduceDiv, Nat.reduceBEq, resultA, resA, vI, Nat.reduceMul, Nat.reduceAdd, Nat.reduceSub, Nat.reduceEqDiff, Nat.reduceLT, Nat.reducePow, Nat.reduceLeDiff, st, Option.bind_eq_bind, Option.pure_def, List.length_nil, Int.cast_ofNat_Int, List.reverse_nil, UU, idxP, cellsAt, storeA, fillA, zerosA, putAll, optNat, sliceA, row, Int.reduceLT, Int.reduceLE, Int.reduceGT, Int.reduceGE, Int.reduceEq, Int.reduceNe, Int.reduceToNat, Int.reduceBEq, Int.reduceBNe, Nat.reduceLeDiff, Nat.reduceLT, Nat.reduceBNe, Nat.reduceGT, List.drop_nil, List.take_nil, Option.isSome_none, Int.ofNat_one, Int.ofNat_zero, ht.len, c, c', h0, h1, in44_1, in44_3]
        · rw [r2, if_pos rfl] at h1
          simp only [SS, insA, wantedA, Opd.ev, putA, binA, eqbA, unA, fldA, partA, reduceIte, reduceCtorEq, Nat.reduceMod, Nat.reduceDiv, Nat.reduceBEq, resultA, resA, vI, Nat.reduceMul, Nat.reduceAdd, Nat.reduceSub, Nat.reduceEqDiff, Nat.reduceLT, Nat.reducePow, Nat.reduceLeDiff, st, Option.bind_eq_bind, Option.pure_def, List.length_nil, Int.cast_ofNat_Int, List.reverse_nil, Int.ofNat_zero] at h0 h1
          simp only [F44B, F44T3, F44T2, SS, insA, wantedA, Opd.ev, putA, binA, eqbA, unA, fldA, partA, reduceIte, reduceCtorEq, Nat.reduceMod, Nat.reduceDiv, Nat.reduceBEq, resultA, resA, vI, Nat.reduceMul, Nat.reduceAdd, Nat.reduceSub, Nat.reduceEqDiff, Nat.reduceLT, Nat.reducePow, Nat.reduceLeDiff, st, Option.bind_eq_bind, Option.pure_def, List.length_nil, Int.cast_ofNat_Int, List.reverse_nil, UU, idxP, cellsAt, storeA, fillA, zerosA, putAll, optNat, sliceA, row, Int.reduceLT, Int.reduceLE, Int.reduceGT, Int.reduceGE, Int.reduceEq, Int.reduceNe, Int.reduceToNat, Int.reduceBEq, Int.reduceBNe, Nat.reduceLeDiff, Nat.reduceLT, Nat.reduceBNe, Nat.reduceGT, List.drop_nil, List.take_nil, Option.isSome_none, Int.ofNat_one, Int.ofNat_zero, ht.len, c, c', h0, h1, in44_1, in44_3]
end

/-! ### A triangle is fair exactly if its table is a veil -/
theorem cnt_at {n : Nat} {k : Int} : ∀ {r : List Int}, r.Pairwise (· < ·) → ∀ m, m + 1 ≤ cntLe k r ↔ ∃ h : m < r.length, r[m] ≤ k
  | [], _, m => ⟨fun h => by simp [cntLe] at h, fun ⟨h, _⟩ => by simp at h⟩
  | x :: r, hp, m => by
    rw [List.pairwise_cons] at hp
    unfold cntLe
    by_cases c : x ≤ k
    · rw [if_pos c]
      cases m with
      | zero => exact ⟨fun _ => ⟨by simp, c⟩, fun _ => by omega⟩
      | succ m =>
        have ih := cnt_at (n := n) (k := k) hp.2 m
        constructor
        · intro h
          obtain ⟨a, b⟩ := ih.1 (by omega)
          exact ⟨by simpa using a, b⟩
        · rintro ⟨a, b⟩
          have := ih.2 ⟨by simpa using a, b⟩
          omega
    · rw [if_neg c]
      have hz : ∀ x ∈ r, ¬ x ≤ k := fun y hy => by have := hp.1 y hy; omega
      constructor
      · intro h
        obtain ⟨a, b⟩ := (cnt_at (n := n) (k := k) hp.2 m).1 h
        exact absurd b (hz _ (List.getElem_mem a))
      · rintro ⟨a, b⟩
        cases m with
        | zero => exact absurd b c
        | succ m => exact absurd b (hz _ (List.getElem_mem (by simpa using a)))

theorem sT_row {l : List (List Int)} {i k : Nat} (hi : i < l.length) : sT l (i + 1) k = (cntLe (k : Int) l[i] : Nat) := by
  unfold sT; rw [if_neg (by omega), Nat.add_sub_cancel, getD_get hi]
section
variable {l : List (List Int)} (hT : triB l.length l 0 l.length = true)
include hT
theorem tri_row {i : Nat} (hi : i < l.length) : l[i].length = i + 1 ∧ ascB l.length l[i] 0 l[i].length = true ∧ l[i].Pairwise (· < ·) := by
  have hq := List.all_eq_true.1 hT i (by simp; omega)
  rw [Bool.and_eq_true, decide_eq_true_eq, getD_get hi] at hq
  have ha : ascB l.length l[i] 0 l[i].length = true := by rw [hq.1]; exact hq.2
  exact ⟨hq.1, ha, asc_pair ha⟩
theorem triV_row {i : Nat} (hi : i < l.length) : ∀ {k : Nat}, k ≤ l.length → rowS (triV l) i k = sT l (i + 1) k - sT l i k
  | 0, _ => by
    have z : ∀ a, sT l a 0 = 0 := fun a => by
      unfold sT
      split
      · rfl
      · by_cases c : a - 1 < l.length
        · rw [getD_get c]
          have hr := tri_row hT c
          have : cntLe ((0 : Nat) : Int) l[a - 1] = 0 := by
            rcases Nat.eq_zero_or_pos (cntLe ((0 : Nat) : Int) l[a - 1]) with h | h
            · exact h
            · obtain ⟨h1, h2⟩ := (cnt_at (n := 0) hr.2.2 0).1 h
              have := (asc_at hr.2.1 h1).1
              omega
          rw [this]; rfl
        · rw [List.getD_eq_getElem?_getD, List.getElem?_eq_none (by omega)]; rfl
    rw [rowS_0, z, z]; rfl
  | k + 1, hk => by
    have hl : i < (triV l).length := by rw [triV_len]; exact hi
    have e : at2 (triV l) i k = ofT l i k := at2_tabF hi hk
    rw [rowS_s hl (by rw [tabF_mem _ (List.getElem_mem hl)]; omega), triV_row hi (k := k) (by omega), e, ofT]
    omega
theorem cnt_full {i : Nat} (hi : i < l.length) : cntLe (l.length : Int) l[i] = i + 1 := by
  have hr := tri_row hT hi
  have h1 := cntLe_le (l.length : Int) l[i]
  have h2 : i + 1 ≤ cntLe (l.length : Int) l[i] := (cnt_at (n := 0) hr.2.2 i).2 ⟨by omega, (asc_at hr.2.1 (by omega)).1.2⟩
  omega
theorem tri_cols {k : Nat} (hk : k < l.length) : altB (colD (triV l) k) = true := by
  have hcl : (colD (triV l) k).length = l.length := by simp [colD, triV_len]
  have step : ∀ i (hi : i < l.length), sT l (i + 1) (k + 1) - sT l (i + 1) k = if ((k : Int) + 1) ∈ l[i] then 1 else 0 := fun i hi => by
    have hr := tri_row hT hi
    rw [sT_row hi, sT_row hi]
    have m := cntLe_mem (a := ((k + 1 : Nat) : Int)) hr.2.2
    have e3 : ((k + 1 : Nat) : Int) = (k : Int) + 1 := by omega
    rw [show ((k + 1 : Nat) : Int) - 1 = (k : Int) by omega] at m
    rw [m, e3]
  refine altB_of (fun m hm => ?_) ?_
  · rw [← col_F (by rw [triV_len]; omega), triV_col hk (by omega)]
    cases m with
    | zero => rw [sT_0, sT_0]; omega
    | succ m => rw [step m (by omega)]; split <;> omega
  · have := triV_col (l := l) hk (m := l.length) (Nat.le_refl _)
    rw [col_F (by rw [triV_len]; omega), List.take_of_length_le (by omega)] at this
    rw [this]
    obtain ⟨n, hn⟩ : ∃ n, l.length = n + 1 := ⟨l.length - 1, by omega⟩
    have hn1 : n < l.length := by omega
    have hr := tri_row hT hn1
    -- the last row has all numbers
    have pos : ∀ j (hj : j < l[n].length), l[n][j] = (j : Int) + 1 := by
      have lo : ∀ j (hj : j < l[n].length), (j : Int) + 1 ≤ l[n][j] := by
        intro j
        induction j with
        | zero => intro hj; have := (asc_at hr.2.1 hj).1.1; omega
        | succ j ih =>
          intro hj
          have a := ih (by omega)
          have b := (asc_at hr.2.1 hj).2 (by omega)
          have e : l[n][j + 1 - 1]'(by omega) = l[n][j]'(by omega) := rfl
          rw [e] at b; omega
      have hi' : ∀ d j (hj : j < l[n].length), j + d + 1 = l[n].length → l[n][j] ≤ (j : Int) + 1 := by
        intro d
        induction d with
        | zero => intro j hj h; have := (asc_at hr.2.1 hj).1.2; omega
        | succ d ih =>
          intro j hj h
          have a := ih (j + 1) (by omega) (by omega)
          have b := (asc_at hr.2.1 (b := j + 1) (by omega)).2 (by omega)
          have e : l[n][j + 1 - 1]'(by omega) = l[n][j]'(by omega) := rfl
          rw [e] at b; omega
      intro j hj
      have := lo j hj
      have := hi' (l[n].length - 1 - j) j hj (by omega)
      omega
    have e : sT l l.length (k + 1) - sT l l.length k = sT l (n + 1) (k + 1) - sT l (n + 1) k := by rw [hn]
    rw [e, step n hn1, if_pos]
    rw [← pos k (by omega)]
    exact List.getElem_mem _

theorem fair_iff (h5 : 1 ≤ l.length ∧ l.length ≤ 5) : readOk (triV l) = liesB l 0 (l.length - 1) := by
  rw [Bool.eq_iff_iff, veil_iff]
  have cnt : ∀ {i : Nat} (hi : i < l.length) (k : Int) m, m + 1 ≤ cntLe k l[i] ↔ ∃ h : m < l[i].length, l[i][m] ≤ k := fun hi k m => cnt_at (n := 0) (tri_row hT hi).2.2 m
  constructor
  · intro V
    refine List.all_eq_true.2 fun i hi => ?_
    have hi1 : i + 1 < l.length := by simp at hi; omega
    have hi0 : i < l.length := by omega
    have r0 := tri_row hT hi0
    have r1 := tri_row hT hi1
    have dif : ∀ k : Nat, k ≤ l.length → 0 ≤ (cntLe (k : Int) l[i + 1] : Int) - cntLe (k : Int) l[i] ∧ (cntLe (k : Int) l[i + 1] : Int) - cntLe (k : Int) l[i] ≤ 1 := fun k hk => by
      have := V.rowb (a := i + 1) (m := k) (by rw [triV_len]; exact hi1)
      rw [triV_row hT hi1 hk, sT_row hi1, sT_row hi0] at this
      exact this
    refine List.all_eq_true.2 fun j hj => decide_eq_true ?_
    have hj0 : j < i + 1 := by simpa using hj
    rw [getD_get hi0, getD_get hi1, getD_get (show j < l[i].length by omega), getD_get (show j < l[i + 1].length by omega), getD_get (show j + 1 < l[i + 1].length by omega)]
    constructor
    · have b := (asc_at r0.2.1 (b := j) (by omega)).1
      have d := dif (l[i][j].toNat) (by omega)
      rw [show ((l[i][j].toNat : Nat) : Int) = l[i][j] by omega] at d
      have c1 := (cnt hi0 l[i][j] j).2 ⟨by omega, Int.le_refl _⟩
      obtain ⟨_, q⟩ := (cnt hi1 l[i][j] j).1 (by omega)
      exact q
    · have b := (asc_at r1.2.1 (b := j + 1) (by omega)).1
      have d := dif (l[i + 1][j + 1].toNat) (by omega)
      rw [show ((l[i + 1][j + 1].toNat : Nat) : Int) = l[i + 1][j + 1] by omega] at d
      have c1 := (cnt hi1 l[i + 1][j + 1] (j + 1)).2 ⟨by omega, Int.le_refl _⟩
      obtain ⟨_, q⟩ := (cnt hi0 l[i + 1][j + 1] j).1 (by omega)
      exact q
  · intro hF
    have lies : ∀ i (h1 : i + 1 < l.length) j (hj : j < i + 1), l[i + 1].getD j 0 ≤ (l[i]'(by omega)).getD j 0 ∧ (l[i]'(by omega)).getD j 0 ≤ l[i + 1].getD (j + 1) 0 := fun i h1 j hj => by
      have a := List.all_eq_true.1 hF i (by simp; omega)
      have b := of_decide_eq_true (List.all_eq_true.1 a j (by simpa using hj))
      rw [getD_get (show i < l.length by omega), getD_get h1] at b
      exact b
    have hl : (triV l).length = l.length := triV_len
    refine ⟨by omega, by omega, fun r hr => by rw [hl]; exact tabF_mem r hr, fun r hr => ?_, fun j hj => tri_cols hT (by omega)⟩
    obtain ⟨i, hi, rfl⟩ := List.getElem_of_mem hr
    have hin : i < l.length := by omega
    have hrl : (triV l)[i].length = l.length := tabF_mem _ (List.getElem_mem hi)
    have ri := tri_row hT hin
    refine altB_of (fun k hk => ?_) ?_
    · rw [← rowS_full hi, triV_row hT hin (by omega), sT_row hin]
      cases i with
      | zero =>
        rw [sT_0]
        have := cntLe_le (k : Int) l[0]
        omega
      | succ i =>
        have hi0 : i < l.length := by omega
        have r0 := tri_row hT hi0
        rw [sT_row hi0]
        constructor
        · have : cntLe (k : Int) l[i] ≤ cntLe (k : Int) l[i + 1] := by
            rcases Nat.eq_zero_or_pos (cntLe (k : Int) l[i]) with h | h
            · omega
            · obtain ⟨a, b⟩ := (cnt hi0 (k : Int) (cntLe (k : Int) l[i] - 1)).1 (by omega)
              have c := (lies i hin (cntLe (k : Int) l[i] - 1) (by omega)).1
              rw [getD_get a, getD_get (show cntLe (k : Int) l[i] - 1 < l[i + 1].length by omega)] at c
              have := (cnt hin (k : Int) (cntLe (k : Int) l[i] - 1)).2 ⟨by omega, by omega⟩
              omega
          omega
        · have : cntLe (k : Int) l[i + 1] ≤ cntLe (k : Int) l[i] + 1 := by
            refine Decidable.byContradiction fun hc => ?_
            obtain ⟨a, b⟩ := (cnt hin (k : Int) (cntLe (k : Int) l[i] + 1)).1 (by omega)
            have c := (lies i hin (cntLe (k : Int) l[i]) (by omega)).2
            rw [getD_get (show cntLe (k : Int) l[i] < l[i].length by omega), getD_get a] at c
            have := (cnt hi0 (k : Int) (cntLe (k : Int) l[i])).2 ⟨by omega, by omega⟩
            omega
          omega
    · have := triV_row hT hin (k := l.length) (Nat.le_refl _)
      rw [rowS_full hi, List.take_of_length_le (by omega), sT_row hin, cnt_full hT hin] at this
      rw [this]
      cases i with
      | zero => rw [sT_0]; omega
      | succ i => rw [sT_row (show i < l.length by omega), cnt_full hT (show i < l.length by omega)]; omega
end
theorem from_fair {l : List (List Int)} : fromOk l = fairB l := by
  unfold fromOk fairB
  by_cases c : 1 ≤ l.length ∧ l.length ≤ 5
  · cases hT : triB l.length l 0 l.length
    · rw [Bool.false_and, Bool.false_and]
    · rw [fair_iff hT c]
  · rw [decide_eq_false c, Bool.false_and, Bool.false_and]
end Go.X
