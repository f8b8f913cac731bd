import Derived.Test.YtchgifdkhknppaaVQ
/-! Veils: threads, in the program. -/
set_option linter.unusedSimpArgs false
set_option linter.unusedVariables false
set_option maxHeartbeats 8000000
set_option maxRecDepth 10000
namespace Go.X
open Go Go.RowKit
section
variable {Y : Run} {H : Heap}

def dR (h : List (List Int)) (i j : Nat) : Bool := (at2 h i j - at2 h (i - 1) j == 1) == ((((i + j) % 2 : Nat) : Int) == 0)
def dD (h : List (List Int)) (i j : Nat) : Bool := (at2 h i j - at2 h i (j - 1) == 1) == ((((i + j) % 2 : Nat) : Int) == 1)
/-- A thread that leaves a knot in a direction: 0 up, 1 right, 2 down, 3 left. -/
def thrP (h : List (List Int)) (i j : Nat) : Nat → Bool
  | 0 => dD h (i - 1) j
  | 1 => dR h i j
  | 2 => dD h i j
  | _ => dR h i (j - 1)

theorem tmod_two {i j : Nat} : Int.tmod ((i : Int) + j) 2 = (((i + j) % 2 : Nat) : Int) := by
  rw [← Int.natCast_add, show (2 : Int) = ((2 : Nat) : Int) from rfl, ← Int.ofNat_tmod]

theorem thread93 {hv : AV} {h : List (List Int)} {n i j w : Nat} (ht : IsTab hv h) (S : Steep n h) (hi : 1 ≤ i ∧ i ≤ n) (hj : 1 ≤ j ∧ j ≤ n) (hw : w < 4) :
    freeX H (callL EV Y 93 [hv, .agg [vI i, vI j, vI w]] []) = some (.bool (thrP h i j w), H) := by
  have h5 := S.n5
  -- what is read at a place
  have pl : ∀ a b, a ≤ n → b ≤ n → IntKind.wrap .i64 ((a : Int) - 1) = (a : Int) - 1 ∧ IntKind.wrap .i64 ((b : Int) - 1) = (b : Int) - 1 ∧ max ((a : Int) - 1) 0 = ((a - 1 : Nat) : Int) ∧ max ((b : Int) - 1) 0 = ((b - 1 : Nat) : Int) ∧
      IntKind.wrap .i64 (at2 h a b - at2 h (a - 1) b) = at2 h a b - at2 h (a - 1) b ∧ IntKind.wrap .i64 (at2 h a b - at2 h a (b - 1)) = at2 h a b - at2 h a (b - 1) ∧ IntKind.wrap .i64 ((a : Int) + b) = (a : Int) + b ∧ Int.tmod ((a : Int) + b) 2 = (((a + b) % 2 : Nat) : Int) := fun a b ha hb => by
    have b0 := S.hts.at (i := a) (j := b) (by omega) (by omega)
    have b1 := S.hts.at (i := a - 1) (j := b) (by omega) (by omega)
    have b2 := S.hts.at (i := a) (j := b - 1) (by omega) (by omega)
    exact ⟨wrap_id (by omega) (by omega), wrap_id (by omega) (by omega), by omega, by omega, wrap_id (by omega) (by omega), wrap_id (by omega) (by omega), wrap_id (by omega) (by omega), tmod_two⟩
  have hcase : w = 0 ∨ w = 1 ∨ w = 2 ∨ w = 3 := by omega
  have w1 := wrap_pred (i := i) hi.1 (by omega)
  have w2 := wrap_pred (i := j) hj.1 (by omega)
  rw [call93 rfl]
  rcases hcase with rfl | rfl | rfl | rfl
  · obtain ⟨p1, p2, p3, p4, p5, p6, p7, p8⟩ := pl (i - 1) j (by omega) (by omega)
    have c0 := S.cel hv (i := i - 1) (j := j) (by omega) (by omega)
    have c1 := S.cel hv (i := i - 1 - 1) (j := j) (by omega) (by omega)
    have c2 := S.cel hv (i := i - 1) (j := j - 1) (by omega) (by omega)
    simp only [F93B, thrP, dD, SS, insA, wantedA, Opd.ev, putA, binA, eqbA, unA, fldA, partA, reduceIte, reduceCtorEq, Nat.reduceMod, Nat.reduceDiv, Nat.reduceBEq, resultA, resA, vI, Nat.reduceMul, Nat.reduceAdd, Nat.reduceSub, Nat.reduceEqDiff, Nat.reduceLT, Nat.reducePow, Nat.reduceLeDiff, st, Option.bind_eq_bind, Option.pure_def, List.length_nil, Int.cast_ofNat_Int, List.reverse_nil, UU, idxP, cellsAt, storeA, fillA, zerosA, putAll, optNat, sliceA, row, Int.reduceLT, Int.reduceLE, Int.reduceGT, Int.reduceGE, Int.reduceEq, Int.reduceNe, Int.reduceToNat, Int.reduceBEq, Int.reduceBNe, Nat.reduceLeDiff, Nat.reduceLT, Nat.reduceBNe, Nat.reduceGT, List.drop_nil, List.take_nil, Option.isSome_none, Int.ofNat_one, Int.ofNat_zero, w1, p1, p2, p3, p4, p5, p6, p7, p8, c0.idx ht, c0.load ht, c0.idx2 ht, c0.load2 ht, c1.idx ht, c1.load ht, c1.idx2 ht, c1.load2 ht, c2.idx2 ht, c2.load2 ht, Bool.bne_false, and_self, ne_eq, not_false_eq_true, Int.reduceEq]
  · obtain ⟨p1, p2, p3, p4, p5, p6, p7, p8⟩ := pl i j (by omega) (by omega)
    have c0 := S.cel hv (i := i) (j := j) (by omega) (by omega)
    have c1 := S.cel hv (i := i - 1) (j := j) (by omega) (by omega)
    simp only [F93B, thrP, dR, SS, insA, wantedA, Opd.ev, putA, binA, eqbA, unA, fldA, partA, reduceIte, reduceCtorEq, Nat.reduceMod, Nat.reduceDiv, Nat.reduceBEq, resultA, resA, vI, Nat.reduceMul, Nat.reduceAdd, Nat.reduceSub, Nat.reduceEqDiff, Nat.reduceLT, Nat.reducePow, Nat.reduceLeDiff, st, Option.bind_eq_bind, Option.pure_def, List.length_nil, Int.cast_ofNat_Int, List.reverse_nil, UU, idxP, cellsAt, storeA, fillA, zerosA, putAll, optNat, sliceA, row, Int.reduceLT, Int.reduceLE, Int.reduceGT, Int.reduceGE, Int.reduceEq, Int.reduceNe, Int.reduceToNat, Int.reduceBEq, Int.reduceBNe, Nat.reduceLeDiff, Nat.reduceLT, Nat.reduceBNe, Nat.reduceGT, List.drop_nil, List.take_nil, Option.isSome_none, Int.ofNat_one, Int.ofNat_zero, p1, p2, p3, p4, p5, p6, p7, p8, c0.idx ht, c0.load ht, c0.idx2 ht, c0.load2 ht, c1.idx ht, c1.load ht, c1.idx2 ht, c1.load2 ht, Bool.bne_false, and_self, ne_eq, not_false_eq_true, Int.reduceEq]
  · obtain ⟨p1, p2, p3, p4, p5, p6, p7, p8⟩ := pl i j (by omega) (by omega)
    have c0 := S.cel hv (i := i) (j := j) (by omega) (by omega)
    have c1 := S.cel hv (i := i - 1) (j := j) (by omega) (by omega)
    have c2 := S.cel hv (i := i) (j := j - 1) (by omega) (by omega)
    simp only [F93B, thrP, dD, SS, insA, wantedA, Opd.ev, putA, binA, eqbA, unA, fldA, partA, reduceIte, reduceCtorEq, Nat.reduceMod, Nat.reduceDiv, Nat.reduceBEq, resultA, resA, vI, Nat.reduceMul, Nat.reduceAdd, Nat.reduceSub, Nat.reduceEqDiff, Nat.reduceLT, Nat.reducePow, Nat.reduceLeDiff, st, Option.bind_eq_bind, Option.pure_def, List.length_nil, Int.cast_ofNat_Int, List.reverse_nil, UU, idxP, cellsAt, storeA, fillA, zerosA, putAll, optNat, sliceA, row, Int.reduceLT, Int.reduceLE, Int.reduceGT, Int.reduceGE, Int.reduceEq, Int.reduceNe, Int.reduceToNat, Int.reduceBEq, Int.reduceBNe, Nat.reduceLeDiff, Nat.reduceLT, Nat.reduceBNe, Nat.reduceGT, List.drop_nil, List.take_nil, Option.isSome_none, Int.ofNat_one, Int.ofNat_zero, p1, p2, p3, p4, p5, p6, p7, p8, c0.idx ht, c0.load ht, c0.idx2 ht, c0.load2 ht, c1.idx ht, c1.load ht, c1.idx2 ht, c1.load2 ht, c2.idx2 ht, c2.load2 ht, Bool.bne_false, and_self, ne_eq, not_false_eq_true, Int.reduceEq]
  · obtain ⟨p1, p2, p3, p4, p5, p6, p7, p8⟩ := pl i (j - 1) (by omega) (by omega)
    have c0 := S.cel hv (i := i) (j := j - 1) (by omega) (by omega)
    have c1 := S.cel hv (i := i - 1) (j := j - 1) (by omega) (by omega)
    simp only [F93B, thrP, dR, SS, insA, wantedA, Opd.ev, putA, binA, eqbA, unA, fldA, partA, reduceIte, reduceCtorEq, Nat.reduceMod, Nat.reduceDiv, Nat.reduceBEq, resultA, resA, vI, Nat.reduceMul, Nat.reduceAdd, Nat.reduceSub, Nat.reduceEqDiff, Nat.reduceLT, Nat.reducePow, Nat.reduceLeDiff, st, Option.bind_eq_bind, Option.pure_def, List.length_nil, Int.cast_ofNat_Int, List.reverse_nil, UU, idxP, cellsAt, storeA, fillA, zerosA, putAll, optNat, sliceA, row, Int.reduceLT, Int.reduceLE, Int.reduceGT, Int.reduceGE, Int.reduceEq, Int.reduceNe, Int.reduceToNat, Int.reduceBEq, Int.reduceBNe, Nat.reduceLeDiff, Nat.reduceLT, Nat.reduceBNe, Nat.reduceGT, List.drop_nil, List.take_nil, Option.isSome_none, Int.ofNat_one, Int.ofNat_zero, w2, p1, p2, p3, p4, p5, p6, p7, p8, c0.idx ht, c0.load ht, c0.idx2 ht, c0.load2 ht, c1.idx ht, c1.load ht, c1.idx2 ht, c1.load2 ht, Bool.bne_false, and_self, ne_eq, not_false_eq_true, Int.reduceEq]

/-! ### one step -/
def stepP (i j : Nat) : Nat → Nat × Nat × Nat
  | 0 => (i - 1, j, 2)
  | 1 => (i, j + 1, 3)
  | 2 => (i + 1, j, 0)
  | _ => (i, j - 1, 1)
def kn (k : Nat × Nat × Nat) : List AV := [vI k.1, vI k.2.1, vI k.2.2]
theorem step94 {n i j w : Nat} (h5 : n ≤ 5) (hi : 1 ≤ i ∧ i ≤ n) (hj : 1 ≤ j ∧ j ≤ n) (hw : w < 4) : freeX H (callL EV Y 94 [.agg [vI i, vI j, vI w]] []) = some (.agg (kn (stepP i j w)), H) := by
  have hcase : w = 0 ∨ w = 1 ∨ w = 2 ∨ w = 3 := by omega
  have w1 := wrap_pred (i := i) hi.1 (by omega)
  have w2 := wrap_pred (i := j) hj.1 (by omega)
  have w3 := wrap_succ (n := i) (by omega)
  have w4 := wrap_succ (n := j) (by omega)
  have m0 : Int.tmod (IntKind.wrap .i64 (0 + 2)) 4 = 2 := by rw [wrap_id (by omega) (by omega)]; rfl
  have m1 : Int.tmod (IntKind.wrap .i64 (1 + 2)) 4 = 3 := by rw [wrap_id (by omega) (by omega)]; rfl
  have m2 : Int.tmod (IntKind.wrap .i64 (2 + 2)) 4 = 0 := by rw [wrap_id (by omega) (by omega)]; rfl
  have m3 : Int.tmod (IntKind.wrap .i64 (3 + 2)) 4 = 1 := by rw [wrap_id (by omega) (by omega)]; rfl
  rw [call94 rfl]
  rcases hcase with rfl | rfl | rfl | rfl
  · simp only [F94B, stepP, kn, SS, insA, wantedA, Opd.ev, putA, binA, eqbA, unA, fldA, partA, reduceIte, reduceCtorEq, Nat.reduceMod, Nat.reduceDiv, Nat.reduceBEq, resultA, resA, vI, Nat.reduceMul, Nat.reduceAdd, Nat.reduceSub, Nat.reduceEqDiff, Nat.reduceLT, Nat.reducePow, Nat.reduceLeDiff, st, Option.bind_eq_bind, Option.pure_def, List.length_nil, Int.cast_ofNat_Int, List.reverse_nil, UU, idxP, cellsAt, storeA, fillA, zerosA, putAll, optNat, sliceA, row, Int.reduceLT, Int.reduceLE, Int.reduceGT, Int.reduceGE, Int.reduceEq, Int.reduceNe, Int.reduceToNat, Int.reduceBEq, Int.reduceBNe, Nat.reduceLeDiff, Nat.reduceLT, Nat.reduceBNe, Nat.reduceGT, List.drop_nil, List.take_nil, Option.isSome_none, Int.ofNat_one, Int.ofNat_zero, w1, w2, w3, w4, m0, m1, m2, m3, and_self, ne_eq, not_false_eq_true, Int.reduceEq, Int.cast_ofNat_Int, Int.ofNat_zero, Int.ofNat_one]
  · simp only [F94B, stepP, kn, SS, insA, wantedA, Opd.ev, putA, binA, eqbA, unA, fldA, partA, reduceIte, reduceCtorEq, Nat.reduceMod, Nat.reduceDiv, Nat.reduceBEq, resultA, resA, vI, Nat.reduceMul, Nat.reduceAdd, Nat.reduceSub, Nat.reduceEqDiff, Nat.reduceLT, Nat.reducePow, Nat.reduceLeDiff, st, Option.bind_eq_bind, Option.pure_def, List.length_nil, Int.cast_ofNat_Int, List.reverse_nil, UU, idxP, cellsAt, storeA, fillA, zerosA, putAll, optNat, sliceA, row, Int.reduceLT, Int.reduceLE, Int.reduceGT, Int.reduceGE, Int.reduceEq, Int.reduceNe, Int.reduceToNat, Int.reduceBEq, Int.reduceBNe, Nat.reduceLeDiff, Nat.reduceLT, Nat.reduceBNe, Nat.reduceGT, List.drop_nil, List.take_nil, Option.isSome_none, Int.ofNat_one, Int.ofNat_zero, w1, w2, w3, w4, m0, m1, m2, m3, and_self, ne_eq, not_false_eq_true, Int.reduceEq, Int.cast_ofNat_Int, Int.ofNat_zero, Int.ofNat_one]
  · simp only [F94B, stepP, kn, SS, insA, wantedA, Opd.ev, putA, binA, eqbA, unA, fldA, partA, reduceIte, reduceCtorEq, Nat.reduceMod, Nat.reduceDiv, Nat.reduceBEq, resultA, resA, vI, Nat.reduceMul, Nat.reduceAdd, Nat.reduceSub, Nat.reduceEqDiff, Nat.reduceLT, Nat.reducePow, Nat.reduceLeDiff, st, Option.bind_eq_bind, Option.pure_def, List.length_nil, Int.cast_ofNat_Int, List.reverse_nil, UU, idxP, cellsAt, storeA, fillA, zerosA, putAll, optNat, sliceA, row, Int.reduceLT, Int.reduceLE, Int.reduceGT, Int.reduceGE, Int.reduceEq, Int.reduceNe, Int.reduceToNat, Int.reduceBEq, Int.reduceBNe, Nat.reduceLeDiff, Nat.reduceLT, Nat.reduceBNe, Nat.reduceGT, List.drop_nil, List.take_nil, Option.isSome_none, Int.ofNat_one, Int.ofNat_zero, w1, w2, w3, w4, m0, m1, m2, m3, and_self, ne_eq, not_false_eq_true, Int.reduceEq, Int.cast_ofNat_Int, Int.ofNat_zero, Int.ofNat_one]
  · simp only [F94B, stepP, kn, SS, insA, wantedA, Opd.ev, putA, binA, eqbA, unA, fldA, partA, reduceIte, reduceCtorEq, Nat.reduceMod, Nat.reduceDiv, Nat.reduceBEq, resultA, resA, vI, Nat.reduceMul, Nat.reduceAdd, Nat.reduceSub, Nat.reduceEqDiff, Nat.reduceLT, Nat.reducePow, Nat.reduceLeDiff, st, Option.bind_eq_bind, Option.pure_def, List.length_nil, Int.cast_ofNat_Int, List.reverse_nil, UU, idxP, cellsAt, storeA, fillA, zerosA, putAll, optNat, sliceA, row, Int.reduceLT, Int.reduceLE, Int.reduceGT, Int.reduceGE, Int.reduceEq, Int.reduceNe, Int.reduceToNat, Int.reduceBEq, Int.reduceBNe, Nat.reduceLeDiff, Nat.reduceLT, Nat.reduceBNe, Nat.reduceGT, List.drop_nil, List.take_nil, Option.isSome_none, Int.ofNat_one, Int.ofNat_zero, w1, w2, w3, w4, m0, m1, m2, m3, and_self, ne_eq, not_false_eq_true, Int.reduceEq, Int.cast_ofNat_Int, Int.ofNat_zero, Int.ofNat_one]
end
end Go.X
