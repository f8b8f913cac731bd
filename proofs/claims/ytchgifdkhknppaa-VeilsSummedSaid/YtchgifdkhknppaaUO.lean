import Derived.Test.YtchgifdkhknppaaUN
/-! Veils: threads and ends, in the specification. -/
set_option linter.unusedSimpArgs false
set_option linter.unusedVariables false
set_option maxHeartbeats 8000000
set_option maxRecDepth 10000
namespace Go.X
open Go Go.RowKit
section
variable {Y : Run} {H : Heap}

theorem right97 {hv : AV} {h : List (List Int)} {n i k : Nat} (ht : IsTab hv h) (S : Steep n h) (hi : 1 ≤ i ∧ i ≤ n) (hk : k ≤ n) : freeX H (callL EV Y 97 [hv, vI i, vI k] []) = some (.bool (dR h i k), H) := by
  have h5 := S.n5
  have c0 := S.cel hv (i := i) (j := k) (by omega) (by omega)
  have c1 := S.cel hv (i := i - 1) (j := k) (by omega) (by omega)
  have b0 := S.hts.at (i := i) (j := k) (by omega) (by omega)
  have b1 := S.hts.at (i := i - 1) (j := k) (by omega) (by omega)
  have w1 := wrap_pred (i := i) hi.1 (by omega)
  have w2 : IntKind.wrap .i64 (at2 h i k - at2 h (i - 1) k) = at2 h i k - at2 h (i - 1) k := wrap_id (by omega) (by omega)
  have w3 : IntKind.wrap .i64 ((i : Int) + k) = (i : Int) + k := wrap_id (by omega) (by omega)
  rw [call97 rfl]
  simp only [F97B, dR, SS, insA, wantedA, Opd.ev, putA, binA, eqbA, unA, fldA, partA, reduceIte, reduceCtorEq, Nat.reduceMod, Nat.reduceDiv, Nat.reduceBEq, resultA, resA, vI, Nat.reduceMul, Nat.reduceAdd, Nat.reduceSub, Nat.reduceEqDiff, Nat.reduceLT, Nat.reducePow, Nat.reduceLeDiff, st, Option.bind_eq_bind, Option.pure_def, List.length_nil, Int.cast_ofNat_Int, List.reverse_nil, UU, idxP, cellsAt, storeA, fillA, zerosA, putAll, optNat, sliceA, row, Int.reduceLT, Int.reduceLE, Int.reduceGT, Int.reduceGE, Int.reduceEq, Int.reduceNe, Int.reduceToNat, Int.reduceBEq, Int.reduceBNe, Nat.reduceLeDiff, Nat.reduceLT, Nat.reduceBNe, Nat.reduceGT, List.drop_nil, List.take_nil, Option.isSome_none, Int.ofNat_one, Int.ofNat_zero, w1, w2, w3, tmod_two, c0.idx ht, c0.load ht, c0.idx2 ht, c0.load2 ht, c1.idx ht, c1.load ht, c1.idx2 ht, c1.load2 ht, Bool.bne_false, and_self, ne_eq, not_false_eq_true, Int.reduceEq]
theorem down96 {hv : AV} {h : List (List Int)} {n i k : Nat} (ht : IsTab hv h) (S : Steep n h) (hi : i ≤ n) (hk : 1 ≤ k ∧ k ≤ n) : freeX H (callL EV Y 96 [hv, vI i, vI k] []) = some (.bool (dD h i k), H) := by
  have h5 := S.n5
  have c0 := S.cel hv (i := i) (j := k) (by omega) (by omega)
  have c1 := S.cel hv (i := i) (j := k - 1) (by omega) (by omega)
  have b0 := S.hts.at (i := i) (j := k) (by omega) (by omega)
  have b1 := S.hts.at (i := i) (j := k - 1) (by omega) (by omega)
  have w1 := wrap_pred (i := k) hk.1 (by omega)
  have w2 : IntKind.wrap .i64 (at2 h i k - at2 h i (k - 1)) = at2 h i k - at2 h i (k - 1) := wrap_id (by omega) (by omega)
  have w3 : IntKind.wrap .i64 ((i : Int) + k) = (i : Int) + k := wrap_id (by omega) (by omega)
  rw [call96 rfl]
  simp only [F96B, dD, SS, insA, wantedA, Opd.ev, putA, binA, eqbA, unA, fldA, partA, reduceIte, reduceCtorEq, Nat.reduceMod, Nat.reduceDiv, Nat.reduceBEq, resultA, resA, vI, Nat.reduceMul, Nat.reduceAdd, Nat.reduceSub, Nat.reduceEqDiff, Nat.reduceLT, Nat.reducePow, Nat.reduceLeDiff, st, Option.bind_eq_bind, Option.pure_def, List.length_nil, Int.cast_ofNat_Int, List.reverse_nil, UU, idxP, cellsAt, storeA, fillA, zerosA, putAll, optNat, sliceA, row, Int.reduceLT, Int.reduceLE, Int.reduceGT, Int.reduceGE, Int.reduceEq, Int.reduceNe, Int.reduceToNat, Int.reduceBEq, Int.reduceBNe, Nat.reduceLeDiff, Nat.reduceLT, Nat.reduceBNe, Nat.reduceGT, List.drop_nil, List.take_nil, Option.isSome_none, Int.ofNat_one, Int.ofNat_zero, w1, w2, w3, tmod_two, c0.idx ht, c0.load ht, c0.idx2 ht, c0.load2 ht, c1.idx ht, c1.load ht, c1.idx2 ht, c1.load2 ht, Bool.bne_false, and_self, ne_eq, not_false_eq_true, Int.reduceEq]

def leadP (h : List (List Int)) (i k : Nat) : Nat → Bool
  | 0 => dD h i k
  | 1 => dR h i (k - 1)
  | 2 => dD h (i - 1) k
  | _ => dR h i k
theorem leads98 {hv : AV} {h : List (List Int)} {n i k x : Nat} (ht : IsTab hv h) (S : Steep n h) (hi : 1 ≤ i ∧ i ≤ n) (hk : 1 ≤ k ∧ k ≤ n) (hx : x < 4) : freeX H (callL EV Y 98 [hv, vI i, vI k, vI x] []) = some (.bool (leadP h i k x), H) := by
  have h5 := S.n5
  have hcase : x = 0 ∨ x = 1 ∨ x = 2 ∨ x = 3 := by omega
  have w1 := wrap_pred (i := i) hi.1 (by omega)
  have w2 := wrap_pred (i := k) hk.1 (by omega)
  have d0 := fun H => down96 (Y := Y) (H := H) (i := i) (k := k) ht S (by omega) hk
  have d2 := fun H => down96 (Y := Y) (H := H) (i := i - 1) (k := k) ht S (by omega) hk
  have r1 := fun H => right97 (Y := Y) (H := H) (i := i) (k := k - 1) ht S hi (by omega)
  have r3 := fun H => right97 (Y := Y) (H := H) (i := i) (k := k) ht S hi (by omega)
  rw [call98 rfl]
  simp only [SS, insA, wantedA, Opd.ev, putA, binA, eqbA, unA, fldA, partA, reduceIte, reduceCtorEq, Nat.reduceMod, Nat.reduceDiv, Nat.reduceBEq, resultA, resA, vI, Nat.reduceMul, Nat.reduceAdd, Nat.reduceSub, Nat.reduceEqDiff, Nat.reduceLT, Nat.reducePow, Nat.reduceLeDiff, st, Option.bind_eq_bind, Option.pure_def, List.length_nil, Int.cast_ofNat_Int, List.reverse_nil] at d0 d2 r1 r3
  rcases hcase with rfl | rfl | rfl | rfl
  · simp only [F98B, leadP, SS, insA, wantedA, Opd.ev, putA, binA, eqbA, unA, fldA, partA, reduceIte, reduceCtorEq, Nat.reduceMod, Nat.reduceDiv, Nat.reduceBEq, resultA, resA, vI, Nat.reduceMul, Nat.reduceAdd, Nat.reduceSub, Nat.reduceEqDiff, Nat.reduceLT, Nat.reducePow, Nat.reduceLeDiff, st, Option.bind_eq_bind, Option.pure_def, List.length_nil, Int.cast_ofNat_Int, List.reverse_nil, UU, idxP, cellsAt, storeA, fillA, zerosA, putAll, optNat, sliceA, row, Int.reduceLT, Int.reduceLE, Int.reduceGT, Int.reduceGE, Int.reduceEq, Int.reduceNe, Int.reduceToNat, Int.reduceBEq, Int.reduceBNe, Nat.reduceLeDiff, Nat.reduceLT, Nat.reduceBNe, Nat.reduceGT, List.drop_nil, List.take_nil, Option.isSome_none, Int.ofNat_one, Int.ofNat_zero, ht.snap, w1, w2, d0, d2, r1, r3, Int.cast_ofNat_Int]
  · simp only [F98B, leadP, SS, insA, wantedA, Opd.ev, putA, binA, eqbA, unA, fldA, partA, reduceIte, reduceCtorEq, Nat.reduceMod, Nat.reduceDiv, Nat.reduceBEq, resultA, resA, vI, Nat.reduceMul, Nat.reduceAdd, Nat.reduceSub, Nat.reduceEqDiff, Nat.reduceLT, Nat.reducePow, Nat.reduceLeDiff, st, Option.bind_eq_bind, Option.pure_def, List.length_nil, Int.cast_ofNat_Int, List.reverse_nil, UU, idxP, cellsAt, storeA, fillA, zerosA, putAll, optNat, sliceA, row, Int.reduceLT, Int.reduceLE, Int.reduceGT, Int.reduceGE, Int.reduceEq, Int.reduceNe, Int.reduceToNat, Int.reduceBEq, Int.reduceBNe, Nat.reduceLeDiff, Nat.reduceLT, Nat.reduceBNe, Nat.reduceGT, List.drop_nil, List.take_nil, Option.isSome_none, Int.ofNat_one, Int.ofNat_zero, ht.snap, w1, w2, d0, d2, r1, r3, Int.cast_ofNat_Int]
  · simp only [F98B, leadP, SS, insA, wantedA, Opd.ev, putA, binA, eqbA, unA, fldA, partA, reduceIte, reduceCtorEq, Nat.reduceMod, Nat.reduceDiv, Nat.reduceBEq, resultA, resA, vI, Nat.reduceMul, Nat.reduceAdd, Nat.reduceSub, Nat.reduceEqDiff, Nat.reduceLT, Nat.reducePow, Nat.reduceLeDiff, st, Option.bind_eq_bind, Option.pure_def, List.length_nil, Int.cast_ofNat_Int, List.reverse_nil, UU, idxP, cellsAt, storeA, fillA, zerosA, putAll, optNat, sliceA, row, Int.reduceLT, Int.reduceLE, Int.reduceGT, Int.reduceGE, Int.reduceEq, Int.reduceNe, Int.reduceToNat, Int.reduceBEq, Int.reduceBNe, Nat.reduceLeDiff, Nat.reduceLT, Nat.reduceBNe, Nat.reduceGT, List.drop_nil, List.take_nil, Option.isSome_none, Int.ofNat_one, Int.ofNat_zero, ht.snap, w1, w2, d0, d2, r1, r3, Int.cast_ofNat_Int]
  · simp only [F98B, leadP, SS, insA, wantedA, Opd.ev, putA, binA, eqbA, unA, fldA, partA, reduceIte, reduceCtorEq, Nat.reduceMod, Nat.reduceDiv, Nat.reduceBEq, resultA, resA, vI, Nat.reduceMul, Nat.reduceAdd, Nat.reduceSub, Nat.reduceEqDiff, Nat.reduceLT, Nat.reducePow, Nat.reduceLeDiff, st, Option.bind_eq_bind, Option.pure_def, List.length_nil, Int.cast_ofNat_Int, List.reverse_nil, UU, idxP, cellsAt, storeA, fillA, zerosA, putAll, optNat, sliceA, row, Int.reduceLT, Int.reduceLE, Int.reduceGT, Int.reduceGE, Int.reduceEq, Int.reduceNe, Int.reduceToNat, Int.reduceBEq, Int.reduceBNe, Nat.reduceLeDiff, Nat.reduceLT, Nat.reduceBNe, Nat.reduceGT, List.drop_nil, List.take_nil, Option.isSome_none, Int.ofNat_one, Int.ofNat_zero, ht.snap, w1, w2, d0, d2, r1, r3, Int.cast_ofNat_Int]

/-! ### follow -/
def nextR (h : List (List Int)) (i k d : Nat) : Nat → Nat → Int → Int
  | _, 0, c => c
  | x, m + 1, c => nextR h i k d (x + 1) m (if (x != (d + 2) % 4) && leadP h i k x then (x : Int) else c)

theorem L89_0 {hv : AV} {h : List (List Int)} {n i k d : Nat} (ht : IsTab hv h) (S : Steep n h) (hi : 1 ≤ i ∧ i ≤ n) (hk : 1 ≤ k ∧ k ≤ n) (hd : d < 4) (m : Nat) : ∀ (x : Nat) (c : Int), x + m = 4 →
    lp EV Y F89L0 (sp 80 [(12, vI x), (11, vI c), (10, vI n), (9, vI d), (8, vI k), (7, vI i), (0, hv)]) H = some (.x 2, sp 80 [(11, vI (nextR h i k d x m c)), (10, vI n), (8, vI k), (7, vI i), (0, hv)], H) := by
  have wd : Int.tmod (IntKind.wrap .i64 ((d : Int) + 2)) 4 = (((d + 2) % 4 : Nat) : Int) := by
    rw [wrap_id (by omega) (by omega), show (d : Int) + 2 = ((d + 2 : Nat) : Int) by omega, show (4 : Int) = ((4 : Nat) : Int) from rfl, ← Int.ofNat_tmod]
  induction m with
  | zero =>
    intro x c hx
    have : ¬ ((x : Int) < 4) := by omega
    rw [un89_0]
    simp only [F89L0b, nextR, SS, insA, wantedA, Opd.ev, putA, binA, eqbA, unA, fldA, partA, reduceIte, reduceCtorEq, Nat.reduceMod, Nat.reduceDiv, Nat.reduceBEq, resultA, resA, vI, Nat.reduceMul, Nat.reduceAdd, Nat.reduceSub, Nat.reduceEqDiff, Nat.reduceLT, Nat.reducePow, Nat.reduceLeDiff, st, Option.bind_eq_bind, Option.pure_def, List.length_nil, Int.cast_ofNat_Int, List.reverse_nil, UU, idxP, cellsAt, storeA, fillA, zerosA, putAll, optNat, sliceA, row, Int.reduceLT, Int.reduceLE, Int.reduceGT, Int.reduceGE, Int.reduceEq, Int.reduceNe, Int.reduceToNat, Int.reduceBEq, Int.reduceBNe, Nat.reduceLeDiff, Nat.reduceLT, Nat.reduceBNe, Nat.reduceGT, List.drop_nil, List.take_nil, Option.isSome_none, Int.ofNat_one, Int.ofNat_zero, this]
  | succ m ih =>
    intro x c hx
    have hc : (x : Int) < 4 := by omega
    have hww := wrap_succ (n := x) (by omega)
    have ld := fun H => leads98 (Y := Y) (H := H) (x := x) ht S hi hk (by omega)
    rw [un89_0]
    unfold nextR
    by_cases c1 : x = (d + 2) % 4
    · have e1 : (x != (d + 2) % 4) = false := by simp [c1]
      have e2 : ((x : Int) != (((d + 2) % 4 : Nat) : Int)) = false := by rw [c1]; exact bne_self_eq_false _
      rw [e1, Bool.false_and, if_neg (by decide)]
      have ih := ih (x + 1) c (by omega)
      simp only [SS, insA, wantedA, Opd.ev, putA, binA, eqbA, unA, fldA, partA, reduceIte, reduceCtorEq, Nat.reduceMod, Nat.reduceDiv, Nat.reduceBEq, resultA, resA, vI, Nat.reduceMul, Nat.reduceAdd, Nat.reduceSub, Nat.reduceEqDiff, Nat.reduceLT, Nat.reducePow, Nat.reduceLeDiff, st, Option.bind_eq_bind, Option.pure_def, List.length_nil, Int.cast_ofNat_Int, List.reverse_nil] at ih
      simp only [F89L0b, SS, insA, wantedA, Opd.ev, putA, binA, eqbA, unA, fldA, partA, reduceIte, reduceCtorEq, Nat.reduceMod, Nat.reduceDiv, Nat.reduceBEq, resultA, resA, vI, Nat.reduceMul, Nat.reduceAdd, Nat.reduceSub, Nat.reduceEqDiff, Nat.reduceLT, Nat.reducePow, Nat.reduceLeDiff, st, Option.bind_eq_bind, Option.pure_def, List.length_nil, Int.cast_ofNat_Int, List.reverse_nil, UU, idxP, cellsAt, storeA, fillA, zerosA, putAll, optNat, sliceA, row, Int.reduceLT, Int.reduceLE, Int.reduceGT, Int.reduceGE, Int.reduceEq, Int.reduceNe, Int.reduceToNat, Int.reduceBEq, Int.reduceBNe, Nat.reduceLeDiff, Nat.reduceLT, Nat.reduceBNe, Nat.reduceGT, List.drop_nil, List.take_nil, Option.isSome_none, Int.ofNat_one, Int.ofNat_zero, hc, wd, e2, hww, ih, and_self, ne_eq, not_false_eq_true, Int.reduceEq]
    · have e1 : (x != (d + 2) % 4) = true := by simp [c1]
      have e2 : ((x : Int) != (((d + 2) % 4 : Nat) : Int)) = true := by rw [bne_iff_ne]; omega
      rw [e1, Bool.true_and]
      cases c2 : leadP h i k x
      · rw [if_neg (by decide)]
        rw [c2] at ld
        have ih := ih (x + 1) c (by omega)
        simp only [SS, insA, wantedA, Opd.ev, putA, binA, eqbA, unA, fldA, partA, reduceIte, reduceCtorEq, Nat.reduceMod, Nat.reduceDiv, Nat.reduceBEq, resultA, resA, vI, Nat.reduceMul, Nat.reduceAdd, Nat.reduceSub, Nat.reduceEqDiff, Nat.reduceLT, Nat.reducePow, Nat.reduceLeDiff, st, Option.bind_eq_bind, Option.pure_def, List.length_nil, Int.cast_ofNat_Int, List.reverse_nil] at ih ld
        simp only [F89L0b, SS, insA, wantedA, Opd.ev, putA, binA, eqbA, unA, fldA, partA, reduceIte, reduceCtorEq, Nat.reduceMod, Nat.reduceDiv, Nat.reduceBEq, resultA, resA, vI, Nat.reduceMul, Nat.reduceAdd, Nat.reduceSub, Nat.reduceEqDiff, Nat.reduceLT, Nat.reducePow, Nat.reduceLeDiff, st, Option.bind_eq_bind, Option.pure_def, List.length_nil, Int.cast_ofNat_Int, List.reverse_nil, UU, idxP, cellsAt, storeA, fillA, zerosA, putAll, optNat, sliceA, row, Int.reduceLT, Int.reduceLE, Int.reduceGT, Int.reduceGE, Int.reduceEq, Int.reduceNe, Int.reduceToNat, Int.reduceBEq, Int.reduceBNe, Nat.reduceLeDiff, Nat.reduceLT, Nat.reduceBNe, Nat.reduceGT, List.drop_nil, List.take_nil, Option.isSome_none, Int.ofNat_one, Int.ofNat_zero, hc, wd, e2, ht.snap, ld, hww, ih, and_self, ne_eq, not_false_eq_true, Int.reduceEq]
      · rw [if_pos rfl]
        rw [c2] at ld
        have ih := ih (x + 1) x (by omega)
        simp only [SS, insA, wantedA, Opd.ev, putA, binA, eqbA, unA, fldA, partA, reduceIte, reduceCtorEq, Nat.reduceMod, Nat.reduceDiv, Nat.reduceBEq, resultA, resA, vI, Nat.reduceMul, Nat.reduceAdd, Nat.reduceSub, Nat.reduceEqDiff, Nat.reduceLT, Nat.reducePow, Nat.reduceLeDiff, st, Option.bind_eq_bind, Option.pure_def, List.length_nil, Int.cast_ofNat_Int, List.reverse_nil] at ih ld
        simp only [F89L0b, SS, insA, wantedA, Opd.ev, putA, binA, eqbA, unA, fldA, partA, reduceIte, reduceCtorEq, Nat.reduceMod, Nat.reduceDiv, Nat.reduceBEq, resultA, resA, vI, Nat.reduceMul, Nat.reduceAdd, Nat.reduceSub, Nat.reduceEqDiff, Nat.reduceLT, Nat.reducePow, Nat.reduceLeDiff, st, Option.bind_eq_bind, Option.pure_def, List.length_nil, Int.cast_ofNat_Int, List.reverse_nil, UU, idxP, cellsAt, storeA, fillA, zerosA, putAll, optNat, sliceA, row, Int.reduceLT, Int.reduceLE, Int.reduceGT, Int.reduceGE, Int.reduceEq, Int.reduceNe, Int.reduceToNat, Int.reduceBEq, Int.reduceBNe, Nat.reduceLeDiff, Nat.reduceLT, Nat.reduceBNe, Nat.reduceGT, List.drop_nil, List.take_nil, Option.isSome_none, Int.ofNat_one, Int.ofNat_zero, hc, wd, e2, ht.snap, ld, hww, ih, and_self, ne_eq, not_false_eq_true, Int.reduceEq]

def moveR (i k : Nat) : Nat → Nat × Nat
  | 0 => (i + 1, k)
  | 1 => (i, k - 1)
  | 2 => (i - 1, k)
  | _ => (i, k + 1)
def folR (h : List (List Int)) (n : Nat) : Nat → Nat → Nat → Nat → Option (Nat × Nat × Nat)
  | 0, _, _, _ => none
  | f + 1, i, k, d =>
    if 0 ≤ nextR h i k d 0 4 (-1) ∧ nextR h i k d 0 4 (-1) < 4 then
      let w := (nextR h i k d 0 4 (-1)).toNat
      let q := moveR i k w
      if 1 ≤ q.1 ∧ q.1 ≤ n ∧ 1 ≤ q.2 ∧ q.2 ≤ n then folR h n f q.1 q.2 w else some (i, k, w)
    else none

theorem L89_1 {hv : AV} {h : List (List Int)} {n : Nat} (ht : IsTab hv h) (S : Steep n h) : ∀ (f i k d : Nat) {r : Nat × Nat × Nat}, 1 ≤ i ∧ i ≤ n → 1 ≤ k ∧ k ≤ n → d < 4 → folR h n f i k d = some r →
    lp EV Y F89L1 (sp 80 [(10, vI n), (9, vI d), (8, vI k), (7, vI i), (0, hv)]) H = some (.r, sp 80 [(6, vI r.2.2), (5, vI r.2.1), (4, vI r.1)], H) ∧ r.2.2 < 4
  | 0, i, k, d, r, hi, hk, hd, hr => by cases hr
  | f + 1, i, k, d, r, hi, hk, hd, hr => by
    have h5 := S.n5
    have h0 := L89_0 (Y := Y) (H := H) ht S hi hk hd 4 0 (-1) (by omega)
    unfold folR at hr
    by_cases c : 0 ≤ nextR h i k d 0 4 (-1) ∧ nextR h i k d 0 4 (-1) < 4
    · rw [if_pos c] at hr
      obtain ⟨w, hw⟩ : ∃ w : Nat, nextR h i k d 0 4 (-1) = w := ⟨_, (Int.toNat_of_nonneg c.1).symm⟩
      rw [hw] at hr h0 c
      have hw4 : w < 4 := by omega
      rw [Int.toNat_natCast] at hr
      simp only at hr
      have hcase : w = 0 ∨ w = 1 ∨ w = 2 ∨ w = 3 := by omega
      have v1 := wrap_pred (i := i) hi.1 (by omega)
      have v2 := wrap_pred (i := k) hk.1 (by omega)
      have v3 := wrap_succ (n := i) (by omega)
      have v4 := wrap_succ (n := k) (by omega)
      rw [un89_1]
      simp only [SS, insA, wantedA, Opd.ev, putA, binA, eqbA, unA, fldA, partA, reduceIte, reduceCtorEq, Nat.reduceMod, Nat.reduceDiv, Nat.reduceBEq, resultA, resA, vI, Nat.reduceMul, Nat.reduceAdd, Nat.reduceSub, Nat.reduceEqDiff, Nat.reduceLT, Nat.reducePow, Nat.reduceLeDiff, st, Option.bind_eq_bind, Option.pure_def, List.length_nil, Int.cast_ofNat_Int, List.reverse_nil, Int.ofNat_zero] at h0
      by_cases q : 1 ≤ (moveR i k w).1 ∧ (moveR i k w).1 ≤ n ∧ 1 ≤ (moveR i k w).2 ∧ (moveR i k w).2 ≤ n
      · rw [if_pos q] at hr
        obtain ⟨p1, p2⟩ := L89_1 ht S f _ _ w ⟨q.1, q.2.1⟩ q.2.2 hw4 hr
        refine ⟨?_, p2⟩
        rcases hcase with rfl | rfl | rfl | rfl
        all_goals
          simp only [moveR] at q p1
          obtain ⟨q1, q2, q3, q4⟩ := q
          have g1 : ¬ ((i : Int) < 1) := by omega
          have g2 : ¬ ((i : Int) > n) := by omega
          have g3 : ¬ ((k : Int) < 1) := by omega
          have g4 : ¬ ((k : Int) > n) := by omega
        · have g5 : ¬ (((i + 1 : Nat) : Int) < 1) := by omega
          have g6 : ¬ (((i + 1 : Nat) : Int) > n) := by omega
          simp only [SS, insA, wantedA, Opd.ev, putA, binA, eqbA, unA, fldA, partA, reduceIte, reduceCtorEq, Nat.reduceMod, Nat.reduceDiv, Nat.reduceBEq, resultA, resA, vI, Nat.reduceMul, Nat.reduceAdd, Nat.reduceSub, Nat.reduceEqDiff, Nat.reduceLT, Nat.reducePow, Nat.reduceLeDiff, st, Option.bind_eq_bind, Option.pure_def, List.length_nil, Int.cast_ofNat_Int, List.reverse_nil, Int.ofNat_zero] at p1 h0
          simp only [F89L1b, F89T0, in89_0, SS, insA, wantedA, Opd.ev, putA, binA, eqbA, unA, fldA, partA, reduceIte, reduceCtorEq, Nat.reduceMod, Nat.reduceDiv, Nat.reduceBEq, resultA, resA, vI, Nat.reduceMul, Nat.reduceAdd, Nat.reduceSub, Nat.reduceEqDiff, Nat.reduceLT, Nat.reducePow, Nat.reduceLeDiff, st, Option.bind_eq_bind, Option.pure_def, List.length_nil, Int.cast_ofNat_Int, List.reverse_nil, UU, idxP, cellsAt, storeA, fillA, zerosA, putAll, optNat, sliceA, row, Int.reduceLT, Int.reduceLE, Int.reduceGT, Int.reduceGE, Int.reduceEq, Int.reduceNe, Int.reduceToNat, Int.reduceBEq, Int.reduceBNe, Nat.reduceLeDiff, Nat.reduceLT, Nat.reduceBNe, Nat.reduceGT, List.drop_nil, List.take_nil, Option.isSome_none, Int.ofNat_one, Int.ofNat_zero, h0, v1, v2, v3, v4, g1, g2, g3, g4, g5, g6, p1]
        · have g5 : ¬ (((k - 1 : Nat) : Int) < 1) := by omega
          have g6 : ¬ (((k - 1 : Nat) : Int) > n) := by omega
          simp only [SS, insA, wantedA, Opd.ev, putA, binA, eqbA, unA, fldA, partA, reduceIte, reduceCtorEq, Nat.reduceMod, Nat.reduceDiv, Nat.reduceBEq, resultA, resA, vI, Nat.reduceMul, Nat.reduceAdd, Nat.reduceSub, Nat.reduceEqDiff, Nat.reduceLT, Nat.reducePow, Nat.reduceLeDiff, st, Option.bind_eq_bind, Option.pure_def, List.length_nil, Int.cast_ofNat_Int, List.reverse_nil, Int.ofNat_one] at p1 h0
          simp only [F89L1b, F89T0, in89_0, SS, insA, wantedA, Opd.ev, putA, binA, eqbA, unA, fldA, partA, reduceIte, reduceCtorEq, Nat.reduceMod, Nat.reduceDiv, Nat.reduceBEq, resultA, resA, vI, Nat.reduceMul, Nat.reduceAdd, Nat.reduceSub, Nat.reduceEqDiff, Nat.reduceLT, Nat.reducePow, Nat.reduceLeDiff, st, Option.bind_eq_bind, Option.pure_def, List.length_nil, Int.cast_ofNat_Int, List.reverse_nil, UU, idxP, cellsAt, storeA, fillA, zerosA, putAll, optNat, sliceA, row, Int.reduceLT, Int.reduceLE, Int.reduceGT, Int.reduceGE, Int.reduceEq, Int.reduceNe, Int.reduceToNat, Int.reduceBEq, Int.reduceBNe, Nat.reduceLeDiff, Nat.reduceLT, Nat.reduceBNe, Nat.reduceGT, List.drop_nil, List.take_nil, Option.isSome_none, Int.ofNat_one, Int.ofNat_zero, h0, v1, v2, v3, v4, g1, g2, g3, g4, g5, g6, p1]
        · have g5 : ¬ (((i - 1 : Nat) : Int) < 1) := by omega
          have g6 : ¬ (((i - 1 : Nat) : Int) > n) := by omega
          simp only [SS, insA, wantedA, Opd.ev, putA, binA, eqbA, unA, fldA, partA, reduceIte, reduceCtorEq, Nat.reduceMod, Nat.reduceDiv, Nat.reduceBEq, resultA, resA, vI, Nat.reduceMul, Nat.reduceAdd, Nat.reduceSub, Nat.reduceEqDiff, Nat.reduceLT, Nat.reducePow, Nat.reduceLeDiff, st, Option.bind_eq_bind, Option.pure_def, List.length_nil, Int.cast_ofNat_Int, List.reverse_nil, Int.cast_ofNat_Int] at p1 h0
          simp only [F89L1b, F89T0, in89_0, SS, insA, wantedA, Opd.ev, putA, binA, eqbA, unA, fldA, partA, reduceIte, reduceCtorEq, Nat.reduceMod, Nat.reduceDiv, Nat.reduceBEq, resultA, resA, vI, Nat.reduceMul, Nat.reduceAdd, Nat.reduceSub, Nat.reduceEqDiff, Nat.reduceLT, Nat.reducePow, Nat.reduceLeDiff, st, Option.bind_eq_bind, Option.pure_def, List.length_nil, Int.cast_ofNat_Int, List.reverse_nil, UU, idxP, cellsAt, storeA, fillA, zerosA, putAll, optNat, sliceA, row, Int.reduceLT, Int.reduceLE, Int.reduceGT, Int.reduceGE, Int.reduceEq, Int.reduceNe, Int.reduceToNat, Int.reduceBEq, Int.reduceBNe, Nat.reduceLeDiff, Nat.reduceLT, Nat.reduceBNe, Nat.reduceGT, List.drop_nil, List.take_nil, Option.isSome_none, Int.ofNat_one, Int.ofNat_zero, h0, v1, v2, v3, v4, g1, g2, g3, g4, g5, g6, p1]
        · have g5 : ¬ (((k + 1 : Nat) : Int) < 1) := by omega
          have g6 : ¬ (((k + 1 : Nat) : Int) > n) := by omega
          simp only [SS, insA, wantedA, Opd.ev, putA, binA, eqbA, unA, fldA, partA, reduceIte, reduceCtorEq, Nat.reduceMod, Nat.reduceDiv, Nat.reduceBEq, resultA, resA, vI, Nat.reduceMul, Nat.reduceAdd, Nat.reduceSub, Nat.reduceEqDiff, Nat.reduceLT, Nat.reducePow, Nat.reduceLeDiff, st, Option.bind_eq_bind, Option.pure_def, List.length_nil, Int.cast_ofNat_Int, List.reverse_nil, Int.cast_ofNat_Int] at p1 h0
          simp only [F89L1b, F89T0, in89_0, SS, insA, wantedA, Opd.ev, putA, binA, eqbA, unA, fldA, partA, reduceIte, reduceCtorEq, Nat.reduceMod, Nat.reduceDiv, Nat.reduceBEq, resultA, resA, vI, Nat.reduceMul, Nat.reduceAdd, Nat.reduceSub, Nat.reduceEqDiff, Nat.reduceLT, Nat.reducePow, Nat.reduceLeDiff, st, Option.bind_eq_bind, Option.pure_def, List.length_nil, Int.cast_ofNat_Int, List.reverse_nil, UU, idxP, cellsAt, storeA, fillA, zerosA, putAll, optNat, sliceA, row, Int.reduceLT, Int.reduceLE, Int.reduceGT, Int.reduceGE, Int.reduceEq, Int.reduceNe, Int.reduceToNat, Int.reduceBEq, Int.reduceBNe, Nat.reduceLeDiff, Nat.reduceLT, Nat.reduceBNe, Nat.reduceGT, List.drop_nil, List.take_nil, Option.isSome_none, Int.ofNat_one, Int.ofNat_zero, h0, v1, v2, v3, v4, g1, g2, g3, g4, g5, g6, p1]
      · rw [if_neg q] at hr
        cases hr
        refine ⟨?_, hw4⟩
        have g1 : ¬ ((i : Int) < 1) := by omega
        have g2 : ¬ ((i : Int) > n) := by omega
        have g3 : ¬ ((k : Int) < 1) := by omega
        have g4 : ¬ ((k : Int) > n) := by omega
        rcases hcase with rfl | rfl | rfl | rfl
        · have g5 : ¬ (((i + 1 : Nat) : Int) < 1) := by omega
          have g6 : (((i + 1 : Nat) : Int) > n) := by simp only [moveR] at q; omega
          simp only [SS, insA, wantedA, Opd.ev, putA, binA, eqbA, unA, fldA, partA, reduceIte, reduceCtorEq, Nat.reduceMod, Nat.reduceDiv, Nat.reduceBEq, resultA, resA, vI, Nat.reduceMul, Nat.reduceAdd, Nat.reduceSub, Nat.reduceEqDiff, Nat.reduceLT, Nat.reducePow, Nat.reduceLeDiff, st, Option.bind_eq_bind, Option.pure_def, List.length_nil, Int.cast_ofNat_Int, List.reverse_nil, Int.ofNat_zero] at h0
          simp only [F89L1b, F89T0, in89_0, SS, insA, wantedA, Opd.ev, putA, binA, eqbA, unA, fldA, partA, reduceIte, reduceCtorEq, Nat.reduceMod, Nat.reduceDiv, Nat.reduceBEq, resultA, resA, vI, Nat.reduceMul, Nat.reduceAdd, Nat.reduceSub, Nat.reduceEqDiff, Nat.reduceLT, Nat.reducePow, Nat.reduceLeDiff, st, Option.bind_eq_bind, Option.pure_def, List.length_nil, Int.cast_ofNat_Int, List.reverse_nil, UU, idxP, cellsAt, storeA, fillA, zerosA, putAll, optNat, sliceA, row, Int.reduceLT, Int.reduceLE, Int.reduceGT, Int.reduceGE, Int.reduceEq, Int.reduceNe, Int.reduceToNat, Int.reduceBEq, Int.reduceBNe, Nat.reduceLeDiff, Nat.reduceLT, Nat.reduceBNe, Nat.reduceGT, List.drop_nil, List.take_nil, Option.isSome_none, Int.ofNat_one, Int.ofNat_zero, h0, v1, v2, v3, v4, g1, g2, g3, g4, g5, g6]
        · have g5 : (((k - 1 : Nat) : Int) < 1) := by simp only [moveR] at q; omega
          simp only [SS, insA, wantedA, Opd.ev, putA, binA, eqbA, unA, fldA, partA, reduceIte, reduceCtorEq, Nat.reduceMod, Nat.reduceDiv, Nat.reduceBEq, resultA, resA, vI, Nat.reduceMul, Nat.reduceAdd, Nat.reduceSub, Nat.reduceEqDiff, Nat.reduceLT, Nat.reducePow, Nat.reduceLeDiff, st, Option.bind_eq_bind, Option.pure_def, List.length_nil, Int.cast_ofNat_Int, List.reverse_nil, Int.ofNat_one] at h0
          simp only [F89L1b, F89T0, in89_0, SS, insA, wantedA, Opd.ev, putA, binA, eqbA, unA, fldA, partA, reduceIte, reduceCtorEq, Nat.reduceMod, Nat.reduceDiv, Nat.reduceBEq, resultA, resA, vI, Nat.reduceMul, Nat.reduceAdd, Nat.reduceSub, Nat.reduceEqDiff, Nat.reduceLT, Nat.reducePow, Nat.reduceLeDiff, st, Option.bind_eq_bind, Option.pure_def, List.length_nil, Int.cast_ofNat_Int, List.reverse_nil, UU, idxP, cellsAt, storeA, fillA, zerosA, putAll, optNat, sliceA, row, Int.reduceLT, Int.reduceLE, Int.reduceGT, Int.reduceGE, Int.reduceEq, Int.reduceNe, Int.reduceToNat, Int.reduceBEq, Int.reduceBNe, Nat.reduceLeDiff, Nat.reduceLT, Nat.reduceBNe, Nat.reduceGT, List.drop_nil, List.take_nil, Option.isSome_none, Int.ofNat_one, Int.ofNat_zero, h0, v1, v2, v3, v4, g1, g2, g3, g4, g5]
        · have g5 : (((i - 1 : Nat) : Int) < 1) := by simp only [moveR] at q; omega
          simp only [SS, insA, wantedA, Opd.ev, putA, binA, eqbA, unA, fldA, partA, reduceIte, reduceCtorEq, Nat.reduceMod, Nat.reduceDiv, Nat.reduceBEq, resultA, resA, vI, Nat.reduceMul, Nat.reduceAdd, Nat.reduceSub, Nat.reduceEqDiff, Nat.reduceLT, Nat.reducePow, Nat.reduceLeDiff, st, Option.bind_eq_bind, Option.pure_def, List.length_nil, Int.cast_ofNat_Int, List.reverse_nil, Int.cast_ofNat_Int] at h0
          simp only [F89L1b, F89T0, in89_0, SS, insA, wantedA, Opd.ev, putA, binA, eqbA, unA, fldA, partA, reduceIte, reduceCtorEq, Nat.reduceMod, Nat.reduceDiv, Nat.reduceBEq, resultA, resA, vI, Nat.reduceMul, Nat.reduceAdd, Nat.reduceSub, Nat.reduceEqDiff, Nat.reduceLT, Nat.reducePow, Nat.reduceLeDiff, st, Option.bind_eq_bind, Option.pure_def, List.length_nil, Int.cast_ofNat_Int, List.reverse_nil, UU, idxP, cellsAt, storeA, fillA, zerosA, putAll, optNat, sliceA, row, Int.reduceLT, Int.reduceLE, Int.reduceGT, Int.reduceGE, Int.reduceEq, Int.reduceNe, Int.reduceToNat, Int.reduceBEq, Int.reduceBNe, Nat.reduceLeDiff, Nat.reduceLT, Nat.reduceBNe, Nat.reduceGT, List.drop_nil, List.take_nil, Option.isSome_none, Int.ofNat_one, Int.ofNat_zero, h0, v1, v2, v3, v4, g1, g2, g3, g4, g5]
        · have g5 : ¬ (((k + 1 : Nat) : Int) < 1) := by omega
          have g6 : (((k + 1 : Nat) : Int) > n) := by simp only [moveR] at q; omega
          simp only [SS, insA, wantedA, Opd.ev, putA, binA, eqbA, unA, fldA, partA, reduceIte, reduceCtorEq, Nat.reduceMod, Nat.reduceDiv, Nat.reduceBEq, resultA, resA, vI, Nat.reduceMul, Nat.reduceAdd, Nat.reduceSub, Nat.reduceEqDiff, Nat.reduceLT, Nat.reducePow, Nat.reduceLeDiff, st, Option.bind_eq_bind, Option.pure_def, List.length_nil, Int.cast_ofNat_Int, List.reverse_nil, Int.cast_ofNat_Int] at h0
          simp only [F89L1b, F89T0, in89_0, SS, insA, wantedA, Opd.ev, putA, binA, eqbA, unA, fldA, partA, reduceIte, reduceCtorEq, Nat.reduceMod, Nat.reduceDiv, Nat.reduceBEq, resultA, resA, vI, Nat.reduceMul, Nat.reduceAdd, Nat.reduceSub, Nat.reduceEqDiff, Nat.reduceLT, Nat.reducePow, Nat.reduceLeDiff, st, Option.bind_eq_bind, Option.pure_def, List.length_nil, Int.cast_ofNat_Int, List.reverse_nil, UU, idxP, cellsAt, storeA, fillA, zerosA, putAll, optNat, sliceA, row, Int.reduceLT, Int.reduceLE, Int.reduceGT, Int.reduceGE, Int.reduceEq, Int.reduceNe, Int.reduceToNat, Int.reduceBEq, Int.reduceBNe, Nat.reduceLeDiff, Nat.reduceLT, Nat.reduceBNe, Nat.reduceGT, List.drop_nil, List.take_nil, Option.isSome_none, Int.ofNat_one, Int.ofNat_zero, h0, v1, v2, v3, v4, g1, g2, g3, g4, g5, g6]
    · rw [if_neg c] at hr; cases hr

theorem follow89 {hv : AV} {h : List (List Int)} {n i k d f : Nat} {r : Nat × Nat × Nat} (ht : IsTab hv h) (S : Steep n h) (hi : 1 ≤ i ∧ i ≤ n) (hk : 1 ≤ k ∧ k ≤ n) (hd : d < 4) (hr : folR h n f i k d = some r) :
    freeX H (callL EV Y 89 [hv, .agg [vI i, vI k, vI d]] []) = some (.tup [vI r.1, vI r.2.1, vI r.2.2], H) := by
  obtain ⟨p1, p2⟩ := L89_1 (Y := Y) (H := [⟨0, [vI i, vI k, vI d]⟩]) ht S f i k d hi hk hd hr
  have h5 := S.n5
  have wl : IntKind.wrap .i64 (((n + 1 : Nat) : Int) - 1) = n := by rw [wrap_id (by omega) (by omega)]; omega
  have hl : lenA hv = some (n + 1) := by rw [ht.len, S.len]
  rw [call89 rfl]
  simp only [SS, insA, wantedA, Opd.ev, putA, binA, eqbA, unA, fldA, partA, reduceIte, reduceCtorEq, Nat.reduceMod, Nat.reduceDiv, Nat.reduceBEq, resultA, resA, vI, Nat.reduceMul, Nat.reduceAdd, Nat.reduceSub, Nat.reduceEqDiff, Nat.reduceLT, Nat.reducePow, Nat.reduceLeDiff, st, Option.bind_eq_bind, Option.pure_def, List.length_nil, Int.cast_ofNat_Int, List.reverse_nil] at p1
  simp only [F89B, in89_1, SS, insA, wantedA, Opd.ev, putA, binA, eqbA, unA, fldA, partA, reduceIte, reduceCtorEq, Nat.reduceMod, Nat.reduceDiv, Nat.reduceBEq, resultA, resA, vI, Nat.reduceMul, Nat.reduceAdd, Nat.reduceSub, Nat.reduceEqDiff, Nat.reduceLT, Nat.reducePow, Nat.reduceLeDiff, st, Option.bind_eq_bind, Option.pure_def, List.length_nil, Int.cast_ofNat_Int, List.reverse_nil, UU, idxP, cellsAt, storeA, fillA, zerosA, putAll, optNat, sliceA, row, Int.reduceLT, Int.reduceLE, Int.reduceGT, Int.reduceGE, Int.reduceEq, Int.reduceNe, Int.reduceToNat, Int.reduceBEq, Int.reduceBNe, Nat.reduceLeDiff, Nat.reduceLT, Nat.reduceBNe, Nat.reduceGT, List.drop_nil, List.take_nil, Option.isSome_none, Int.ofNat_one, Int.ofNat_zero, hl, wl, p1]
end
end Go.X
