import Derived.Test.YtchgifdkhknppaaVL
/-! Veils: Minus, both ways. -/
set_option linter.unusedSimpArgs false
set_option linter.unusedVariables false
set_option maxHeartbeats 4000000
set_option maxRecDepth 10000
namespace Go.X
open Go Go.RowKit
section
variable {Y : Run} {H : Heap}

def negC (t : List (List Int)) (i j : Nat) : Int := if at2 t i j < 0 then 1 else 0
def invC (t : List (List Int)) (n i j : Nat) : Int := at2 t i j * (sumV t n j - sumV t (i + 1) j)
theorem negC_b (t : List (List Int)) (i j : Nat) : 0 ≤ negC t i j ∧ negC t i j ≤ 1 := by unfold negC; split <;> omega
theorem mul_unit {x y : Int} {B : Int} (hx : -1 ≤ x ∧ x ≤ 1) (hy : -B ≤ y ∧ y ≤ B) : -B ≤ x * y ∧ x * y ≤ B := by
  rcases (show x = -1 ∨ x = 0 ∨ x = 1 by omega) with rfl | rfl | rfl
  · rw [Int.neg_mul, Int.one_mul]; omega
  · rw [Int.zero_mul]; omega
  · rw [Int.one_mul]; omega
theorem invC_b {t : List (List Int)} (hu : unitT t) {n i j : Nat} (hn : n ≤ 20) (hi : i < n) (hj : j ≤ 20) : -800 ≤ invC t n i j ∧ invC t n i j ≤ 800 := by
  have h1 := sumV_bound hu (i := n) (j := j) hn hj
  have h2 := sumV_bound hu (i := i + 1) (j := j) (by omega) hj
  exact mul_unit (at2_bound hu i j) (by omega)

theorem L31_0 {vt rv : AV} {t : List (List Int)} {n i : Nat} (ht : IsTab vt t) (hu : unitT t) (hn : t.length = n) (h5 : n ≤ 5) (hr : ∀ r ∈ t, r.length = n) (hi : i < n) (hrv : IsRow rv (t.getD i [])) (d : Nat) : ∀ (j : Nat) (m s : Int), j + d = n →
    -10000 - j ≤ m ∧ m ≤ 10000 + j → -100000 - 800 * j ≤ s ∧ s ≤ 100000 + 800 * j →
    lp EV Y F31L0 (sp 57 [(29, vI j), (28, vI n), (27, rv), (22, vI i), (21, vI n), (20, vt), (9, vI i), (8, vI s), (7, vI m), (5, vt)]) H = some (.x 2, sp 57 [(22, vI i), (21, vI n), (20, vt), (8, vI (s + sumF (invC t n i) j d)), (7, vI (m + sumF (negC t i) j d)), (5, vt)], H) := by
  have hit : i < t.length := by omega
  rw [getD_get hit] at hrv
  have hl := ht.len
  rw [hn] at hl
  induction d with
  | zero =>
    intro j m s hj hm hs
    have : ¬ ((j : Int) < (n : Int)) := by omega
    rw [un31_0]
    simp only [F31L0b, SS, insA, wantedA, Opd.ev, putA, binA, eqbA, unA, fldA, partA, reduceIte, reduceCtorEq, Nat.reduceMod, Nat.reduceDiv, Nat.reduceBEq, resultA, resA, vI, Nat.reduceMul, Nat.reduceAdd, Nat.reduceSub, Nat.reduceEqDiff, Nat.reduceLT, Nat.reducePow, Nat.reduceLeDiff, st, Option.bind_eq_bind, Option.pure_def, List.length_nil, Int.cast_ofNat_Int, List.reverse_nil, UU, idxP, cellsAt, storeA, fillA, zerosA, putAll, optNat, sliceA, row, Int.reduceLT, Int.reduceLE, Int.reduceGT, Int.reduceGE, Int.reduceEq, Int.reduceNe, Int.reduceToNat, Int.reduceBEq, Int.reduceBNe, Nat.reduceLeDiff, Nat.reduceLT, Nat.reduceBNe, Nat.reduceGT, List.drop_nil, List.take_nil, Option.isSome_none, Int.ofNat_one, Int.ofNat_zero, this, sumF_0, Int.add_zero]
  | succ d ih =>
    intro j m s hj hm hs
    have hc : (j : Int) < (n : Int) := by omega
    have hww := wrap_succ (n := j) (by omega)
    have hwi := wrap_succ (n := i) (by omega)
    have k1 : j < t[i].length := by rw [hr _ (List.getElem_mem hit)]; omega
    have g1 : t[i].getD j 0 = at2 t i j := by unfold at2; rw [getD_get hit]
    have hb := negC_b t i j
    have hb2 := invC_b hu (n := n) (i := i) (j := j) (by omega) hi (by omega)
    have s1 := fun H => sum66 (Y := Y) (H := H) (i := n) (j := j) ht hu (by omega) (by omega) (fun r h => by rw [hr r h]; omega) (by omega)
    have s2 := fun H => sum66 (Y := Y) (H := H) (i := i + 1) (j := j) ht hu (by omega) (by omega) (fun r h => by rw [hr r h]; omega) (by omega)
    have b1 := sumV_bound hu (i := n) (j := j) (by omega) (by omega)
    have b2 := sumV_bound hu (i := i + 1) (j := j) (by omega) (by omega)
    have w1 : IntKind.wrap .i64 (sumV t n j - sumV t (i + 1) j) = sumV t n j - sumV t (i + 1) j := wrap_id (by omega) (by omega)
    have w2 : IntKind.wrap .i64 (at2 t i j * (sumV t n j - sumV t (i + 1) j)) = invC t n i j := wrap_id (by unfold invC at hb2; omega) (by unfold invC at hb2; omega)
    have w3 : IntKind.wrap .i64 (s + invC t n i j) = s + invC t n i j := wrap_id (by omega) (by omega)
    have w4 : IntKind.wrap .i64 (m + 1) = m + 1 := wrap_id (by omega) (by omega)
    have ih := ih (j + 1) (m + negC t i j) (s + invC t n i j) (by omega) (by omega) (by omega)
    rw [un31_0, sumF_s, sumF_s]
    by_cases c1 : at2 t i j < 0
    · have e : negC t i j = 1 := by unfold negC; rw [if_pos c1]
      rw [e] at ih ⊢
      simp only [SS, insA, wantedA, Opd.ev, putA, binA, eqbA, unA, fldA, partA, reduceIte, reduceCtorEq, Nat.reduceMod, Nat.reduceDiv, Nat.reduceBEq, resultA, resA, vI, Nat.reduceMul, Nat.reduceAdd, Nat.reduceSub, Nat.reduceEqDiff, Nat.reduceLT, Nat.reducePow, Nat.reduceLeDiff, st, Option.bind_eq_bind, Option.pure_def, List.length_nil, Int.cast_ofNat_Int, List.reverse_nil] at ih s1 s2
      simp only [F31L0b, SS, insA, wantedA, Opd.ev, putA, binA, eqbA, unA, fldA, partA, reduceIte, reduceCtorEq, Nat.reduceMod, Nat.reduceDiv, Nat.reduceBEq, resultA, resA, vI, Nat.reduceMul, Nat.reduceAdd, Nat.reduceSub, Nat.reduceEqDiff, Nat.reduceLT, Nat.reducePow, Nat.reduceLeDiff, st, Option.bind_eq_bind, Option.pure_def, List.length_nil, Int.cast_ofNat_Int, List.reverse_nil, UU, idxP, cellsAt, storeA, fillA, zerosA, putAll, optNat, sliceA, row, Int.reduceLT, Int.reduceLE, Int.reduceGT, Int.reduceGE, Int.reduceEq, Int.reduceNe, Int.reduceToNat, Int.reduceBEq, Int.reduceBNe, Nat.reduceLeDiff, Nat.reduceLT, Nat.reduceBNe, Nat.reduceGT, List.drop_nil, List.take_nil, Option.isSome_none, Int.ofNat_one, Int.ofNat_zero, hc, ht.snap, hl, hrv.idx k1, hrv.load k1, g1, c1, decide_true, hwi, hww, s1, s2, w1, w2, w3, w4, ih, Int.add_assoc]
    · have e : negC t i j = 0 := by unfold negC; rw [if_neg c1]
      rw [e] at ih ⊢
      rw [Int.add_zero] at ih
      simp only [SS, insA, wantedA, Opd.ev, putA, binA, eqbA, unA, fldA, partA, reduceIte, reduceCtorEq, Nat.reduceMod, Nat.reduceDiv, Nat.reduceBEq, resultA, resA, vI, Nat.reduceMul, Nat.reduceAdd, Nat.reduceSub, Nat.reduceEqDiff, Nat.reduceLT, Nat.reducePow, Nat.reduceLeDiff, st, Option.bind_eq_bind, Option.pure_def, List.length_nil, Int.cast_ofNat_Int, List.reverse_nil] at ih s1 s2
      simp only [F31L0b, SS, insA, wantedA, Opd.ev, putA, binA, eqbA, unA, fldA, partA, reduceIte, reduceCtorEq, Nat.reduceMod, Nat.reduceDiv, Nat.reduceBEq, resultA, resA, vI, Nat.reduceMul, Nat.reduceAdd, Nat.reduceSub, Nat.reduceEqDiff, Nat.reduceLT, Nat.reducePow, Nat.reduceLeDiff, st, Option.bind_eq_bind, Option.pure_def, List.length_nil, Int.cast_ofNat_Int, List.reverse_nil, UU, idxP, cellsAt, storeA, fillA, zerosA, putAll, optNat, sliceA, row, Int.reduceLT, Int.reduceLE, Int.reduceGT, Int.reduceGE, Int.reduceEq, Int.reduceNe, Int.reduceToNat, Int.reduceBEq, Int.reduceBNe, Nat.reduceLeDiff, Nat.reduceLT, Nat.reduceBNe, Nat.reduceGT, List.drop_nil, List.take_nil, Option.isSome_none, Int.ofNat_one, Int.ofNat_zero, hc, ht.snap, hl, hrv.idx k1, hrv.load k1, g1, c1, decide_false, hwi, hww, s1, s2, w1, w2, w3, ih, Int.add_assoc, Int.zero_add]

theorem L31_1 {vt : AV} {t : List (List Int)} {n : Nat} (ht : IsTab vt t) (hu : unitT t) (hn : t.length = n) (h5 : n ≤ 5) (hr : ∀ r ∈ t, r.length = n) (d : Nat) : ∀ (i : Nat) (m s : Int), i + d = n →
    -20 * i ≤ m ∧ m ≤ 20 * i → -8000 * i ≤ s ∧ s ≤ 8000 * i →
    lp EV Y F31L1 (sp 57 [(22, vI i), (21, vI n), (20, vt), (8, vI s), (7, vI m), (5, vt)]) H = some (.x 0, sp 57 [(8, vI (s + sumF (fun i => sumF (invC t n i) 0 n) i d)), (7, vI (m + sumF (fun i => sumF (negC t i) 0 n) i d))], H) := by
  induction d with
  | zero =>
    intro i m s hi hm hs
    have : ¬ ((i : Int) < (n : Int)) := by omega
    rw [un31_1]
    simp only [F31L1b, SS, insA, wantedA, Opd.ev, putA, binA, eqbA, unA, fldA, partA, reduceIte, reduceCtorEq, Nat.reduceMod, Nat.reduceDiv, Nat.reduceBEq, resultA, resA, vI, Nat.reduceMul, Nat.reduceAdd, Nat.reduceSub, Nat.reduceEqDiff, Nat.reduceLT, Nat.reducePow, Nat.reduceLeDiff, st, Option.bind_eq_bind, Option.pure_def, List.length_nil, Int.cast_ofNat_Int, List.reverse_nil, UU, idxP, cellsAt, storeA, fillA, zerosA, putAll, optNat, sliceA, row, Int.reduceLT, Int.reduceLE, Int.reduceGT, Int.reduceGE, Int.reduceEq, Int.reduceNe, Int.reduceToNat, Int.reduceBEq, Int.reduceBNe, Nat.reduceLeDiff, Nat.reduceLT, Nat.reduceBNe, Nat.reduceGT, List.drop_nil, List.take_nil, Option.isSome_none, Int.ofNat_one, Int.ofNat_zero, this, sumF_0, Int.add_zero]
  | succ d ih =>
    intro i m s hi hm hs
    have hc : (i : Int) < (n : Int) := by omega
    have hww := wrap_succ (n := i) (by omega)
    have hit : i < t.length := by omega
    have r1 := ht.row hit
    have hl1 : (t.getD i []).length = n := by rw [getD_get hit]; exact hr _ (List.getElem_mem hit)
    have hl := r1.len
    rw [hl1] at hl
    have h0 := L31_0 (Y := Y) (H := H) ht hu hn h5 hr (show i < n by omega) r1 n 0 m s (by omega) (by omega) (by omega)
    have c1 := sumF_bound (f := negC t i) (B := 1) (fun j => by have := negC_b t i j; omega) n 0
    have c2 : -8000 ≤ sumF (invC t n i) 0 n ∧ sumF (invC t n i) 0 n ≤ 8000 := by
      have e : sumF (invC t n i) 0 n = sumF (fun j => if j ≤ 20 then invC t n i j else 0) 0 n := sumF_congr n 0 fun j _ hj => by rw [if_pos (by omega)]
      rw [e]
      have := sumF_bound (f := fun j => if j ≤ 20 then invC t n i j else 0) (B := 800) (fun j => by
        split
        · exact invC_b hu (by omega) (by omega) (by omega)
        · omega) n 0
      omega
    have ih := ih (i + 1) (m + sumF (negC t i) 0 n) (s + sumF (invC t n i) 0 n) (by omega) (by omega) (by omega)
    rw [un31_1, sumF_s, sumF_s]
    simp only [SS, insA, wantedA, Opd.ev, putA, binA, eqbA, unA, fldA, partA, reduceIte, reduceCtorEq, Nat.reduceMod, Nat.reduceDiv, Nat.reduceBEq, resultA, resA, vI, Nat.reduceMul, Nat.reduceAdd, Nat.reduceSub, Nat.reduceEqDiff, Nat.reduceLT, Nat.reducePow, Nat.reduceLeDiff, st, Option.bind_eq_bind, Option.pure_def, List.length_nil, Int.cast_ofNat_Int, List.reverse_nil, Int.ofNat_zero] at h0 ih
    simp only [F31L1b, F31T0, in31_0, SS, insA, wantedA, Opd.ev, putA, binA, eqbA, unA, fldA, partA, reduceIte, reduceCtorEq, Nat.reduceMod, Nat.reduceDiv, Nat.reduceBEq, resultA, resA, vI, Nat.reduceMul, Nat.reduceAdd, Nat.reduceSub, Nat.reduceEqDiff, Nat.reduceLT, Nat.reducePow, Nat.reduceLeDiff, st, Option.bind_eq_bind, Option.pure_def, List.length_nil, Int.cast_ofNat_Int, List.reverse_nil, UU, idxP, cellsAt, storeA, fillA, zerosA, putAll, optNat, sliceA, row, Int.reduceLT, Int.reduceLE, Int.reduceGT, Int.reduceGE, Int.reduceEq, Int.reduceNe, Int.reduceToNat, Int.reduceBEq, Int.reduceBNe, Nat.reduceLeDiff, Nat.reduceLT, Nat.reduceBNe, Nat.reduceGT, List.drop_nil, List.take_nil, Option.isSome_none, Int.ofNat_one, Int.ofNat_zero, hc, ht.idx hit, ht.load hit, hl, h0, hww, ih, Int.add_assoc]

theorem minus31 {vt : AV} {t : List (List Int)} (ht : IsTab vt t) (hs : Small t) : freeX H (callL EV Y 31 [vt] []) = some (if readOk t = true then .tup [vI (sumF (fun i => sumF (negC t i) 0 t.length) 0 t.length), vI (sumF (fun i => sumF (invC t t.length i) 0 t.length) 0 t.length), vI 0] else .tup [vI 0, vI 0, vI 2], H) := by
  obtain ⟨H1, q, _⟩ := read64 (Y := Y) ht hs []
  rw [call31 rfl]
  cases ho : readOk t
  · rw [ho] at q
    simp only [Bool.false_eq_true, if_false] at q ⊢
    simp only [F31B, SS, insA, wantedA, Opd.ev, putA, binA, eqbA, unA, fldA, partA, reduceIte, reduceCtorEq, Nat.reduceMod, Nat.reduceDiv, Nat.reduceBEq, resultA, resA, vI, Nat.reduceMul, Nat.reduceAdd, Nat.reduceSub, Nat.reduceEqDiff, Nat.reduceLT, Nat.reducePow, Nat.reduceLeDiff, st, Option.bind_eq_bind, Option.pure_def, List.length_nil, Int.cast_ofNat_Int, List.reverse_nil, UU, idxP, cellsAt, storeA, fillA, zerosA, putAll, optNat, sliceA, row, Int.reduceLT, Int.reduceLE, Int.reduceGT, Int.reduceGE, Int.reduceEq, Int.reduceNe, Int.reduceToNat, Int.reduceBEq, Int.reduceBNe, Nat.reduceLeDiff, Nat.reduceLT, Nat.reduceBNe, Nat.reduceGT, List.drop_nil, List.take_nil, Option.isSome_none, Int.ofNat_one, Int.ofNat_zero, q]
  · have hv := veil_iff.1 ho
    rw [ho, if_pos rfl] at q
    have h1 := L31_1 (Y := Y) (H := H1) ht hv.unit rfl hv.n5 hv.row t.length 0 0 0 (by omega) (by omega) (by omega)
    rw [Int.zero_add, Int.zero_add] at h1
    simp only [SS, insA, wantedA, Opd.ev, putA, binA, eqbA, unA, fldA, partA, reduceIte, reduceCtorEq, Nat.reduceMod, Nat.reduceDiv, Nat.reduceBEq, resultA, resA, vI, Nat.reduceMul, Nat.reduceAdd, Nat.reduceSub, Nat.reduceEqDiff, Nat.reduceLT, Nat.reducePow, Nat.reduceLeDiff, st, Option.bind_eq_bind, Option.pure_def, List.length_nil, Int.cast_ofNat_Int, List.reverse_nil, Int.ofNat_zero] at h1
    simp only [F31B, F31T1, in31_1, SS, insA, wantedA, Opd.ev, putA, binA, eqbA, unA, fldA, partA, reduceIte, reduceCtorEq, Nat.reduceMod, Nat.reduceDiv, Nat.reduceBEq, resultA, resA, vI, Nat.reduceMul, Nat.reduceAdd, Nat.reduceSub, Nat.reduceEqDiff, Nat.reduceLT, Nat.reducePow, Nat.reduceLeDiff, st, Option.bind_eq_bind, Option.pure_def, List.length_nil, Int.cast_ofNat_Int, List.reverse_nil, UU, idxP, cellsAt, storeA, fillA, zerosA, putAll, optNat, sliceA, row, Int.reduceLT, Int.reduceLE, Int.reduceGT, Int.reduceGE, Int.reduceEq, Int.reduceNe, Int.reduceToNat, Int.reduceBEq, Int.reduceBNe, Nat.reduceLeDiff, Nat.reduceLT, Nat.reduceBNe, Nat.reduceGT, List.drop_nil, List.take_nil, Option.isSome_none, Int.ofNat_one, Int.ofNat_zero, q, ht.len, h1]

/-! ### The specification's -/
def onesC (t : List (List Int)) (i j : Nat) : Int := if at2 t i j = -1 then 1 else 0
def invR (t : List (List Int)) (n i k : Nat) : Int := at2 t i k * sumF (fun a => rowS t a k) (i + 1) (n - (i + 1))

theorem L32_0 {vt mv : AV} {t : List (List Int)} {n i k a : Nat} (ht : IsTab vt t) (hu : unitT t) (hn : t.length = n) (h5 : n ≤ 5) (hr : ∀ r ∈ t, r.length = n) (hi : i < n) (hk : k < n) (ha : a < n) (d : Nat) : ∀ (b : Nat) (s : Int), b + d = k → -100000 - b ≤ s ∧ s ≤ 100000 + b →
    lp EV Y F32L0 (sp 68 [(10, vI b), (9, vI a), (8, vI k), (7, vI i), (6, vI s), (5, mv), (0, vt)]) H = some (.x 6, sp 68 [(9, vI a), (8, vI k), (7, vI i), (6, vI (s + at2 t i k * sumI ((t.getD a []).take k |>.drop b))), (5, mv), (0, vt)], H) := by
  have hit : i < t.length := by omega
  have hat : a < t.length := by omega
  have ri := ht.row hit
  have ra := ht.row hat
  rw [getD_get hit] at ri
  rw [getD_get hat] at ra ⊢
  have k0 : k < t[i].length := by rw [hr _ (List.getElem_mem hit)]; omega
  have g0 : t[i].getD k 0 = at2 t i k := by unfold at2; rw [getD_get hit]
  have hl : t[a].length = n := hr _ (List.getElem_mem hat)
  induction d with
  | zero =>
    intro b s hb hs
    have : ¬ ((b : Int) < (k : Int)) := by omega
    rw [un32_0, List.drop_eq_nil_of_le (by simp; omega)]
    simp only [F32L0b, SS, insA, wantedA, Opd.ev, putA, binA, eqbA, unA, fldA, partA, reduceIte, reduceCtorEq, Nat.reduceMod, Nat.reduceDiv, Nat.reduceBEq, resultA, resA, vI, Nat.reduceMul, Nat.reduceAdd, Nat.reduceSub, Nat.reduceEqDiff, Nat.reduceLT, Nat.reducePow, Nat.reduceLeDiff, st, Option.bind_eq_bind, Option.pure_def, List.length_nil, Int.cast_ofNat_Int, List.reverse_nil, UU, idxP, cellsAt, storeA, fillA, zerosA, putAll, optNat, sliceA, row, Int.reduceLT, Int.reduceLE, Int.reduceGT, Int.reduceGE, Int.reduceEq, Int.reduceNe, Int.reduceToNat, Int.reduceBEq, Int.reduceBNe, Nat.reduceLeDiff, Nat.reduceLT, Nat.reduceBNe, Nat.reduceGT, List.drop_nil, List.take_nil, Option.isSome_none, Int.ofNat_one, Int.ofNat_zero, this, sumI, Int.mul_zero, Int.add_zero]
  | succ d ih =>
    intro b s hb hs
    have hc : (b : Int) < (k : Int) := by omega
    have hww := wrap_succ (n := b) (by omega)
    have k1 : b < t[a].length := by omega
    have k2 : b < (t[a].take k).length := by simp; omega
    have hx := hu t[a] (List.getElem_mem hat) t[a][b] (List.getElem_mem k1)
    have hy := mul_unit (at2_bound hu i k) hx
    have g1 : t[a].getD b 0 = t[a][b] := getD_get k1
    have w1 : IntKind.wrap .i64 (at2 t i k * t[a][b]) = at2 t i k * t[a][b] := wrap_id (by omega) (by omega)
    have w2 : IntKind.wrap .i64 (s + at2 t i k * t[a][b]) = s + at2 t i k * t[a][b] := wrap_id (by omega) (by omega)
    have ih := ih (b + 1) (s + at2 t i k * t[a][b]) (by omega) (by omega)
    rw [un32_0, List.drop_eq_getElem_cons k2, List.getElem_take]
    simp only [SS, insA, wantedA, Opd.ev, putA, binA, eqbA, unA, fldA, partA, reduceIte, reduceCtorEq, Nat.reduceMod, Nat.reduceDiv, Nat.reduceBEq, resultA, resA, vI, Nat.reduceMul, Nat.reduceAdd, Nat.reduceSub, Nat.reduceEqDiff, Nat.reduceLT, Nat.reducePow, Nat.reduceLeDiff, st, Option.bind_eq_bind, Option.pure_def, List.length_nil, Int.cast_ofNat_Int, List.reverse_nil] at ih
    simp only [F32L0b, SS, insA, wantedA, Opd.ev, putA, binA, eqbA, unA, fldA, partA, reduceIte, reduceCtorEq, Nat.reduceMod, Nat.reduceDiv, Nat.reduceBEq, resultA, resA, vI, Nat.reduceMul, Nat.reduceAdd, Nat.reduceSub, Nat.reduceEqDiff, Nat.reduceLT, Nat.reducePow, Nat.reduceLeDiff, st, Option.bind_eq_bind, Option.pure_def, List.length_nil, Int.cast_ofNat_Int, List.reverse_nil, UU, idxP, cellsAt, storeA, fillA, zerosA, putAll, optNat, sliceA, row, Int.reduceLT, Int.reduceLE, Int.reduceGT, Int.reduceGE, Int.reduceEq, Int.reduceNe, Int.reduceToNat, Int.reduceBEq, Int.reduceBNe, Nat.reduceLeDiff, Nat.reduceLT, Nat.reduceBNe, Nat.reduceGT, List.drop_nil, List.take_nil, Option.isSome_none, Int.ofNat_one, Int.ofNat_zero, hc, ht.idx hit, ht.load hit, ri.idx k0, ri.load k0, g0, ht.idx hat, ht.load hat, ra.idx k1, ra.load k1, g1, w1, w2, hww, ih, sumI, Int.mul_add, Int.add_assoc]

theorem L32_1 {vt mv : AV} {t : List (List Int)} {n i k : Nat} (ht : IsTab vt t) (hu : unitT t) (hn : t.length = n) (h5 : n ≤ 5) (hr : ∀ r ∈ t, r.length = n) (hi : i < n) (hk : k < n) (d : Nat) : ∀ (a : Nat) (s : Int), a + d = n → -10000 - 20 * a ≤ s ∧ s ≤ 10000 + 20 * a →
    lp EV Y F32L1 (sp 68 [(9, vI a), (8, vI k), (7, vI i), (6, vI s), (5, mv), (0, vt)]) H = some (.x 4, sp 68 [(8, vI k), (7, vI i), (6, vI (s + at2 t i k * sumF (fun a => rowS t a k) a d)), (5, mv), (0, vt)], H) := by
  have hl := ht.len
  rw [hn] at hl
  induction d with
  | zero =>
    intro a s ha hs
    have : ¬ ((a : Int) < (n : Int)) := by omega
    rw [un32_1]
    simp only [F32L1b, SS, insA, wantedA, Opd.ev, putA, binA, eqbA, unA, fldA, partA, reduceIte, reduceCtorEq, Nat.reduceMod, Nat.reduceDiv, Nat.reduceBEq, resultA, resA, vI, Nat.reduceMul, Nat.reduceAdd, Nat.reduceSub, Nat.reduceEqDiff, Nat.reduceLT, Nat.reducePow, Nat.reduceLeDiff, st, Option.bind_eq_bind, Option.pure_def, List.length_nil, Int.cast_ofNat_Int, List.reverse_nil, UU, idxP, cellsAt, storeA, fillA, zerosA, putAll, optNat, sliceA, row, Int.reduceLT, Int.reduceLE, Int.reduceGT, Int.reduceGE, Int.reduceEq, Int.reduceNe, Int.reduceToNat, Int.reduceBEq, Int.reduceBNe, Nat.reduceLeDiff, Nat.reduceLT, Nat.reduceBNe, Nat.reduceGT, List.drop_nil, List.take_nil, Option.isSome_none, Int.ofNat_one, Int.ofNat_zero, hl, this, sumF_0, Int.mul_zero, Int.add_zero]
  | succ d ih =>
    intro a s ha hs
    have hc : (a : Int) < (n : Int) := by omega
    have hww := wrap_succ (n := a) (by omega)
    have hb := mul_unit (B := 20) (at2_bound hu i k) (rowS_bound hu (k := k) (by omega) a)
    have h0 := L32_0 (Y := Y) (H := H) (mv := mv) ht hu hn h5 hr hi hk (show a < n by omega) k 0 s (by omega) (by omega)
    rw [List.drop_zero] at h0
    change lp EV Y F32L0 _ H = some (.x 6, sp 68 [_, _, _, (6, vI (s + at2 t i k * rowS t a k)), _, _], H) at h0
    have ih := ih (a + 1) (s + at2 t i k * rowS t a k) (by omega) (by omega)
    rw [un32_1, sumF_s]
    simp only [SS, insA, wantedA, Opd.ev, putA, binA, eqbA, unA, fldA, partA, reduceIte, reduceCtorEq, Nat.reduceMod, Nat.reduceDiv, Nat.reduceBEq, resultA, resA, vI, Nat.reduceMul, Nat.reduceAdd, Nat.reduceSub, Nat.reduceEqDiff, Nat.reduceLT, Nat.reducePow, Nat.reduceLeDiff, st, Option.bind_eq_bind, Option.pure_def, List.length_nil, Int.cast_ofNat_Int, List.reverse_nil, Int.ofNat_zero] at h0 ih
    simp only [F32L1b, F32T0, in32_0, SS, insA, wantedA, Opd.ev, putA, binA, eqbA, unA, fldA, partA, reduceIte, reduceCtorEq, Nat.reduceMod, Nat.reduceDiv, Nat.reduceBEq, resultA, resA, vI, Nat.reduceMul, Nat.reduceAdd, Nat.reduceSub, Nat.reduceEqDiff, Nat.reduceLT, Nat.reducePow, Nat.reduceLeDiff, st, Option.bind_eq_bind, Option.pure_def, List.length_nil, Int.cast_ofNat_Int, List.reverse_nil, UU, idxP, cellsAt, storeA, fillA, zerosA, putAll, optNat, sliceA, row, Int.reduceLT, Int.reduceLE, Int.reduceGT, Int.reduceGE, Int.reduceEq, Int.reduceNe, Int.reduceToNat, Int.reduceBEq, Int.reduceBNe, Nat.reduceLeDiff, Nat.reduceLT, Nat.reduceBNe, Nat.reduceGT, List.drop_nil, List.take_nil, Option.isSome_none, Int.ofNat_one, Int.ofNat_zero, hl, hc, h0, hww, ih, Int.mul_add, Int.add_assoc]

theorem invR_b {t : List (List Int)} (hu : unitT t) {n i k : Nat} (hn : n ≤ 5) (hk : k ≤ 20) : -100 ≤ invR t n i k ∧ invR t n i k ≤ 100 := by
  have h1 := sumF_bound (f := fun a => rowS t a k) (B := 20) (fun a => rowS_bound hu hk a) (n - (i + 1)) (i + 1)
  have h2 : ((n - (i + 1) : Nat) : Int) ≤ 5 := by omega
  exact mul_unit (at2_bound hu i k) (by omega)
theorem onesC_b (t : List (List Int)) (i j : Nat) : 0 ≤ onesC t i j ∧ onesC t i j ≤ 1 := by unfold onesC; split <;> omega

theorem L32_2 {vt : AV} {t : List (List Int)} {n i : Nat} (ht : IsTab vt t) (hu : unitT t) (hn : t.length = n) (h5 : n ≤ 5) (hr : ∀ r ∈ t, r.length = n) (hi : i < n) (d : Nat) : ∀ (k : Nat) (m s : Int), k + d = n → -1000 - k ≤ m ∧ m ≤ 1000 + k → -5000 - 100 * k ≤ s ∧ s ≤ 5000 + 100 * k →
    lp EV Y F32L2 (sp 68 [(8, vI k), (7, vI i), (6, vI s), (5, vI m), (0, vt)]) H = some (.x 2, sp 68 [(7, vI i), (6, vI (s + sumF (invR t n i) k d)), (5, vI (m + sumF (onesC t i) k d)), (0, vt)], H) := by
  have hit : i < t.length := by omega
  have ri := ht.row hit
  rw [getD_get hit] at ri
  have hl := ht.len
  rw [hn] at hl
  induction d with
  | zero =>
    intro k m s hk hm hs
    have : ¬ ((k : Int) < (n : Int)) := by omega
    rw [un32_2]
    simp only [F32L2b, SS, insA, wantedA, Opd.ev, putA, binA, eqbA, unA, fldA, partA, reduceIte, reduceCtorEq, Nat.reduceMod, Nat.reduceDiv, Nat.reduceBEq, resultA, resA, vI, Nat.reduceMul, Nat.reduceAdd, Nat.reduceSub, Nat.reduceEqDiff, Nat.reduceLT, Nat.reducePow, Nat.reduceLeDiff, st, Option.bind_eq_bind, Option.pure_def, List.length_nil, Int.cast_ofNat_Int, List.reverse_nil, UU, idxP, cellsAt, storeA, fillA, zerosA, putAll, optNat, sliceA, row, Int.reduceLT, Int.reduceLE, Int.reduceGT, Int.reduceGE, Int.reduceEq, Int.reduceNe, Int.reduceToNat, Int.reduceBEq, Int.reduceBNe, Nat.reduceLeDiff, Nat.reduceLT, Nat.reduceBNe, Nat.reduceGT, List.drop_nil, List.take_nil, Option.isSome_none, Int.ofNat_one, Int.ofNat_zero, hl, this, sumF_0, Int.add_zero]
  | succ d ih =>
    intro k m s hk hm hs
    have hc : (k : Int) < (n : Int) := by omega
    have hww := wrap_succ (n := k) (by omega)
    have hwi := wrap_succ (n := i) (by omega)
    have k0 : k < t[i].length := by rw [hr _ (List.getElem_mem hit)]; omega
    have g0 : t[i].getD k 0 = at2 t i k := by unfold at2; rw [getD_get hit]
    have h0 := fun mv => L32_1 (Y := Y) (H := H) (mv := mv) ht hu hn h5 hr hi (show k < n by omega) (n - (i + 1)) (i + 1) s (by omega) (by omega)
    have w4 : IntKind.wrap .i64 (m + 1) = m + 1 := wrap_id (by omega) (by omega)
    have hb := onesC_b t i k
    have hb2 := invR_b hu (n := n) (i := i) (k := k) h5 (by omega)
    have ih := ih (k + 1) (m + onesC t i k) (s + invR t n i k) (by omega) (by omega) (by omega)
    rw [un32_2, sumF_s, sumF_s]
    have e0 : at2 t i k * sumF (fun a => rowS t a k) (i + 1) (n - (i + 1)) = invR t n i k := rfl
    rw [e0] at h0
    by_cases c1 : at2 t i k = -1
    · have e : onesC t i k = 1 := by unfold onesC; rw [if_pos c1]
      have c2 : (at2 t i k == -1) = true := by simp [c1]
      rw [e] at ih ⊢
      simp only [SS, insA, wantedA, Opd.ev, putA, binA, eqbA, unA, fldA, partA, reduceIte, reduceCtorEq, Nat.reduceMod, Nat.reduceDiv, Nat.reduceBEq, resultA, resA, vI, Nat.reduceMul, Nat.reduceAdd, Nat.reduceSub, Nat.reduceEqDiff, Nat.reduceLT, Nat.reducePow, Nat.reduceLeDiff, st, Option.bind_eq_bind, Option.pure_def, List.length_nil, Int.cast_ofNat_Int, List.reverse_nil] at h0 ih
      simp only [F32L2b, F32T1, in32_1, SS, insA, wantedA, Opd.ev, putA, binA, eqbA, unA, fldA, partA, reduceIte, reduceCtorEq, Nat.reduceMod, Nat.reduceDiv, Nat.reduceBEq, resultA, resA, vI, Nat.reduceMul, Nat.reduceAdd, Nat.reduceSub, Nat.reduceEqDiff, Nat.reduceLT, Nat.reducePow, Nat.reduceLeDiff, st, Option.bind_eq_bind, Option.pure_def, List.length_nil, Int.cast_ofNat_Int, List.reverse_nil, UU, idxP, cellsAt, storeA, fillA, zerosA, putAll, optNat, sliceA, row, Int.reduceLT, Int.reduceLE, Int.reduceGT, Int.reduceGE, Int.reduceEq, Int.reduceNe, Int.reduceToNat, Int.reduceBEq, Int.reduceBNe, Nat.reduceLeDiff, Nat.reduceLT, Nat.reduceBNe, Nat.reduceGT, List.drop_nil, List.take_nil, Option.isSome_none, Int.ofNat_one, Int.ofNat_zero, hl, hc, ht.idx hit, ht.load hit, ri.idx k0, ri.load k0, g0, c2, w4, hwi, h0, hww, ih, Int.add_assoc]
    · have e : onesC t i k = 0 := by unfold onesC; rw [if_neg c1]
      have c2 : (at2 t i k == -1) = false := by simp [c1]
      rw [e] at ih ⊢
      rw [Int.add_zero] at ih
      simp only [SS, insA, wantedA, Opd.ev, putA, binA, eqbA, unA, fldA, partA, reduceIte, reduceCtorEq, Nat.reduceMod, Nat.reduceDiv, Nat.reduceBEq, resultA, resA, vI, Nat.reduceMul, Nat.reduceAdd, Nat.reduceSub, Nat.reduceEqDiff, Nat.reduceLT, Nat.reducePow, Nat.reduceLeDiff, st, Option.bind_eq_bind, Option.pure_def, List.length_nil, Int.cast_ofNat_Int, List.reverse_nil] at h0 ih
      simp only [F32L2b, F32T1, in32_1, SS, insA, wantedA, Opd.ev, putA, binA, eqbA, unA, fldA, partA, reduceIte, reduceCtorEq, Nat.reduceMod, Nat.reduceDiv, Nat.reduceBEq, resultA, resA, vI, Nat.reduceMul, Nat.reduceAdd, Nat.reduceSub, Nat.reduceEqDiff, Nat.reduceLT, Nat.reducePow, Nat.reduceLeDiff, st, Option.bind_eq_bind, Option.pure_def, List.length_nil, Int.cast_ofNat_Int, List.reverse_nil, UU, idxP, cellsAt, storeA, fillA, zerosA, putAll, optNat, sliceA, row, Int.reduceLT, Int.reduceLE, Int.reduceGT, Int.reduceGE, Int.reduceEq, Int.reduceNe, Int.reduceToNat, Int.reduceBEq, Int.reduceBNe, Nat.reduceLeDiff, Nat.reduceLT, Nat.reduceBNe, Nat.reduceGT, List.drop_nil, List.take_nil, Option.isSome_none, Int.ofNat_one, Int.ofNat_zero, hl, hc, ht.idx hit, ht.load hit, ri.idx k0, ri.load k0, g0, c2, hwi, h0, hww, ih, Int.add_assoc, Int.zero_add]

theorem L32_3 {vt : AV} {t : List (List Int)} {n : Nat} (ht : IsTab vt t) (hu : unitT t) (hn : t.length = n) (h5 : n ≤ 5) (hr : ∀ r ∈ t, r.length = n) (d : Nat) : ∀ (i : Nat) (m s : Int), i + d = n → -20 * i ≤ m ∧ m ≤ 20 * i → -600 * i ≤ s ∧ s ≤ 600 * i →
    lp EV Y F32L3 (sp 68 [(7, vI i), (6, vI s), (5, vI m), (0, vt)]) H = some (.x 0, sp 68 [(6, vI (s + sumF (fun i => sumF (invR t n i) 0 n) i d)), (5, vI (m + sumF (fun i => sumF (onesC t i) 0 n) i d))], H) := by
  have hl := ht.len
  rw [hn] at hl
  induction d with
  | zero =>
    intro i m s hi hm hs
    have : ¬ ((i : Int) < (n : Int)) := by omega
    rw [un32_3]
    simp only [F32L3b, SS, insA, wantedA, Opd.ev, putA, binA, eqbA, unA, fldA, partA, reduceIte, reduceCtorEq, Nat.reduceMod, Nat.reduceDiv, Nat.reduceBEq, resultA, resA, vI, Nat.reduceMul, Nat.reduceAdd, Nat.reduceSub, Nat.reduceEqDiff, Nat.reduceLT, Nat.reducePow, Nat.reduceLeDiff, st, Option.bind_eq_bind, Option.pure_def, List.length_nil, Int.cast_ofNat_Int, List.reverse_nil, UU, idxP, cellsAt, storeA, fillA, zerosA, putAll, optNat, sliceA, row, Int.reduceLT, Int.reduceLE, Int.reduceGT, Int.reduceGE, Int.reduceEq, Int.reduceNe, Int.reduceToNat, Int.reduceBEq, Int.reduceBNe, Nat.reduceLeDiff, Nat.reduceLT, Nat.reduceBNe, Nat.reduceGT, List.drop_nil, List.take_nil, Option.isSome_none, Int.ofNat_one, Int.ofNat_zero, hl, this, sumF_0, Int.add_zero]
  | succ d ih =>
    intro i m s hi hm hs
    have hc : (i : Int) < (n : Int) := by omega
    have hww := wrap_succ (n := i) (by omega)
    have h0 := L32_2 (Y := Y) (H := H) ht hu hn h5 hr (show i < n by omega) n 0 m s (by omega) (by omega) (by omega)
    have c1 := sumF_bound (f := onesC t i) (B := 1) (fun j => by have := onesC_b t i j; omega) n 0
    have c2 : -500 ≤ sumF (invR t n i) 0 n ∧ sumF (invR t n i) 0 n ≤ 500 := by
      have e : sumF (invR t n i) 0 n = sumF (fun j => if j ≤ 20 then invR t n i j else 0) 0 n := sumF_congr n 0 fun j _ hj => by rw [if_pos (by omega)]
      rw [e]
      have := sumF_bound (f := fun j => if j ≤ 20 then invR t n i j else 0) (B := 100) (fun j => by
        split
        · exact invR_b hu (by omega) (by omega)
        · omega) n 0
      omega
    have ih := ih (i + 1) (m + sumF (onesC t i) 0 n) (s + sumF (invR t n i) 0 n) (by omega) (by omega) (by omega)
    rw [un32_3, sumF_s, sumF_s]
    simp only [SS, insA, wantedA, Opd.ev, putA, binA, eqbA, unA, fldA, partA, reduceIte, reduceCtorEq, Nat.reduceMod, Nat.reduceDiv, Nat.reduceBEq, resultA, resA, vI, Nat.reduceMul, Nat.reduceAdd, Nat.reduceSub, Nat.reduceEqDiff, Nat.reduceLT, Nat.reducePow, Nat.reduceLeDiff, st, Option.bind_eq_bind, Option.pure_def, List.length_nil, Int.cast_ofNat_Int, List.reverse_nil, Int.ofNat_zero] at h0 ih
    simp only [F32L3b, F32T2, in32_2, SS, insA, wantedA, Opd.ev, putA, binA, eqbA, unA, fldA, partA, reduceIte, reduceCtorEq, Nat.reduceMod, Nat.reduceDiv, Nat.reduceBEq, resultA, resA, vI, Nat.reduceMul, Nat.reduceAdd, Nat.reduceSub, Nat.reduceEqDiff, Nat.reduceLT, Nat.reducePow, Nat.reduceLeDiff, st, Option.bind_eq_bind, Option.pure_def, List.length_nil, Int.cast_ofNat_Int, List.reverse_nil, UU, idxP, cellsAt, storeA, fillA, zerosA, putAll, optNat, sliceA, row, Int.reduceLT, Int.reduceLE, Int.reduceGT, Int.reduceGE, Int.reduceEq, Int.reduceNe, Int.reduceToNat, Int.reduceBEq, Int.reduceBNe, Nat.reduceLeDiff, Nat.reduceLT, Nat.reduceBNe, Nat.reduceGT, List.drop_nil, List.take_nil, Option.isSome_none, Int.ofNat_one, Int.ofNat_zero, hl, hc, h0, hww, ih, Int.add_assoc]

theorem minus32 {vt : AV} {t : List (List Int)} (ht : IsTab vt t) (hs : Small t) : freeX H (callL EV Y 32 [vt] []) = some (if readOk t = true then .tup [vI (sumF (fun i => sumF (onesC t i) 0 t.length) 0 t.length), vI (sumF (fun i => sumF (invR t t.length i) 0 t.length) 0 t.length), vI 0] else .tup [vI 0, vI 0, vI 2], H) := by
  have k := fun H => isveil26 (Y := Y) (H := H) ht hs
  rw [ref_read] at k
  rw [call32 rfl]
  cases ho : readOk t
  · rw [ho] at k
    simp only [Bool.false_eq_true, if_false]
    simp only [F32B, SS, insA, wantedA, Opd.ev, putA, binA, eqbA, unA, fldA, partA, reduceIte, reduceCtorEq, Nat.reduceMod, Nat.reduceDiv, Nat.reduceBEq, resultA, resA, vI, Nat.reduceMul, Nat.reduceAdd, Nat.reduceSub, Nat.reduceEqDiff, Nat.reduceLT, Nat.reducePow, Nat.reduceLeDiff, st, Option.bind_eq_bind, Option.pure_def, List.length_nil, Int.cast_ofNat_Int, List.reverse_nil, UU, idxP, cellsAt, storeA, fillA, zerosA, putAll, optNat, sliceA, row, Int.reduceLT, Int.reduceLE, Int.reduceGT, Int.reduceGE, Int.reduceEq, Int.reduceNe, Int.reduceToNat, Int.reduceBEq, Int.reduceBNe, Nat.reduceLeDiff, Nat.reduceLT, Nat.reduceBNe, Nat.reduceGT, List.drop_nil, List.take_nil, Option.isSome_none, Int.ofNat_one, Int.ofNat_zero, ht.snap, k]
  · have hv := veil_iff.1 ho
    rw [ho] at k
    have h1 := L32_3 (Y := Y) (H := []) ht hv.unit rfl hv.n5 hv.row t.length 0 0 0 (by omega) (by omega) (by omega)
    rw [Int.zero_add, Int.zero_add] at h1
    simp only [SS, insA, wantedA, Opd.ev, putA, binA, eqbA, unA, fldA, partA, reduceIte, reduceCtorEq, Nat.reduceMod, Nat.reduceDiv, Nat.reduceBEq, resultA, resA, vI, Nat.reduceMul, Nat.reduceAdd, Nat.reduceSub, Nat.reduceEqDiff, Nat.reduceLT, Nat.reducePow, Nat.reduceLeDiff, st, Option.bind_eq_bind, Option.pure_def, List.length_nil, Int.cast_ofNat_Int, List.reverse_nil, Int.ofNat_zero] at h1
    simp only [F32B, F32T3, in32_3, SS, insA, wantedA, Opd.ev, putA, binA, eqbA, unA, fldA, partA, reduceIte, reduceCtorEq, Nat.reduceMod, Nat.reduceDiv, Nat.reduceBEq, resultA, resA, vI, Nat.reduceMul, Nat.reduceAdd, Nat.reduceSub, Nat.reduceEqDiff, Nat.reduceLT, Nat.reducePow, Nat.reduceLeDiff, st, Option.bind_eq_bind, Option.pure_def, List.length_nil, Int.cast_ofNat_Int, List.reverse_nil, UU, idxP, cellsAt, storeA, fillA, zerosA, putAll, optNat, sliceA, row, Int.reduceLT, Int.reduceLE, Int.reduceGT, Int.reduceGE, Int.reduceEq, Int.reduceNe, Int.reduceToNat, Int.reduceBEq, Int.reduceBNe, Nat.reduceLeDiff, Nat.reduceLT, Nat.reduceBNe, Nat.reduceGT, List.drop_nil, List.take_nil, Option.isSome_none, Int.ofNat_one, Int.ofNat_zero, ht.snap, k, h1]

theorem minus_same {t : List (List Int)} (h : Veil t) : sumF (fun i => sumF (negC t i) 0 t.length) 0 t.length = sumF (fun i => sumF (onesC t i) 0 t.length) 0 t.length ∧ sumF (fun i => sumF (invC t t.length i) 0 t.length) 0 t.length = sumF (fun i => sumF (invR t t.length i) 0 t.length) 0 t.length := by
  have hu := h.unit
  constructor
  · refine sumF_congr _ _ fun i _ _ => sumF_congr _ _ fun j _ _ => ?_
    have := at2_bound hu i j
    unfold negC onesC
    by_cases c : at2 t i j = -1
    · rw [if_pos (by omega), if_pos c]
    · rw [if_neg (by omega), if_neg c]
  · refine sumF_congr _ _ fun i _ hi => sumF_congr _ _ fun j _ _ => ?_
    unfold invC invR
    rw [sumV_F (Nat.le_refl _), sumV_F (by omega)]
    congr 1
    have := sumF_add (f := fun a => rowS t a j) (i + 1) 0 (t.length - (i + 1))
    rw [show i + 1 + (t.length - (i + 1)) = t.length by omega, Nat.zero_add] at this
    omega
end
end Go.X
