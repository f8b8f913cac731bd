import Derived.Test.YtchgifdkhknppaaVK
/-! Veils: Triangle, both ways. -/
set_option linter.unusedSimpArgs false
set_option linter.unusedVariables false
set_option maxHeartbeats 4000000
set_option maxRecDepth 10000
namespace Go.X
open Go Go.RowKit
section
variable {Y : Run} {H : Heap}

/-- Columns that a test lets in, numbered from 1. -/
def triR (p : Nat → Bool) (a d : Nat) : List Int := ((List.range' a d).filter p).map fun j : Nat => (j : Int) + 1
theorem triR_0 {p : Nat → Bool} {a : Nat} : triR p a 0 = [] := rfl
theorem triR_s {p : Nat → Bool} {a d : Nat} : triR p a (d + 1) = if p a = true then ((a : Int) + 1) :: triR p (a + 1) d else triR p (a + 1) d := by
  simp only [triR, List.range'_succ, List.filter_cons]
  split <;> rfl
theorem triR_len {p : Nat → Bool} (d a : Nat) : (triR p a d).length ≤ d := by
  unfold triR
  rw [List.length_map]
  have := List.length_filter_le p (List.range' a d)
  rw [List.length_range'] at this; exact this
def triT (p : Nat → Nat → Bool) (n k : Nat) : List (List Int) := (List.range k).map fun i => triR (p i) 0 n

def pC (t : List (List Int)) (k j : Nat) : Bool := decide (sumV t (k + 1) (j + 1) > sumV t (k + 1) j)

theorem L29_0 {vt v : AV} {t q : List (List Int)} {n k : Nat} {cells : List AV} (ht : IsTab vt t) (hu : unitT t) (hn : t.length = n) (h5 : n ≤ 5) (hr : ∀ r ∈ t, r.length = n) (hk : k < n) (d : Nat) : ∀ (j : Nat) (R : Heap) (c : AV) (l : List Int), j + d = n → l.length ≤ j → Work R v q cells c l →
    ∃ R' c', lp EV Y F29L0 (sp 51 [(24, vI j), (23, vI n), (19, vI k), (18, vI n), (8, c), (7, vI k), (6, v), (4, vt)]) R = some (.x 2, sp 51 [(19, vI k), (18, vI n), (8, c'), (6, v), (4, vt)], R') ∧ Work R' v q cells c' (l ++ triR (pC t k) j d) := by
  induction d with
  | zero =>
    intro j R c l hj hl hW
    have : ¬ ((j : Int) < (n : Int)) := by omega
    refine ⟨R, c, ?_, by rw [triR_0, List.append_nil]; exact hW⟩
    rw [un29_0]
    simp only [F29L0b, SS, insA, wantedA, Opd.ev, putA, binA, eqbA, unA, fldA, partA, reduceIte, reduceCtorEq, Nat.reduceMod, Nat.reduceDiv, Nat.reduceBEq, resultA, resA, vI, Nat.reduceMul, Nat.reduceAdd, Nat.reduceSub, Nat.reduceEqDiff, Nat.reduceLT, Nat.reducePow, Nat.reduceLeDiff, st, Option.bind_eq_bind, Option.pure_def, List.length_nil, Int.cast_ofNat_Int, List.reverse_nil, UU, idxP, cellsAt, storeA, fillA, zerosA, putAll, optNat, sliceA, row, Int.reduceLT, Int.reduceLE, Int.reduceGT, Int.reduceGE, Int.reduceEq, Int.reduceNe, Int.reduceToNat, Int.reduceBEq, Int.reduceBNe, Nat.reduceLeDiff, Nat.reduceLT, Nat.reduceBNe, Nat.reduceGT, List.drop_nil, List.take_nil, Option.isSome_none, Int.ofNat_one, Int.ofNat_zero, this]
  | succ d ih =>
    intro j R c l hj hl hW
    have hc : (j : Int) < (n : Int) := by omega
    have hww := wrap_succ (n := j) (by omega)
    have hwk := wrap_succ (n := k) (by omega)
    have s1 := fun H => sum66 (Y := Y) (H := H) (i := k + 1) (j := j + 1) ht hu (by omega) (by omega) (fun r h => by rw [hr r h]; omega) (by omega)
    have s2 := fun H => sum66 (Y := Y) (H := H) (i := k + 1) (j := j) ht hu (by omega) (by omega) (fun r h => by rw [hr r h]; omega) (by omega)
    by_cases c1 : sumV t (k + 1) (j + 1) > sumV t (k + 1) j
    · obtain ⟨c', R1, a1, a2⟩ := hW.push (by omega) ((j : Int) + 1)
      obtain ⟨R', c2, p1, p2⟩ := ih (j + 1) R1 c' _ (by omega) (by simp; omega) a2
      refine ⟨R', c2, ?_, by rw [triR_s, if_pos (by simp [pC, c1])]; simpa using p2⟩
      have e : ((j : Int) + 1) = ((j + 1 : Nat) : Int) := by omega
      rw [un29_0]
      rw [e] at a1
      simp only [SS, insA, wantedA, Opd.ev, putA, binA, eqbA, unA, fldA, partA, reduceIte, reduceCtorEq, Nat.reduceMod, Nat.reduceDiv, Nat.reduceBEq, resultA, resA, vI, Nat.reduceMul, Nat.reduceAdd, Nat.reduceSub, Nat.reduceEqDiff, Nat.reduceLT, Nat.reducePow, Nat.reduceLeDiff, st, Option.bind_eq_bind, Option.pure_def, List.length_nil, Int.cast_ofNat_Int, List.reverse_nil] at s1 s2 p1 a1
      simp only [F29L0b, SS, insA, wantedA, Opd.ev, putA, binA, eqbA, unA, fldA, partA, reduceIte, reduceCtorEq, Nat.reduceMod, Nat.reduceDiv, Nat.reduceBEq, resultA, resA, vI, Nat.reduceMul, Nat.reduceAdd, Nat.reduceSub, Nat.reduceEqDiff, Nat.reduceLT, Nat.reducePow, Nat.reduceLeDiff, st, Option.bind_eq_bind, Option.pure_def, List.length_nil, Int.cast_ofNat_Int, List.reverse_nil, UU, idxP, cellsAt, storeA, fillA, zerosA, putAll, optNat, sliceA, row, Int.reduceLT, Int.reduceLE, Int.reduceGT, Int.reduceGE, Int.reduceEq, Int.reduceNe, Int.reduceToNat, Int.reduceBEq, Int.reduceBNe, Nat.reduceLeDiff, Nat.reduceLT, Nat.reduceBNe, Nat.reduceGT, List.drop_nil, List.take_nil, Option.isSome_none, Int.ofNat_one, Int.ofNat_zero, hc, ht.snap, hwk, hww, s1, s2, c1, decide_true, a1, p1]
    · obtain ⟨R', c2, p1, p2⟩ := ih (j + 1) R c _ (by omega) (by omega) hW
      refine ⟨R', c2, ?_, by rw [triR_s, if_neg (by simp [pC, c1])]; exact p2⟩
      rw [un29_0]
      simp only [SS, insA, wantedA, Opd.ev, putA, binA, eqbA, unA, fldA, partA, reduceIte, reduceCtorEq, Nat.reduceMod, Nat.reduceDiv, Nat.reduceBEq, resultA, resA, vI, Nat.reduceMul, Nat.reduceAdd, Nat.reduceSub, Nat.reduceEqDiff, Nat.reduceLT, Nat.reducePow, Nat.reduceLeDiff, st, Option.bind_eq_bind, Option.pure_def, List.length_nil, Int.cast_ofNat_Int, List.reverse_nil] at s1 s2 p1
      simp only [F29L0b, SS, insA, wantedA, Opd.ev, putA, binA, eqbA, unA, fldA, partA, reduceIte, reduceCtorEq, Nat.reduceMod, Nat.reduceDiv, Nat.reduceBEq, resultA, resA, vI, Nat.reduceMul, Nat.reduceAdd, Nat.reduceSub, Nat.reduceEqDiff, Nat.reduceLT, Nat.reducePow, Nat.reduceLeDiff, st, Option.bind_eq_bind, Option.pure_def, List.length_nil, Int.cast_ofNat_Int, List.reverse_nil, UU, idxP, cellsAt, storeA, fillA, zerosA, putAll, optNat, sliceA, row, Int.reduceLT, Int.reduceLE, Int.reduceGT, Int.reduceGE, Int.reduceEq, Int.reduceNe, Int.reduceToNat, Int.reduceBEq, Int.reduceBNe, Nat.reduceLeDiff, Nat.reduceLT, Nat.reduceBNe, Nat.reduceGT, List.drop_nil, List.take_nil, Option.isSome_none, Int.ofNat_one, Int.ofNat_zero, hc, ht.snap, hwk, hww, s1, s2, c1, decide_false, p1]

theorem L29_1 {vt : AV} {t : List (List Int)} {n : Nat} (ht : IsTab vt t) (hu : unitT t) (hn : t.length = n) (h5 : n ≤ 5) (hr : ∀ r ∈ t, r.length = n) (d : Nat) : ∀ (k : Nat) (R : Heap) (v : AV) (cells : List AV), k + d = n → HTab 0 R v (triT (pC t) n k) cells →
    ∃ R' v' cells', lp EV Y F29L1 (sp 51 [(19, vI k), (18, vI n), (6, v), (4, vt)]) R = some (.x 0, sp 51 [(6, v')], R') ∧ HTab 0 R' v' (triT (pC t) n n) cells' := by
  induction d with
  | zero =>
    intro k R v cells hk hT
    have : ¬ ((k : Int) < (n : Int)) := by omega
    refine ⟨R, v, cells, ?_, by rwa [show k = n by omega] at hT⟩
    rw [un29_1]
    simp only [F29L1b, SS, insA, wantedA, Opd.ev, putA, binA, eqbA, unA, fldA, partA, reduceIte, reduceCtorEq, Nat.reduceMod, Nat.reduceDiv, Nat.reduceBEq, resultA, resA, vI, Nat.reduceMul, Nat.reduceAdd, Nat.reduceSub, Nat.reduceEqDiff, Nat.reduceLT, Nat.reducePow, Nat.reduceLeDiff, st, Option.bind_eq_bind, Option.pure_def, List.length_nil, Int.cast_ofNat_Int, List.reverse_nil, UU, idxP, cellsAt, storeA, fillA, zerosA, putAll, optNat, sliceA, row, Int.reduceLT, Int.reduceLE, Int.reduceGT, Int.reduceGE, Int.reduceEq, Int.reduceNe, Int.reduceToNat, Int.reduceBEq, Int.reduceBNe, Nat.reduceLeDiff, Nat.reduceLT, Nat.reduceBNe, Nat.reduceGT, List.drop_nil, List.take_nil, Option.isSome_none, Int.ofNat_one, Int.ofNat_zero, this]
  | succ d ih =>
    intro k R v cells hk hT
    have hc : (k : Int) < (n : Int) := by omega
    have hww := wrap_succ (n := k) (by omega)
    have hlen : (triT (pC t) n k).length ≤ 1000 := by simp [triT]; omega
    obtain ⟨R1, c1, a1, a2⟩ := L29_0 (Y := Y) (v := v) ht hu hn h5 hr (show k < n by omega) n 0 R .nils [] (by omega) (by simp) hT.work
    obtain ⟨v', R2, cells', b1, b2, b3, b4, b5⟩ := a2.add hlen
    have e : triT (pC t) n k ++ [[] ++ triR (pC t k) 0 n] = triT (pC t) n (k + 1) := by simp [triT, List.range_succ]
    rw [e] at b2
    obtain ⟨R', v2, c2, p1, p2⟩ := ih (k + 1) R2 v' cells' (by omega) b2
    refine ⟨R', v2, c2, ?_, p2⟩
    have hl := ht.len
    rw [hn] at hl
    rw [un29_1]
    simp only [SS, insA, wantedA, Opd.ev, putA, binA, eqbA, unA, fldA, partA, reduceIte, reduceCtorEq, Nat.reduceMod, Nat.reduceDiv, Nat.reduceBEq, resultA, resA, vI, Nat.reduceMul, Nat.reduceAdd, Nat.reduceSub, Nat.reduceEqDiff, Nat.reduceLT, Nat.reducePow, Nat.reduceLeDiff, st, Option.bind_eq_bind, Option.pure_def, List.length_nil, Int.cast_ofNat_Int, List.reverse_nil, Int.ofNat_zero] at a1 p1
    simp only [F29L1b, F29T0, F29T1, in29_0, SS, insA, wantedA, Opd.ev, putA, binA, eqbA, unA, fldA, partA, reduceIte, reduceCtorEq, Nat.reduceMod, Nat.reduceDiv, Nat.reduceBEq, resultA, resA, vI, Nat.reduceMul, Nat.reduceAdd, Nat.reduceSub, Nat.reduceEqDiff, Nat.reduceLT, Nat.reducePow, Nat.reduceLeDiff, st, Option.bind_eq_bind, Option.pure_def, List.length_nil, Int.cast_ofNat_Int, List.reverse_nil, UU, idxP, cellsAt, storeA, fillA, zerosA, putAll, optNat, sliceA, row, Int.reduceLT, Int.reduceLE, Int.reduceGT, Int.reduceGE, Int.reduceEq, Int.reduceNe, Int.reduceToNat, Int.reduceBEq, Int.reduceBNe, Nat.reduceLeDiff, Nat.reduceLT, Nat.reduceBNe, Nat.reduceGT, List.drop_nil, List.take_nil, Option.isSome_none, Int.ofNat_one, Int.ofNat_zero, hc, hl, a1, b1, b3, b4, b5, hww, p1]

theorem tri29 {vt : AV} {t : List (List Int)} (ht : IsTab vt t) (hs : Small t) :
    (readOk t = true → ∃ w, IsTab w (triT (pC t) t.length t.length) ∧ ∀ H, freeX H (callL EV Y 29 [vt] []) = some (.tup [w, vI 0], H)) ∧ (readOk t = false → ∀ H, freeX H (callL EV Y 29 [vt] []) = some (.tup [.nils, vI 2], H)) := by
  obtain ⟨H1, q, _⟩ := read64 (Y := Y) ht hs []
  constructor
  · intro ho
    have hv := veil_iff.1 ho
    rw [ho, if_pos rfl] at q
    obtain ⟨R', v, cells, p1, p2⟩ := L29_1 (Y := Y) ht hv.unit rfl hv.n5 hv.row t.length 0 H1 .nils [] (by omega) (HTab.nil _ _)
    obtain ⟨⟨w, o1, o2⟩, _⟩ := p2.out (d := 2)
    refine ⟨w, o2, fun H => ?_⟩
    rw [call29 rfl]
    simp only [SS, insA, wantedA, Opd.ev, putA, binA, eqbA, unA, fldA, partA, reduceIte, reduceCtorEq, Nat.reduceMod, Nat.reduceDiv, Nat.reduceBEq, resultA, resA, vI, Nat.reduceMul, Nat.reduceAdd, Nat.reduceSub, Nat.reduceEqDiff, Nat.reduceLT, Nat.reducePow, Nat.reduceLeDiff, st, Option.bind_eq_bind, Option.pure_def, List.length_nil, Int.cast_ofNat_Int, List.reverse_nil, Int.ofNat_zero] at p1
    simp only [F29B, F29T2, in29_1, SS, insA, wantedA, Opd.ev, putA, binA, eqbA, unA, fldA, partA, reduceIte, reduceCtorEq, Nat.reduceMod, Nat.reduceDiv, Nat.reduceBEq, resultA, resA, vI, Nat.reduceMul, Nat.reduceAdd, Nat.reduceSub, Nat.reduceEqDiff, Nat.reduceLT, Nat.reducePow, Nat.reduceLeDiff, st, Option.bind_eq_bind, Option.pure_def, List.length_nil, Int.cast_ofNat_Int, List.reverse_nil, UU, idxP, cellsAt, storeA, fillA, zerosA, putAll, optNat, sliceA, row, Int.reduceLT, Int.reduceLE, Int.reduceGT, Int.reduceGE, Int.reduceEq, Int.reduceNe, Int.reduceToNat, Int.reduceBEq, Int.reduceBNe, Nat.reduceLeDiff, Nat.reduceLT, Nat.reduceBNe, Nat.reduceGT, List.drop_nil, List.take_nil, Option.isSome_none, Int.ofNat_one, Int.ofNat_zero, q, ht.len, p1, o1]
  · intro ho H
    rw [ho] at q
    simp only [Bool.false_eq_true, if_false] at q
    rw [call29 rfl]
    simp only [F29B, SS, insA, wantedA, Opd.ev, putA, binA, eqbA, unA, fldA, partA, reduceIte, reduceCtorEq, Nat.reduceMod, Nat.reduceDiv, Nat.reduceBEq, resultA, resA, vI, Nat.reduceMul, Nat.reduceAdd, Nat.reduceSub, Nat.reduceEqDiff, Nat.reduceLT, Nat.reducePow, Nat.reduceLeDiff, st, Option.bind_eq_bind, Option.pure_def, List.length_nil, Int.cast_ofNat_Int, List.reverse_nil, UU, idxP, cellsAt, storeA, fillA, zerosA, putAll, optNat, sliceA, row, Int.reduceLT, Int.reduceLE, Int.reduceGT, Int.reduceGE, Int.reduceEq, Int.reduceNe, Int.reduceToNat, Int.reduceBEq, Int.reduceBNe, Nat.reduceLeDiff, Nat.reduceLT, Nat.reduceBNe, Nat.reduceGT, List.drop_nil, List.take_nil, Option.isSome_none, Int.ofNat_one, Int.ofNat_zero, q]

/-! ### The specification's -/
def pR (t : List (List Int)) (i k : Nat) : Bool := sumF (fun x => at2 t x k) 0 (i + 1) == 1

theorem at2_bound {t : List (List Int)} (hu : unitT t) (x k : Nat) : -1 ≤ at2 t x k ∧ at2 t x k ≤ 1 := by
  unfold at2
  by_cases h : x < t.length
  · rw [getD_get h]
    by_cases h2 : k < t[x].length
    · rw [getD_get h2]; exact hu t[x] (List.getElem_mem h) t[x][k] (List.getElem_mem h2)
    · rw [List.getD_eq_getElem?_getD, List.getElem?_eq_none (by omega)]; simp
  · have e : t.getD x [] = [] := by rw [List.getD_eq_getElem?_getD, List.getElem?_eq_none (by omega)]; rfl
    rw [e]; simp

theorem L67_0 {vt v c : AV} {t : List (List Int)} {n i k : Nat} (ht : IsTab vt t) (hu : unitT t) (hn : t.length = n) (h5 : n ≤ 5) (hr : ∀ r ∈ t, r.length = n) (hi : i < n) (hk : k < n) (d : Nat) : ∀ (x : Nat) (s : Int), x + d = i + 1 → -x ≤ s ∧ s ≤ x →
    lp EV Y F67L0 (sp 47 [(8, vI x), (7, vI s), (6, vI k), (5, c), (4, vI i), (3, v), (0, vt)]) H = some (.x 4, sp 47 [(7, vI (s + sumF (fun x => at2 t x k) x d)), (6, vI k), (5, c), (4, vI i), (3, v), (0, vt)], H) := by
  induction d with
  | zero =>
    intro x s hx hs
    have : ¬ ((x : Int) ≤ (i : Int)) := by omega
    rw [un67_0]
    simp only [F67L0b, SS, insA, wantedA, Opd.ev, putA, binA, eqbA, unA, fldA, partA, reduceIte, reduceCtorEq, Nat.reduceMod, Nat.reduceDiv, Nat.reduceBEq, resultA, resA, vI, Nat.reduceMul, Nat.reduceAdd, Nat.reduceSub, Nat.reduceEqDiff, Nat.reduceLT, Nat.reducePow, Nat.reduceLeDiff, st, Option.bind_eq_bind, Option.pure_def, List.length_nil, Int.cast_ofNat_Int, List.reverse_nil, UU, idxP, cellsAt, storeA, fillA, zerosA, putAll, optNat, sliceA, row, Int.reduceLT, Int.reduceLE, Int.reduceGT, Int.reduceGE, Int.reduceEq, Int.reduceNe, Int.reduceToNat, Int.reduceBEq, Int.reduceBNe, Nat.reduceLeDiff, Nat.reduceLT, Nat.reduceBNe, Nat.reduceGT, List.drop_nil, List.take_nil, Option.isSome_none, Int.ofNat_one, Int.ofNat_zero, this, sumF_0, Int.add_zero]
  | succ d ih =>
    intro x s hx hs
    have hc : (x : Int) ≤ (i : Int) := by omega
    have hww := wrap_succ (n := x) (by omega)
    have k1 : x < t.length := by omega
    have r1 := ht.row k1
    rw [getD_get k1] at r1
    have k2 : k < t[x].length := by rw [hr _ (List.getElem_mem k1)]; exact hk
    have g1 : t[x].getD k 0 = at2 t x k := by unfold at2; rw [getD_get k1]
    have hb := at2_bound hu x k
    have w1 : IntKind.wrap .i64 (s + at2 t x k) = s + at2 t x k := wrap_id (by omega) (by omega)
    have ih := ih (x + 1) (s + at2 t x k) (by omega) (by omega)
    rw [un67_0, sumF_s]
    simp only [SS, insA, wantedA, Opd.ev, putA, binA, eqbA, unA, fldA, partA, reduceIte, reduceCtorEq, Nat.reduceMod, Nat.reduceDiv, Nat.reduceBEq, resultA, resA, vI, Nat.reduceMul, Nat.reduceAdd, Nat.reduceSub, Nat.reduceEqDiff, Nat.reduceLT, Nat.reducePow, Nat.reduceLeDiff, st, Option.bind_eq_bind, Option.pure_def, List.length_nil, Int.cast_ofNat_Int, List.reverse_nil] at ih
    simp only [F67L0b, SS, insA, wantedA, Opd.ev, putA, binA, eqbA, unA, fldA, partA, reduceIte, reduceCtorEq, Nat.reduceMod, Nat.reduceDiv, Nat.reduceBEq, resultA, resA, vI, Nat.reduceMul, Nat.reduceAdd, Nat.reduceSub, Nat.reduceEqDiff, Nat.reduceLT, Nat.reducePow, Nat.reduceLeDiff, st, Option.bind_eq_bind, Option.pure_def, List.length_nil, Int.cast_ofNat_Int, List.reverse_nil, UU, idxP, cellsAt, storeA, fillA, zerosA, putAll, optNat, sliceA, row, Int.reduceLT, Int.reduceLE, Int.reduceGT, Int.reduceGE, Int.reduceEq, Int.reduceNe, Int.reduceToNat, Int.reduceBEq, Int.reduceBNe, Nat.reduceLeDiff, Nat.reduceLT, Nat.reduceBNe, Nat.reduceGT, List.drop_nil, List.take_nil, Option.isSome_none, Int.ofNat_one, Int.ofNat_zero, hc, ht.idx k1, ht.load k1, r1.idx k2, r1.load k2, g1, w1, hww, ih, Int.add_assoc]

theorem L67_1 {vt v : AV} {t q : List (List Int)} {n i : Nat} {cells : List AV} (ht : IsTab vt t) (hu : unitT t) (hn : t.length = n) (h5 : n ≤ 5) (hr : ∀ r ∈ t, r.length = n) (hi : i < n) (d : Nat) : ∀ (k : Nat) (R : Heap) (c : AV) (l : List Int), k + d = n → l.length ≤ k → Work R v q cells c l →
    ∃ R' c', lp EV Y F67L1 (sp 47 [(6, vI k), (5, c), (4, vI i), (3, v), (0, vt)]) R = some (.x 2, sp 47 [(5, c'), (4, vI i), (3, v), (0, vt)], R') ∧ Work R' v q cells c' (l ++ triR (pR t i) k d) := by
  have hl := ht.len
  rw [hn] at hl
  induction d with
  | zero =>
    intro k R c l hk hll hW
    have : ¬ ((k : Int) < (n : Int)) := by omega
    refine ⟨R, c, ?_, by rw [triR_0, List.append_nil]; exact hW⟩
    rw [un67_1]
    simp only [F67L1b, SS, insA, wantedA, Opd.ev, putA, binA, eqbA, unA, fldA, partA, reduceIte, reduceCtorEq, Nat.reduceMod, Nat.reduceDiv, Nat.reduceBEq, resultA, resA, vI, Nat.reduceMul, Nat.reduceAdd, Nat.reduceSub, Nat.reduceEqDiff, Nat.reduceLT, Nat.reducePow, Nat.reduceLeDiff, st, Option.bind_eq_bind, Option.pure_def, List.length_nil, Int.cast_ofNat_Int, List.reverse_nil, UU, idxP, cellsAt, storeA, fillA, zerosA, putAll, optNat, sliceA, row, Int.reduceLT, Int.reduceLE, Int.reduceGT, Int.reduceGE, Int.reduceEq, Int.reduceNe, Int.reduceToNat, Int.reduceBEq, Int.reduceBNe, Nat.reduceLeDiff, Nat.reduceLT, Nat.reduceBNe, Nat.reduceGT, List.drop_nil, List.take_nil, Option.isSome_none, Int.ofNat_one, Int.ofNat_zero, hl, this]
  | succ d ih =>
    intro k R c l hk hll hW
    have hc : (k : Int) < (n : Int) := by omega
    have hww := wrap_succ (n := k) (by omega)
    have h0 := fun H => L67_0 (Y := Y) (H := H) (v := v) (c := c) ht hu hn h5 hr hi (show k < n by omega) (i + 1) 0 0 (by omega) (by omega)
    rw [Int.zero_add] at h0
    cases hp : sumF (fun x => at2 t x k) 0 (i + 1) == 1
    · obtain ⟨R', c2, p1, p2⟩ := ih (k + 1) R c _ (by omega) (by omega) hW
      refine ⟨R', c2, ?_, by rw [triR_s, if_neg (by simp only [pR, hp]; decide)]; exact p2⟩
      rw [un67_1]
      simp only [SS, insA, wantedA, Opd.ev, putA, binA, eqbA, unA, fldA, partA, reduceIte, reduceCtorEq, Nat.reduceMod, Nat.reduceDiv, Nat.reduceBEq, resultA, resA, vI, Nat.reduceMul, Nat.reduceAdd, Nat.reduceSub, Nat.reduceEqDiff, Nat.reduceLT, Nat.reducePow, Nat.reduceLeDiff, st, Option.bind_eq_bind, Option.pure_def, List.length_nil, Int.cast_ofNat_Int, List.reverse_nil, Int.ofNat_zero] at h0 p1
      simp only [F67L1b, F67T0, F67T1, in67_0, SS, insA, wantedA, Opd.ev, putA, binA, eqbA, unA, fldA, partA, reduceIte, reduceCtorEq, Nat.reduceMod, Nat.reduceDiv, Nat.reduceBEq, resultA, resA, vI, Nat.reduceMul, Nat.reduceAdd, Nat.reduceSub, Nat.reduceEqDiff, Nat.reduceLT, Nat.reducePow, Nat.reduceLeDiff, st, Option.bind_eq_bind, Option.pure_def, List.length_nil, Int.cast_ofNat_Int, List.reverse_nil, UU, idxP, cellsAt, storeA, fillA, zerosA, putAll, optNat, sliceA, row, Int.reduceLT, Int.reduceLE, Int.reduceGT, Int.reduceGE, Int.reduceEq, Int.reduceNe, Int.reduceToNat, Int.reduceBEq, Int.reduceBNe, Nat.reduceLeDiff, Nat.reduceLT, Nat.reduceBNe, Nat.reduceGT, List.drop_nil, List.take_nil, Option.isSome_none, Int.ofNat_one, Int.ofNat_zero, hl, hc, h0, hp, hww, p1]
    · obtain ⟨c', R1, a1, a2⟩ := hW.push (by omega) ((k : Int) + 1)
      obtain ⟨R', c2, p1, p2⟩ := ih (k + 1) R1 c' _ (by omega) (by simp; omega) a2
      refine ⟨R', c2, ?_, by rw [triR_s, if_pos (by simp only [pR, hp])]; simpa using p2⟩
      have e : ((k : Int) + 1) = ((k + 1 : Nat) : Int) := by omega
      rw [un67_1]
      rw [e] at a1
      simp only [SS, insA, wantedA, Opd.ev, putA, binA, eqbA, unA, fldA, partA, reduceIte, reduceCtorEq, Nat.reduceMod, Nat.reduceDiv, Nat.reduceBEq, resultA, resA, vI, Nat.reduceMul, Nat.reduceAdd, Nat.reduceSub, Nat.reduceEqDiff, Nat.reduceLT, Nat.reducePow, Nat.reduceLeDiff, st, Option.bind_eq_bind, Option.pure_def, List.length_nil, Int.cast_ofNat_Int, List.reverse_nil, Int.ofNat_zero] at h0 p1 a1
      simp only [F67L1b, F67T0, F67T1, in67_0, SS, insA, wantedA, Opd.ev, putA, binA, eqbA, unA, fldA, partA, reduceIte, reduceCtorEq, Nat.reduceMod, Nat.reduceDiv, Nat.reduceBEq, resultA, resA, vI, Nat.reduceMul, Nat.reduceAdd, Nat.reduceSub, Nat.reduceEqDiff, Nat.reduceLT, Nat.reducePow, Nat.reduceLeDiff, st, Option.bind_eq_bind, Option.pure_def, List.length_nil, Int.cast_ofNat_Int, List.reverse_nil, UU, idxP, cellsAt, storeA, fillA, zerosA, putAll, optNat, sliceA, row, Int.reduceLT, Int.reduceLE, Int.reduceGT, Int.reduceGE, Int.reduceEq, Int.reduceNe, Int.reduceToNat, Int.reduceBEq, Int.reduceBNe, Nat.reduceLeDiff, Nat.reduceLT, Nat.reduceBNe, Nat.reduceGT, List.drop_nil, List.take_nil, Option.isSome_none, Int.ofNat_one, Int.ofNat_zero, hl, hc, h0, hp, hww, a1, p1]

theorem L67_2 {vt : AV} {t : List (List Int)} {n : Nat} (ht : IsTab vt t) (hu : unitT t) (hn : t.length = n) (h5 : n ≤ 5) (hr : ∀ r ∈ t, r.length = n) (d : Nat) : ∀ (k : Nat) (R : Heap) (v : AV) (cells : List AV), k + d = n → HTab 0 R v (triT (pR t) n k) cells →
    ∃ R' v' cells', lp EV Y F67L2 (sp 47 [(4, vI k), (3, v), (0, vt)]) R = some (.x 0, sp 47 [(3, v')], R') ∧ HTab 0 R' v' (triT (pR t) n n) cells' := by
  have hl := ht.len
  rw [hn] at hl
  induction d with
  | zero =>
    intro k R v cells hk hT
    have : ¬ ((k : Int) < (n : Int)) := by omega
    refine ⟨R, v, cells, ?_, by rwa [show k = n by omega] at hT⟩
    rw [un67_2]
    simp only [F67L2b, SS, insA, wantedA, Opd.ev, putA, binA, eqbA, unA, fldA, partA, reduceIte, reduceCtorEq, Nat.reduceMod, Nat.reduceDiv, Nat.reduceBEq, resultA, resA, vI, Nat.reduceMul, Nat.reduceAdd, Nat.reduceSub, Nat.reduceEqDiff, Nat.reduceLT, Nat.reducePow, Nat.reduceLeDiff, st, Option.bind_eq_bind, Option.pure_def, List.length_nil, Int.cast_ofNat_Int, List.reverse_nil, UU, idxP, cellsAt, storeA, fillA, zerosA, putAll, optNat, sliceA, row, Int.reduceLT, Int.reduceLE, Int.reduceGT, Int.reduceGE, Int.reduceEq, Int.reduceNe, Int.reduceToNat, Int.reduceBEq, Int.reduceBNe, Nat.reduceLeDiff, Nat.reduceLT, Nat.reduceBNe, Nat.reduceGT, List.drop_nil, List.take_nil, Option.isSome_none, Int.ofNat_one, Int.ofNat_zero, hl, this]
  | succ d ih =>
    intro k R v cells hk hT
    have hc : (k : Int) < (n : Int) := by omega
    have hww := wrap_succ (n := k) (by omega)
    have hlen : (triT (pR t) n k).length ≤ 1000 := by simp [triT]; omega
    obtain ⟨R1, c1, a1, a2⟩ := L67_1 (Y := Y) (v := v) ht hu hn h5 hr (show k < n by omega) n 0 R .nils [] (by omega) (by simp) hT.work
    obtain ⟨v', R2, cells', b1, b2, b3, b4, b5⟩ := a2.add hlen
    have e : triT (pR t) n k ++ [[] ++ triR (pR t k) 0 n] = triT (pR t) n (k + 1) := by simp [triT, List.range_succ]
    rw [e] at b2
    obtain ⟨R', v2, c2, p1, p2⟩ := ih (k + 1) R2 v' cells' (by omega) b2
    refine ⟨R', v2, c2, ?_, p2⟩
    rw [un67_2]
    simp only [SS, insA, wantedA, Opd.ev, putA, binA, eqbA, unA, fldA, partA, reduceIte, reduceCtorEq, Nat.reduceMod, Nat.reduceDiv, Nat.reduceBEq, resultA, resA, vI, Nat.reduceMul, Nat.reduceAdd, Nat.reduceSub, Nat.reduceEqDiff, Nat.reduceLT, Nat.reducePow, Nat.reduceLeDiff, st, Option.bind_eq_bind, Option.pure_def, List.length_nil, Int.cast_ofNat_Int, List.reverse_nil, Int.ofNat_zero] at a1 p1
    simp only [F67L2b, F67T2, F67T3, in67_1, SS, insA, wantedA, Opd.ev, putA, binA, eqbA, unA, fldA, partA, reduceIte, reduceCtorEq, Nat.reduceMod, Nat.reduceDiv, Nat.reduceBEq, resultA, resA, vI, Nat.reduceMul, Nat.reduceAdd, Nat.reduceSub, Nat.reduceEqDiff, Nat.reduceLT, Nat.reducePow, Nat.reduceLeDiff, st, Option.bind_eq_bind, Option.pure_def, List.length_nil, Int.cast_ofNat_Int, List.reverse_nil, UU, idxP, cellsAt, storeA, fillA, zerosA, putAll, optNat, sliceA, row, Int.reduceLT, Int.reduceLE, Int.reduceGT, Int.reduceGE, Int.reduceEq, Int.reduceNe, Int.reduceToNat, Int.reduceBEq, Int.reduceBNe, Nat.reduceLeDiff, Nat.reduceLT, Nat.reduceBNe, Nat.reduceGT, List.drop_nil, List.take_nil, Option.isSome_none, Int.ofNat_one, Int.ofNat_zero, hc, hl, a1, b1, b3, b4, b5, hww, p1]

theorem tri67 {vt : AV} {t : List (List Int)} (ht : IsTab vt t) (hv : Veil t) : ∃ w, IsTab w (triT (pR t) t.length t.length) ∧ (∀ H, freeX H (callL EV Y 67 [vt] []) = some (w, H)) ∧ ∀ H n, freeA H (n + 1) w = some w := by
  obtain ⟨R', v, cells, p1, p2⟩ := L67_2 (Y := Y) ht hv.unit rfl hv.n5 hv.row t.length 0 [] .nils [] (by omega) (HTab.nil _ _)
  obtain ⟨⟨w, o1, o2⟩, _⟩ := p2.out (d := 3)
  refine ⟨w, o2, fun H => ?_, fun H n => ?_⟩
  · rw [call67 rfl]
    simp only [SS, insA, wantedA, Opd.ev, putA, binA, eqbA, unA, fldA, partA, reduceIte, reduceCtorEq, Nat.reduceMod, Nat.reduceDiv, Nat.reduceBEq, resultA, resA, vI, Nat.reduceMul, Nat.reduceAdd, Nat.reduceSub, Nat.reduceEqDiff, Nat.reduceLT, Nat.reducePow, Nat.reduceLeDiff, st, Option.bind_eq_bind, Option.pure_def, List.length_nil, Int.cast_ofNat_Int, List.reverse_nil, Int.ofNat_zero] at p1
    simp only [F67B, F67T4, in67_2, SS, insA, wantedA, Opd.ev, putA, binA, eqbA, unA, fldA, partA, reduceIte, reduceCtorEq, Nat.reduceMod, Nat.reduceDiv, Nat.reduceBEq, resultA, resA, vI, Nat.reduceMul, Nat.reduceAdd, Nat.reduceSub, Nat.reduceEqDiff, Nat.reduceLT, Nat.reducePow, Nat.reduceLeDiff, st, Option.bind_eq_bind, Option.pure_def, List.length_nil, Int.cast_ofNat_Int, List.reverse_nil, UU, idxP, cellsAt, storeA, fillA, zerosA, putAll, optNat, sliceA, row, Int.reduceLT, Int.reduceLE, Int.reduceGT, Int.reduceGE, Int.reduceEq, Int.reduceNe, Int.reduceToNat, Int.reduceBEq, Int.reduceBNe, Nat.reduceLeDiff, Nat.reduceLT, Nat.reduceBNe, Nat.reduceGT, List.drop_nil, List.take_nil, Option.isSome_none, Int.ofNat_one, Int.ofNat_zero, p1, o1]
  · exact p2.free_idem o1 H n

theorem tri30 {vt : AV} {t : List (List Int)} (ht : IsTab vt t) (hs : Small t) :
    (readOk t = true → ∃ w, IsTab w (triT (pR t) t.length t.length) ∧ ∀ H, freeX H (callL EV Y 30 [vt] []) = some (.tup [w, vI 0], H)) ∧ (readOk t = false → ∀ H, freeX H (callL EV Y 30 [vt] []) = some (.tup [.nils, vI 2], H)) := by
  have k := fun H => isveil26 (Y := Y) (H := H) ht hs
  rw [ref_read] at k
  constructor
  · intro ho
    have hv := veil_iff.1 ho
    rw [ho] at k
    obtain ⟨w, o1, o2, o3⟩ := tri67 (Y := Y) ht hv
    refine ⟨w, o1, fun H => ?_⟩
    rw [call30 rfl]
    simp only [F30B, SS, insA, wantedA, Opd.ev, putA, binA, eqbA, unA, fldA, partA, reduceIte, reduceCtorEq, Nat.reduceMod, Nat.reduceDiv, Nat.reduceBEq, resultA, resA, vI, Nat.reduceMul, Nat.reduceAdd, Nat.reduceSub, Nat.reduceEqDiff, Nat.reduceLT, Nat.reducePow, Nat.reduceLeDiff, st, Option.bind_eq_bind, Option.pure_def, List.length_nil, Int.cast_ofNat_Int, List.reverse_nil, UU, idxP, cellsAt, storeA, fillA, zerosA, putAll, optNat, sliceA, row, Int.reduceLT, Int.reduceLE, Int.reduceGT, Int.reduceGE, Int.reduceEq, Int.reduceNe, Int.reduceToNat, Int.reduceBEq, Int.reduceBNe, Nat.reduceLeDiff, Nat.reduceLT, Nat.reduceBNe, Nat.reduceGT, List.drop_nil, List.take_nil, Option.isSome_none, Int.ofNat_one, Int.ofNat_zero, ht.snap, k, o2, o3]
  · intro ho H
    rw [ho] at k
    rw [call30 rfl]
    simp only [F30B, SS, insA, wantedA, Opd.ev, putA, binA, eqbA, unA, fldA, partA, reduceIte, reduceCtorEq, Nat.reduceMod, Nat.reduceDiv, Nat.reduceBEq, resultA, resA, vI, Nat.reduceMul, Nat.reduceAdd, Nat.reduceSub, Nat.reduceEqDiff, Nat.reduceLT, Nat.reducePow, Nat.reduceLeDiff, st, Option.bind_eq_bind, Option.pure_def, List.length_nil, Int.cast_ofNat_Int, List.reverse_nil, UU, idxP, cellsAt, storeA, fillA, zerosA, putAll, optNat, sliceA, row, Int.reduceLT, Int.reduceLE, Int.reduceGT, Int.reduceGE, Int.reduceEq, Int.reduceNe, Int.reduceToNat, Int.reduceBEq, Int.reduceBNe, Nat.reduceLeDiff, Nat.reduceLT, Nat.reduceBNe, Nat.reduceGT, List.drop_nil, List.take_nil, Option.isSome_none, Int.ofNat_one, Int.ofNat_zero, ht.snap, k]

/-! ### Both ways are the same -/
theorem runS_pre : ∀ {l : List Int} {s z : Int} (m : Nat), 0 ≤ s ∧ s ≤ 1 → runS s l = some z → 0 ≤ s + sumI (l.take m) ∧ s + sumI (l.take m) ≤ 1
  | [], s, z, m, hs, _ => by simp [sumI]; exact hs
  | x :: l, s, z, 0, hs, _ => by simp [sumI]; exact hs
  | x :: l, s, z, m + 1, hs, h => by
    simp only [runS] at h
    split at h
    · cases h
    · rename_i hn
      have := runS_pre (l := l) (s := s + x) m (by omega) h
      simp only [List.take_succ_cons, sumI]
      omega
theorem runS_all : ∀ {l : List Int} {s z : Int}, runS s l = some z → s + sumI l = z
  | [], s, z, h => by cases h; simp [sumI]
  | x :: l, s, z, h => by
    simp only [runS] at h
    split at h
    · cases h
    · have := runS_all h; simp only [sumI]; omega

theorem sumF_list {f : Nat → Int} : ∀ (l : List Int) (a m : Nat), m ≤ l.length → (∀ i (h : i < l.length), f (a + i) = l[i]) → sumF f a m = sumI (l.take m)
  | l, a, 0, _, _ => by simp [sumF_0, sumI]
  | [], a, m + 1, h, _ => by simp at h
  | x :: l, a, m + 1, h, hf => by
    rw [sumF_s, List.take_succ_cons]
    simp only [sumI]
    have h0 := hf 0 (by simp)
    rw [Nat.add_zero] at h0
    rw [h0, sumF_list l (a + 1) m (by simpa using h) fun i hi => by
      have := hf (i + 1) (by simpa using hi)
      rw [show a + 1 + i = a + (i + 1) by omega, this]; rfl]
    rfl

theorem col_F {t : List (List Int)} {j m : Nat} (hm : m ≤ t.length) : sumF (fun x => at2 t x j) 0 m = sumI ((colD t j).take m) := by
  refine sumF_list _ 0 m (by simpa [colD] using hm) fun i hi => ?_
  have h : i < t.length := by simpa [colD] using hi
  simp only [colD, List.getElem_map, Nat.zero_add, at2, getD_get h]

theorem Veil.colb {t : List (List Int)} (h : Veil t) {j m : Nat} (hj : j < t.length) (hm : m ≤ t.length) : 0 ≤ sumF (fun x => at2 t x j) 0 m ∧ sumF (fun x => at2 t x j) 0 m ≤ 1 := by
  have h1 := h.col j hj
  unfold altB at h1
  have := runS_pre m (by omega) (eq_of_beq h1)
  rw [col_F hm]; omega

theorem sumF_plus {f g : Nat → Int} : ∀ (d a : Nat), sumF (fun i => f i + g i) a d = sumF f a d + sumF g a d
  | 0, a => rfl
  | d + 1, a => by rw [sumF_s, sumF_s, sumF_s, sumF_plus d]; omega

theorem rowS_s {t : List (List Int)} {a k : Nat} (ha : a < t.length) (hk : k < t[a].length) : rowS t a (k + 1) = rowS t a k + at2 t a k := by
  unfold rowS at2
  rw [getD_get ha, getD_get hk, List.take_succ_eq_append_getElem hk]
  have key : ∀ (l : List Int) (x : Int), sumI (l ++ [x]) = sumI l + x := by
    intro l x
    induction l with
    | nil => simp [sumI]
    | cons y l ih => simp only [List.cons_append, sumI, ih]; omega
  exact key _ _

theorem sumV_s {t : List (List Int)} {n m j : Nat} (hn : t.length = n) (hr : ∀ r ∈ t, r.length = n) (hm : m ≤ n) (hj : j < n) : sumV t m (j + 1) = sumV t m j + sumF (fun x => at2 t x j) 0 m := by
  rw [sumV_F (by omega), sumV_F (by omega), ← sumF_plus]
  refine sumF_congr m 0 fun i _ hi => ?_
  have h1 : i < t.length := by omega
  exact rowS_s h1 (by rw [hr _ (List.getElem_mem h1)]; exact hj)

theorem tri_same {t : List (List Int)} (h : Veil t) : triT (pC t) t.length t.length = triT (pR t) t.length t.length := by
  unfold triT triR
  refine List.map_congr_left fun k hk => ?_
  rw [List.mem_range] at hk
  congr 1
  refine List.filter_congr fun j hj => ?_
  rw [List.mem_range'_1] at hj
  unfold pC pR
  rw [sumV_s rfl h.row (by omega) (by omega)]
  have := h.colb (j := j) (m := k + 1) (by omega) (by omega)
  generalize sumF (fun x => at2 t x j) 0 (k + 1) = s at *
  rcases (show s = 0 ∨ s = 1 by omega) with rfl | rfl
  · first | (simp; done) | (simp; omega)
  · first | (simp; done) | (simp; omega)
end
end Go.X
