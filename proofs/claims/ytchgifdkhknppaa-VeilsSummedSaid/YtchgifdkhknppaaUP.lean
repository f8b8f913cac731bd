import Derived.Test.YtchgifdkhknppaaUO
/-! Veils: ends and pairings, in the specification. -/
set_option linter.unusedSimpArgs false
set_option linter.unusedVariables false
set_option maxHeartbeats 8000000
set_option maxRecDepth 10000
namespace Go.X
open Go Go.RowKit
section
variable {Y : Run} {H : Heap}

/-- A knot is appended to a list of knots. -/
theorem Gro.knot {R : Heap} {o : AV} {ks : List (Nat × Nat × Nat)} (G : Gro 0 3 R o ks.length (flat ks)) (hk : ks.length ≤ 1000) (k : Nat × Nat × Nat) :
    ∃ o' R', appA (R ++ [⟨0, kn k⟩]) 3 24 o (.sl R.length 0 3 0 1 none) = some (o', R') ∧ Gro 0 3 R' o' (ks ++ [k]).length (flat (ks ++ [k])) := by
  obtain ⟨o', R', a1, a2, _⟩ := G.app2 (bytes := 24) (ys := kn k) (Nat.zero_le _) rfl rfl (by omega) (by omega)
  exact ⟨o', R', a1, by rw [List.length_append, List.length_singleton, flat_add]; exact a2⟩

section
variable {hv : AV} {h : List (List Int)} {n : Nat} (ht : IsTab hv h) (S : Steep n h)
include ht S

theorem L88_0 (d : Nat) : ∀ (j : Nat) (R : Heap) (o : AV) (ks : List (Nat × Nat × Nat)), j + d = n + 1 → 1 ≤ j → ks.length + d ≤ 1000 → Gro 0 3 R o ks.length (flat ks) →
    ∃ R' o', lp EV Y F88L0 (sp 69 [(5, vI j), (4, o), (3, vI n), (0, hv)]) R = some (.x 0, sp 69 [(4, o'), (3, vI n), (0, hv)], R') ∧ Gro 0 3 R' o' (ks ++ upK h (fun j => (1, j, 0)) j d).length (flat (ks ++ upK h (fun j => (1, j, 0)) j d)) := by
  induction d with
  | zero =>
    intro j R o ks hj h1 hk G
    have : ¬ ((j : Int) ≤ (n : Int)) := by omega
    refine ⟨R, o, ?_, by rw [upK, List.append_nil]; exact G⟩
    rw [un88_0]
    simp only [F88L0b, SS, insA, wantedA, Opd.ev, putA, binA, eqbA, unA, fldA, partA, reduceIte, reduceCtorEq, Nat.reduceMod, Nat.reduceDiv, Nat.reduceBEq, resultA, resA, vI, Nat.reduceMul, Nat.reduceAdd, Nat.reduceSub, Nat.reduceEqDiff, Nat.reduceLT, Nat.reducePow, Nat.reduceLeDiff, st, Option.bind_eq_bind, Option.pure_def, List.length_nil, Int.cast_ofNat_Int, List.reverse_nil, UU, idxP, cellsAt, storeA, fillA, zerosA, putAll, optNat, sliceA, row, Int.reduceLT, Int.reduceLE, Int.reduceGT, Int.reduceGE, Int.reduceEq, Int.reduceNe, Int.reduceToNat, Int.reduceBEq, Int.reduceBNe, Nat.reduceLeDiff, Nat.reduceLT, Nat.reduceBNe, Nat.reduceGT, List.drop_nil, List.take_nil, Option.isSome_none, Int.ofNat_one, Int.ofNat_zero, this]
  | succ d ih =>
    intro j R o ks hj h1 hk G
    have h5 := S.n5
    have hc : (j : Int) ≤ (n : Int) := by omega
    have hww := wrap_succ (n := j) (by omega)
    have dn := fun H => down96 (Y := Y) (H := H) (i := 0) (k := j) ht S (by omega) ⟨h1, by omega⟩
    have e : selK h (1, j, 0) = if dD h 0 j = true then [(1, j, 0)] else [] := rfl
    rw [upK, e, ← List.append_assoc]
    cases c : dD h 0 j
    · rw [if_neg (by decide), List.append_nil]
      rw [c] at dn
      obtain ⟨R2, o2, b1, b2⟩ := ih (j + 1) R o ks (by omega) (by omega) (by omega) G
      refine ⟨R2, o2, ?_, b2⟩
      rw [un88_0]
      simp only [SS, insA, wantedA, Opd.ev, putA, binA, eqbA, unA, fldA, partA, reduceIte, reduceCtorEq, Nat.reduceMod, Nat.reduceDiv, Nat.reduceBEq, resultA, resA, vI, Nat.reduceMul, Nat.reduceAdd, Nat.reduceSub, Nat.reduceEqDiff, Nat.reduceLT, Nat.reducePow, Nat.reduceLeDiff, st, Option.bind_eq_bind, Option.pure_def, List.length_nil, Int.cast_ofNat_Int, List.reverse_nil, Int.ofNat_zero] at b1 dn
      simp only [F88L0b, SS, insA, wantedA, Opd.ev, putA, binA, eqbA, unA, fldA, partA, reduceIte, reduceCtorEq, Nat.reduceMod, Nat.reduceDiv, Nat.reduceBEq, resultA, resA, vI, Nat.reduceMul, Nat.reduceAdd, Nat.reduceSub, Nat.reduceEqDiff, Nat.reduceLT, Nat.reducePow, Nat.reduceLeDiff, st, Option.bind_eq_bind, Option.pure_def, List.length_nil, Int.cast_ofNat_Int, List.reverse_nil, UU, idxP, cellsAt, storeA, fillA, zerosA, putAll, optNat, sliceA, row, Int.reduceLT, Int.reduceLE, Int.reduceGT, Int.reduceGE, Int.reduceEq, Int.reduceNe, Int.reduceToNat, Int.reduceBEq, Int.reduceBNe, Nat.reduceLeDiff, Nat.reduceLT, Nat.reduceBNe, Nat.reduceGT, List.drop_nil, List.take_nil, Option.isSome_none, Int.ofNat_one, Int.ofNat_zero, hc, ht.snap, dn, hww, b1]
    · rw [if_pos rfl]
      rw [c] at dn
      obtain ⟨o1, R1, a1, a2⟩ := G.knot (by omega) (1, j, 0)
      obtain ⟨R2, o2, b1, b2⟩ := ih (j + 1) R1 o1 _ (by omega) (by omega) (by rw [List.length_append, List.length_singleton]; omega) a2
      refine ⟨R2, o2, ?_, b2⟩
      rw [un88_0]
      simp only [kn, SS, insA, wantedA, Opd.ev, putA, binA, eqbA, unA, fldA, partA, reduceIte, reduceCtorEq, Nat.reduceMod, Nat.reduceDiv, Nat.reduceBEq, resultA, resA, vI, Nat.reduceMul, Nat.reduceAdd, Nat.reduceSub, Nat.reduceEqDiff, Nat.reduceLT, Nat.reducePow, Nat.reduceLeDiff, st, Option.bind_eq_bind, Option.pure_def, List.length_nil, Int.cast_ofNat_Int, List.reverse_nil, Int.ofNat_zero, Int.ofNat_one] at b1 dn a1
      simp only [F88L0b, SS, insA, wantedA, Opd.ev, putA, binA, eqbA, unA, fldA, partA, reduceIte, reduceCtorEq, Nat.reduceMod, Nat.reduceDiv, Nat.reduceBEq, resultA, resA, vI, Nat.reduceMul, Nat.reduceAdd, Nat.reduceSub, Nat.reduceEqDiff, Nat.reduceLT, Nat.reducePow, Nat.reduceLeDiff, st, Option.bind_eq_bind, Option.pure_def, List.length_nil, Int.cast_ofNat_Int, List.reverse_nil, UU, idxP, cellsAt, storeA, fillA, zerosA, putAll, optNat, sliceA, row, Int.reduceLT, Int.reduceLE, Int.reduceGT, Int.reduceGE, Int.reduceEq, Int.reduceNe, Int.reduceToNat, Int.reduceBEq, Int.reduceBNe, Nat.reduceLeDiff, Nat.reduceLT, Nat.reduceBNe, Nat.reduceGT, List.drop_nil, List.take_nil, Option.isSome_none, Int.ofNat_one, Int.ofNat_zero, hc, ht.snap, dn, a1, hww, b1]

theorem L88_1 (d : Nat) : ∀ (j : Nat) (R : Heap) (o : AV) (ks : List (Nat × Nat × Nat)), j + d = n + 1 → 1 ≤ j → ks.length + d ≤ 1000 → Gro 0 3 R o ks.length (flat ks) →
    ∃ R' o', lp EV Y F88L1 (sp 69 [(6, vI j), (4, o), (3, vI n), (0, hv)]) R = some (.x 2, sp 69 [(4, o'), (3, vI n), (0, hv)], R') ∧ Gro 0 3 R' o' (ks ++ upK h (fun j => (j, n, 1)) j d).length (flat (ks ++ upK h (fun j => (j, n, 1)) j d)) := by
  induction d with
  | zero =>
    intro j R o ks hj h1 hk G
    have : ¬ ((j : Int) ≤ (n : Int)) := by omega
    refine ⟨R, o, ?_, by rw [upK, List.append_nil]; exact G⟩
    rw [un88_1]
    simp only [F88L1b, SS, insA, wantedA, Opd.ev, putA, binA, eqbA, unA, fldA, partA, reduceIte, reduceCtorEq, Nat.reduceMod, Nat.reduceDiv, Nat.reduceBEq, resultA, resA, vI, Nat.reduceMul, Nat.reduceAdd, Nat.reduceSub, Nat.reduceEqDiff, Nat.reduceLT, Nat.reducePow, Nat.reduceLeDiff, st, Option.bind_eq_bind, Option.pure_def, List.length_nil, Int.cast_ofNat_Int, List.reverse_nil, UU, idxP, cellsAt, storeA, fillA, zerosA, putAll, optNat, sliceA, row, Int.reduceLT, Int.reduceLE, Int.reduceGT, Int.reduceGE, Int.reduceEq, Int.reduceNe, Int.reduceToNat, Int.reduceBEq, Int.reduceBNe, Nat.reduceLeDiff, Nat.reduceLT, Nat.reduceBNe, Nat.reduceGT, List.drop_nil, List.take_nil, Option.isSome_none, Int.ofNat_one, Int.ofNat_zero, this]
  | succ d ih =>
    intro j R o ks hj h1 hk G
    have h5 := S.n5
    have hc : (j : Int) ≤ (n : Int) := by omega
    have hww := wrap_succ (n := j) (by omega)
    have dn := fun H => right97 (Y := Y) (H := H) (i := j) (k := n) ht S ⟨h1, by omega⟩ (Nat.le_refl _)
    have e : selK h (j, n, 1) = if dR h j n = true then [(j, n, 1)] else [] := rfl
    rw [upK, e, ← List.append_assoc]
    cases c : dR h j n
    · rw [if_neg (by decide), List.append_nil]
      rw [c] at dn
      obtain ⟨R2, o2, b1, b2⟩ := ih (j + 1) R o ks (by omega) (by omega) (by omega) G
      refine ⟨R2, o2, ?_, b2⟩
      rw [un88_1]
      simp only [SS, insA, wantedA, Opd.ev, putA, binA, eqbA, unA, fldA, partA, reduceIte, reduceCtorEq, Nat.reduceMod, Nat.reduceDiv, Nat.reduceBEq, resultA, resA, vI, Nat.reduceMul, Nat.reduceAdd, Nat.reduceSub, Nat.reduceEqDiff, Nat.reduceLT, Nat.reducePow, Nat.reduceLeDiff, st, Option.bind_eq_bind, Option.pure_def, List.length_nil, Int.cast_ofNat_Int, List.reverse_nil] at b1 dn
      simp only [F88L1b, SS, insA, wantedA, Opd.ev, putA, binA, eqbA, unA, fldA, partA, reduceIte, reduceCtorEq, Nat.reduceMod, Nat.reduceDiv, Nat.reduceBEq, resultA, resA, vI, Nat.reduceMul, Nat.reduceAdd, Nat.reduceSub, Nat.reduceEqDiff, Nat.reduceLT, Nat.reducePow, Nat.reduceLeDiff, st, Option.bind_eq_bind, Option.pure_def, List.length_nil, Int.cast_ofNat_Int, List.reverse_nil, UU, idxP, cellsAt, storeA, fillA, zerosA, putAll, optNat, sliceA, row, Int.reduceLT, Int.reduceLE, Int.reduceGT, Int.reduceGE, Int.reduceEq, Int.reduceNe, Int.reduceToNat, Int.reduceBEq, Int.reduceBNe, Nat.reduceLeDiff, Nat.reduceLT, Nat.reduceBNe, Nat.reduceGT, List.drop_nil, List.take_nil, Option.isSome_none, Int.ofNat_one, Int.ofNat_zero, hc, ht.snap, dn, hww, b1]
    · rw [if_pos rfl]
      rw [c] at dn
      obtain ⟨o1, R1, a1, a2⟩ := G.knot (by omega) (j, n, 1)
      obtain ⟨R2, o2, b1, b2⟩ := ih (j + 1) R1 o1 _ (by omega) (by omega) (by rw [List.length_append, List.length_singleton]; omega) a2
      refine ⟨R2, o2, ?_, b2⟩
      rw [un88_1]
      simp only [kn, SS, insA, wantedA, Opd.ev, putA, binA, eqbA, unA, fldA, partA, reduceIte, reduceCtorEq, Nat.reduceMod, Nat.reduceDiv, Nat.reduceBEq, resultA, resA, vI, Nat.reduceMul, Nat.reduceAdd, Nat.reduceSub, Nat.reduceEqDiff, Nat.reduceLT, Nat.reducePow, Nat.reduceLeDiff, st, Option.bind_eq_bind, Option.pure_def, List.length_nil, Int.cast_ofNat_Int, List.reverse_nil, Int.ofNat_zero, Int.ofNat_one] at b1 dn a1
      simp only [F88L1b, SS, insA, wantedA, Opd.ev, putA, binA, eqbA, unA, fldA, partA, reduceIte, reduceCtorEq, Nat.reduceMod, Nat.reduceDiv, Nat.reduceBEq, resultA, resA, vI, Nat.reduceMul, Nat.reduceAdd, Nat.reduceSub, Nat.reduceEqDiff, Nat.reduceLT, Nat.reducePow, Nat.reduceLeDiff, st, Option.bind_eq_bind, Option.pure_def, List.length_nil, Int.cast_ofNat_Int, List.reverse_nil, UU, idxP, cellsAt, storeA, fillA, zerosA, putAll, optNat, sliceA, row, Int.reduceLT, Int.reduceLE, Int.reduceGT, Int.reduceGE, Int.reduceEq, Int.reduceNe, Int.reduceToNat, Int.reduceBEq, Int.reduceBNe, Nat.reduceLeDiff, Nat.reduceLT, Nat.reduceBNe, Nat.reduceGT, List.drop_nil, List.take_nil, Option.isSome_none, Int.ofNat_one, Int.ofNat_zero, hc, ht.snap, dn, a1, hww, b1]

theorem L88_2 : ∀ (j : Nat) (R : Heap) (o : AV) (ks : List (Nat × Nat × Nat)), j ≤ n → ks.length + j ≤ 1000 → Gro 0 3 R o ks.length (flat ks) →
    ∃ R' o', lp EV Y F88L2 (sp 69 [(7, vI j), (4, o), (3, vI n), (0, hv)]) R = some (.x 4, sp 69 [(4, o'), (3, vI n), (0, hv)], R') ∧ Gro 0 3 R' o' (ks ++ dnK h (fun j => (n, j, 2)) j).length (flat (ks ++ dnK h (fun j => (n, j, 2)) j)) := by
  intro j
  induction j with
  | zero =>
    intro R o ks hj hk G
    have : ¬ (((0 : Nat) : Int) ≥ 1) := by omega
    refine ⟨R, o, ?_, by rw [dnK, List.append_nil]; exact G⟩
    rw [un88_2]
    simp only [F88L2b, SS, insA, wantedA, Opd.ev, putA, binA, eqbA, unA, fldA, partA, reduceIte, reduceCtorEq, Nat.reduceMod, Nat.reduceDiv, Nat.reduceBEq, resultA, resA, vI, Nat.reduceMul, Nat.reduceAdd, Nat.reduceSub, Nat.reduceEqDiff, Nat.reduceLT, Nat.reducePow, Nat.reduceLeDiff, st, Option.bind_eq_bind, Option.pure_def, List.length_nil, Int.cast_ofNat_Int, List.reverse_nil, UU, idxP, cellsAt, storeA, fillA, zerosA, putAll, optNat, sliceA, row, Int.reduceLT, Int.reduceLE, Int.reduceGT, Int.reduceGE, Int.reduceEq, Int.reduceNe, Int.reduceToNat, Int.reduceBEq, Int.reduceBNe, Nat.reduceLeDiff, Nat.reduceLT, Nat.reduceBNe, Nat.reduceGT, List.drop_nil, List.take_nil, Option.isSome_none, Int.ofNat_one, Int.ofNat_zero, this]
  | succ j ih =>
    intro R o ks hj hk G
    have h5 := S.n5
    have hc : ((j + 1 : Nat) : Int) ≥ 1 := by omega
    have hww : IntKind.wrap .i64 (((j + 1 : Nat) : Int) - 1) = (j : Int) := by rw [wrap_id (by omega) (by omega)]; omega
    have dn := fun H => down96 (Y := Y) (H := H) (i := n) (k := j + 1) ht S (Nat.le_refl _) ⟨by omega, by omega⟩
    have e : selK h (n, j + 1, 2) = if dD h n (j + 1) = true then [(n, j + 1, 2)] else [] := rfl
    rw [dnK, e, ← List.append_assoc]
    cases c : dD h n (j + 1)
    · rw [if_neg (by decide), List.append_nil]
      rw [c] at dn
      obtain ⟨R2, o2, b1, b2⟩ := ih R o ks (by omega) (by omega) G
      refine ⟨R2, o2, ?_, b2⟩
      rw [un88_2]
      simp only [SS, insA, wantedA, Opd.ev, putA, binA, eqbA, unA, fldA, partA, reduceIte, reduceCtorEq, Nat.reduceMod, Nat.reduceDiv, Nat.reduceBEq, resultA, resA, vI, Nat.reduceMul, Nat.reduceAdd, Nat.reduceSub, Nat.reduceEqDiff, Nat.reduceLT, Nat.reducePow, Nat.reduceLeDiff, st, Option.bind_eq_bind, Option.pure_def, List.length_nil, Int.cast_ofNat_Int, List.reverse_nil] at b1 dn
      simp only [F88L2b, SS, insA, wantedA, Opd.ev, putA, binA, eqbA, unA, fldA, partA, reduceIte, reduceCtorEq, Nat.reduceMod, Nat.reduceDiv, Nat.reduceBEq, resultA, resA, vI, Nat.reduceMul, Nat.reduceAdd, Nat.reduceSub, Nat.reduceEqDiff, Nat.reduceLT, Nat.reducePow, Nat.reduceLeDiff, st, Option.bind_eq_bind, Option.pure_def, List.length_nil, Int.cast_ofNat_Int, List.reverse_nil, UU, idxP, cellsAt, storeA, fillA, zerosA, putAll, optNat, sliceA, row, Int.reduceLT, Int.reduceLE, Int.reduceGT, Int.reduceGE, Int.reduceEq, Int.reduceNe, Int.reduceToNat, Int.reduceBEq, Int.reduceBNe, Nat.reduceLeDiff, Nat.reduceLT, Nat.reduceBNe, Nat.reduceGT, List.drop_nil, List.take_nil, Option.isSome_none, Int.ofNat_one, Int.ofNat_zero, hc, ht.snap, dn, hww, b1]
    · rw [if_pos rfl]
      rw [c] at dn
      obtain ⟨o1, R1, a1, a2⟩ := G.knot (by omega) (n, j + 1, 2)
      obtain ⟨R2, o2, b1, b2⟩ := ih R1 o1 _ (by omega) (by rw [List.length_append, List.length_singleton]; omega) a2
      refine ⟨R2, o2, ?_, b2⟩
      rw [un88_2]
      simp only [kn, SS, insA, wantedA, Opd.ev, putA, binA, eqbA, unA, fldA, partA, reduceIte, reduceCtorEq, Nat.reduceMod, Nat.reduceDiv, Nat.reduceBEq, resultA, resA, vI, Nat.reduceMul, Nat.reduceAdd, Nat.reduceSub, Nat.reduceEqDiff, Nat.reduceLT, Nat.reducePow, Nat.reduceLeDiff, st, Option.bind_eq_bind, Option.pure_def, List.length_nil, Int.cast_ofNat_Int, List.reverse_nil, Int.cast_ofNat_Int] at b1 dn a1
      simp only [F88L2b, SS, insA, wantedA, Opd.ev, putA, binA, eqbA, unA, fldA, partA, reduceIte, reduceCtorEq, Nat.reduceMod, Nat.reduceDiv, Nat.reduceBEq, resultA, resA, vI, Nat.reduceMul, Nat.reduceAdd, Nat.reduceSub, Nat.reduceEqDiff, Nat.reduceLT, Nat.reducePow, Nat.reduceLeDiff, st, Option.bind_eq_bind, Option.pure_def, List.length_nil, Int.cast_ofNat_Int, List.reverse_nil, UU, idxP, cellsAt, storeA, fillA, zerosA, putAll, optNat, sliceA, row, Int.reduceLT, Int.reduceLE, Int.reduceGT, Int.reduceGE, Int.reduceEq, Int.reduceNe, Int.reduceToNat, Int.reduceBEq, Int.reduceBNe, Nat.reduceLeDiff, Nat.reduceLT, Nat.reduceBNe, Nat.reduceGT, List.drop_nil, List.take_nil, Option.isSome_none, Int.ofNat_one, Int.ofNat_zero, hc, ht.snap, dn, a1, hww, b1]

theorem L88_3 : ∀ (j : Nat) (R : Heap) (o : AV) (ks : List (Nat × Nat × Nat)), j ≤ n → ks.length + j ≤ 1000 → Gro 0 3 R o ks.length (flat ks) →
    ∃ R' o', lp EV Y F88L3 (sp 69 [(8, vI j), (4, o), (0, hv)]) R = some (.x 6, sp 69 [(4, o')], R') ∧ Gro 0 3 R' o' (ks ++ dnK h (fun j => (j, 1, 3)) j).length (flat (ks ++ dnK h (fun j => (j, 1, 3)) j)) := by
  intro j
  induction j with
  | zero =>
    intro R o ks hj hk G
    have : ¬ (((0 : Nat) : Int) ≥ 1) := by omega
    refine ⟨R, o, ?_, by rw [dnK, List.append_nil]; exact G⟩
    rw [un88_3]
    simp only [F88L3b, SS, insA, wantedA, Opd.ev, putA, binA, eqbA, unA, fldA, partA, reduceIte, reduceCtorEq, Nat.reduceMod, Nat.reduceDiv, Nat.reduceBEq, resultA, resA, vI, Nat.reduceMul, Nat.reduceAdd, Nat.reduceSub, Nat.reduceEqDiff, Nat.reduceLT, Nat.reducePow, Nat.reduceLeDiff, st, Option.bind_eq_bind, Option.pure_def, List.length_nil, Int.cast_ofNat_Int, List.reverse_nil, UU, idxP, cellsAt, storeA, fillA, zerosA, putAll, optNat, sliceA, row, Int.reduceLT, Int.reduceLE, Int.reduceGT, Int.reduceGE, Int.reduceEq, Int.reduceNe, Int.reduceToNat, Int.reduceBEq, Int.reduceBNe, Nat.reduceLeDiff, Nat.reduceLT, Nat.reduceBNe, Nat.reduceGT, List.drop_nil, List.take_nil, Option.isSome_none, Int.ofNat_one, Int.ofNat_zero, this]
  | succ j ih =>
    intro R o ks hj hk G
    have h5 := S.n5
    have hc : ((j + 1 : Nat) : Int) ≥ 1 := by omega
    have hww : IntKind.wrap .i64 (((j + 1 : Nat) : Int) - 1) = (j : Int) := by rw [wrap_id (by omega) (by omega)]; omega
    have dn := fun H => right97 (Y := Y) (H := H) (i := j + 1) (k := 0) ht S ⟨by omega, by omega⟩ (Nat.zero_le _)
    have e : selK h (j + 1, 1, 3) = if dR h (j + 1) 0 = true then [(j + 1, 1, 3)] else [] := rfl
    rw [dnK, e, ← List.append_assoc]
    cases c : dR h (j + 1) 0
    · rw [if_neg (by decide), List.append_nil]
      rw [c] at dn
      obtain ⟨R2, o2, b1, b2⟩ := ih R o ks (by omega) (by omega) G
      refine ⟨R2, o2, ?_, b2⟩
      rw [un88_3]
      simp only [SS, insA, wantedA, Opd.ev, putA, binA, eqbA, unA, fldA, partA, reduceIte, reduceCtorEq, Nat.reduceMod, Nat.reduceDiv, Nat.reduceBEq, resultA, resA, vI, Nat.reduceMul, Nat.reduceAdd, Nat.reduceSub, Nat.reduceEqDiff, Nat.reduceLT, Nat.reducePow, Nat.reduceLeDiff, st, Option.bind_eq_bind, Option.pure_def, List.length_nil, Int.cast_ofNat_Int, List.reverse_nil, Int.ofNat_zero] at b1 dn
      simp only [F88L3b, SS, insA, wantedA, Opd.ev, putA, binA, eqbA, unA, fldA, partA, reduceIte, reduceCtorEq, Nat.reduceMod, Nat.reduceDiv, Nat.reduceBEq, resultA, resA, vI, Nat.reduceMul, Nat.reduceAdd, Nat.reduceSub, Nat.reduceEqDiff, Nat.reduceLT, Nat.reducePow, Nat.reduceLeDiff, st, Option.bind_eq_bind, Option.pure_def, List.length_nil, Int.cast_ofNat_Int, List.reverse_nil, UU, idxP, cellsAt, storeA, fillA, zerosA, putAll, optNat, sliceA, row, Int.reduceLT, Int.reduceLE, Int.reduceGT, Int.reduceGE, Int.reduceEq, Int.reduceNe, Int.reduceToNat, Int.reduceBEq, Int.reduceBNe, Nat.reduceLeDiff, Nat.reduceLT, Nat.reduceBNe, Nat.reduceGT, List.drop_nil, List.take_nil, Option.isSome_none, Int.ofNat_one, Int.ofNat_zero, hc, ht.snap, dn, hww, b1]
    · rw [if_pos rfl]
      rw [c] at dn
      obtain ⟨o1, R1, a1, a2⟩ := G.knot (by omega) (j + 1, 1, 3)
      obtain ⟨R2, o2, b1, b2⟩ := ih R1 o1 _ (by omega) (by rw [List.length_append, List.length_singleton]; omega) a2
      refine ⟨R2, o2, ?_, b2⟩
      rw [un88_3]
      simp only [kn, SS, insA, wantedA, Opd.ev, putA, binA, eqbA, unA, fldA, partA, reduceIte, reduceCtorEq, Nat.reduceMod, Nat.reduceDiv, Nat.reduceBEq, resultA, resA, vI, Nat.reduceMul, Nat.reduceAdd, Nat.reduceSub, Nat.reduceEqDiff, Nat.reduceLT, Nat.reducePow, Nat.reduceLeDiff, st, Option.bind_eq_bind, Option.pure_def, List.length_nil, Int.cast_ofNat_Int, List.reverse_nil, Int.cast_ofNat_Int, Int.ofNat_zero, Int.ofNat_one] at b1 dn a1
      simp only [F88L3b, SS, insA, wantedA, Opd.ev, putA, binA, eqbA, unA, fldA, partA, reduceIte, reduceCtorEq, Nat.reduceMod, Nat.reduceDiv, Nat.reduceBEq, resultA, resA, vI, Nat.reduceMul, Nat.reduceAdd, Nat.reduceSub, Nat.reduceEqDiff, Nat.reduceLT, Nat.reducePow, Nat.reduceLeDiff, st, Option.bind_eq_bind, Option.pure_def, List.length_nil, Int.cast_ofNat_Int, List.reverse_nil, UU, idxP, cellsAt, storeA, fillA, zerosA, putAll, optNat, sliceA, row, Int.reduceLT, Int.reduceLE, Int.reduceGT, Int.reduceGE, Int.reduceEq, Int.reduceNe, Int.reduceToNat, Int.reduceBEq, Int.reduceBNe, Nat.reduceLeDiff, Nat.reduceLT, Nat.reduceBNe, Nat.reduceGT, List.drop_nil, List.take_nil, Option.isSome_none, Int.ofNat_one, Int.ofNat_zero, hc, ht.snap, dn, a1, hww, b1]

theorem ends88 : ∃ w, IsKn w (endsP h n) ∧ ∀ H, freeX H (callL EV Y 88 [hv] []) = some (w, H) := by
  have h1 := S.n1
  have h5 := S.n5
  obtain ⟨R1, o1, a1, e1⟩ := L88_0 (Y := Y) ht S n 1 [] .nils [] (by omega) (by omega) (by simp; omega) (Gro.nil _ _ _)
  have n1 := upK_len (h := h) (f := fun j => (1, j, 0)) n 1
  rw [List.nil_append] at e1
  obtain ⟨R2, o2, a2, e2⟩ := L88_1 (Y := Y) ht S n 1 _ _ _ (by omega) (by omega) (by omega) e1
  have n2 := upK_len (h := h) (f := fun j => (j, n, 1)) n 1
  obtain ⟨R3, o3, a3, e3⟩ := L88_2 (Y := Y) ht S n _ _ _ (by omega) (by rw [List.length_append]; omega) e2
  have n3 := dnK_len (h := h) (f := fun j => (n, j, 2)) n
  obtain ⟨R4, o4, a4, G⟩ := L88_3 (Y := Y) ht S n _ _ _ (by omega) (by rw [List.length_append, List.length_append]; omega) e3
  rw [List.append_assoc, List.append_assoc] at G
  have hfree : ∀ c ∈ flat (endsP h n), freeA R4 5 c = some c := fun c hc => by
    unfold flat kn at hc
    rw [List.mem_flatMap] at hc
    obtain ⟨k, _, hk⟩ := hc
    simp only [List.mem_cons, List.not_mem_nil, or_false] at hk
    rcases hk with rfl | rfl | rfl <;> rfl
  obtain ⟨w, f1, f2⟩ := G.freeL (d := 4) hfree
  have f1 : freeA R4 6 o4 = some w := f1
  refine ⟨w, f2, fun H => ?_⟩
  have wl : IntKind.wrap .i64 (((n + 1 : Nat) : Int) - 1) = n := by rw [wrap_id (by omega) (by omega)]; omega
  have hl : lenA hv = some (n + 1) := by rw [ht.len, S.len]
  rw [call88 rfl]
  simp only [SS, insA, wantedA, Opd.ev, putA, binA, eqbA, unA, fldA, partA, reduceIte, reduceCtorEq, Nat.reduceMod, Nat.reduceDiv, Nat.reduceBEq, resultA, resA, vI, Nat.reduceMul, Nat.reduceAdd, Nat.reduceSub, Nat.reduceEqDiff, Nat.reduceLT, Nat.reducePow, Nat.reduceLeDiff, st, Option.bind_eq_bind, Option.pure_def, List.length_nil, Int.cast_ofNat_Int, List.reverse_nil, Int.ofNat_one] at a1 a2 a3 a4
  simp only [F88B, F88T3, F88T2, F88T1, F88T0, in88_0, in88_1, in88_2, in88_3, SS, insA, wantedA, Opd.ev, putA, binA, eqbA, unA, fldA, partA, reduceIte, reduceCtorEq, Nat.reduceMod, Nat.reduceDiv, Nat.reduceBEq, resultA, resA, vI, Nat.reduceMul, Nat.reduceAdd, Nat.reduceSub, Nat.reduceEqDiff, Nat.reduceLT, Nat.reducePow, Nat.reduceLeDiff, st, Option.bind_eq_bind, Option.pure_def, List.length_nil, Int.cast_ofNat_Int, List.reverse_nil, UU, idxP, cellsAt, storeA, fillA, zerosA, putAll, optNat, sliceA, row, Int.reduceLT, Int.reduceLE, Int.reduceGT, Int.reduceGE, Int.reduceEq, Int.reduceNe, Int.reduceToNat, Int.reduceBEq, Int.reduceBNe, Nat.reduceLeDiff, Nat.reduceLT, Nat.reduceBNe, Nat.reduceGT, List.drop_nil, List.take_nil, Option.isSome_none, Int.ofNat_one, Int.ofNat_zero, hl, wl, a1, a2, a3, a4, f1]
end

/-! ### pairing -/
def hitK (r : Nat × Nat × Nat) : List (Nat × Nat × Nat) → Nat → List Int
  | [], _ => []
  | k :: l, b => if k.1 = r.1 ∧ k.2.1 = r.2.1 ∧ (k.2.2 + 2) % 4 = r.2.2 then (b : Int) :: hitK r l (b + 1) else hitK r l (b + 1)
theorem hitK_len {r : Nat × Nat × Nat} : ∀ (l : List (Nat × Nat × Nat)) (b : Nat), (hitK r l b).length ≤ l.length
  | [], _ => Nat.le_refl _
  | k :: l, b => by
    have := hitK_len (r := r) l (b + 1)
    unfold hitK
    split
    · simp; omega
    · simp; omega

theorem L68_0 {v w a6 : AV} {h : List (List Int)} {n : Nat} {cells : List AV} {ks : List (Nat × Nat × Nat)} (hw : IsKn w ks) (hl : ks.length ≤ 20) (hk4 : ∀ k ∈ ks, k.2.2 < 4) {r : Nat × Nat × Nat} (d : Nat) : ∀ (b : Nat) (R : Heap) (o : AV) (p : List Int), b + d = ks.length → p.length + d ≤ 1000 →
    Work R v h cells o p →
    ∃ R' o', lp EV Y F68L0 (sp 69 [(10, vI b), (9, vI r.2.2), (8, vI r.2.1), (7, vI r.1), (6, a6), (5, o), (4, w), (3, v)]) R = some (.x 2, sp 69 [(6, a6), (5, o'), (4, w), (3, v)], R') ∧ Work R' v h cells o' (p ++ hitK r (ks.drop b) b) := by
  induction d with
  | zero =>
    intro b R o p hb hp W
    have : ¬ ((b : Int) < (ks.length : Int)) := by omega
    refine ⟨R, o, ?_, by rw [List.drop_eq_nil_of_le (by omega), hitK, List.append_nil]; exact W⟩
    rw [un68_0]
    simp only [F68L0b, SS, insA, wantedA, Opd.ev, putA, binA, eqbA, unA, fldA, partA, reduceIte, reduceCtorEq, Nat.reduceMod, Nat.reduceDiv, Nat.reduceBEq, resultA, resA, vI, Nat.reduceMul, Nat.reduceAdd, Nat.reduceSub, Nat.reduceEqDiff, Nat.reduceLT, Nat.reducePow, Nat.reduceLeDiff, st, Option.bind_eq_bind, Option.pure_def, List.length_nil, Int.cast_ofNat_Int, List.reverse_nil, UU, idxP, cellsAt, storeA, fillA, zerosA, putAll, optNat, sliceA, row, Int.reduceLT, Int.reduceLE, Int.reduceGT, Int.reduceGE, Int.reduceEq, Int.reduceNe, Int.reduceToNat, Int.reduceBEq, Int.reduceBNe, Nat.reduceLeDiff, Nat.reduceLT, Nat.reduceBNe, Nat.reduceGT, List.drop_nil, List.take_nil, Option.isSome_none, Int.ofNat_one, Int.ofNat_zero, hw.len, this]
  | succ d ih =>
    intro b R o p hb hp W
    have hc : (b : Int) < (ks.length : Int) := by omega
    have k1 : b < ks.length := by omega
    have hww := wrap_succ (n := b) (by omega)
    have k4 := hk4 _ (List.getElem_mem k1)
    obtain ⟨s, rest, e1⟩ := hw.idx k1
    rw [List.drop_eq_getElem_cons k1]
    generalize hkk : ks[b] = k at *
    have wd : Int.tmod (IntKind.wrap .i64 ((k.2.2 : Int) + 2)) 4 = (((k.2.2 + 2) % 4 : Nat) : Int) := by
      rw [wrap_id (by omega) (by omega), show (k.2.2 : Int) + 2 = ((k.2.2 + 2 : Nat) : Int) by omega, show (4 : Int) = ((4 : Nat) : Int) from rfl, ← Int.ofNat_tmod]
    have e4 : ¬ ((4 : Int) = 0) := by decide
    unfold hitK
    by_cases c1 : k.1 = r.1
    · have d1 : ((k.1 : Int) == (r.1 : Int)) = true := by rw [c1]; exact BEq.rfl
      by_cases c2 : k.2.1 = r.2.1
      · have d2 : ((k.2.1 : Int) == (r.2.1 : Int)) = true := by rw [c2]; exact BEq.rfl
        by_cases c3 : (k.2.2 + 2) % 4 = r.2.2
        · have d3 : ((((k.2.2 + 2) % 4 : Nat) : Int) == (r.2.2 : Int)) = true := by rw [c3]; exact BEq.rfl
          rw [if_pos ⟨c1, c2, c3⟩]
          obtain ⟨o1, R1, a1, a2⟩ := W.push (by omega) (b : Int)
          obtain ⟨R2, o2, b1, b2⟩ := ih (b + 1) R1 o1 _ (by omega) (by simp; omega) a2
          rw [List.append_assoc, List.singleton_append] at b2
          refine ⟨R2, o2, ?_, b2⟩
          rw [un68_0]
          simp only [SS, insA, wantedA, Opd.ev, putA, binA, eqbA, unA, fldA, partA, reduceIte, reduceCtorEq, Nat.reduceMod, Nat.reduceDiv, Nat.reduceBEq, resultA, resA, vI, Nat.reduceMul, Nat.reduceAdd, Nat.reduceSub, Nat.reduceEqDiff, Nat.reduceLT, Nat.reducePow, Nat.reduceLeDiff, st, Option.bind_eq_bind, Option.pure_def, List.length_nil, Int.cast_ofNat_Int, List.reverse_nil] at a1 b1
          simp only [F68L0b, SS, insA, wantedA, Opd.ev, putA, binA, eqbA, unA, fldA, partA, reduceIte, reduceCtorEq, Nat.reduceMod, Nat.reduceDiv, Nat.reduceBEq, resultA, resA, vI, Nat.reduceMul, Nat.reduceAdd, Nat.reduceSub, Nat.reduceEqDiff, Nat.reduceLT, Nat.reducePow, Nat.reduceLeDiff, st, Option.bind_eq_bind, Option.pure_def, List.length_nil, Int.cast_ofNat_Int, List.reverse_nil, UU, idxP, cellsAt, storeA, fillA, zerosA, putAll, optNat, sliceA, row, Int.reduceLT, Int.reduceLE, Int.reduceGT, Int.reduceGE, Int.reduceEq, Int.reduceNe, Int.reduceToNat, Int.reduceBEq, Int.reduceBNe, Nat.reduceLeDiff, Nat.reduceLT, Nat.reduceBNe, Nat.reduceGT, List.drop_nil, List.take_nil, Option.isSome_none, Int.ofNat_one, Int.ofNat_zero, hw.len, hc, e1, d1, d2, wd, e4, d3, a1, hww, b1, and_self, ne_eq, not_false_eq_true]
        · have d3 : ((((k.2.2 + 2) % 4 : Nat) : Int) == (r.2.2 : Int)) = false := by rw [beq_eq_false_iff_ne]; omega
          rw [if_neg (fun q => c3 q.2.2)]
          obtain ⟨R2, o2, b1, b2⟩ := ih (b + 1) R o p (by omega) (by omega) W
          refine ⟨R2, o2, ?_, b2⟩
          rw [un68_0]
          simp only [SS, insA, wantedA, Opd.ev, putA, binA, eqbA, unA, fldA, partA, reduceIte, reduceCtorEq, Nat.reduceMod, Nat.reduceDiv, Nat.reduceBEq, resultA, resA, vI, Nat.reduceMul, Nat.reduceAdd, Nat.reduceSub, Nat.reduceEqDiff, Nat.reduceLT, Nat.reducePow, Nat.reduceLeDiff, st, Option.bind_eq_bind, Option.pure_def, List.length_nil, Int.cast_ofNat_Int, List.reverse_nil] at b1
          simp only [F68L0b, SS, insA, wantedA, Opd.ev, putA, binA, eqbA, unA, fldA, partA, reduceIte, reduceCtorEq, Nat.reduceMod, Nat.reduceDiv, Nat.reduceBEq, resultA, resA, vI, Nat.reduceMul, Nat.reduceAdd, Nat.reduceSub, Nat.reduceEqDiff, Nat.reduceLT, Nat.reducePow, Nat.reduceLeDiff, st, Option.bind_eq_bind, Option.pure_def, List.length_nil, Int.cast_ofNat_Int, List.reverse_nil, UU, idxP, cellsAt, storeA, fillA, zerosA, putAll, optNat, sliceA, row, Int.reduceLT, Int.reduceLE, Int.reduceGT, Int.reduceGE, Int.reduceEq, Int.reduceNe, Int.reduceToNat, Int.reduceBEq, Int.reduceBNe, Nat.reduceLeDiff, Nat.reduceLT, Nat.reduceBNe, Nat.reduceGT, List.drop_nil, List.take_nil, Option.isSome_none, Int.ofNat_one, Int.ofNat_zero, hw.len, hc, e1, d1, d2, wd, e4, d3, hww, b1, and_self, ne_eq, not_false_eq_true]
      · have d2 : ((k.2.1 : Int) == (r.2.1 : Int)) = false := by rw [beq_eq_false_iff_ne]; omega
        rw [if_neg (fun q => c2 q.2.1)]
        obtain ⟨R2, o2, b1, b2⟩ := ih (b + 1) R o p (by omega) (by omega) W
        refine ⟨R2, o2, ?_, b2⟩
        rw [un68_0]
        simp only [SS, insA, wantedA, Opd.ev, putA, binA, eqbA, unA, fldA, partA, reduceIte, reduceCtorEq, Nat.reduceMod, Nat.reduceDiv, Nat.reduceBEq, resultA, resA, vI, Nat.reduceMul, Nat.reduceAdd, Nat.reduceSub, Nat.reduceEqDiff, Nat.reduceLT, Nat.reducePow, Nat.reduceLeDiff, st, Option.bind_eq_bind, Option.pure_def, List.length_nil, Int.cast_ofNat_Int, List.reverse_nil] at b1
        simp only [F68L0b, SS, insA, wantedA, Opd.ev, putA, binA, eqbA, unA, fldA, partA, reduceIte, reduceCtorEq, Nat.reduceMod, Nat.reduceDiv, Nat.reduceBEq, resultA, resA, vI, Nat.reduceMul, Nat.reduceAdd, Nat.reduceSub, Nat.reduceEqDiff, Nat.reduceLT, Nat.reducePow, Nat.reduceLeDiff, st, Option.bind_eq_bind, Option.pure_def, List.length_nil, Int.cast_ofNat_Int, List.reverse_nil, UU, idxP, cellsAt, storeA, fillA, zerosA, putAll, optNat, sliceA, row, Int.reduceLT, Int.reduceLE, Int.reduceGT, Int.reduceGE, Int.reduceEq, Int.reduceNe, Int.reduceToNat, Int.reduceBEq, Int.reduceBNe, Nat.reduceLeDiff, Nat.reduceLT, Nat.reduceBNe, Nat.reduceGT, List.drop_nil, List.take_nil, Option.isSome_none, Int.ofNat_one, Int.ofNat_zero, hw.len, hc, e1, d1, d2, hww, b1]
    · have d1 : ((k.1 : Int) == (r.1 : Int)) = false := by rw [beq_eq_false_iff_ne]; omega
      rw [if_neg (fun q => c1 q.1)]
      obtain ⟨R2, o2, b1, b2⟩ := ih (b + 1) R o p (by omega) (by omega) W
      refine ⟨R2, o2, ?_, b2⟩
      rw [un68_0]
      simp only [SS, insA, wantedA, Opd.ev, putA, binA, eqbA, unA, fldA, partA, reduceIte, reduceCtorEq, Nat.reduceMod, Nat.reduceDiv, Nat.reduceBEq, resultA, resA, vI, Nat.reduceMul, Nat.reduceAdd, Nat.reduceSub, Nat.reduceEqDiff, Nat.reduceLT, Nat.reducePow, Nat.reduceLeDiff, st, Option.bind_eq_bind, Option.pure_def, List.length_nil, Int.cast_ofNat_Int, List.reverse_nil] at b1
      simp only [F68L0b, SS, insA, wantedA, Opd.ev, putA, binA, eqbA, unA, fldA, partA, reduceIte, reduceCtorEq, Nat.reduceMod, Nat.reduceDiv, Nat.reduceBEq, resultA, resA, vI, Nat.reduceMul, Nat.reduceAdd, Nat.reduceSub, Nat.reduceEqDiff, Nat.reduceLT, Nat.reducePow, Nat.reduceLeDiff, st, Option.bind_eq_bind, Option.pure_def, List.length_nil, Int.cast_ofNat_Int, List.reverse_nil, UU, idxP, cellsAt, storeA, fillA, zerosA, putAll, optNat, sliceA, row, Int.reduceLT, Int.reduceLE, Int.reduceGT, Int.reduceGE, Int.reduceEq, Int.reduceNe, Int.reduceToNat, Int.reduceBEq, Int.reduceBNe, Nat.reduceLeDiff, Nat.reduceLT, Nat.reduceBNe, Nat.reduceGT, List.drop_nil, List.take_nil, Option.isSome_none, Int.ofNat_one, Int.ofNat_zero, hw.len, hc, e1, d1, hww, b1]

def pairRK (h : List (List Int)) (n : Nat) (ks : List (Nat × Nat × Nat)) : List (Nat × Nat × Nat) → Option (List Int)
  | [] => some []
  | k :: l => match folR h n 26 k.1 k.2.1 k.2.2 with
    | some r => match pairRK h n ks l with
      | some q => some (hitK r ks 0 ++ q)
      | none => none
    | none => none
def pairR (h : List (List Int)) (n : Nat) : Option (List Int) := pairRK h n (endsP h n) (endsP h n)
theorem pairRK_s {h : List (List Int)} {n : Nat} {ks l : List (Nat × Nat × Nat)} {k : Nat × Nat × Nat} {q : List Int} (hq : pairRK h n ks (k :: l) = some q) : ∃ r q', folR h n 26 k.1 k.2.1 k.2.2 = some r ∧ pairRK h n ks l = some q' ∧ q = hitK r ks 0 ++ q' := by
  unfold pairRK at hq
  cases h1 : folR h n 26 k.1 k.2.1 k.2.2 with
  | none => rw [h1] at hq; cases hq
  | some r =>
    cases h2 : pairRK h n ks l with
    | none => rw [h1, h2] at hq; cases hq
    | some q' => rw [h1, h2] at hq; cases hq; exact ⟨r, q', rfl, rfl, rfl⟩

theorem L68_1 {v w : AV} {h : List (List Int)} {n : Nat} {cells : List AV} (S : Steep n h) (hw : IsKn w (endsP h n)) (d : Nat) : ∀ (i : Nat) (R : Heap) (o : AV) (p q : List Int), i + d = (endsP h n).length → p.length ≤ 20 * i →
    pairRK h n (endsP h n) ((endsP h n).drop i) = some q → Work R v h cells o p →
    ∃ o' R', lp EV Y F68L1 (sp 69 [(6, vI i), (5, o), (4, w), (3, v)]) R = some (.x 0, sp 69 [(5, o')], R') ∧ Work R' v h cells o' (p ++ q) := by
  have h1 := S.n1
  have h5 := S.n5
  have hl := endsP_len (h := h) (n := n)
  have hm := fun k hk => endsP_mem (h := h) (k := k) h1 hk
  generalize hks : endsP h n = ks at *
  induction d with
  | zero =>
    intro i R o p q hi hp hq W
    have : ¬ ((i : Int) < (ks.length : Int)) := by omega
    rw [List.drop_eq_nil_of_le (by omega)] at hq
    cases hq
    refine ⟨o, R, ?_, by rw [List.append_nil]; exact W⟩
    rw [un68_1]
    simp only [F68L1b, SS, insA, wantedA, Opd.ev, putA, binA, eqbA, unA, fldA, partA, reduceIte, reduceCtorEq, Nat.reduceMod, Nat.reduceDiv, Nat.reduceBEq, resultA, resA, vI, Nat.reduceMul, Nat.reduceAdd, Nat.reduceSub, Nat.reduceEqDiff, Nat.reduceLT, Nat.reducePow, Nat.reduceLeDiff, st, Option.bind_eq_bind, Option.pure_def, List.length_nil, Int.cast_ofNat_Int, List.reverse_nil, UU, idxP, cellsAt, storeA, fillA, zerosA, putAll, optNat, sliceA, row, Int.reduceLT, Int.reduceLE, Int.reduceGT, Int.reduceGE, Int.reduceEq, Int.reduceNe, Int.reduceToNat, Int.reduceBEq, Int.reduceBNe, Nat.reduceLeDiff, Nat.reduceLT, Nat.reduceBNe, Nat.reduceGT, List.drop_nil, List.take_nil, Option.isSome_none, Int.ofNat_one, Int.ofNat_zero, hw.len, this]
  | succ d ih =>
    intro i R o p q hi hp hq W
    have hc : (i : Int) < (ks.length : Int) := by omega
    have k1 : i < ks.length := by omega
    have hww := wrap_succ (n := i) (by omega)
    rw [List.drop_eq_getElem_cons k1] at hq
    obtain ⟨r, q', f1, f2, rfl⟩ := pairRK_s hq
    obtain ⟨b1, b2, b3⟩ := hm _ (List.getElem_mem k1)
    obtain ⟨s, rest, e1⟩ := hw.idx k1
    obtain ⟨_, hv, o3, o4⟩ := W.tab.out (d := 3)
    have o3 : snapA R 6 v = some hv := o3
    have fo := fun H => follow89 (Y := Y) (H := H) o4 S b1 b2 b3 f1
    obtain ⟨R1, o1, a1, a2⟩ := L68_0 (Y := Y) (a6 := vI i) (v := v) (h := h) (n := n) hw (by omega) (fun k hk => (hm k hk).2.2) (r := r) ks.length 0 R o p (by omega) (by omega) W
    rw [List.drop_zero] at a2
    have hh := hitK_len (r := r) ks 0
    obtain ⟨o2, R2, c1, c2⟩ := ih (i + 1) R1 o1 _ q' (by omega) (by rw [List.length_append]; omega) f2 a2
    rw [List.append_assoc] at c2
    refine ⟨o2, R2, ?_, c2⟩
    rw [un68_1]
    simp only [SS, insA, wantedA, Opd.ev, putA, binA, eqbA, unA, fldA, partA, reduceIte, reduceCtorEq, Nat.reduceMod, Nat.reduceDiv, Nat.reduceBEq, resultA, resA, vI, Nat.reduceMul, Nat.reduceAdd, Nat.reduceSub, Nat.reduceEqDiff, Nat.reduceLT, Nat.reducePow, Nat.reduceLeDiff, st, Option.bind_eq_bind, Option.pure_def, List.length_nil, Int.cast_ofNat_Int, List.reverse_nil, Int.ofNat_zero] at a1 c1 fo
    simp only [F68L1b, F68T0, in68_0, SS, insA, wantedA, Opd.ev, putA, binA, eqbA, unA, fldA, partA, reduceIte, reduceCtorEq, Nat.reduceMod, Nat.reduceDiv, Nat.reduceBEq, resultA, resA, vI, Nat.reduceMul, Nat.reduceAdd, Nat.reduceSub, Nat.reduceEqDiff, Nat.reduceLT, Nat.reducePow, Nat.reduceLeDiff, st, Option.bind_eq_bind, Option.pure_def, List.length_nil, Int.cast_ofNat_Int, List.reverse_nil, UU, idxP, cellsAt, storeA, fillA, zerosA, putAll, optNat, sliceA, row, Int.reduceLT, Int.reduceLE, Int.reduceGT, Int.reduceGE, Int.reduceEq, Int.reduceNe, Int.reduceToNat, Int.reduceBEq, Int.reduceBNe, Nat.reduceLeDiff, Nat.reduceLT, Nat.reduceBNe, Nat.reduceGT, List.drop_nil, List.take_nil, Option.isSome_none, Int.ofNat_one, Int.ofNat_zero, hw.len, hc, e1, o3, fo, a1, hww, c1]

theorem pairing68 {vt : AV} {t : List (List Int)} {q : List Int} (ht : IsTab vt t) (hv : Veil t) (hq : pairR (hgtT t) t.length = some q) : ∃ w, IsRow w q ∧ (∀ H, freeX H (callL EV Y 68 [vt] []) = some (w, H)) ∧ ∀ H m, freeA H (m + 1) w = some w := by
  have S := hv.steep
  obtain ⟨v0, R0, c0, z1, z2⟩ := heights65 (Y := Y) ht hv
  obtain ⟨v, R, cells, q1, q2, q3⟩ := call_tab (H := []) (R := callL EV Y) (f := 65) (args := [vt]) (bs := [vt]) (by rw [mapM_cons', ht.snap]; rfl) z1 z2
  have q2 : HTab 0 R v (hgtT t) cells := q2
  obtain ⟨_, hvv, o3, o4⟩ := q2.out (d := 3)
  have o3 : snapA R 6 v = some hvv := o3
  obtain ⟨w, w1, w2⟩ := ends88 (Y := Y) o4 S
  obtain ⟨o, R', a1, a2⟩ := L68_1 (Y := Y) S w1 (endsP (hgtT t) t.length).length 0 R .nils [] q (by omega) (by simp) hq q2.work
  rw [List.nil_append] at a2
  obtain ⟨x, f1, f2⟩ := a2.row.free (d := 4)
  have f1 : freeA R' 6 o = some x := f1
  refine ⟨x, f2, fun H => ?_, fun H m => ?_⟩
  · rw [call68 rfl]
    simp only [SS, insA, wantedA, Opd.ev, putA, binA, eqbA, unA, fldA, partA, reduceIte, reduceCtorEq, Nat.reduceMod, Nat.reduceDiv, Nat.reduceBEq, resultA, resA, vI, Nat.reduceMul, Nat.reduceAdd, Nat.reduceSub, Nat.reduceEqDiff, Nat.reduceLT, Nat.reducePow, Nat.reduceLeDiff, st, Option.bind_eq_bind, Option.pure_def, List.length_nil, Int.cast_ofNat_Int, List.reverse_nil, Int.ofNat_zero] at a1 q1
    simp only [F68B, F68T1, in68_1, SS, insA, wantedA, Opd.ev, putA, binA, eqbA, unA, fldA, partA, reduceIte, reduceCtorEq, Nat.reduceMod, Nat.reduceDiv, Nat.reduceBEq, resultA, resA, vI, Nat.reduceMul, Nat.reduceAdd, Nat.reduceSub, Nat.reduceEqDiff, Nat.reduceLT, Nat.reducePow, Nat.reduceLeDiff, st, Option.bind_eq_bind, Option.pure_def, List.length_nil, Int.cast_ofNat_Int, List.reverse_nil, UU, idxP, cellsAt, storeA, fillA, zerosA, putAll, optNat, sliceA, row, Int.reduceLT, Int.reduceLE, Int.reduceGT, Int.reduceGE, Int.reduceEq, Int.reduceNe, Int.reduceToNat, Int.reduceBEq, Int.reduceBNe, Nat.reduceLeDiff, Nat.reduceLT, Nat.reduceBNe, Nat.reduceGT, List.drop_nil, List.take_nil, Option.isSome_none, Int.ofNat_one, Int.ofNat_zero, ht.snap, q1, o3, w2, a1, f1]
  · obtain ⟨h1, ⟨h0, rfl⟩ | ⟨id, ver, _, rfl, hH⟩⟩ := a2.row
    · cases f1; rfl
    · rw [show (6 : Nat) = 5 + 1 from rfl, free_sl, hH, freeS_some] at f1
      split at f1
      · simp only [freeB, Option.map_eq_some_iff] at f1
        obtain ⟨cs2, _, rfl⟩ := f1
        rfl
      · cases f1
end
end Go.X
