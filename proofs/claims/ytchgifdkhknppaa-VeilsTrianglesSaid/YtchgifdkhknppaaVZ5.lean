import Derived.Test.YtchgifdkhknppaaVZ3
/-! Veils: ref's Of, whole. -/
set_option linter.unusedSimpArgs false
set_option linter.unusedVariables false
set_option maxHeartbeats 8000000
set_option maxRecDepth 10000
namespace Go.X
open Go Go.RowKit
section
variable {Y : Run} {H : Heap}

theorem hts_of {n : Nat} {M : Int} {h : List (List Int)} (hM : M ≤ 100) (hl : h.length = n + 1) (r : rowsIn n M h 0 (n + 1) = true) : Hts (n + 1) h := by
  obtain ⟨a, b⟩ := (rowsIn_iff hl).1 r
  refine ⟨hl, fun r hr => ?_, fun r hr x hx => ?_⟩
  · obtain ⟨i, hi, rfl⟩ := List.getElem_of_mem hr
    exact a i hi
  · obtain ⟨i, hi, rfl⟩ := List.getElem_of_mem hr
    obtain ⟨j, hj, rfl⟩ := List.getElem_of_mem hx
    have := b i j (by omega) (by have := a i hi; omega)
    rw [at2_get hi hj] at this
    omega

theorem of49 {hv : AV} {h : List (List Int)} (ht : IsTab hv h) (hb : h.length ≤ 1000) :
    (ofOk h = true → ∃ w, IsTab w (vOf (h.length - 1) h) ∧ ∀ H, freeX H (callL EV Y 49 [hv] []) = some (.tup [w, vI 0], H)) ∧
    (ofOk h = false → ∀ H, freeX H (callL EV Y 49 [hv] []) = some (.tup [.nils, vI 2], H)) := by
  have call := call49 (Y := Y) (x0 := hv) (H := []) rfl
  by_cases c1 : h.length < 2
  · have w : IntKind.wrap .i64 ((h.length : Int) - 1) = (h.length : Int) - 1 := wrap_id (by omega) (by omega)
    have c : (h.length : Int) - 1 < 1 := by omega
    have e : ofOk h = false := by unfold ofOk; rw [decide_eq_false (by omega), Bool.false_and]
    refine ⟨fun q => absurd (e.symm.trans q) (by decide), fun _ H => ?_⟩
    rw [call]
    simp only [F49B, SS, insA, wantedA, Opd.ev, putA, binA, eqbA, unA, fldA, partA, reduceIte, reduceCtorEq, Nat.reduceMod, Nat.reduceDiv, Nat.reduceBEq, resultA, resA, vI, Nat.reduceMul, Nat.reduceAdd, Nat.reduceSub, Nat.reduceEqDiff, Nat.reduceLT, Nat.reducePow, Nat.reduceLeDiff, st, Option.bind_eq_bind, Option.pure_def, List.length_nil, Int.cast_ofNat_Int, List.reverse_nil, UU, idxP, cellsAt, storeA, fillA, zerosA, putAll, optNat, sliceA, row, Int.reduceLT, Int.reduceLE, Int.reduceGT, Int.reduceGE, Int.reduceEq, Int.reduceNe, Int.reduceToNat, Int.reduceBEq, Int.reduceBNe, Nat.reduceLeDiff, Nat.reduceLT, Nat.reduceBNe, Nat.reduceGT, List.drop_nil, List.take_nil, Option.isSome_none, Int.ofNat_one, Int.ofNat_zero, ht.len, w, c]
  · by_cases c2 : h.length > 6
    · have w : IntKind.wrap .i64 ((h.length : Int) - 1) = (h.length : Int) - 1 := wrap_id (by omega) (by omega)
      have c : ¬ (h.length : Int) - 1 < 1 := by omega
      have c' : (h.length : Int) - 1 > 5 := by omega
      have e : ofOk h = false := by unfold ofOk; rw [decide_eq_false (by omega), Bool.false_and]
      refine ⟨fun q => absurd (e.symm.trans q) (by decide), fun _ H => ?_⟩
      rw [call]
      simp only [F49B, SS, insA, wantedA, Opd.ev, putA, binA, eqbA, unA, fldA, partA, reduceIte, reduceCtorEq, Nat.reduceMod, Nat.reduceDiv, Nat.reduceBEq, resultA, resA, vI, Nat.reduceMul, Nat.reduceAdd, Nat.reduceSub, Nat.reduceEqDiff, Nat.reduceLT, Nat.reducePow, Nat.reduceLeDiff, st, Option.bind_eq_bind, Option.pure_def, List.length_nil, Int.cast_ofNat_Int, List.reverse_nil, UU, idxP, cellsAt, storeA, fillA, zerosA, putAll, optNat, sliceA, row, Int.reduceLT, Int.reduceLE, Int.reduceGT, Int.reduceGE, Int.reduceEq, Int.reduceNe, Int.reduceToNat, Int.reduceBEq, Int.reduceBNe, Nat.reduceLeDiff, Nat.reduceLT, Nat.reduceBNe, Nat.reduceGT, List.drop_nil, List.take_nil, Option.isSome_none, Int.ofNat_one, Int.ofNat_zero, ht.len, w, c, c']
    · obtain ⟨n, hl⟩ : ∃ n, h.length = n + 1 := ⟨h.length - 1, by omega⟩
      have w : IntKind.wrap .i64 (((n + 1 : Nat) : Int) - 1) = (n : Int) := wrap_pred (by omega) (by omega)
      have c : ¬ (n : Int) < 1 := by omega
      have c' : ¬ (n : Int) > 5 := by omega
      have oi := ofOk_iff hl
      have h0 := L49_1 (Y := Y) (H := []) ht (by omega) hl (n + 1) 0 (by omega)
      have hn : h.length - 1 = n := by omega
      rw [hn]
      cases r1 : rowsIn n (2 * n) h 0 (n + 1)
      · have e : ofOk h = false := by
          cases q : ofOk h
          · rfl
          · have S := oi.1 q
            have : rowsIn n (2 * n) h 0 (n + 1) = true := (rowsIn_iff hl).2 ⟨fun i hi => S.row _ (List.getElem_mem hi), fun i j hi hj => by have := S.range hi hj; omega⟩
            rw [r1] at this; exact absurd this (by decide)
        refine ⟨fun q => absurd (e.symm.trans q) (by decide), fun _ H => ?_⟩
        rw [call]
        rw [r1, if_neg (by decide)] at h0
        simp only [SS, insA, wantedA, Opd.ev, putA, binA, eqbA, unA, fldA, partA, reduceIte, reduceCtorEq, Nat.reduceMod, Nat.reduceDiv, Nat.reduceBEq, resultA, resA, vI, Nat.reduceMul, Nat.reduceAdd, Nat.reduceSub, Nat.reduceEqDiff, Nat.reduceLT, Nat.reducePow, Nat.reduceLeDiff, st, Option.bind_eq_bind, Option.pure_def, List.length_nil, Int.cast_ofNat_Int, List.reverse_nil, Int.ofNat_zero] at h0
        simp only [F49B, SS, insA, wantedA, Opd.ev, putA, binA, eqbA, unA, fldA, partA, reduceIte, reduceCtorEq, Nat.reduceMod, Nat.reduceDiv, Nat.reduceBEq, resultA, resA, vI, Nat.reduceMul, Nat.reduceAdd, Nat.reduceSub, Nat.reduceEqDiff, Nat.reduceLT, Nat.reducePow, Nat.reduceLeDiff, st, Option.bind_eq_bind, Option.pure_def, List.length_nil, Int.cast_ofNat_Int, List.reverse_nil, UU, idxP, cellsAt, storeA, fillA, zerosA, putAll, optNat, sliceA, row, Int.reduceLT, Int.reduceLE, Int.reduceGT, Int.reduceGE, Int.reduceEq, Int.reduceNe, Int.reduceToNat, Int.reduceBEq, Int.reduceBNe, Nat.reduceLeDiff, Nat.reduceLT, Nat.reduceBNe, Nat.reduceGT, List.drop_nil, List.take_nil, Option.isSome_none, Int.ofNat_one, Int.ofNat_zero, ht.len, hl, w, c, c', h0, in49_1]
      · rw [r1, if_pos rfl] at h0
        have hh := hts_of (by omega) hl r1
        obtain ⟨y, y1, y2, y3⟩ := table73 (Y := Y) ht hh (by omega)
        have y1 : IsTab y (vOf n h) := y1
        have ys : Small (vOf n h) := by
          refine ⟨by rw [vOf_len]; omega, fun r hr => ?_⟩
          have := tabF_mem r hr
          omega
        have iv := fun H => isveil26 (Y := Y) (H := H) y1 ys
        cases r2 : refOk (vOf n h)
        · have e : ofOk h = false := by
            cases q : ofOk h
            · rfl
            · have S := oi.1 q
              have := veil_iff.2 S.veil
              rw [← ref_read, r2] at this; exact absurd this (by decide)
          rw [r2] at iv
          refine ⟨fun q => absurd (e.symm.trans q) (by decide), fun _ H => ?_⟩
          rw [call]
          simp only [SS, insA, wantedA, Opd.ev, putA, binA, eqbA, unA, fldA, partA, reduceIte, reduceCtorEq, Nat.reduceMod, Nat.reduceDiv, Nat.reduceBEq, resultA, resA, vI, Nat.reduceMul, Nat.reduceAdd, Nat.reduceSub, Nat.reduceEqDiff, Nat.reduceLT, Nat.reducePow, Nat.reduceLeDiff, st, Option.bind_eq_bind, Option.pure_def, List.length_nil, Int.cast_ofNat_Int, List.reverse_nil, Int.ofNat_zero] at h0
          simp only [F49B, F49T1, SS, insA, wantedA, Opd.ev, putA, binA, eqbA, unA, fldA, partA, reduceIte, reduceCtorEq, Nat.reduceMod, Nat.reduceDiv, Nat.reduceBEq, resultA, resA, vI, Nat.reduceMul, Nat.reduceAdd, Nat.reduceSub, Nat.reduceEqDiff, Nat.reduceLT, Nat.reducePow, Nat.reduceLeDiff, st, Option.bind_eq_bind, Option.pure_def, List.length_nil, Int.cast_ofNat_Int, List.reverse_nil, UU, idxP, cellsAt, storeA, fillA, zerosA, putAll, optNat, sliceA, row, Int.reduceLT, Int.reduceLE, Int.reduceGT, Int.reduceGE, Int.reduceEq, Int.reduceNe, Int.reduceToNat, Int.reduceBEq, Int.reduceBNe, Nat.reduceLeDiff, Nat.reduceLT, Nat.reduceBNe, Nat.reduceGT, List.drop_nil, List.take_nil, Option.isSome_none, Int.ofNat_one, Int.ofNat_zero, ht.len, hl, w, c, c', h0, in49_1, ht.snap, y1.snap, y2, iv]
        · have V : Veil (vOf n h) := veil_iff.1 (by rw [← ref_read]; exact r2)
          rw [r2] at iv
          obtain ⟨a, R, cells, a1, a2, a3⟩ := heights_tab (Y := Y) y1 V []
          obtain ⟨b, b1, b2, _⟩ := snap_if (b := 59) a2
          have vs := V.steep
          rw [vOf_len] at vs
          have sm := fun H => same19 (Y := Y) (H := H) b1 ht (by rw [vs.len]; omega) (fun r hr => by rw [vs.row r hr]; omega)
          by_cases q : hgtT (vOf n h) = h
          · rw [decide_eq_true q] at sm
            have e : ofOk h = true := oi.2 (by rw [q] at vs; exact vs)
            refine ⟨fun _ => ⟨y, y1, fun H => ?_⟩, fun q => absurd (e.symm.trans q) (by decide)⟩
            rw [call]
            simp only [SS, insA, wantedA, Opd.ev, putA, binA, eqbA, unA, fldA, partA, reduceIte, reduceCtorEq, Nat.reduceMod, Nat.reduceDiv, Nat.reduceBEq, resultA, resA, vI, Nat.reduceMul, Nat.reduceAdd, Nat.reduceSub, Nat.reduceEqDiff, Nat.reduceLT, Nat.reducePow, Nat.reduceLeDiff, st, Option.bind_eq_bind, Option.pure_def, List.length_nil, Int.cast_ofNat_Int, List.reverse_nil, Int.ofNat_zero] at h0 a1
            simp only [F49B, F49T1, SS, insA, wantedA, Opd.ev, putA, binA, eqbA, unA, fldA, partA, reduceIte, reduceCtorEq, Nat.reduceMod, Nat.reduceDiv, Nat.reduceBEq, resultA, resA, vI, Nat.reduceMul, Nat.reduceAdd, Nat.reduceSub, Nat.reduceEqDiff, Nat.reduceLT, Nat.reducePow, Nat.reduceLeDiff, st, Option.bind_eq_bind, Option.pure_def, List.length_nil, Int.cast_ofNat_Int, List.reverse_nil, UU, idxP, cellsAt, fillA, zerosA, putAll, row, Int.reduceLT, Int.reduceLE, Int.reduceGT, Int.reduceGE, Int.reduceEq, Int.reduceNe, Int.reduceToNat, Int.reduceBEq, Int.reduceBNe, Nat.reduceLeDiff, Nat.reduceLT, Nat.reduceBNe, Nat.reduceGT, List.drop_nil, List.take_nil, Option.isSome_none, Int.ofNat_one, Int.ofNat_zero, ht.len, hl, w, c, c', h0, in49_1, ht.snap, y1.snap, y2, iv, a1, b2, sm, y3]
          · rw [decide_eq_false q] at sm
            have e : ofOk h = false := by
              cases q2 : ofOk h
              · rfl
              · exact absurd (oi.1 q2).hgts q
            refine ⟨fun q => absurd (e.symm.trans q) (by decide), fun _ H => ?_⟩
            rw [call]
            simp only [SS, insA, wantedA, Opd.ev, putA, binA, eqbA, unA, fldA, partA, reduceIte, reduceCtorEq, Nat.reduceMod, Nat.reduceDiv, Nat.reduceBEq, resultA, resA, vI, Nat.reduceMul, Nat.reduceAdd, Nat.reduceSub, Nat.reduceEqDiff, Nat.reduceLT, Nat.reducePow, Nat.reduceLeDiff, st, Option.bind_eq_bind, Option.pure_def, List.length_nil, Int.cast_ofNat_Int, List.reverse_nil, Int.ofNat_zero] at h0 a1
            simp only [F49B, F49T1, SS, insA, wantedA, Opd.ev, putA, binA, eqbA, unA, fldA, partA, reduceIte, reduceCtorEq, Nat.reduceMod, Nat.reduceDiv, Nat.reduceBEq, resultA, resA, vI, Nat.reduceMul, Nat.reduceAdd, Nat.reduceSub, Nat.reduceEqDiff, Nat.reduceLT, Nat.reducePow, Nat.reduceLeDiff, st, Option.bind_eq_bind, Option.pure_def, List.length_nil, Int.cast_ofNat_Int, List.reverse_nil, UU, idxP, cellsAt, fillA, zerosA, putAll, row, Int.reduceLT, Int.reduceLE, Int.reduceGT, Int.reduceGE, Int.reduceEq, Int.reduceNe, Int.reduceToNat, Int.reduceBEq, Int.reduceBNe, Nat.reduceLeDiff, Nat.reduceLT, Nat.reduceBNe, Nat.reduceGT, List.drop_nil, List.take_nil, Option.isSome_none, Int.ofNat_one, Int.ofNat_zero, ht.len, hl, w, c, c', h0, in49_1, ht.snap, y1.snap, y2, iv, a1, b2, sm, y3]
end
end Go.X
