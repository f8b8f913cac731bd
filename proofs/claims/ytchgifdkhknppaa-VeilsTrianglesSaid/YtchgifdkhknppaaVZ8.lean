import Derived.Test.YtchgifdkhknppaaVZ7
/-! Veils: From, whole. -/
set_option linter.unusedSimpArgs false
set_option linter.unusedVariables false
set_option maxHeartbeats 8000000
set_option maxRecDepth 10000
namespace Go.X
open Go Go.RowKit
section
variable {Y : Run} {H : Heap}

/-- The table of a triangle. -/
def triV (l : List (List Int)) : List (List Int) := tabF l.length (ofT l)
def fromOk (l : List (List Int)) : Bool := decide (1 ≤ l.length ∧ l.length ≤ 5) && (triB l.length l 0 l.length && readOk (triV l))

theorem from45 {hv : AV} {h : List (List Int)} (ht : IsTab hv h) (hs : Small h) :
    (fromOk h = true → ∃ w, IsTab w (triV h) ∧ ∀ H, freeX H (callL EV Y 45 [hv] []) = some (.tup [w, vI 0], H)) ∧
    (fromOk h = false → ∀ H, freeX H (callL EV Y 45 [hv] []) = some (.tup [.nils, vI 2], H)) := by
  have call := call45 (Y := Y) (x0 := hv) (H := []) rfl
  have hb := hs.1
  by_cases c1 : h.length < 1
  · have c : (h.length : Int) < 1 := by omega
    have e : fromOk h = false := by unfold fromOk; rw [decide_eq_false (by omega), Bool.false_and]
    refine ⟨fun q => absurd (e.symm.trans q) (by decide), fun _ H => ?_⟩
    rw [call]
    simp only [F45B, SS, insA, wantedA, Opd.ev, putA, binA, eqbA, unA, fldA, partA, reduceIte, reduceCtorEq, Nat.reduceMod, Nat.reduceDiv, Nat.reduceBEq, resultA, resA, vI, Nat.reduceMul, Nat.reduceAdd, Nat.reduceSub, Nat.reduceEqDiff, Nat.reduceLT, Nat.reducePow, Nat.reduceLeDiff, st, Option.bind_eq_bind, Option.pure_def, List.length_nil, Int.cast_ofNat_Int, List.reverse_nil, UU, idxP, cellsAt, storeA, fillA, zerosA, putAll, optNat, sliceA, row, Int.reduceLT, Int.reduceLE, Int.reduceGT, Int.reduceGE, Int.reduceEq, Int.reduceNe, Int.reduceToNat, Int.reduceBEq, Int.reduceBNe, Nat.reduceLeDiff, Nat.reduceLT, Nat.reduceBNe, Nat.reduceGT, List.drop_nil, List.take_nil, Option.isSome_none, Int.ofNat_one, Int.ofNat_zero, ht.len, c]
  · by_cases c2 : h.length > 5
    · have c : ¬ (h.length : Int) < 1 := by omega
      have c' : (h.length : Int) > 5 := by omega
      have e : fromOk h = false := by unfold fromOk; rw [decide_eq_false (by omega), Bool.false_and]
      refine ⟨fun q => absurd (e.symm.trans q) (by decide), fun _ H => ?_⟩
      rw [call]
      simp only [F45B, SS, insA, wantedA, Opd.ev, putA, binA, eqbA, unA, fldA, partA, reduceIte, reduceCtorEq, Nat.reduceMod, Nat.reduceDiv, Nat.reduceBEq, resultA, resA, vI, Nat.reduceMul, Nat.reduceAdd, Nat.reduceSub, Nat.reduceEqDiff, Nat.reduceLT, Nat.reducePow, Nat.reduceLeDiff, st, Option.bind_eq_bind, Option.pure_def, List.length_nil, Int.cast_ofNat_Int, List.reverse_nil, UU, idxP, cellsAt, storeA, fillA, zerosA, putAll, optNat, sliceA, row, Int.reduceLT, Int.reduceLE, Int.reduceGT, Int.reduceGE, Int.reduceEq, Int.reduceNe, Int.reduceToNat, Int.reduceBEq, Int.reduceBNe, Nat.reduceLeDiff, Nat.reduceLT, Nat.reduceBNe, Nat.reduceGT, List.drop_nil, List.take_nil, Option.isSome_none, Int.ofNat_one, Int.ofNat_zero, ht.len, c, c']
    · have c : ¬ (h.length : Int) < 1 := by omega
      have c' : ¬ (h.length : Int) > 5 := by omega
      have h0 := L45_1 (Y := Y) (H := []) ht (by omega) rfl h.length 0 (by omega)
      cases r1 : triB h.length h 0 h.length
      · have e : fromOk h = false := by unfold fromOk; rw [r1, Bool.false_and, Bool.and_false]
        rw [r1, if_neg (by decide)] at h0
        refine ⟨fun q => absurd (e.symm.trans q) (by decide), fun _ H => ?_⟩
        rw [call]
        simp only [SS, insA, wantedA, Opd.ev, putA, binA, eqbA, unA, fldA, partA, reduceIte, reduceCtorEq, Nat.reduceMod, Nat.reduceDiv, Nat.reduceBEq, resultA, resA, vI, Nat.reduceMul, Nat.reduceAdd, Nat.reduceSub, Nat.reduceEqDiff, Nat.reduceLT, Nat.reducePow, Nat.reduceLeDiff, st, Option.bind_eq_bind, Option.pure_def, List.length_nil, Int.cast_ofNat_Int, List.reverse_nil, Int.ofNat_zero] at h0
        simp only [F45B, SS, insA, wantedA, Opd.ev, putA, binA, eqbA, unA, fldA, partA, reduceIte, reduceCtorEq, Nat.reduceMod, Nat.reduceDiv, Nat.reduceBEq, resultA, resA, vI, Nat.reduceMul, Nat.reduceAdd, Nat.reduceSub, Nat.reduceEqDiff, Nat.reduceLT, Nat.reducePow, Nat.reduceLeDiff, st, Option.bind_eq_bind, Option.pure_def, List.length_nil, Int.cast_ofNat_Int, List.reverse_nil, UU, idxP, cellsAt, storeA, fillA, zerosA, putAll, optNat, sliceA, row, Int.reduceLT, Int.reduceLE, Int.reduceGT, Int.reduceGE, Int.reduceEq, Int.reduceNe, Int.reduceToNat, Int.reduceBEq, Int.reduceBNe, Nat.reduceLeDiff, Nat.reduceLT, Nat.reduceBNe, Nat.reduceGT, List.drop_nil, List.take_nil, Option.isSome_none, Int.ofNat_one, Int.ofNat_zero, ht.len, c, c', h0, in45_1]
      · rw [r1, if_pos rfl] at h0
        obtain ⟨y, y1, y2, y3⟩ := of72t (Y := Y) ht (⟨rfl, by omega, hs.2⟩ : Tri h.length h)
        have y1 : IsTab y (triV h) := y1
        have ys : Small (triV h) := by
          refine ⟨by rw [triV, tabF_len]; omega, fun r hr => ?_⟩
          have := tabF_mem r hr
          omega
        have hsi : ∀ H n, snapA H (n + 2) (.iface 69 hv) = some (.iface 69 hv) := fun H n => by rw [snap_ifc, ht.snap]; rfl
        obtain ⟨H1, q, _⟩ := read64 (Y := Y) y1 ys []
        cases r2 : readOk (triV h)
        · have e : fromOk h = false := by unfold fromOk; rw [r2, Bool.and_false, Bool.and_false]
          rw [r2] at q
          simp only [Bool.false_eq_true, if_false] at q
          refine ⟨fun q => absurd (e.symm.trans q) (by decide), fun _ H => ?_⟩
          rw [call]
          simp only [SS, insA, wantedA, Opd.ev, putA, binA, eqbA, unA, fldA, partA, reduceIte, reduceCtorEq, Nat.reduceMod, Nat.reduceDiv, Nat.reduceBEq, resultA, resA, vI, Nat.reduceMul, Nat.reduceAdd, Nat.reduceSub, Nat.reduceEqDiff, Nat.reduceLT, Nat.reducePow, Nat.reduceLeDiff, st, Option.bind_eq_bind, Option.pure_def, List.length_nil, Int.cast_ofNat_Int, List.reverse_nil, Int.ofNat_zero] at h0
          simp only [F45B, F45T1, SS, insA, wantedA, Opd.ev, putA, binA, eqbA, unA, fldA, partA, reduceIte, reduceCtorEq, Nat.reduceMod, Nat.reduceDiv, Nat.reduceBEq, resultA, resA, vI, Nat.reduceMul, Nat.reduceAdd, Nat.reduceSub, Nat.reduceEqDiff, Nat.reduceLT, Nat.reducePow, Nat.reduceLeDiff, st, Option.bind_eq_bind, Option.pure_def, List.length_nil, Int.cast_ofNat_Int, List.reverse_nil, UU, idxP, cellsAt, fillA, zerosA, putAll, row, Int.reduceLT, Int.reduceLE, Int.reduceGT, Int.reduceGE, Int.reduceEq, Int.reduceNe, Int.reduceToNat, Int.reduceBEq, Int.reduceBNe, Nat.reduceLeDiff, Nat.reduceLT, Nat.reduceBNe, Nat.reduceGT, List.drop_nil, List.take_nil, Option.isSome_none, Int.ofNat_one, Int.ofNat_zero, ht.len, c, c', h0, in45_1, hsi, y1.snap, y2, y3, q]
        · have e : fromOk h = true := by unfold fromOk; rw [r1, r2, decide_eq_true (by omega)]; rfl
          rw [r2, if_pos rfl] at q
          refine ⟨fun _ => ⟨y, y1, fun H => ?_⟩, fun q => absurd (e.symm.trans q) (by decide)⟩
          rw [call]
          simp only [SS, insA, wantedA, Opd.ev, putA, binA, eqbA, unA, fldA, partA, reduceIte, reduceCtorEq, Nat.reduceMod, Nat.reduceDiv, Nat.reduceBEq, resultA, resA, vI, Nat.reduceMul, Nat.reduceAdd, Nat.reduceSub, Nat.reduceEqDiff, Nat.reduceLT, Nat.reducePow, Nat.reduceLeDiff, st, Option.bind_eq_bind, Option.pure_def, List.length_nil, Int.cast_ofNat_Int, List.reverse_nil, Int.ofNat_zero] at h0
          simp only [F45B, F45T1, SS, insA, wantedA, Opd.ev, putA, binA, eqbA, unA, fldA, partA, reduceIte, reduceCtorEq, Nat.reduceMod, Nat.reduceDiv, Nat.reduceBEq, resultA, resA, vI, Nat.reduceMul, Nat.reduceAdd, Nat.reduceSub, Nat.reduceEqDiff, Nat.reduceLT, Nat.reducePow, Nat.reduceLeDiff, st, Option.bind_eq_bind, Option.pure_def, List.length_nil, Int.cast_ofNat_Int, List.reverse_nil, UU, idxP, cellsAt, fillA, zerosA, putAll, row, Int.reduceLT, Int.reduceLE, Int.reduceGT, Int.reduceGE, Int.reduceEq, Int.reduceNe, Int.reduceToNat, Int.reduceBEq, Int.reduceBNe, Nat.reduceLeDiff, Nat.reduceLT, Nat.reduceBNe, Nat.reduceGT, List.drop_nil, List.take_nil, Option.isSome_none, Int.ofNat_one, Int.ofNat_zero, ht.len, c, c', h0, in45_1, hsi, y1.snap, y2, y3, q]
end
end Go.X
