import Derived.Test.YtmedpfjiidlidaaZJ
/-! The law on shifted and renamed tables. -/
set_option linter.unusedSimpArgs false
set_option linter.unusedVariables false
set_option maxHeartbeats 4000000
set_option maxRecDepth 10000
namespace Go.X
open Go Go.RowKit
section
variable {Y : Run} {H : Heap}

theorem small_nil : Small [] := ⟨by simp, fun _ h => by simp at h⟩

theorem shiftL_small {t : List (List Int)} (hs : Small t) (c b : Int) : Small (shiftL t c b).1 := by
  unfold shiftL
  split
  · refine ⟨by simpa using hs.1, fun r hr => ?_⟩
    obtain ⟨q, hq, rfl⟩ := List.mem_map.1 hr
    simpa [addAt] using hs.2 q hq
  · exact small_nil

theorem renT_small {t : List (List Int)} {l : List Int} (hl : l.length ≤ 20) : Small (renT t l) := by
  refine ⟨by simpa [renT] using hl, fun r hr => ?_⟩
  obtain ⟨q, _, rfl⟩ := List.mem_map.1 hr
  simpa using hl

theorem renamed {vt ut v : AV} {t : List (List Int)} {l : List Int} (ht : IsTab vt t) (hu : IsTab ut t) (hs : Small t) (hv : IsRow v l) (hl : l.length ≤ 20) :
    ∃ w w2 ls e, IsTab w ls ∧ IsTab w2 ls ∧ Small ls ∧ (∀ H, freeX H (callL E2 Y 42 [ut, v] []) = some (.tup [w, vI e], H)) ∧ (∀ H, freeX H (callL E2 Y 43 [vt, v] []) = some (.tup [w2, vI e], H)) := by
  obtain ⟨a1, a2⟩ := renamed42 (Y := Y) ht hs hv hl
  obtain ⟨b1, b2⟩ := renamed42 (Y := Y) hu hs hv hl
  by_cases c : okTab t ∧ isOrd t.length l = true
  · obtain ⟨w, w1, _, w3⟩ := a1 c
    obtain ⟨u, u1, u2, _⟩ := b1 c
    exact ⟨u, w, _, 0, u1, w1, renT_small hl, u2, w3⟩
  · exact ⟨.nils, .nils, [], 2, .nil, .nil, small_nil, (b2 c).1, (a2 c).2⟩

theorem law12 {vt v : AV} {t : List (List Int)} {l : List Int} {c b : Int} (ht : IsTab vt t) (hv : IsRow v l) : freeX [] (callL E2 Y 12 [vt, vI c, vI b, v] []) = some (.bool true, []) := by
  have f := fun H => few15 (Y := noRun) (H := H) ht IsPts.nil (by simp)
  have ha := fun H => freeX_up (Y := Y) E2_up (alive16 (Y := noRun) (H := H))
  rw [call12 rfl]
  by_cases hf : fewS t []
  · have f1 := fun H => freeX_up (Y := Y) E2_up ((f H).1 hf)
    by_cases hl : (l.length : Int) > 20
    · simp only [F12B, SS, insA, wantedA, Opd.ev, putA, binA, eqbA, unA, fldA, partA, reduceIte, reduceCtorEq, Nat.reduceMod, Nat.reduceDiv, Nat.reduceBEq, resultA, resA, vI, Nat.reduceMul, Nat.reduceAdd, Nat.reduceSub, Nat.reduceEqDiff, Nat.reduceLT, Nat.reducePow, Nat.reduceLeDiff, st, Option.bind_eq_bind, Option.pure_def, List.length_nil, Int.cast_ofNat_Int, List.reverse_nil, UU, idxP, cellsAt, storeA, fillA, zerosA, putAll, optNat, sliceA, row, Int.reduceLT, Int.reduceLE, Int.reduceGT, Int.reduceGE, Int.reduceEq, Int.reduceNe, Int.reduceToNat, Int.reduceBEq, Int.reduceBNe, Nat.reduceLeDiff, Nat.reduceLT, Nat.reduceBNe, Nat.reduceGT, List.drop_nil, List.take_nil, Option.isSome_none, Int.ofNat_one, Int.ofNat_zero, ht.snap, hv.len, f1, hl, ha, decide_true, BEq.rfl]
    · have hs := hf.1
      obtain ⟨u, hu, k0⟩ := own20 (Y := noRun) ht hs
      have k0 := fun H => freeX_up (Y := Y) E2_up (k0 H)
      obtain ⟨w1, x1, k1⟩ := shifted40 (Y := Y) (c := c) (b := b) hu hs
      obtain ⟨w2, x2, k2⟩ := shifted41 (Y := Y) (c := c) (b := b) ht hs
      have k3 := fun H => freeX_up (Y := Y) E2_up (rows29 (Y := noRun) (H := H) x1 x2 (shiftL_small hs c b))
      obtain ⟨w3, w4, ls, e, x3, x4, sl, k4, k5⟩ := renamed (Y := Y) ht hu hs hv (by omega)
      have k6 := fun H => freeX_up (Y := Y) E2_up (rows29 (Y := noRun) (H := H) x3 x4 sl)
      have k7 := fun H => freeX_up (Y := Y) E2_up (rows29 (Y := noRun) (H := H) hu ht hs)
      generalize (shiftL t c b).2 = e2 at *
      simp only [SS, insA, wantedA, Opd.ev, putA, binA, eqbA, unA, fldA, partA, reduceIte, reduceCtorEq, Nat.reduceMod, Nat.reduceDiv, Nat.reduceBEq, resultA, resA, vI, Nat.reduceMul, Nat.reduceAdd, Nat.reduceSub, Nat.reduceEqDiff, Nat.reduceLT, Nat.reducePow, Nat.reduceLeDiff, st, Option.bind_eq_bind, Option.pure_def, List.length_nil, Int.cast_ofNat_Int, List.reverse_nil] at k1 k2 k4 k5
      simp only [F12B, SS, insA, wantedA, Opd.ev, putA, binA, eqbA, unA, fldA, partA, reduceIte, reduceCtorEq, Nat.reduceMod, Nat.reduceDiv, Nat.reduceBEq, resultA, resA, vI, Nat.reduceMul, Nat.reduceAdd, Nat.reduceSub, Nat.reduceEqDiff, Nat.reduceLT, Nat.reducePow, Nat.reduceLeDiff, st, Option.bind_eq_bind, Option.pure_def, List.length_nil, Int.cast_ofNat_Int, List.reverse_nil, UU, idxP, cellsAt, storeA, fillA, zerosA, putAll, optNat, sliceA, row, Int.reduceLT, Int.reduceLE, Int.reduceGT, Int.reduceGE, Int.reduceEq, Int.reduceNe, Int.reduceToNat, Int.reduceBEq, Int.reduceBNe, Nat.reduceLeDiff, Nat.reduceLT, Nat.reduceBNe, Nat.reduceGT, List.drop_nil, List.take_nil, Option.isSome_none, Int.ofNat_one, Int.ofNat_zero, ht.snap, hu.snap, hv.snap, hv.len, x1.snap, x2.snap, x3.snap, x4.snap, f1, hl, ha, k0, k1, k2, k3, k4, k5, k6, k7, decide_false, BEq.rfl, bne_self_eq_false]
  · have f2 := fun H => freeX_up (Y := Y) E2_up ((f H).2 hf)
    simp only [F12B, SS, insA, wantedA, Opd.ev, putA, binA, eqbA, unA, fldA, partA, reduceIte, reduceCtorEq, Nat.reduceMod, Nat.reduceDiv, Nat.reduceBEq, resultA, resA, vI, Nat.reduceMul, Nat.reduceAdd, Nat.reduceSub, Nat.reduceEqDiff, Nat.reduceLT, Nat.reducePow, Nat.reduceLeDiff, st, Option.bind_eq_bind, Option.pure_def, List.length_nil, Int.cast_ofNat_Int, List.reverse_nil, UU, idxP, cellsAt, storeA, fillA, zerosA, putAll, optNat, sliceA, row, Int.reduceLT, Int.reduceLE, Int.reduceGT, Int.reduceGE, Int.reduceEq, Int.reduceNe, Int.reduceToNat, Int.reduceBEq, Int.reduceBNe, Nat.reduceLeDiff, Nat.reduceLT, Nat.reduceBNe, Nat.reduceGT, List.drop_nil, List.take_nil, Option.isSome_none, Int.ofNat_one, Int.ofNat_zero, ht.snap, f2, ha]
end
end Go.X
