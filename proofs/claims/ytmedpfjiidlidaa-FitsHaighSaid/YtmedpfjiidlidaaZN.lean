import Derived.Test.YtmedpfjiidlidaaZM
import Derived.Test.YtmedpfjiidlidaaXH2
import Derived.Test.YtmedpfjiidlidaaYB
/-! Two fashions: the law. -/
set_option linter.unusedSimpArgs false
set_option linter.unusedVariables false
set_option maxHeartbeats 4000000
set_option maxRecDepth 10000
namespace Go.X
open Go Go.RowKit
section
variable {Y : Run} {H : Heap}

theorem w10 : IntKind.wrap .i64 (1 - 0) = 1 := by rw [wrap_id] <;> omega
theorem w11 : IntKind.wrap .i64 (1 - 1) = 0 := by rw [wrap_id] <;> omega

theorem ask_alone0 {a b c d : Int} (hok : okTab [[a, b], [c, d]]) : askS [[a, b], [c, d]] [([1, 0], 1)] = true := by
  have : mixS 2 [1, 0] 1 = true := by decide
  simp only [askS, hok, decide_true, List.all_cons, List.all_nil, Bool.and_true, Bool.true_and]
  exact this
theorem ask_alone1 {a b c d : Int} (hok : okTab [[a, b], [c, d]]) : askS [[a, b], [c, d]] [([0, 1], 1)] = true := by
  have : mixS 2 [0, 1] 1 = true := by decide
  simp only [askS, hok, decide_true, List.all_cons, List.all_nil, Bool.and_true, Bool.true_and]
  exact this

theorem L7_0 {s s0 s1 : Bool} {a b c d : Int} {o0 o1 : Ob} (ht : IsTab (.imm s [.imm s0 [vI a, vI b] 2, .imm s1 [vI c, vI d] 2] 2) [[a, b], [c, d]]) (hok : okTab [[a, b], [c, d]]) :
    lp E2 Y F7L0 (sp 167 [(5, vI 0), (3, .ptr 0 0 0), (0, .imm s [.imm s0 [vI a, vI b] 2, .imm s1 [vI c, vI d] 2] 2)]) [o0, o1] =
      lp E2 Y F7L0 (sp 167 [(5, vI 1), (3, .ptr 0 0 0), (0, .imm s [.imm s0 [vI a, vI b] 2, .imm s1 [vI c, vI d] 2] 2)]) [o0, o1, ⟨0, [vI 1, vI 0]⟩, ⟨0, [.sl 2 0 1 0 2 none, vI 1]⟩] := by
  have k := fun H => freeX_up (Y := Y) E2_up (lasts32 (Y := noRun) (H := H) (dx := 1) ht (show 2 < 1000 by omega) (.imm true [1, 0]) (show 2 ≤ 20 by omega))
  unfold err at k
  simp only [ask_alone0 hok] at k
  conv => lhs; rw [un7_0]
  by_cases c1 : a > c
  · have e : lastsP [[a, b], [c, d]] [1, 0] = true := by rw [haigh0]; simp only [c1, true_or, decide_true]
    simp only [e] at k
    simp only [SS, insA, wantedA, Opd.ev, putA, binA, eqbA, unA, fldA, partA, reduceIte, reduceCtorEq, Nat.reduceMod, Nat.reduceDiv, Nat.reduceBEq, resultA, resA, vI, Nat.reduceMul, Nat.reduceAdd, Nat.reduceSub, Nat.reduceEqDiff, Nat.reduceLT, Nat.reducePow, Nat.reduceLeDiff, st, Option.bind_eq_bind, Option.pure_def, List.length_nil, Int.cast_ofNat_Int, List.reverse_nil] at k
    simp only [F7L0b, SS, insA, wantedA, Opd.ev, putA, binA, eqbA, unA, fldA, partA, reduceIte, reduceCtorEq, Nat.reduceMod, Nat.reduceDiv, Nat.reduceBEq, resultA, resA, vI, Nat.reduceMul, Nat.reduceAdd, Nat.reduceSub, Nat.reduceEqDiff, Nat.reduceLT, Nat.reducePow, Nat.reduceLeDiff, st, Option.bind_eq_bind, Option.pure_def, List.length_nil, Int.cast_ofNat_Int, List.reverse_nil, UU, idxP, cellsAt, storeA, fillA, zerosA, putAll, optNat, sliceA, row, Int.reduceLT, Int.reduceLE, Int.reduceGT, Int.reduceGE, Int.reduceEq, Int.reduceNe, Int.reduceToNat, Int.reduceBEq, Int.reduceBNe, Nat.reduceLeDiff, Nat.reduceLT, Nat.reduceBNe, Nat.reduceGT, List.drop_nil, List.take_nil, Option.isSome_none, Int.ofNat_one, Int.ofNat_zero, w10, wc1, k, c1, decide_true, bne_self_eq_false]
  · by_cases c2 : a = c
    · have c2' : (a == c) = true := by simpa using c2
      by_cases c3 : b > d
      · have e : lastsP [[a, b], [c, d]] [1, 0] = true := by rw [haigh0, decide_eq_true_eq]; exact .inr ⟨c2, c3⟩
        simp only [e] at k
        simp only [SS, insA, wantedA, Opd.ev, putA, binA, eqbA, unA, fldA, partA, reduceIte, reduceCtorEq, Nat.reduceMod, Nat.reduceDiv, Nat.reduceBEq, resultA, resA, vI, Nat.reduceMul, Nat.reduceAdd, Nat.reduceSub, Nat.reduceEqDiff, Nat.reduceLT, Nat.reducePow, Nat.reduceLeDiff, st, Option.bind_eq_bind, Option.pure_def, List.length_nil, Int.cast_ofNat_Int, List.reverse_nil] at k
        simp only [F7L0b, SS, insA, wantedA, Opd.ev, putA, binA, eqbA, unA, fldA, partA, reduceIte, reduceCtorEq, Nat.reduceMod, Nat.reduceDiv, Nat.reduceBEq, resultA, resA, vI, Nat.reduceMul, Nat.reduceAdd, Nat.reduceSub, Nat.reduceEqDiff, Nat.reduceLT, Nat.reducePow, Nat.reduceLeDiff, st, Option.bind_eq_bind, Option.pure_def, List.length_nil, Int.cast_ofNat_Int, List.reverse_nil, UU, idxP, cellsAt, storeA, fillA, zerosA, putAll, optNat, sliceA, row, Int.reduceLT, Int.reduceLE, Int.reduceGT, Int.reduceGE, Int.reduceEq, Int.reduceNe, Int.reduceToNat, Int.reduceBEq, Int.reduceBNe, Nat.reduceLeDiff, Nat.reduceLT, Nat.reduceBNe, Nat.reduceGT, List.drop_nil, List.take_nil, Option.isSome_none, Int.ofNat_one, Int.ofNat_zero, w10, wc1, k, c1, c2', c3, decide_true, decide_false, bne_self_eq_false]
      · have e : lastsP [[a, b], [c, d]] [1, 0] = false := by rw [haigh0, decide_eq_false_iff_not]; omega
        simp only [e] at k
        simp only [SS, insA, wantedA, Opd.ev, putA, binA, eqbA, unA, fldA, partA, reduceIte, reduceCtorEq, Nat.reduceMod, Nat.reduceDiv, Nat.reduceBEq, resultA, resA, vI, Nat.reduceMul, Nat.reduceAdd, Nat.reduceSub, Nat.reduceEqDiff, Nat.reduceLT, Nat.reducePow, Nat.reduceLeDiff, st, Option.bind_eq_bind, Option.pure_def, List.length_nil, Int.cast_ofNat_Int, List.reverse_nil] at k
        simp only [F7L0b, SS, insA, wantedA, Opd.ev, putA, binA, eqbA, unA, fldA, partA, reduceIte, reduceCtorEq, Nat.reduceMod, Nat.reduceDiv, Nat.reduceBEq, resultA, resA, vI, Nat.reduceMul, Nat.reduceAdd, Nat.reduceSub, Nat.reduceEqDiff, Nat.reduceLT, Nat.reducePow, Nat.reduceLeDiff, st, Option.bind_eq_bind, Option.pure_def, List.length_nil, Int.cast_ofNat_Int, List.reverse_nil, UU, idxP, cellsAt, storeA, fillA, zerosA, putAll, optNat, sliceA, row, Int.reduceLT, Int.reduceLE, Int.reduceGT, Int.reduceGE, Int.reduceEq, Int.reduceNe, Int.reduceToNat, Int.reduceBEq, Int.reduceBNe, Nat.reduceLeDiff, Nat.reduceLT, Nat.reduceBNe, Nat.reduceGT, List.drop_nil, List.take_nil, Option.isSome_none, Int.ofNat_one, Int.ofNat_zero, w10, wc1, k, c1, c2', c3, decide_true, decide_false, bne_self_eq_false]
    · have c2' : (a == c) = false := by simpa using c2
      have e : lastsP [[a, b], [c, d]] [1, 0] = false := by rw [haigh0, decide_eq_false_iff_not]; omega
      simp only [e] at k
      simp only [SS, insA, wantedA, Opd.ev, putA, binA, eqbA, unA, fldA, partA, reduceIte, reduceCtorEq, Nat.reduceMod, Nat.reduceDiv, Nat.reduceBEq, resultA, resA, vI, Nat.reduceMul, Nat.reduceAdd, Nat.reduceSub, Nat.reduceEqDiff, Nat.reduceLT, Nat.reducePow, Nat.reduceLeDiff, st, Option.bind_eq_bind, Option.pure_def, List.length_nil, Int.cast_ofNat_Int, List.reverse_nil] at k
      simp only [F7L0b, SS, insA, wantedA, Opd.ev, putA, binA, eqbA, unA, fldA, partA, reduceIte, reduceCtorEq, Nat.reduceMod, Nat.reduceDiv, Nat.reduceBEq, resultA, resA, vI, Nat.reduceMul, Nat.reduceAdd, Nat.reduceSub, Nat.reduceEqDiff, Nat.reduceLT, Nat.reducePow, Nat.reduceLeDiff, st, Option.bind_eq_bind, Option.pure_def, List.length_nil, Int.cast_ofNat_Int, List.reverse_nil, UU, idxP, cellsAt, storeA, fillA, zerosA, putAll, optNat, sliceA, row, Int.reduceLT, Int.reduceLE, Int.reduceGT, Int.reduceGE, Int.reduceEq, Int.reduceNe, Int.reduceToNat, Int.reduceBEq, Int.reduceBNe, Nat.reduceLeDiff, Nat.reduceLT, Nat.reduceBNe, Nat.reduceGT, List.drop_nil, List.take_nil, Option.isSome_none, Int.ofNat_one, Int.ofNat_zero, w10, wc1, k, c1, c2', decide_true, decide_false, bne_self_eq_false]

theorem L7_1 {s s0 s1 : Bool} {a b c d : Int} {o0 o1 o2 o3 : Ob} (ht : IsTab (.imm s [.imm s0 [vI a, vI b] 2, .imm s1 [vI c, vI d] 2] 2) [[a, b], [c, d]]) (hok : okTab [[a, b], [c, d]]) :
    lp E2 Y F7L0 (sp 167 [(5, vI 1), (3, .ptr 0 0 0), (0, .imm s [.imm s0 [vI a, vI b] 2, .imm s1 [vI c, vI d] 2] 2)]) [o0, o1, o2, o3] =
      some (.x 0, sp 167 [(3, .ptr 0 0 0), (0, .imm s [.imm s0 [vI a, vI b] 2, .imm s1 [vI c, vI d] 2] 2)], [o0, o1, o2, o3, ⟨0, [vI 0, vI 1]⟩, ⟨0, [.sl 4 0 1 0 2 none, vI 1]⟩]) := by
  have k := fun H => freeX_up (Y := Y) E2_up (lasts32 (Y := noRun) (H := H) (dx := 1) ht (show 2 < 1000 by omega) (.imm true [0, 1]) (show 2 ≤ 20 by omega))
  unfold err at k
  simp only [ask_alone1 hok] at k
  have h2 : lp E2 Y F7L0 (sp 167 [(5, vI 2), (3, .ptr 0 0 0), (0, .imm s [.imm s0 [vI a, vI b] 2, .imm s1 [vI c, vI d] 2] 2)]) [o0, o1, o2, o3, ⟨0, [vI 0, vI 1]⟩, ⟨0, [.sl 4 0 1 0 2 none, vI 1]⟩] =
      some (.x 0, sp 167 [(3, .ptr 0 0 0), (0, .imm s [.imm s0 [vI a, vI b] 2, .imm s1 [vI c, vI d] 2] 2)], [o0, o1, o2, o3, ⟨0, [vI 0, vI 1]⟩, ⟨0, [.sl 4 0 1 0 2 none, vI 1]⟩]) := by
    rw [un7_0]
    simp only [F7L0b, SS, insA, wantedA, Opd.ev, putA, binA, eqbA, unA, fldA, partA, reduceIte, reduceCtorEq, Nat.reduceMod, Nat.reduceDiv, Nat.reduceBEq, resultA, resA, vI, Nat.reduceMul, Nat.reduceAdd, Nat.reduceSub, Nat.reduceEqDiff, Nat.reduceLT, Nat.reducePow, Nat.reduceLeDiff, st, Option.bind_eq_bind, Option.pure_def, List.length_nil, Int.cast_ofNat_Int, List.reverse_nil, UU, idxP, cellsAt, storeA, fillA, zerosA, putAll, optNat, sliceA, row, Int.reduceLT, Int.reduceLE, Int.reduceGT, Int.reduceGE, Int.reduceEq, Int.reduceNe, Int.reduceToNat, Int.reduceBEq, Int.reduceBNe, Nat.reduceLeDiff, Nat.reduceLT, Nat.reduceBNe, Nat.reduceGT, List.drop_nil, List.take_nil, Option.isSome_none, Int.ofNat_one, Int.ofNat_zero]
  simp only [SS, insA, wantedA, Opd.ev, putA, binA, eqbA, unA, fldA, partA, reduceIte, reduceCtorEq, Nat.reduceMod, Nat.reduceDiv, Nat.reduceBEq, resultA, resA, vI, Nat.reduceMul, Nat.reduceAdd, Nat.reduceSub, Nat.reduceEqDiff, Nat.reduceLT, Nat.reducePow, Nat.reduceLeDiff, st, Option.bind_eq_bind, Option.pure_def, List.length_nil, Int.cast_ofNat_Int, List.reverse_nil] at h2
  conv => lhs; rw [un7_0]
  by_cases c1 : d > b
  · have e : lastsP [[a, b], [c, d]] [0, 1] = true := by rw [haigh1]; simp only [c1, true_or, decide_true]
    simp only [e] at k
    simp only [SS, insA, wantedA, Opd.ev, putA, binA, eqbA, unA, fldA, partA, reduceIte, reduceCtorEq, Nat.reduceMod, Nat.reduceDiv, Nat.reduceBEq, resultA, resA, vI, Nat.reduceMul, Nat.reduceAdd, Nat.reduceSub, Nat.reduceEqDiff, Nat.reduceLT, Nat.reducePow, Nat.reduceLeDiff, st, Option.bind_eq_bind, Option.pure_def, List.length_nil, Int.cast_ofNat_Int, List.reverse_nil] at k
    simp only [F7L0b, SS, insA, wantedA, Opd.ev, putA, binA, eqbA, unA, fldA, partA, reduceIte, reduceCtorEq, Nat.reduceMod, Nat.reduceDiv, Nat.reduceBEq, resultA, resA, vI, Nat.reduceMul, Nat.reduceAdd, Nat.reduceSub, Nat.reduceEqDiff, Nat.reduceLT, Nat.reducePow, Nat.reduceLeDiff, st, Option.bind_eq_bind, Option.pure_def, List.length_nil, Int.cast_ofNat_Int, List.reverse_nil, UU, idxP, cellsAt, storeA, fillA, zerosA, putAll, optNat, sliceA, row, Int.reduceLT, Int.reduceLE, Int.reduceGT, Int.reduceGE, Int.reduceEq, Int.reduceNe, Int.reduceToNat, Int.reduceBEq, Int.reduceBNe, Nat.reduceLeDiff, Nat.reduceLT, Nat.reduceBNe, Nat.reduceGT, List.drop_nil, List.take_nil, Option.isSome_none, Int.ofNat_one, Int.ofNat_zero, w11, wc2, k, c1, h2, decide_true, bne_self_eq_false]
  · by_cases c2 : d = b
    · have c2' : (d == b) = true := by simpa using c2
      by_cases c3 : c > a
      · have e : lastsP [[a, b], [c, d]] [0, 1] = true := by rw [haigh1, decide_eq_true_eq]; exact .inr ⟨c2, c3⟩
        simp only [e] at k
        simp only [SS, insA, wantedA, Opd.ev, putA, binA, eqbA, unA, fldA, partA, reduceIte, reduceCtorEq, Nat.reduceMod, Nat.reduceDiv, Nat.reduceBEq, resultA, resA, vI, Nat.reduceMul, Nat.reduceAdd, Nat.reduceSub, Nat.reduceEqDiff, Nat.reduceLT, Nat.reducePow, Nat.reduceLeDiff, st, Option.bind_eq_bind, Option.pure_def, List.length_nil, Int.cast_ofNat_Int, List.reverse_nil] at k
        simp only [F7L0b, SS, insA, wantedA, Opd.ev, putA, binA, eqbA, unA, fldA, partA, reduceIte, reduceCtorEq, Nat.reduceMod, Nat.reduceDiv, Nat.reduceBEq, resultA, resA, vI, Nat.reduceMul, Nat.reduceAdd, Nat.reduceSub, Nat.reduceEqDiff, Nat.reduceLT, Nat.reducePow, Nat.reduceLeDiff, st, Option.bind_eq_bind, Option.pure_def, List.length_nil, Int.cast_ofNat_Int, List.reverse_nil, UU, idxP, cellsAt, storeA, fillA, zerosA, putAll, optNat, sliceA, row, Int.reduceLT, Int.reduceLE, Int.reduceGT, Int.reduceGE, Int.reduceEq, Int.reduceNe, Int.reduceToNat, Int.reduceBEq, Int.reduceBNe, Nat.reduceLeDiff, Nat.reduceLT, Nat.reduceBNe, Nat.reduceGT, List.drop_nil, List.take_nil, Option.isSome_none, Int.ofNat_one, Int.ofNat_zero, w11, wc2, k, c1, c2', c3, h2, decide_true, decide_false, bne_self_eq_false]
      · have e : lastsP [[a, b], [c, d]] [0, 1] = false := by rw [haigh1, decide_eq_false_iff_not]; omega
        simp only [e] at k
        simp only [SS, insA, wantedA, Opd.ev, putA, binA, eqbA, unA, fldA, partA, reduceIte, reduceCtorEq, Nat.reduceMod, Nat.reduceDiv, Nat.reduceBEq, resultA, resA, vI, Nat.reduceMul, Nat.reduceAdd, Nat.reduceSub, Nat.reduceEqDiff, Nat.reduceLT, Nat.reducePow, Nat.reduceLeDiff, st, Option.bind_eq_bind, Option.pure_def, List.length_nil, Int.cast_ofNat_Int, List.reverse_nil] at k
        simp only [F7L0b, SS, insA, wantedA, Opd.ev, putA, binA, eqbA, unA, fldA, partA, reduceIte, reduceCtorEq, Nat.reduceMod, Nat.reduceDiv, Nat.reduceBEq, resultA, resA, vI, Nat.reduceMul, Nat.reduceAdd, Nat.reduceSub, Nat.reduceEqDiff, Nat.reduceLT, Nat.reducePow, Nat.reduceLeDiff, st, Option.bind_eq_bind, Option.pure_def, List.length_nil, Int.cast_ofNat_Int, List.reverse_nil, UU, idxP, cellsAt, storeA, fillA, zerosA, putAll, optNat, sliceA, row, Int.reduceLT, Int.reduceLE, Int.reduceGT, Int.reduceGE, Int.reduceEq, Int.reduceNe, Int.reduceToNat, Int.reduceBEq, Int.reduceBNe, Nat.reduceLeDiff, Nat.reduceLT, Nat.reduceBNe, Nat.reduceGT, List.drop_nil, List.take_nil, Option.isSome_none, Int.ofNat_one, Int.ofNat_zero, w11, wc2, k, c1, c2', c3, h2, decide_true, decide_false, bne_self_eq_false]
    · have c2' : (d == b) = false := by simpa using c2
      have e : lastsP [[a, b], [c, d]] [0, 1] = false := by rw [haigh1, decide_eq_false_iff_not]; omega
      simp only [e] at k
      simp only [SS, insA, wantedA, Opd.ev, putA, binA, eqbA, unA, fldA, partA, reduceIte, reduceCtorEq, Nat.reduceMod, Nat.reduceDiv, Nat.reduceBEq, resultA, resA, vI, Nat.reduceMul, Nat.reduceAdd, Nat.reduceSub, Nat.reduceEqDiff, Nat.reduceLT, Nat.reducePow, Nat.reduceLeDiff, st, Option.bind_eq_bind, Option.pure_def, List.length_nil, Int.cast_ofNat_Int, List.reverse_nil] at k
      simp only [F7L0b, SS, insA, wantedA, Opd.ev, putA, binA, eqbA, unA, fldA, partA, reduceIte, reduceCtorEq, Nat.reduceMod, Nat.reduceDiv, Nat.reduceBEq, resultA, resA, vI, Nat.reduceMul, Nat.reduceAdd, Nat.reduceSub, Nat.reduceEqDiff, Nat.reduceLT, Nat.reducePow, Nat.reduceLeDiff, st, Option.bind_eq_bind, Option.pure_def, List.length_nil, Int.cast_ofNat_Int, List.reverse_nil, UU, idxP, cellsAt, storeA, fillA, zerosA, putAll, optNat, sliceA, row, Int.reduceLT, Int.reduceLE, Int.reduceGT, Int.reduceGE, Int.reduceEq, Int.reduceNe, Int.reduceToNat, Int.reduceBEq, Int.reduceBNe, Nat.reduceLeDiff, Nat.reduceLT, Nat.reduceBNe, Nat.reduceGT, List.drop_nil, List.take_nil, Option.isSome_none, Int.ofNat_one, Int.ofNat_zero, w11, wc2, k, c1, c2', h2, decide_true, decide_false, bne_self_eq_false]
end
end Go.X
