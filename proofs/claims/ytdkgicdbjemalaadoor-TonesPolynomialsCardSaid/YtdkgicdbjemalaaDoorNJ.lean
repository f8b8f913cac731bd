import Derived.Test.YtdkgicdbjemalaaDoorNI
/-! Tones: the laws Polynomials and Alike. -/
set_option linter.unusedSimpArgs false
set_option linter.unusedVariables false
set_option maxHeartbeats 2000000
set_option maxRecDepth 10000
namespace Go.X
open Go Go.RowKit
section
variable {Y : Run}

theorem law6 (hY : ∀ args H, Y 97 args H = yA 97 args H) {v : AV} {l : List Int} (hv : IsRow v l) : freeX [] (callL ET Y 6 [v] []) = some (.bool true, []) := by
  have hal := fun H => alive17 (Y := Y) (H := H) hY
  have hfew := fun H => few16 (Y := Y) (H := H) hv .nil
  simp only [List.length_nil, show (0 : Nat) ≤ 40 from by decide, decide_true, Bool.and_true] at hfew
  rw [call6 rfl]
  by_cases h40 : l.length ≤ 40
  · simp only [h40, decide_true] at hfew
    obtain ⟨w, H', u, a1, a2, a3⟩ := own_copy (H := []) hv (by omega)
    have hfr := fun H => frame20 (Y := Y) (H := H) hv (by omega)
    have hfu := fun H => frame27 (Y := Y) (H := H) a3 (by omega)
    obtain ⟨t1, p1, p2⟩ := tones21 (Y := Y) a3 (by omega)
    obtain ⟨t2, p3, p4⟩ := tones28 (Y := Y) hv (by omega)
    obtain ⟨t3, p5, p6⟩ := match23 (Y := Y) a3 (by omega)
    obtain ⟨t4, p7, p8⟩ := match30 (Y := Y) hv (by omega)
    have s5 := fun H => same29 (Y := Y) (H := H) a3 hv (by omega)
    simp only [decide_true] at s5
    have q0 : ∀ b : Bool, (b != b) = false := fun b => by cases b <;> rfl
    have q1 : ∀ x : Int, (x != x) = false := fun x => by simp
    have q2 : ∀ x : Int, (x == x) = true := fun x => by simp
    have s1 : ∀ H, freeX H (callL ET Y 29 [t1, t2] []) = some (.bool true, H) := by
      cases hf : frameB l with
      | false =>
        rw [hf, if_neg (by simp)] at p2 p4
        intro H
        rw [same29 p2.row p4.row (by simp)]
        rfl
      | true =>
        rw [hf, if_pos rfl] at p2 p4
        have hn := frame_n hf
        have e := tones_same (frame_sy hf) (by rw [List.length_map]; omega) (by rw [List.length_map]; omega)
        rw [poly_trim, e] at p2
        intro H
        rw [same29 p2.row p4.row (by rw [List.length_map, detL_len, List.length_map]; omega)]
        simp
    have s2 : ∀ H, freeX H (callL ET Y 29 [t3, t4] []) = some (.bool true, H) := by
      cases hf : frameB l with
      | false =>
        rw [hf, if_neg (by simp)] at p6 p8
        intro H
        rw [same29 p6.row p8.row (by simp)]
        rfl
      | true =>
        rw [hf, if_pos rfl] at p6 p8
        have hn := frame_n hf
        have e := match_same (f := l.map Int.toNat) (by rw [List.length_map]; omega)
        rw [poly_trim, e] at p6
        intro H
        rw [same29 p6.row p8.row (by rw [List.length_map, pairL_len, List.length_map]; omega)]
        simp
    have n1 := fun H n => p2.row.snap (H := H) (n := n)
    have n2 := fun H n => p4.row.snap (H := H) (n := n)
    have n3 := fun H n => p6.row.snap (H := H) (n := n)
    have n4 := fun H n => p8.row.snap (H := H) (n := n)
    clear p2 p4 p6 p8
    generalize (if frameB l = true then (0 : Int) else 2) = fl at *
    generalize frameB l = fb at *
    simp only [SS, insA, wantedA, Opd.ev, putA, binA, eqbA, unA, fldA, partA, reduceIte, reduceCtorEq, Nat.reduceMod, Nat.reduceDiv, Nat.reduceBEq, resultA, resA, vI, Nat.reduceMul, Nat.reduceAdd, Nat.reduceSub, Nat.reduceEqDiff, Nat.reduceLT, Nat.reducePow, Nat.reduceLeDiff, st, Option.bind_eq_bind, Option.pure_def, List.length_nil, Int.cast_ofNat_Int, List.reverse_nil] at a1
    simp only [F6B, SS, insA, wantedA, Opd.ev, putA, binA, eqbA, unA, fldA, partA, reduceIte, reduceCtorEq, Nat.reduceMod, Nat.reduceDiv, Nat.reduceBEq, resultA, resA, vI, Nat.reduceMul, Nat.reduceAdd, Nat.reduceSub, Nat.reduceEqDiff, Nat.reduceLT, Nat.reducePow, Nat.reduceLeDiff, st, Option.bind_eq_bind, Option.pure_def, List.length_nil, Int.cast_ofNat_Int, List.reverse_nil, UU, idxP, cellsAt, storeA, fillA, zerosA, putAll, optNat, sliceA, row, Int.reduceLT, Int.reduceLE, Int.reduceGT, Int.reduceGE, Int.reduceEq, Int.reduceNe, Int.reduceToNat, Int.reduceBEq, Int.reduceBNe, Nat.reduceLeDiff, Nat.reduceLT, Nat.reduceBNe, Nat.reduceGT, List.drop_nil, List.take_nil, Option.isSome_none, Int.ofNat_one, Int.ofNat_zero, hv.snap, hfew, a1, a2, hfr, hfu, p1, p3, p5, p7, s1, s2, s5, n1, n2, n3, n4, q0, q1, q2, hal]
  · simp only [h40, decide_false] at hfew
    simp only [F6B, SS, insA, wantedA, Opd.ev, putA, binA, eqbA, unA, fldA, partA, reduceIte, reduceCtorEq, Nat.reduceMod, Nat.reduceDiv, Nat.reduceBEq, resultA, resA, vI, Nat.reduceMul, Nat.reduceAdd, Nat.reduceSub, Nat.reduceEqDiff, Nat.reduceLT, Nat.reducePow, Nat.reduceLeDiff, st, Option.bind_eq_bind, Option.pure_def, List.length_nil, Int.cast_ofNat_Int, List.reverse_nil, UU, idxP, cellsAt, storeA, fillA, zerosA, putAll, optNat, sliceA, row, Int.reduceLT, Int.reduceLE, Int.reduceGT, Int.reduceGE, Int.reduceEq, Int.reduceNe, Int.reduceToNat, Int.reduceBEq, Int.reduceBNe, Nat.reduceLeDiff, Nat.reduceLT, Nat.reduceBNe, Nat.reduceGT, List.drop_nil, List.take_nil, Option.isSome_none, Int.ofNat_one, Int.ofNat_zero, hv.snap, hfew, hal]
end
end Go.X
