import Derived.Test.YtmedpfjiidlidaaZF
/-! Limit, both ways, and the law on it. -/
set_option linter.unusedSimpArgs false
set_option linter.unusedVariables false
set_option maxHeartbeats 2000000
set_option maxRecDepth 10000
namespace Go.X
open Go Go.RowKit
section
variable {Y : Run} {H : Heap}

theorem limit39 {vt xv yv : AV} {t : List (List Int)} {xs ys : List Int} {dx dy : Int} (ht : IsTab vt t) (hs : Small t) (hx : IsRow xv xs) (hxl : xs.length ≤ 20) (hy : IsRow yv ys) (hyl : ys.length ≤ 20) :
    freeX H (callL E2 Y 39 [vt, .agg [xv, vI dx], .agg [yv, vI dy]] []) = some (limR t (xs, dx) (ys, dy), H) := by
  have r := fun H => freeX_up (Y := Y) E2_up (asked57 (Y := noRun) (H := H) ht hs (pts2 (s := true) (dx := dx) (dy := dy) hx hy) (by simp) (by simp; omega))
  have k := fun H => freeX_up (Y := Y) E2_up (same19 (Y := noRun) (H := H) (c := dx) (d := dy) hx hy (by omega))
  obtain ⟨o1, o2, o3⟩ := hx.one
  obtain ⟨p1, p2, p3⟩ := hy.one
  rw [call39 rfl]
  unfold limR
  cases hb : askS t [(xs, dx), (ys, dy)]
  · simp only [hb] at r
    simp only [SS, insA, wantedA, Opd.ev, putA, binA, eqbA, unA, fldA, partA, reduceIte, reduceCtorEq, Nat.reduceMod, Nat.reduceDiv, Nat.reduceBEq, resultA, resA, vI, Nat.reduceMul, Nat.reduceAdd, Nat.reduceSub, Nat.reduceEqDiff, Nat.reduceLT, Nat.reducePow, Nat.reduceLeDiff, st, Option.bind_eq_bind, Option.pure_def, List.length_nil, Int.cast_ofNat_Int, List.reverse_nil] at r
    simp only [F39B, SS, insA, wantedA, Opd.ev, putA, binA, eqbA, unA, fldA, partA, reduceIte, reduceCtorEq, Nat.reduceMod, Nat.reduceDiv, Nat.reduceBEq, resultA, resA, vI, Nat.reduceMul, Nat.reduceAdd, Nat.reduceSub, Nat.reduceEqDiff, Nat.reduceLT, Nat.reducePow, Nat.reduceLeDiff, st, Option.bind_eq_bind, Option.pure_def, List.length_nil, Int.cast_ofNat_Int, List.reverse_nil, UU, idxP, cellsAt, storeA, fillA, zerosA, putAll, optNat, sliceA, row, Int.reduceLT, Int.reduceLE, Int.reduceGT, Int.reduceGE, Int.reduceEq, Int.reduceNe, Int.reduceToNat, Int.reduceBEq, Int.reduceBNe, Nat.reduceLeDiff, Nat.reduceLT, Nat.reduceBNe, Nat.reduceGT, List.drop_nil, List.take_nil, Option.isSome_none, Int.ofNat_one, Int.ofNat_zero, r, o1, o2, o3, p1, p2, p3, ht.snap, hx.snap, hy.snap, bne_iff_ne]
  · simp only [hb] at r
    rw [if_pos rfl]
    by_cases c : dx = dy ∧ xs = ys
    · rw [if_pos c]
      simp only [c, decide_true, and_self] at k
      simp only [SS, insA, wantedA, Opd.ev, putA, binA, eqbA, unA, fldA, partA, reduceIte, reduceCtorEq, Nat.reduceMod, Nat.reduceDiv, Nat.reduceBEq, resultA, resA, vI, Nat.reduceMul, Nat.reduceAdd, Nat.reduceSub, Nat.reduceEqDiff, Nat.reduceLT, Nat.reducePow, Nat.reduceLeDiff, st, Option.bind_eq_bind, Option.pure_def, List.length_nil, Int.cast_ofNat_Int, List.reverse_nil] at r k
      have c1 := c.1
      have c2 := c.2
      subst c1 c2
      simp only [F39B, SS, insA, wantedA, Opd.ev, putA, binA, eqbA, unA, fldA, partA, reduceIte, reduceCtorEq, Nat.reduceMod, Nat.reduceDiv, Nat.reduceBEq, resultA, resA, vI, Nat.reduceMul, Nat.reduceAdd, Nat.reduceSub, Nat.reduceEqDiff, Nat.reduceLT, Nat.reducePow, Nat.reduceLeDiff, st, Option.bind_eq_bind, Option.pure_def, List.length_nil, Int.cast_ofNat_Int, List.reverse_nil, UU, idxP, cellsAt, storeA, fillA, zerosA, putAll, optNat, sliceA, row, Int.reduceLT, Int.reduceLE, Int.reduceGT, Int.reduceGE, Int.reduceEq, Int.reduceNe, Int.reduceToNat, Int.reduceBEq, Int.reduceBNe, Nat.reduceLeDiff, Nat.reduceLT, Nat.reduceBNe, Nat.reduceGT, List.drop_nil, List.take_nil, Option.isSome_none, Int.ofNat_one, Int.ofNat_zero, r, o1, o2, o3, p1, p2, p3, ht.snap, hx.snap, hy.snap, k]
    · rw [if_neg c]
      simp only [c, decide_false] at k
      obtain ⟨hok, m1, m2⟩ := ask2 hb
      obtain ⟨l1, _⟩ := mix_ok m1
      obtain ⟨l2, _⟩ := mix_ok m2
      simp only at l1 l2
      rcases shapes hok with ⟨t0, rfl⟩ | ⟨t0, t1, t2, t3, rfl⟩ | ⟨t0, t1, t2, t3, t4, t5, t6, t7, t8, rfl⟩
      · match xs, l1, ys, l2 with
        | [a], _, [e], _ =>
          obtain ⟨s, v, rfl, h1⟩ := tab_one ht
          obtain ⟨sx, rfl⟩ := row1 hx
          obtain ⟨sy, rfl⟩ := row1 hy
          have h1 := lim39_1 (Y := Y) (H := H) (sx := sx) (sy := sy) ht rfl hb
          simp only [SS, insA, wantedA, Opd.ev, putA, binA, eqbA, unA, fldA, partA, reduceIte, reduceCtorEq, Nat.reduceMod, Nat.reduceDiv, Nat.reduceBEq, resultA, resA, vI, Nat.reduceMul, Nat.reduceAdd, Nat.reduceSub, Nat.reduceEqDiff, Nat.reduceLT, Nat.reducePow, Nat.reduceLeDiff, st, Option.bind_eq_bind, Option.pure_def, List.length_nil, Int.cast_ofNat_Int, List.reverse_nil] at r k h1
          simp only [F39B, in39_0, SS, insA, wantedA, Opd.ev, putA, binA, eqbA, unA, fldA, partA, reduceIte, reduceCtorEq, Nat.reduceMod, Nat.reduceDiv, Nat.reduceBEq, resultA, resA, vI, Nat.reduceMul, Nat.reduceAdd, Nat.reduceSub, Nat.reduceEqDiff, Nat.reduceLT, Nat.reducePow, Nat.reduceLeDiff, st, Option.bind_eq_bind, Option.pure_def, List.length_nil, Int.cast_ofNat_Int, List.reverse_nil, UU, idxP, cellsAt, storeA, fillA, zerosA, putAll, optNat, sliceA, row, Int.reduceLT, Int.reduceLE, Int.reduceGT, Int.reduceGE, Int.reduceEq, Int.reduceNe, Int.reduceToNat, Int.reduceBEq, Int.reduceBNe, Nat.reduceLeDiff, Nat.reduceLT, Nat.reduceBNe, Nat.reduceGT, List.drop_nil, List.take_nil, Option.isSome_none, Int.ofNat_one, Int.ofNat_zero, r, ht.snap, k, h1]
      · match xs, l1, ys, l2 with
        | [a, b], _, [e, f], _ =>
          obtain ⟨s, v, w, rfl, h1, h2⟩ := tab_two ht
          obtain ⟨sx, rfl⟩ := row2 hx
          obtain ⟨sy, rfl⟩ := row2 hy
          have h1 := lim39_2 (Y := Y) (H := H) (sx := sx) (sy := sy) ht rfl hb
          simp only [SS, insA, wantedA, Opd.ev, putA, binA, eqbA, unA, fldA, partA, reduceIte, reduceCtorEq, Nat.reduceMod, Nat.reduceDiv, Nat.reduceBEq, resultA, resA, vI, Nat.reduceMul, Nat.reduceAdd, Nat.reduceSub, Nat.reduceEqDiff, Nat.reduceLT, Nat.reducePow, Nat.reduceLeDiff, st, Option.bind_eq_bind, Option.pure_def, List.length_nil, Int.cast_ofNat_Int, List.reverse_nil] at r k h1
          simp only [F39B, in39_0, SS, insA, wantedA, Opd.ev, putA, binA, eqbA, unA, fldA, partA, reduceIte, reduceCtorEq, Nat.reduceMod, Nat.reduceDiv, Nat.reduceBEq, resultA, resA, vI, Nat.reduceMul, Nat.reduceAdd, Nat.reduceSub, Nat.reduceEqDiff, Nat.reduceLT, Nat.reducePow, Nat.reduceLeDiff, st, Option.bind_eq_bind, Option.pure_def, List.length_nil, Int.cast_ofNat_Int, List.reverse_nil, UU, idxP, cellsAt, storeA, fillA, zerosA, putAll, optNat, sliceA, row, Int.reduceLT, Int.reduceLE, Int.reduceGT, Int.reduceGE, Int.reduceEq, Int.reduceNe, Int.reduceToNat, Int.reduceBEq, Int.reduceBNe, Nat.reduceLeDiff, Nat.reduceLT, Nat.reduceBNe, Nat.reduceGT, List.drop_nil, List.take_nil, Option.isSome_none, Int.ofNat_one, Int.ofNat_zero, r, ht.snap, k, h1]
      · match xs, l1, ys, l2 with
        | [a, b, c], _, [e, f, g], _ =>
          obtain ⟨s, v, w, x, rfl, h1, h2, h3⟩ := tab_three ht
          obtain ⟨sx, rfl⟩ := row3 hx
          obtain ⟨sy, rfl⟩ := row3 hy
          have h1 := lim39_3 (Y := Y) (H := H) (sx := sx) (sy := sy) ht rfl hb
          simp only [SS, insA, wantedA, Opd.ev, putA, binA, eqbA, unA, fldA, partA, reduceIte, reduceCtorEq, Nat.reduceMod, Nat.reduceDiv, Nat.reduceBEq, resultA, resA, vI, Nat.reduceMul, Nat.reduceAdd, Nat.reduceSub, Nat.reduceEqDiff, Nat.reduceLT, Nat.reducePow, Nat.reduceLeDiff, st, Option.bind_eq_bind, Option.pure_def, List.length_nil, Int.cast_ofNat_Int, List.reverse_nil] at r k h1
          simp only [F39B, in39_0, SS, insA, wantedA, Opd.ev, putA, binA, eqbA, unA, fldA, partA, reduceIte, reduceCtorEq, Nat.reduceMod, Nat.reduceDiv, Nat.reduceBEq, resultA, resA, vI, Nat.reduceMul, Nat.reduceAdd, Nat.reduceSub, Nat.reduceEqDiff, Nat.reduceLT, Nat.reducePow, Nat.reduceLeDiff, st, Option.bind_eq_bind, Option.pure_def, List.length_nil, Int.cast_ofNat_Int, List.reverse_nil, UU, idxP, cellsAt, storeA, fillA, zerosA, putAll, optNat, sliceA, row, Int.reduceLT, Int.reduceLE, Int.reduceGT, Int.reduceGE, Int.reduceEq, Int.reduceNe, Int.reduceToNat, Int.reduceBEq, Int.reduceBNe, Nat.reduceLeDiff, Nat.reduceLT, Nat.reduceBNe, Nat.reduceGT, List.drop_nil, List.take_nil, Option.isSome_none, Int.ofNat_one, Int.ofNat_zero, r, ht.snap, k, h1]

theorem eqs_one {a b : Int} : eqsA true [true, true] (.agg [vI a, vI b]) (.agg [vI 1, vI 1]) = some (.bool (decide ¬ (a = 1 ∧ b = 1))) := by
  have e : eqsA true [true, true] (.agg [vI a, vI b]) (.agg [vI 1, vI 1]) = some (.bool (((a == 1) && ((b == 1) && true)) != true)) := rfl
  rw [e]
  by_cases c1 : a = 1 <;> by_cases c2 : b = 1 <;> simp [c1, c2]
end
end Go.X
