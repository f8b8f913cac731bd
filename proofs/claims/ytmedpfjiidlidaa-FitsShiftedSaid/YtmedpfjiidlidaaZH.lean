import Derived.Test.YtmedpfjiidlidaaZG
/-! Limit, both ways, and the law on it. -/
set_option linter.unusedSimpArgs false
set_option linter.unusedVariables false
set_option maxHeartbeats 2000000
set_option maxRecDepth 10000
namespace Go.X
open Go Go.RowKit
section
variable {Y : Run} {H : Heap}

/-- The program's last part. -/
def X38 : XC := tailC 5 F38B

theorem X38_run {L : List (Nat × AV)} {o0 o1 : Ob} {R : Heap} {p q : Int} (g10 : fget L 10 = .int .i64 p) (g11 : fget L 11 = .int .i64 q) (g6 : fget L 6 = .ptr 2 0 0) (bp : p.natAbs ≤ 400000000000000000) (bq : q.natAbs ≤ 400000000000000000) :
    freeX H (endX [.cell 6 (some 2), .tmp 7] (codeL E2 Y X38 (sp 106 L) (o0 :: o1 :: ⟨0, [vI 0, vI 0]⟩ :: R))) = some (limV p q, H) := by
  have hr := fun hd : p - q ≠ 0 => fun H => freeX_up (Y := Y) E2_up (ratio55 (Y := noRun) (H := H) (a := p) (b := p - q) (by omega) (by omega) hd)
  have w9 : IntKind.wrap .i64 (p - q) = p - q := wrap_id (by omega) (by omega)
  unfold limV
  by_cases q1 : p < 0
  · rw [if_pos (.inl q1)]
    simp only [X38, tailC, F38B, SS, insA, wantedA, Opd.ev, putA, binA, eqbA, unA, fldA, partA, reduceIte, reduceCtorEq, Nat.reduceMod, Nat.reduceDiv, Nat.reduceBEq, resultA, resA, vI, Nat.reduceMul, Nat.reduceAdd, Nat.reduceSub, Nat.reduceEqDiff, Nat.reduceLT, Nat.reducePow, Nat.reduceLeDiff, st, Option.bind_eq_bind, Option.pure_def, List.length_nil, Int.cast_ofNat_Int, List.reverse_nil, UU, idxP, cellsAt, storeA, fillA, zerosA, putAll, optNat, sliceA, row, Int.reduceLT, Int.reduceLE, Int.reduceGT, Int.reduceGE, Int.reduceEq, Int.reduceNe, Int.reduceToNat, Int.reduceBEq, Int.reduceBNe, Nat.reduceLeDiff, Nat.reduceLT, Nat.reduceBNe, Nat.reduceGT, List.drop_nil, List.take_nil, Option.isSome_none, Int.ofNat_one, Int.ofNat_zero, fget_fins, fget_fkeep, g10, g11, g6, get_last, set_last, q1, decide_true, decide_false, BEq.rfl]
  by_cases q2 : p = 0
  · have q2' : (p == 0) = true := by simpa using q2
    by_cases q3 : q ≤ 0
    · rw [if_pos (.inr ⟨q2, q3⟩)]
      simp only [X38, tailC, F38B, SS, insA, wantedA, Opd.ev, putA, binA, eqbA, unA, fldA, partA, reduceIte, reduceCtorEq, Nat.reduceMod, Nat.reduceDiv, Nat.reduceBEq, resultA, resA, vI, Nat.reduceMul, Nat.reduceAdd, Nat.reduceSub, Nat.reduceEqDiff, Nat.reduceLT, Nat.reducePow, Nat.reduceLeDiff, st, Option.bind_eq_bind, Option.pure_def, List.length_nil, Int.cast_ofNat_Int, List.reverse_nil, UU, idxP, cellsAt, storeA, fillA, zerosA, putAll, optNat, sliceA, row, Int.reduceLT, Int.reduceLE, Int.reduceGT, Int.reduceGE, Int.reduceEq, Int.reduceNe, Int.reduceToNat, Int.reduceBEq, Int.reduceBNe, Nat.reduceLeDiff, Nat.reduceLT, Nat.reduceBNe, Nat.reduceGT, List.drop_nil, List.take_nil, Option.isSome_none, Int.ofNat_one, Int.ofNat_zero, fget_fins, fget_fkeep, g10, g11, g6, get_last, set_last, q1, q2', q3, decide_true, decide_false, BEq.rfl]
    · rw [if_neg (by omega), if_pos (by omega)]
      have q4 : ¬ q < 0 := by omega
      simp only [X38, tailC, F38B, SS, insA, wantedA, Opd.ev, putA, binA, eqbA, unA, fldA, partA, reduceIte, reduceCtorEq, Nat.reduceMod, Nat.reduceDiv, Nat.reduceBEq, resultA, resA, vI, Nat.reduceMul, Nat.reduceAdd, Nat.reduceSub, Nat.reduceEqDiff, Nat.reduceLT, Nat.reducePow, Nat.reduceLeDiff, st, Option.bind_eq_bind, Option.pure_def, List.length_nil, Int.cast_ofNat_Int, List.reverse_nil, UU, idxP, cellsAt, storeA, fillA, zerosA, putAll, optNat, sliceA, row, Int.reduceLT, Int.reduceLE, Int.reduceGT, Int.reduceGE, Int.reduceEq, Int.reduceNe, Int.reduceToNat, Int.reduceBEq, Int.reduceBNe, Nat.reduceLeDiff, Nat.reduceLT, Nat.reduceBNe, Nat.reduceGT, List.drop_nil, List.take_nil, Option.isSome_none, Int.ofNat_one, Int.ofNat_zero, fget_fins, fget_fkeep, g10, g11, g6, get_last, set_last, q1, q2', q3, q4, decide_true, decide_false, BEq.rfl]
  · have q2' : (p == 0) = false := by simpa using q2
    rw [if_neg (by omega)]
    by_cases q4 : q < 0
    · rw [if_neg (by omega)]
      have hr := hr (by omega)
      unfold ratA at hr ⊢
      simp only [SS, insA, wantedA, Opd.ev, putA, binA, eqbA, unA, fldA, partA, reduceIte, reduceCtorEq, Nat.reduceMod, Nat.reduceDiv, Nat.reduceBEq, resultA, resA, vI, Nat.reduceMul, Nat.reduceAdd, Nat.reduceSub, Nat.reduceEqDiff, Nat.reduceLT, Nat.reducePow, Nat.reduceLeDiff, st, Option.bind_eq_bind, Option.pure_def, List.length_nil, Int.cast_ofNat_Int, List.reverse_nil] at hr
      have e2 := eqs_one (a := p.tdiv (divR p (p - q))) (b := (p - q).tdiv (divR p (p - q)))
      by_cases q5 : p.tdiv (divR p (p - q)) = 1 ∧ (p - q).tdiv (divR p (p - q)) = 1
      · simp only [q5, and_self, not_true_eq_false, decide_false] at e2 hr ⊢
        simp only [SS, insA, wantedA, Opd.ev, putA, binA, eqbA, unA, fldA, partA, reduceIte, reduceCtorEq, Nat.reduceMod, Nat.reduceDiv, Nat.reduceBEq, resultA, resA, vI, Nat.reduceMul, Nat.reduceAdd, Nat.reduceSub, Nat.reduceEqDiff, Nat.reduceLT, Nat.reducePow, Nat.reduceLeDiff, st, Option.bind_eq_bind, Option.pure_def, List.length_nil, Int.cast_ofNat_Int, List.reverse_nil] at e2
        simp only [X38, tailC, F38B, SS, insA, wantedA, Opd.ev, putA, binA, eqbA, unA, fldA, partA, reduceIte, reduceCtorEq, Nat.reduceMod, Nat.reduceDiv, Nat.reduceBEq, resultA, resA, vI, Nat.reduceMul, Nat.reduceAdd, Nat.reduceSub, Nat.reduceEqDiff, Nat.reduceLT, Nat.reducePow, Nat.reduceLeDiff, st, Option.bind_eq_bind, Option.pure_def, List.length_nil, Int.cast_ofNat_Int, List.reverse_nil, UU, idxP, cellsAt, storeA, fillA, zerosA, putAll, optNat, sliceA, row, Int.reduceLT, Int.reduceLE, Int.reduceGT, Int.reduceGE, Int.reduceEq, Int.reduceNe, Int.reduceToNat, Int.reduceBEq, Int.reduceBNe, Nat.reduceLeDiff, Nat.reduceLT, Nat.reduceBNe, Nat.reduceGT, List.drop_nil, List.take_nil, Option.isSome_none, Int.ofNat_one, Int.ofNat_zero, fget_fins, fget_fkeep, g10, g11, g6, get_last, set_last, w9, q1, q2', q4, hr, e2, decide_true, decide_false, BEq.rfl]
      · simp only [q5, not_false_eq_true, decide_true] at e2
        simp only [SS, insA, wantedA, Opd.ev, putA, binA, eqbA, unA, fldA, partA, reduceIte, reduceCtorEq, Nat.reduceMod, Nat.reduceDiv, Nat.reduceBEq, resultA, resA, vI, Nat.reduceMul, Nat.reduceAdd, Nat.reduceSub, Nat.reduceEqDiff, Nat.reduceLT, Nat.reducePow, Nat.reduceLeDiff, st, Option.bind_eq_bind, Option.pure_def, List.length_nil, Int.cast_ofNat_Int, List.reverse_nil] at e2
        simp only [X38, tailC, F38B, SS, insA, wantedA, Opd.ev, putA, binA, eqbA, unA, fldA, partA, reduceIte, reduceCtorEq, Nat.reduceMod, Nat.reduceDiv, Nat.reduceBEq, resultA, resA, vI, Nat.reduceMul, Nat.reduceAdd, Nat.reduceSub, Nat.reduceEqDiff, Nat.reduceLT, Nat.reducePow, Nat.reduceLeDiff, st, Option.bind_eq_bind, Option.pure_def, List.length_nil, Int.cast_ofNat_Int, List.reverse_nil, UU, idxP, cellsAt, storeA, fillA, zerosA, putAll, optNat, sliceA, row, Int.reduceLT, Int.reduceLE, Int.reduceGT, Int.reduceGE, Int.reduceEq, Int.reduceNe, Int.reduceToNat, Int.reduceBEq, Int.reduceBNe, Nat.reduceLeDiff, Nat.reduceLT, Nat.reduceBNe, Nat.reduceGT, List.drop_nil, List.take_nil, Option.isSome_none, Int.ofNat_one, Int.ofNat_zero, fget_fins, fget_fkeep, g10, g11, g6, get_last, set_last, w9, q1, q2', q4, hr, e2, decide_true, decide_false, BEq.rfl]
    · rw [if_pos (by omega)]
      simp only [X38, tailC, F38B, SS, insA, wantedA, Opd.ev, putA, binA, eqbA, unA, fldA, partA, reduceIte, reduceCtorEq, Nat.reduceMod, Nat.reduceDiv, Nat.reduceBEq, resultA, resA, vI, Nat.reduceMul, Nat.reduceAdd, Nat.reduceSub, Nat.reduceEqDiff, Nat.reduceLT, Nat.reducePow, Nat.reduceLeDiff, st, Option.bind_eq_bind, Option.pure_def, List.length_nil, Int.cast_ofNat_Int, List.reverse_nil, UU, idxP, cellsAt, storeA, fillA, zerosA, putAll, optNat, sliceA, row, Int.reduceLT, Int.reduceLE, Int.reduceGT, Int.reduceGE, Int.reduceEq, Int.reduceNe, Int.reduceToNat, Int.reduceBEq, Int.reduceBNe, Nat.reduceLeDiff, Nat.reduceLT, Nat.reduceBNe, Nat.reduceGT, List.drop_nil, List.take_nil, Option.isSome_none, Int.ofNat_one, Int.ofNat_zero, fget_fins, fget_fkeep, g10, g11, g6, get_last, set_last, q1, q2', q4, decide_true, decide_false, BEq.rfl]

/-- The program's last part but one. -/
def T38 : XC := tailC 3 F38B

theorem mid38 {vt xv yv : AV} {t : List (List Int)} {xs ys : List Int} {dx dy : Int} {o3 o4 o5 : Ob} (ht : IsTab vt t) (hx : IsRow xv xs) (hy : IsRow yv ys) (hb : askS t [(xs, dx), (ys, dy)] = true) :
    freeX H (endX [.cell 6 (some 2), .tmp 7] (codeL E2 Y T38 (sp 106 [(8, vt), (6, .ptr 2 0 0), (5, .ptr 1 0 0), (4, .ptr 0 0 0)]) [⟨0, [xv, vI dx]⟩, ⟨0, [yv, vI dy]⟩, ⟨0, [vI 0, vI 0]⟩, o3, o4, o5])) = some (limV (pS t (xs, dx) (ys, dy)) (qS t (xs, dx) (ys, dy)), H) := by
  obtain ⟨hok, m1, m2⟩ := ask2 hb
  obtain ⟨l1, d1, d2, f1, s1, _⟩ := mix_ok m1
  obtain ⟨l2, d3, d4, f2, s2, _⟩ := mix_ok m2
  simp only at l1 d1 d2 f1 s1 l2 d3 d4 f2 s2
  have hX := f1.small d2
  have hY := f2.small d4
  have g1 := fun H => freeX_up (Y := Y) E2_up (gain56 (Y := noRun) (H := H) (dx := dx) (dy := dx) ht hok hx l1 hX hx l1 hX)
  have g2 := fun H => freeX_up (Y := Y) E2_up (gain56 (Y := noRun) (H := H) (dx := dy) (dy := dx) ht hok hy l2 hY hx l1 hX)
  have g3 := fun H => freeX_up (Y := Y) E2_up (gain56 (Y := noRun) (H := H) (dx := dx) (dy := dy) ht hok hx l1 hX hy l2 hY)
  have g4 := fun H => freeX_up (Y := Y) E2_up (gain56 (Y := noRun) (H := H) (dx := dy) (dy := dy) ht hok hy l2 hY hy l2 hY)
  have b1 := gainM_bound hok f1 f1 s1 s1 ⟨d1, d2⟩ ⟨d1, d2⟩
  have b2 := gainM_bound hok f2 f1 s2 s1 ⟨d3, d4⟩ ⟨d1, d2⟩
  have b3 := gainM_bound hok f1 f2 s1 s2 ⟨d1, d2⟩ ⟨d3, d4⟩
  have b4 := gainM_bound hok f2 f2 s2 s2 ⟨d3, d4⟩ ⟨d3, d4⟩
  have c1 := mulB (A := 2000000000) (B := 10000) (a := gainS t xs xs) (b := dy) (by omega) (by omega)
  have c2 := mulB (A := 2000000000) (B := 10000) (a := gainS t ys xs) (b := dx) (by omega) (by omega)
  have c3 := mulB (A := 2000000000) (B := 10000) (a := gainS t xs ys) (b := dy) (by omega) (by omega)
  have c4 := mulB (A := 2000000000) (B := 10000) (a := gainS t ys ys) (b := dx) (by omega) (by omega)
  have bpq := pq_bound hb
  have w1 : IntKind.wrap .i64 (gainS t xs xs * dy) = gainS t xs xs * dy := wrap_id (by omega) (by omega)
  have w2 : IntKind.wrap .i64 (gainS t ys xs * dx) = gainS t ys xs * dx := wrap_id (by omega) (by omega)
  have w3 : IntKind.wrap .i64 (gainS t xs xs * dy - gainS t ys xs * dx) = gainS t xs xs * dy - gainS t ys xs * dx := wrap_id (by omega) (by omega)
  have w4 : IntKind.wrap .i64 ((gainS t xs xs * dy - gainS t ys xs * dx) * dy) = pS t (xs, dx) (ys, dy) := by
    have : (gainS t xs xs * dy - gainS t ys xs * dx) * dy = pS t (xs, dx) (ys, dy) := rfl
    rw [this, wrap_id (by omega) (by omega)]
  have w5 : IntKind.wrap .i64 (gainS t xs ys * dy) = gainS t xs ys * dy := wrap_id (by omega) (by omega)
  have w6 : IntKind.wrap .i64 (gainS t ys ys * dx) = gainS t ys ys * dx := wrap_id (by omega) (by omega)
  have w7 : IntKind.wrap .i64 (gainS t xs ys * dy - gainS t ys ys * dx) = gainS t xs ys * dy - gainS t ys ys * dx := wrap_id (by omega) (by omega)
  have w8 : IntKind.wrap .i64 ((gainS t xs ys * dy - gainS t ys ys * dx) * dx) = qS t (xs, dx) (ys, dy) := by
    have : (gainS t xs ys * dy - gainS t ys ys * dx) * dx = qS t (xs, dx) (ys, dy) := rfl
    rw [this, wrap_id (by omega) (by omega)]
  have e : codeL E2 Y T38 (sp 106 [(8, vt), (6, .ptr 2 0 0), (5, .ptr 1 0 0), (4, .ptr 0 0 0)]) [⟨0, [xv, vI dx]⟩, ⟨0, [yv, vI dy]⟩, ⟨0, [vI 0, vI 0]⟩, o3, o4, o5] = thenX (codeL E2 Y (headC 2 (tailC 3 F38B)) (sp 106 [(8, vt), (6, .ptr 2 0 0), (5, .ptr 1 0 0), (4, .ptr 0 0 0)]) [⟨0, [xv, vI dx]⟩, ⟨0, [yv, vI dy]⟩, ⟨0, [vI 0, vI 0]⟩, o3, o4, o5]) (codeL E2 Y X38) := cut 2 (tailC 3 F38B) _ _
  obtain ⟨bp, bq⟩ := bpq
  generalize pS t (xs, dx) (ys, dy) = p at *
  generalize qS t (xs, dx) (ys, dy) = q at *
  rw [e]
  simp only [SS, insA, wantedA, Opd.ev, putA, binA, eqbA, unA, fldA, partA, reduceIte, reduceCtorEq, Nat.reduceMod, Nat.reduceDiv, Nat.reduceBEq, resultA, resA, vI, Nat.reduceMul, Nat.reduceAdd, Nat.reduceSub, Nat.reduceEqDiff, Nat.reduceLT, Nat.reducePow, Nat.reduceLeDiff, st, Option.bind_eq_bind, Option.pure_def, List.length_nil, Int.cast_ofNat_Int, List.reverse_nil] at g1 g2 g3 g4
  simp only [headC, tailC, F38B, SS, insA, wantedA, Opd.ev, putA, binA, eqbA, unA, fldA, partA, reduceIte, reduceCtorEq, Nat.reduceMod, Nat.reduceDiv, Nat.reduceBEq, resultA, resA, vI, Nat.reduceMul, Nat.reduceAdd, Nat.reduceSub, Nat.reduceEqDiff, Nat.reduceLT, Nat.reducePow, Nat.reduceLeDiff, st, Option.bind_eq_bind, Option.pure_def, List.length_nil, Int.cast_ofNat_Int, List.reverse_nil, UU, idxP, cellsAt, storeA, fillA, zerosA, putAll, optNat, sliceA, row, Int.reduceLT, Int.reduceLE, Int.reduceGT, Int.reduceGE, Int.reduceEq, Int.reduceNe, Int.reduceToNat, Int.reduceBEq, Int.reduceBNe, Nat.reduceLeDiff, Nat.reduceLT, Nat.reduceBNe, Nat.reduceGT, List.drop_nil, List.take_nil, Option.isSome_none, Int.ofNat_one, Int.ofNat_zero, hx.snap, hy.snap, ht.snap, g1, g2, g3, g4, w1, w2, w3, w4, w5, w6, w7, w8]
  exact X38_run rfl rfl rfl bp bq

theorem limit38 {vt xv yv : AV} {t : List (List Int)} {xs ys : List Int} {dx dy : Int} (ht : IsTab vt t) (hs : Small t) (hx : IsRow xv xs) (hxl : xs.length ≤ 20) (hy : IsRow yv ys) (hyl : ys.length ≤ 20) :
    freeX H (callL E2 Y 38 [vt, .agg [xv, vI dx], .agg [yv, vI dy]] []) = some (limR t (xs, dx) (ys, dy), H) := by
  have r := callL_up (Y := Y) E2_up (mixed54_2 (Y := noRun) (H := [⟨0, [xv, vI dx]⟩, ⟨0, [yv, vI dy]⟩, ⟨0, [vI 0, vI 0]⟩, ⟨0, [xv, vI dx, yv, vI dy]⟩]) (A := ⟨0, []⟩) (B := ⟨0, []⟩) (id := 3) ht (by have := hs.1; omega) hx hxl hy hyl rfl)
  have k := fun H => equal63 (Y := Y) (H := H) hx hy (by omega)
  obtain ⟨o1, o2, o3⟩ := hx.one
  obtain ⟨p1, p2, p3⟩ := hy.one
  have e : ∀ fr H, codeL E2 Y F38B fr H = thenX (codeL E2 Y (headC 3 F38B) fr H) (codeL E2 Y T38) := fun fr H => cut 3 F38B fr H
  rw [call38 rfl, e]
  unfold limR
  cases hb : askS t [(xs, dx), (ys, dy)]
  · rw [hb] at r
    simp only [SS, insA, wantedA, Opd.ev, putA, binA, eqbA, unA, fldA, partA, reduceIte, reduceCtorEq, Nat.reduceMod, Nat.reduceDiv, Nat.reduceBEq, resultA, resA, vI, Nat.reduceMul, Nat.reduceAdd, Nat.reduceSub, Nat.reduceEqDiff, Nat.reduceLT, Nat.reducePow, Nat.reduceLeDiff, st, Option.bind_eq_bind, Option.pure_def, List.length_nil, Int.cast_ofNat_Int, List.reverse_nil] at r
    simp only [headC, F38B, SS, insA, wantedA, Opd.ev, putA, binA, eqbA, unA, fldA, partA, reduceIte, reduceCtorEq, Nat.reduceMod, Nat.reduceDiv, Nat.reduceBEq, resultA, resA, vI, Nat.reduceMul, Nat.reduceAdd, Nat.reduceSub, Nat.reduceEqDiff, Nat.reduceLT, Nat.reducePow, Nat.reduceLeDiff, st, Option.bind_eq_bind, Option.pure_def, List.length_nil, Int.cast_ofNat_Int, List.reverse_nil, UU, idxP, cellsAt, storeA, fillA, zerosA, putAll, optNat, sliceA, row, Int.reduceLT, Int.reduceLE, Int.reduceGT, Int.reduceGE, Int.reduceEq, Int.reduceNe, Int.reduceToNat, Int.reduceBEq, Int.reduceBNe, Nat.reduceLeDiff, Nat.reduceLT, Nat.reduceBNe, Nat.reduceGT, List.drop_nil, List.take_nil, Option.isSome_none, Int.ofNat_one, Int.ofNat_zero, r, o1, o2, o3, p1, p2, p3]
  · rw [if_pos rfl]
    have hm := fun o3 o4 o5 => mid38 (Y := Y) (H := H) (o3 := o3) (o4 := o4) (o5 := o5) ht hx hy hb
    obtain ⟨hok, m1, m2⟩ := ask2 hb
    simp only [hb, hok, if_true] at r
    by_cases c : dx = dy ∧ xs = ys
    · obtain ⟨rfl, rfl⟩ := c
      rw [if_pos ⟨rfl, rfl⟩]
      simp only [decide_true] at k
      simp only [SS, insA, wantedA, Opd.ev, putA, binA, eqbA, unA, fldA, partA, reduceIte, reduceCtorEq, Nat.reduceMod, Nat.reduceDiv, Nat.reduceBEq, resultA, resA, vI, Nat.reduceMul, Nat.reduceAdd, Nat.reduceSub, Nat.reduceEqDiff, Nat.reduceLT, Nat.reducePow, Nat.reduceLeDiff, st, Option.bind_eq_bind, Option.pure_def, List.length_nil, Int.cast_ofNat_Int, List.reverse_nil] at r k
      simp only [headC, F38B, SS, insA, wantedA, Opd.ev, putA, binA, eqbA, unA, fldA, partA, reduceIte, reduceCtorEq, Nat.reduceMod, Nat.reduceDiv, Nat.reduceBEq, resultA, resA, vI, Nat.reduceMul, Nat.reduceAdd, Nat.reduceSub, Nat.reduceEqDiff, Nat.reduceLT, Nat.reducePow, Nat.reduceLeDiff, st, Option.bind_eq_bind, Option.pure_def, List.length_nil, Int.cast_ofNat_Int, List.reverse_nil, UU, idxP, cellsAt, storeA, fillA, zerosA, putAll, optNat, sliceA, row, Int.reduceLT, Int.reduceLE, Int.reduceGT, Int.reduceGE, Int.reduceEq, Int.reduceNe, Int.reduceToNat, Int.reduceBEq, Int.reduceBNe, Nat.reduceLeDiff, Nat.reduceLT, Nat.reduceBNe, Nat.reduceGT, List.drop_nil, List.take_nil, Option.isSome_none, Int.ofNat_one, Int.ofNat_zero, r, o1, o2, o3, p1, p2, p3, hx.snap, hy.snap, k]
    · rw [if_neg c]
      simp only [SS, insA, wantedA, Opd.ev, putA, binA, eqbA, unA, fldA, partA, reduceIte, reduceCtorEq, Nat.reduceMod, Nat.reduceDiv, Nat.reduceBEq, resultA, resA, vI, Nat.reduceMul, Nat.reduceAdd, Nat.reduceSub, Nat.reduceEqDiff, Nat.reduceLT, Nat.reducePow, Nat.reduceLeDiff, st, Option.bind_eq_bind, Option.pure_def, List.length_nil, Int.cast_ofNat_Int, List.reverse_nil] at r hm
      by_cases ed : dx = dy
      · have hne : xs ≠ ys := fun e => c ⟨ed, e⟩
        simp only [hne, decide_false] at k
        have e1 : (dx == dy) = true := by simpa using ed
        simp only [headC, F38B, SS, insA, wantedA, Opd.ev, putA, binA, eqbA, unA, fldA, partA, reduceIte, reduceCtorEq, Nat.reduceMod, Nat.reduceDiv, Nat.reduceBEq, resultA, resA, vI, Nat.reduceMul, Nat.reduceAdd, Nat.reduceSub, Nat.reduceEqDiff, Nat.reduceLT, Nat.reducePow, Nat.reduceLeDiff, st, Option.bind_eq_bind, Option.pure_def, List.length_nil, Int.cast_ofNat_Int, List.reverse_nil, UU, idxP, cellsAt, storeA, fillA, zerosA, putAll, optNat, sliceA, row, Int.reduceLT, Int.reduceLE, Int.reduceGT, Int.reduceGE, Int.reduceEq, Int.reduceNe, Int.reduceToNat, Int.reduceBEq, Int.reduceBNe, Nat.reduceLeDiff, Nat.reduceLT, Nat.reduceBNe, Nat.reduceGT, List.drop_nil, List.take_nil, Option.isSome_none, Int.ofNat_one, Int.ofNat_zero, r, o1, o2, o3, p1, p2, p3, hx.snap, hy.snap, e1, k, hm]
      · have e1 : (dx == dy) = false := by simpa using ed
        simp only [headC, F38B, SS, insA, wantedA, Opd.ev, putA, binA, eqbA, unA, fldA, partA, reduceIte, reduceCtorEq, Nat.reduceMod, Nat.reduceDiv, Nat.reduceBEq, resultA, resA, vI, Nat.reduceMul, Nat.reduceAdd, Nat.reduceSub, Nat.reduceEqDiff, Nat.reduceLT, Nat.reducePow, Nat.reduceLeDiff, st, Option.bind_eq_bind, Option.pure_def, List.length_nil, Int.cast_ofNat_Int, List.reverse_nil, UU, idxP, cellsAt, storeA, fillA, zerosA, putAll, optNat, sliceA, row, Int.reduceLT, Int.reduceLE, Int.reduceGT, Int.reduceGE, Int.reduceEq, Int.reduceNe, Int.reduceToNat, Int.reduceBEq, Int.reduceBNe, Nat.reduceLeDiff, Nat.reduceLT, Nat.reduceBNe, Nat.reduceGT, List.drop_nil, List.take_nil, Option.isSome_none, Int.ofNat_one, Int.ofNat_zero, r, o1, o2, o3, p1, p2, p3, hx.snap, hy.snap, e1, hm]

theorem limR_form (t : List (List Int)) (x y : List Int × Int) : ∃ a b c, limR t x y = .tup [.agg [vI a, vI b], vI c] := by
  unfold limR limV ratA
  split
  · split
    · exact ⟨_, _, _, rfl⟩
    · split
      · exact ⟨_, _, _, rfl⟩
      · split
        · exact ⟨_, _, _, rfl⟩
        · exact ⟨_, _, _, rfl⟩
  · exact ⟨_, _, _, rfl⟩

end
end Go.X
