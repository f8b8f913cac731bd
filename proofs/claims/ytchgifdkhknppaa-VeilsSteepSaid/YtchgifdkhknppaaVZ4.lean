import Derived.Test.YtchgifdkhknppaaVZ3
import Derived.Test.YtchgifdkhknppaaVW
/-! Veils: the law on steep heights. -/
set_option linter.unusedSimpArgs false
set_option linter.unusedVariables false
set_option maxHeartbeats 8000000
set_option maxRecDepth 10000
namespace Go.X
open Go Go.RowKit
section
variable {Y : Run}

theorem law11 {ut vt : AV} {s t : List (List Int)} (hu : IsTab ut s) (ht : IsTab vt t) : freeX [] (callL EV Y 11 [ut, vt] []) = some (.bool true, []) := by
  obtain ⟨o1, o2, o3⟩ := ht.one
  obtain ⟨p1, p2, p3⟩ := hu.one
  have f := fun H => few23 (Y := Y) (H := H) (tabs2 (b := true) hu ht) (by simp)
  have ha := fun H => alive20 (Y := Y) (H := H)
  have ln : lenA AV.nils = some 0 := rfl
  rw [call11 rfl]
  by_cases hs : fewS [s, t]
  · obtain ⟨us, ts⟩ := few2.1 hs
    rw [decide_eq_true hs] at f
    have iv := fun H => isveil26 (Y := Y) (H := H) hu us
    have st := fun H => steep42 (Y := Y) (H := H) ht (by have := ts.1; omega)
    cases ho : ofOk t
    · have no := fun H => of43_no (Y := Y) (H := H) ht (by have := ts.1; omega) ho
      rw [ho] at st
      cases hr : refOk s
      · rw [hr] at iv
        simp only [SS, insA, wantedA, Opd.ev, putA, binA, eqbA, unA, fldA, partA, reduceIte, reduceCtorEq, Nat.reduceMod, Nat.reduceDiv, Nat.reduceBEq, resultA, resA, vI, Nat.reduceMul, Nat.reduceAdd, Nat.reduceSub, Nat.reduceEqDiff, Nat.reduceLT, Nat.reducePow, Nat.reduceLeDiff, st, Option.bind_eq_bind, Option.pure_def, List.length_nil, Int.cast_ofNat_Int, List.reverse_nil] at no
        simp only [F11B, SS, insA, wantedA, Opd.ev, putA, binA, eqbA, unA, fldA, partA, reduceIte, reduceCtorEq, Nat.reduceMod, Nat.reduceDiv, Nat.reduceBEq, resultA, resA, vI, Nat.reduceMul, Nat.reduceAdd, Nat.reduceSub, Nat.reduceEqDiff, Nat.reduceLT, Nat.reducePow, Nat.reduceLeDiff, st, Option.bind_eq_bind, Option.pure_def, List.length_nil, Int.cast_ofNat_Int, List.reverse_nil, UU, idxP, cellsAt, storeA, fillA, zerosA, putAll, optNat, sliceA, row, Int.reduceLT, Int.reduceLE, Int.reduceGT, Int.reduceGE, Int.reduceEq, Int.reduceNe, Int.reduceToNat, Int.reduceBEq, Int.reduceBNe, Nat.reduceLeDiff, Nat.reduceLT, Nat.reduceBNe, Nat.reduceGT, List.drop_nil, List.take_nil, Option.isSome_none, Int.ofNat_one, Int.ofNat_zero, o1, o2, o3, p1, p2, p3, ht.snap, hu.snap, f, iv, st, no, ha, ln, BEq.rfl, bne_self_eq_false]
      · rw [hr] at iv
        have V : Veil s := veil_iff.1 (by rw [← ref_read]; exact hr)
        have S := V.steep
        obtain ⟨w, w1, w2⟩ := (heights27 (Y := Y) hu us).1 (by rw [← ref_read]; exact hr)
        have w1 : IsTab w (hgtT s) := w1
        have sw := fun H => steep42 (Y := Y) (H := H) w1 (by rw [S.len]; have := S.n5; omega)
        have ow := (ofOk_iff S.len).2 S
        rw [ow] at sw
        obtain ⟨z, z1, z2⟩ := of43_ok (Y := Y) w1 S
        rw [V.back] at z1
        have sm := fun H => same19 (Y := Y) (H := H) z1 hu (by have := us.1; omega) (fun r hr => by have := us.2 r hr; omega)
        rw [decide_eq_true rfl] at sm
        have wn : IntKind.wrap .i64 ((s.length : Int) + 1) = ((s.length + 1 : Nat) : Int) := wrap_succ (by have := us.1; omega)
        have lw : lenA w = some (s.length + 1) := by rw [w1.len, S.len]
        simp only [SS, insA, wantedA, Opd.ev, putA, binA, eqbA, unA, fldA, partA, reduceIte, reduceCtorEq, Nat.reduceMod, Nat.reduceDiv, Nat.reduceBEq, resultA, resA, vI, Nat.reduceMul, Nat.reduceAdd, Nat.reduceSub, Nat.reduceEqDiff, Nat.reduceLT, Nat.reducePow, Nat.reduceLeDiff, st, Option.bind_eq_bind, Option.pure_def, List.length_nil, Int.cast_ofNat_Int, List.reverse_nil] at no w2 z2
        simp only [F11B, SS, insA, wantedA, Opd.ev, putA, binA, eqbA, unA, fldA, partA, reduceIte, reduceCtorEq, Nat.reduceMod, Nat.reduceDiv, Nat.reduceBEq, resultA, resA, vI, Nat.reduceMul, Nat.reduceAdd, Nat.reduceSub, Nat.reduceEqDiff, Nat.reduceLT, Nat.reducePow, Nat.reduceLeDiff, st, Option.bind_eq_bind, Option.pure_def, List.length_nil, Int.cast_ofNat_Int, List.reverse_nil, UU, idxP, cellsAt, storeA, fillA, zerosA, putAll, optNat, sliceA, row, Int.reduceLT, Int.reduceLE, Int.reduceGT, Int.reduceGE, Int.reduceEq, Int.reduceNe, Int.reduceToNat, Int.reduceBEq, Int.reduceBNe, Nat.reduceLeDiff, Nat.reduceLT, Nat.reduceBNe, Nat.reduceGT, List.drop_nil, List.take_nil, Option.isSome_none, Int.ofNat_one, Int.ofNat_zero, o1, o2, o3, p1, p2, p3, ht.snap, hu.snap, w1.snap, z1.snap, hu.len, f, iv, st, no, w2, sw, z2, sm, wn, lw, ha, ln, BEq.rfl, bne_self_eq_false]
    · obtain ⟨m, hm⟩ : ∃ m, t.length = m + 1 := by
        unfold ofOk at ho
        rw [Bool.and_eq_true, decide_eq_true_eq] at ho
        exact ⟨t.length - 1, by omega⟩
      have T := (ofOk_iff hm).1 ho
      obtain ⟨y, y1, y2⟩ := of43_ok (Y := Y) ht T
      have TV := T.veil
      have ys : Small (vOf m t) := by
        refine ⟨by rw [vOf_len]; have := T.n5; omega, fun r hr => ?_⟩
        have := tabF_mem r hr
        have := T.n5; omega
      have rk : readOk (vOf m t) = true := veil_iff.2 TV
      have iy := fun H => isveil26 (Y := Y) (H := H) y1 ys
      rw [ref_read, rk] at iy
      obtain ⟨x, x1, x2⟩ := (heights27 (Y := Y) y1 ys).1 rk
      have x1 : IsTab x (hgtT (vOf m t)) := x1
      rw [T.hgts] at x1
      have sx := fun H => same19 (Y := Y) (H := H) x1 ht (by have := ts.1; omega) (fun r hr => by have := ts.2 r hr; omega)
      rw [decide_eq_true rfl] at sx
      rw [ho] at st
      cases hr : refOk s
      · rw [hr] at iv
        simp only [SS, insA, wantedA, Opd.ev, putA, binA, eqbA, unA, fldA, partA, reduceIte, reduceCtorEq, Nat.reduceMod, Nat.reduceDiv, Nat.reduceBEq, resultA, resA, vI, Nat.reduceMul, Nat.reduceAdd, Nat.reduceSub, Nat.reduceEqDiff, Nat.reduceLT, Nat.reducePow, Nat.reduceLeDiff, st, Option.bind_eq_bind, Option.pure_def, List.length_nil, Int.cast_ofNat_Int, List.reverse_nil] at y2 x2
        simp only [F11B, SS, insA, wantedA, Opd.ev, putA, binA, eqbA, unA, fldA, partA, reduceIte, reduceCtorEq, Nat.reduceMod, Nat.reduceDiv, Nat.reduceBEq, resultA, resA, vI, Nat.reduceMul, Nat.reduceAdd, Nat.reduceSub, Nat.reduceEqDiff, Nat.reduceLT, Nat.reducePow, Nat.reduceLeDiff, st, Option.bind_eq_bind, Option.pure_def, List.length_nil, Int.cast_ofNat_Int, List.reverse_nil, UU, idxP, cellsAt, storeA, fillA, zerosA, putAll, optNat, sliceA, row, Int.reduceLT, Int.reduceLE, Int.reduceGT, Int.reduceGE, Int.reduceEq, Int.reduceNe, Int.reduceToNat, Int.reduceBEq, Int.reduceBNe, Nat.reduceLeDiff, Nat.reduceLT, Nat.reduceBNe, Nat.reduceGT, List.drop_nil, List.take_nil, Option.isSome_none, Int.ofNat_one, Int.ofNat_zero, o1, o2, o3, p1, p2, p3, ht.snap, hu.snap, x1.snap, y1.snap, f, iv, st, y2, iy, x2, sx, ha, ln, BEq.rfl, bne_self_eq_false]
      · rw [hr] at iv
        have V : Veil s := veil_iff.1 (by rw [← ref_read]; exact hr)
        have S := V.steep
        obtain ⟨w, w1, w2⟩ := (heights27 (Y := Y) hu us).1 (by rw [← ref_read]; exact hr)
        have w1 : IsTab w (hgtT s) := w1
        have sw := fun H => steep42 (Y := Y) (H := H) w1 (by rw [S.len]; have := S.n5; omega)
        have ow := (ofOk_iff S.len).2 S
        rw [ow] at sw
        obtain ⟨z, z1, z2⟩ := of43_ok (Y := Y) w1 S
        rw [V.back] at z1
        have sm := fun H => same19 (Y := Y) (H := H) z1 hu (by have := us.1; omega) (fun r hr => by have := us.2 r hr; omega)
        rw [decide_eq_true rfl] at sm
        have wn : IntKind.wrap .i64 ((s.length : Int) + 1) = ((s.length + 1 : Nat) : Int) := wrap_succ (by have := us.1; omega)
        have lw : lenA w = some (s.length + 1) := by rw [w1.len, S.len]
        simp only [SS, insA, wantedA, Opd.ev, putA, binA, eqbA, unA, fldA, partA, reduceIte, reduceCtorEq, Nat.reduceMod, Nat.reduceDiv, Nat.reduceBEq, resultA, resA, vI, Nat.reduceMul, Nat.reduceAdd, Nat.reduceSub, Nat.reduceEqDiff, Nat.reduceLT, Nat.reducePow, Nat.reduceLeDiff, st, Option.bind_eq_bind, Option.pure_def, List.length_nil, Int.cast_ofNat_Int, List.reverse_nil] at y2 x2 w2 z2
        simp only [F11B, SS, insA, wantedA, Opd.ev, putA, binA, eqbA, unA, fldA, partA, reduceIte, reduceCtorEq, Nat.reduceMod, Nat.reduceDiv, Nat.reduceBEq, resultA, resA, vI, Nat.reduceMul, Nat.reduceAdd, Nat.reduceSub, Nat.reduceEqDiff, Nat.reduceLT, Nat.reducePow, Nat.reduceLeDiff, st, Option.bind_eq_bind, Option.pure_def, List.length_nil, Int.cast_ofNat_Int, List.reverse_nil, UU, idxP, cellsAt, storeA, fillA, zerosA, putAll, optNat, sliceA, row, Int.reduceLT, Int.reduceLE, Int.reduceGT, Int.reduceGE, Int.reduceEq, Int.reduceNe, Int.reduceToNat, Int.reduceBEq, Int.reduceBNe, Nat.reduceLeDiff, Nat.reduceLT, Nat.reduceBNe, Nat.reduceGT, List.drop_nil, List.take_nil, Option.isSome_none, Int.ofNat_one, Int.ofNat_zero, o1, o2, o3, p1, p2, p3, ht.snap, hu.snap, w1.snap, z1.snap, x1.snap, y1.snap, hu.len, f, iv, st, y2, iy, x2, sx, w2, sw, z2, sm, wn, lw, ha, ln, BEq.rfl, bne_self_eq_false]
  · rw [decide_eq_false hs] at f
    simp only [F11B, SS, insA, wantedA, Opd.ev, putA, binA, eqbA, unA, fldA, partA, reduceIte, reduceCtorEq, Nat.reduceMod, Nat.reduceDiv, Nat.reduceBEq, resultA, resA, vI, Nat.reduceMul, Nat.reduceAdd, Nat.reduceSub, Nat.reduceEqDiff, Nat.reduceLT, Nat.reducePow, Nat.reduceLeDiff, st, Option.bind_eq_bind, Option.pure_def, List.length_nil, Int.cast_ofNat_Int, List.reverse_nil, UU, idxP, cellsAt, storeA, fillA, zerosA, putAll, optNat, sliceA, row, Int.reduceLT, Int.reduceLE, Int.reduceGT, Int.reduceGE, Int.reduceEq, Int.reduceNe, Int.reduceToNat, Int.reduceBEq, Int.reduceBNe, Nat.reduceLeDiff, Nat.reduceLT, Nat.reduceBNe, Nat.reduceGT, List.drop_nil, List.take_nil, Option.isSome_none, Int.ofNat_one, Int.ofNat_zero, o1, o2, o3, p1, p2, p3, ht.snap, hu.snap, f, ha]
end
end Go.X
