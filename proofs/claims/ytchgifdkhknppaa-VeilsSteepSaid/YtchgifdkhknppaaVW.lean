import Derived.Test.YtchgifdkhknppaaVV
/-! Veils: the laws on Meet. -/
set_option linter.unusedSimpArgs false
set_option linter.unusedVariables false
set_option maxHeartbeats 4000000
set_option maxRecDepth 10000
namespace Go.X
open Go Go.RowKit
section
variable {Y : Run} {H : Heap}

theorem tabs2 {b : Bool} {ut vt : AV} {s t : List (List Int)} (hu : IsTab ut s) (ht : IsTab vt t) : IsTabs (.imm b [ut, vt] 2) [s, t] :=
  ⟨b, [ut, vt], rfl, rfl, fun i hi => by
    match i, hi with
    | 0, _ => exact hu
    | 1, _ => exact ht⟩
theorem few2 {s t : List (List Int)} : fewS [s, t] ↔ Small s ∧ Small t := by simp [fewS]

/-- Two calls with the same two tables and error. -/
structure Pair2 (Y : Run) (xs ys : List AV) (p q : List (List Int)) (e : Int) (a1 a2 b1 b2 : AV) : Prop where
  ta : IsTab a1 p
  ta2 : IsTab a2 q
  tb : IsTab b1 p
  tb2 : IsTab b2 q
  len : p.length ≤ 1000
  row : ∀ r ∈ p, r.length ≤ 1000
  len2 : q.length ≤ 1000
  row2 : ∀ r ∈ q, r.length ≤ 1000
  ca : ∀ H, freeX H (callL EV Y 40 xs []) = some (.tup [a1, a2, vI e], H)
  cb : ∀ H, freeX H (callL EV Y 41 ys []) = some (.tup [b1, b2, vI e], H)

theorem pair_meet {u0 v0 ut vt : AV} {s t : List (List Int)} (hu0 : IsTab u0 s) (hv0 : IsTab v0 t) (hu : IsTab ut s) (ht : IsTab vt t) (us : Small s) (ts : Small t) : ∃ p q e a1 a2 b1 b2, Pair2 Y [u0, v0] [ut, vt] p q e a1 a2 b1 b2 := by
  by_cases c : readOk s = true ∧ readOk t = true ∧ s.length = t.length
  · obtain ⟨h1, h2, h3⟩ := c
    have vs := veil_iff.1 h1
    have vt' := veil_iff.1 h2
    obtain ⟨a1, a2, x1, x2, x3⟩ := meet40_ok (Y := Y) hu0 hv0 us ts vs vt' h3 rfl
    obtain ⟨b1, b2, y1, y2, y3⟩ := meet41_ok (Y := Y) hu ht us ts vs vt' h3 rfl
    have m1 := vOf_small (h := minT t.length (hgtT s) (hgtT t)) vt'.n5
    have m2 := vOf_small (h := maxT t.length (hgtT s) (hgtT t)) vt'.n5
    exact ⟨_, _, 0, a1, a2, b1, b2, x1, x2, y1, y2, m1.1, m1.2, m2.1, m2.2, x3, y3⟩
  · exact ⟨[], [], 2, .nils, .nils, .nils, .nils, .nil, .nil, .nil, .nil, by simp, by simp, by simp, by simp, fun H => meet40_no hu0 hv0 us ts c, fun H => meet41_no hu ht us ts c⟩

theorem law9 {ut vt : AV} {s t : List (List Int)} (hu : IsTab ut s) (ht : IsTab vt t) : freeX [] (callL EV Y 9 [ut, vt] []) = some (.bool true, []) := by
  obtain ⟨o1, o2, o3⟩ := ht.one
  obtain ⟨p1, p2, p3⟩ := hu.one
  have f := fun H => few23 (Y := Y) (H := H) (tabs2 (b := true) hu ht) (by simp)
  have ha := fun H => alive20 (Y := Y) (H := H)
  rw [call9 rfl]
  by_cases hs : fewS [s, t]
  · obtain ⟨us, ts⟩ := few2.1 hs
    rw [decide_eq_true hs] at f
    obtain ⟨w, w1, w2⟩ := copy24 (Y := Y) hu us
    obtain ⟨z, z1, z2⟩ := copy24 (Y := Y) ht ts
    have sm := fun H => same19 (Y := Y) (H := H) w1 hu (by have := us.1; omega) (fun r hr => by have := us.2 r hr; omega)
    have sn := fun H => same19 (Y := Y) (H := H) z1 ht (by have := ts.1; omega) (fun r hr => by have := ts.2 r hr; omega)
    rw [decide_eq_true rfl] at sm sn
    obtain ⟨p, q, e, a1, a2, b1, b2, P⟩ := pair_meet (Y := Y) w1 z1 hu ht us ts
    have s1 := fun H => same19 (Y := Y) (H := H) P.ta P.tb P.len P.row
    have s2 := fun H => same19 (Y := Y) (H := H) P.ta2 P.tb2 P.len2 P.row2
    rw [decide_eq_true rfl] at s1 s2
    have ca := P.ca; have cb := P.cb
    simp only [SS, insA, wantedA, Opd.ev, putA, binA, eqbA, unA, fldA, partA, reduceIte, reduceCtorEq, Nat.reduceMod, Nat.reduceDiv, Nat.reduceBEq, resultA, resA, vI, Nat.reduceMul, Nat.reduceAdd, Nat.reduceSub, Nat.reduceEqDiff, Nat.reduceLT, Nat.reducePow, Nat.reduceLeDiff, st, Option.bind_eq_bind, Option.pure_def, List.length_nil, Int.cast_ofNat_Int, List.reverse_nil] at ca cb
    simp only [F9B, SS, insA, wantedA, Opd.ev, putA, binA, eqbA, unA, fldA, partA, reduceIte, reduceCtorEq, Nat.reduceMod, Nat.reduceDiv, Nat.reduceBEq, resultA, resA, vI, Nat.reduceMul, Nat.reduceAdd, Nat.reduceSub, Nat.reduceEqDiff, Nat.reduceLT, Nat.reducePow, Nat.reduceLeDiff, st, Option.bind_eq_bind, Option.pure_def, List.length_nil, Int.cast_ofNat_Int, List.reverse_nil, UU, idxP, cellsAt, storeA, fillA, zerosA, putAll, optNat, sliceA, row, Int.reduceLT, Int.reduceLE, Int.reduceGT, Int.reduceGE, Int.reduceEq, Int.reduceNe, Int.reduceToNat, Int.reduceBEq, Int.reduceBNe, Nat.reduceLeDiff, Nat.reduceLT, Nat.reduceBNe, Nat.reduceGT, List.drop_nil, List.take_nil, Option.isSome_none, Int.ofNat_one, Int.ofNat_zero, o1, o2, o3, p1, p2, p3, ht.snap, hu.snap, w1.snap, z1.snap, P.ta.snap, P.tb.snap, P.ta2.snap, P.tb2.snap, f, w2, z2, ca, cb, s1, s2, sm, sn, ha, bne_self_eq_false, BEq.rfl]
  · rw [decide_eq_false hs] at f
    simp only [F9B, SS, insA, wantedA, Opd.ev, putA, binA, eqbA, unA, fldA, partA, reduceIte, reduceCtorEq, Nat.reduceMod, Nat.reduceDiv, Nat.reduceBEq, resultA, resA, vI, Nat.reduceMul, Nat.reduceAdd, Nat.reduceSub, Nat.reduceEqDiff, Nat.reduceLT, Nat.reducePow, Nat.reduceLeDiff, st, Option.bind_eq_bind, Option.pure_def, List.length_nil, Int.cast_ofNat_Int, List.reverse_nil, UU, idxP, cellsAt, storeA, fillA, zerosA, putAll, optNat, sliceA, row, Int.reduceLT, Int.reduceLE, Int.reduceGT, Int.reduceGE, Int.reduceEq, Int.reduceNe, Int.reduceToNat, Int.reduceBEq, Int.reduceBNe, Nat.reduceLeDiff, Nat.reduceLT, Nat.reduceBNe, Nat.reduceGT, List.drop_nil, List.take_nil, Option.isSome_none, Int.ofNat_one, Int.ofNat_zero, o1, o2, o3, p1, p2, p3, ht.snap, hu.snap, f, ha]

theorem minT_comm {n : Nat} {a b : List (List Int)} : minT n a b = minT n b a := by
  unfold minT; congr 1; funext i j; omega
theorem maxT_comm {n : Nat} {a b : List (List Int)} : maxT n a b = maxT n b a := by
  unfold maxT; congr 1; funext i j; omega
theorem minT_self {n : Nat} {a : List (List Int)} (A : Steep n a) : minT n a a = a :=
  sq_ext tabF_len tabF_mem A.len A.row fun i j hi hj => by rw [minT, at2_tabF hi hj]; omega
theorem maxT_self {n : Nat} {a : List (List Int)} (A : Steep n a) : maxT n a a = a :=
  sq_ext tabF_len tabF_mem A.len A.row fun i j hi hj => by rw [maxT, at2_tabF hi hj]; omega
theorem minT_minmax {n : Nat} {a b : List (List Int)} : minT n (minT n a b) (maxT n a b) = minT n a b :=
  sq_ext tabF_len tabF_mem tabF_len tabF_mem fun i j hi hj => by
    simp only [minT, maxT, at2_tabF hi hj]; omega
theorem maxT_minmax {n : Nat} {a b : List (List Int)} : maxT n (minT n a b) (maxT n a b) = maxT n a b :=
  sq_ext tabF_len tabF_mem tabF_len tabF_mem fun i j hi hj => by
    simp only [minT, maxT, at2_tabF hi hj]; omega

theorem law10 {ut vt : AV} {s t : List (List Int)} (hu : IsTab ut s) (ht : IsTab vt t) : freeX [] (callL EV Y 10 [ut, vt] []) = some (.bool true, []) := by
  obtain ⟨o1, o2, o3⟩ := ht.one
  obtain ⟨p1, p2, p3⟩ := hu.one
  have f := fun H => few23 (Y := Y) (H := H) (tabs2 (b := true) hu ht) (by simp)
  have ha := fun H => alive20 (Y := Y) (H := H)
  rw [call10 rfl]
  by_cases hs : fewS [s, t]
  · obtain ⟨us, ts⟩ := few2.1 hs
    rw [decide_eq_true hs] at f
    have ks := fun H => isveil26 (Y := Y) (H := H) hu us
    have kt := fun H => isveil26 (Y := Y) (H := H) ht ts
    rw [ref_read] at ks kt
    cases h1 : readOk s
    · rw [h1] at ks
      simp only [F10B, SS, insA, wantedA, Opd.ev, putA, binA, eqbA, unA, fldA, partA, reduceIte, reduceCtorEq, Nat.reduceMod, Nat.reduceDiv, Nat.reduceBEq, resultA, resA, vI, Nat.reduceMul, Nat.reduceAdd, Nat.reduceSub, Nat.reduceEqDiff, Nat.reduceLT, Nat.reducePow, Nat.reduceLeDiff, st, Option.bind_eq_bind, Option.pure_def, List.length_nil, Int.cast_ofNat_Int, List.reverse_nil, UU, idxP, cellsAt, storeA, fillA, zerosA, putAll, optNat, sliceA, row, Int.reduceLT, Int.reduceLE, Int.reduceGT, Int.reduceGE, Int.reduceEq, Int.reduceNe, Int.reduceToNat, Int.reduceBEq, Int.reduceBNe, Nat.reduceLeDiff, Nat.reduceLT, Nat.reduceBNe, Nat.reduceGT, List.drop_nil, List.take_nil, Option.isSome_none, Int.ofNat_one, Int.ofNat_zero, o1, o2, o3, p1, p2, p3, ht.snap, hu.snap, f, ks, ha]
    · rw [h1] at ks
      cases h2 : readOk t
      · rw [h2] at kt
        simp only [F10B, SS, insA, wantedA, Opd.ev, putA, binA, eqbA, unA, fldA, partA, reduceIte, reduceCtorEq, Nat.reduceMod, Nat.reduceDiv, Nat.reduceBEq, resultA, resA, vI, Nat.reduceMul, Nat.reduceAdd, Nat.reduceSub, Nat.reduceEqDiff, Nat.reduceLT, Nat.reducePow, Nat.reduceLeDiff, st, Option.bind_eq_bind, Option.pure_def, List.length_nil, Int.cast_ofNat_Int, List.reverse_nil, UU, idxP, cellsAt, storeA, fillA, zerosA, putAll, optNat, sliceA, row, Int.reduceLT, Int.reduceLE, Int.reduceGT, Int.reduceGE, Int.reduceEq, Int.reduceNe, Int.reduceToNat, Int.reduceBEq, Int.reduceBNe, Nat.reduceLeDiff, Nat.reduceLT, Nat.reduceBNe, Nat.reduceGT, List.drop_nil, List.take_nil, Option.isSome_none, Int.ofNat_one, Int.ofNat_zero, o1, o2, o3, p1, p2, p3, ht.snap, hu.snap, f, ks, kt, ha]
      · rw [h2] at kt
        by_cases hl : s.length = t.length
        · have vs := veil_iff.1 h1
          have vt' := veil_iff.1 h2
          have A := vs.steep
          have B := vt'.steep
          rw [hl] at A
          have V1 := (A.min B).veil
          have V2 := (A.max B).veil
          obtain ⟨x, y, x1, y1, c1⟩ := meet40_ok (Y := Y) hu ht us ts vs vt' hl rfl
          obtain ⟨z, w, z1, w1, c2⟩ := meet40_ok (Y := Y) ht hu ts us vt' vs rfl hl
          rw [minT_comm] at z1
          rw [maxT_comm] at w1
          obtain ⟨p, q, q1, q2, c3⟩ := meet40_ok (Y := Y) x1 y1 V1.small V2.small V1 V2 vOf_len vOf_len
          rw [(A.min B).hgts, (A.max B).hgts, minT_minmax] at q1
          rw [(A.min B).hgts, (A.max B).hgts, maxT_minmax] at q2
          obtain ⟨r, r', r1, r2, c4⟩ := meet40_ok (Y := Y) hu hu us us vs vs hl hl
          have back := vs.back
          rw [hl] at back
          rw [minT_self A, back] at r1
          rw [maxT_self A, back] at r2
          have kx := fun H => isveil26 (Y := Y) (H := H) x1 V1.small
          have ky := fun H => isveil26 (Y := Y) (H := H) y1 V2.small
          rw [ref_read, veil_iff.2 V1] at kx
          rw [ref_read, veil_iff.2 V2] at ky
          have m1 := vOf_small (h := minT t.length (hgtT s) (hgtT t)) vt'.n5
          have m2 := vOf_small (h := maxT t.length (hgtT s) (hgtT t)) vt'.n5
          have s1 := fun H => same19 (Y := Y) (H := H) x1 z1 m1.1 m1.2
          have s2 := fun H => same19 (Y := Y) (H := H) y1 w1 m2.1 m2.2
          have s3 := fun H => same19 (Y := Y) (H := H) q1 x1 m1.1 m1.2
          have s4 := fun H => same19 (Y := Y) (H := H) q2 y1 m2.1 m2.2
          have s5 := fun H => same19 (Y := Y) (H := H) r1 hu (by have := us.1; omega) (fun r hr => by have := us.2 r hr; omega)
          have s6 := fun H => same19 (Y := Y) (H := H) r2 hu (by have := us.1; omega) (fun r hr => by have := us.2 r hr; omega)
          rw [decide_eq_true rfl] at s1 s2 s3 s4 s5 s6
          have hne : ((s.length : Int) != (t.length : Int)) = false := by simp [hl]
          simp only [SS, insA, wantedA, Opd.ev, putA, binA, eqbA, unA, fldA, partA, reduceIte, reduceCtorEq, Nat.reduceMod, Nat.reduceDiv, Nat.reduceBEq, resultA, resA, vI, Nat.reduceMul, Nat.reduceAdd, Nat.reduceSub, Nat.reduceEqDiff, Nat.reduceLT, Nat.reducePow, Nat.reduceLeDiff, st, Option.bind_eq_bind, Option.pure_def, List.length_nil, Int.cast_ofNat_Int, List.reverse_nil] at c1 c2 c3 c4
          clear A B V1 V2 vs vt'
          have hcut : ∀ fr H, codeL EV Y F10B fr H = thenX (codeL EV Y (headC 5 F10B) fr H) (codeL EV Y (tailC 5 F10B)) := fun fr H => cut 5 F10B fr H
          rw [hcut]
          simp only [headC, F10B, SS, insA, wantedA, Opd.ev, putA, binA, eqbA, unA, fldA, partA, reduceIte, reduceCtorEq, Nat.reduceMod, Nat.reduceDiv, Nat.reduceBEq, resultA, resA, vI, Nat.reduceMul, Nat.reduceAdd, Nat.reduceSub, Nat.reduceEqDiff, Nat.reduceLT, Nat.reducePow, Nat.reduceLeDiff, st, Option.bind_eq_bind, Option.pure_def, List.length_nil, Int.cast_ofNat_Int, List.reverse_nil, UU, idxP, cellsAt, storeA, fillA, zerosA, putAll, optNat, sliceA, row, Int.reduceLT, Int.reduceLE, Int.reduceGT, Int.reduceGE, Int.reduceEq, Int.reduceNe, Int.reduceToNat, Int.reduceBEq, Int.reduceBNe, Nat.reduceLeDiff, Nat.reduceLT, Nat.reduceBNe, Nat.reduceGT, List.drop_nil, List.take_nil, Option.isSome_none, Int.ofNat_one, Int.ofNat_zero, o1, o2, o3, p1, p2, p3, ht.snap, hu.snap, f, ks, kt, c1, hu.len, ht.len, hne, c2]
          simp only [tailC, SS, insA, wantedA, Opd.ev, putA, binA, eqbA, unA, fldA, partA, reduceIte, reduceCtorEq, Nat.reduceMod, Nat.reduceDiv, Nat.reduceBEq, resultA, resA, vI, Nat.reduceMul, Nat.reduceAdd, Nat.reduceSub, Nat.reduceEqDiff, Nat.reduceLT, Nat.reducePow, Nat.reduceLeDiff, st, Option.bind_eq_bind, Option.pure_def, List.length_nil, Int.cast_ofNat_Int, List.reverse_nil, UU, idxP, cellsAt, storeA, fillA, zerosA, putAll, optNat, sliceA, row, Int.reduceLT, Int.reduceLE, Int.reduceGT, Int.reduceGE, Int.reduceEq, Int.reduceNe, Int.reduceToNat, Int.reduceBEq, Int.reduceBNe, Nat.reduceLeDiff, Nat.reduceLT, Nat.reduceBNe, Nat.reduceGT, List.drop_nil, List.take_nil, Option.isSome_none, Int.ofNat_one, Int.ofNat_zero, x1.snap, y1.snap, z1.snap, w1.snap, hu.snap, kx, ky, s1, s2, c3, c4, q1.snap, q2.snap, r1.snap, r2.snap, s3, s4, s5, s6, ha, bne_self_eq_false, BEq.rfl]
        · have hne : ((s.length : Int) != (t.length : Int)) = true := by simp; omega
          have c1 := fun H => meet40_no (Y := Y) (H := H) hu ht us ts (fun h => hl h.2.2)
          simp only [SS, insA, wantedA, Opd.ev, putA, binA, eqbA, unA, fldA, partA, reduceIte, reduceCtorEq, Nat.reduceMod, Nat.reduceDiv, Nat.reduceBEq, resultA, resA, vI, Nat.reduceMul, Nat.reduceAdd, Nat.reduceSub, Nat.reduceEqDiff, Nat.reduceLT, Nat.reducePow, Nat.reduceLeDiff, st, Option.bind_eq_bind, Option.pure_def, List.length_nil, Int.cast_ofNat_Int, List.reverse_nil] at c1
          simp only [F10B, SS, insA, wantedA, Opd.ev, putA, binA, eqbA, unA, fldA, partA, reduceIte, reduceCtorEq, Nat.reduceMod, Nat.reduceDiv, Nat.reduceBEq, resultA, resA, vI, Nat.reduceMul, Nat.reduceAdd, Nat.reduceSub, Nat.reduceEqDiff, Nat.reduceLT, Nat.reducePow, Nat.reduceLeDiff, st, Option.bind_eq_bind, Option.pure_def, List.length_nil, Int.cast_ofNat_Int, List.reverse_nil, UU, idxP, cellsAt, storeA, fillA, zerosA, putAll, optNat, sliceA, row, Int.reduceLT, Int.reduceLE, Int.reduceGT, Int.reduceGE, Int.reduceEq, Int.reduceNe, Int.reduceToNat, Int.reduceBEq, Int.reduceBNe, Nat.reduceLeDiff, Nat.reduceLT, Nat.reduceBNe, Nat.reduceGT, List.drop_nil, List.take_nil, Option.isSome_none, Int.ofNat_one, Int.ofNat_zero, o1, o2, o3, p1, p2, p3, ht.snap, hu.snap, f, ks, kt, c1, hu.len, ht.len, hne, ha, BEq.rfl]
  · rw [decide_eq_false hs] at f
    simp only [F10B, SS, insA, wantedA, Opd.ev, putA, binA, eqbA, unA, fldA, partA, reduceIte, reduceCtorEq, Nat.reduceMod, Nat.reduceDiv, Nat.reduceBEq, resultA, resA, vI, Nat.reduceMul, Nat.reduceAdd, Nat.reduceSub, Nat.reduceEqDiff, Nat.reduceLT, Nat.reducePow, Nat.reduceLeDiff, st, Option.bind_eq_bind, Option.pure_def, List.length_nil, Int.cast_ofNat_Int, List.reverse_nil, UU, idxP, cellsAt, storeA, fillA, zerosA, putAll, optNat, sliceA, row, Int.reduceLT, Int.reduceLE, Int.reduceGT, Int.reduceGE, Int.reduceEq, Int.reduceNe, Int.reduceToNat, Int.reduceBEq, Int.reduceBNe, Nat.reduceLeDiff, Nat.reduceLT, Nat.reduceBNe, Nat.reduceGT, List.drop_nil, List.take_nil, Option.isSome_none, Int.ofNat_one, Int.ofNat_zero, o1, o2, o3, p1, p2, p3, ht.snap, hu.snap, f, ha]
end
end Go.X
