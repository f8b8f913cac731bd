import Derived.Test.YtchgifdkhknppaaVQ
/-! Veils: Gyrate, both ways. -/
set_option linter.unusedSimpArgs false
set_option linter.unusedVariables false
set_option maxHeartbeats 4000000
set_option maxRecDepth 10000
namespace Go.X
open Go Go.RowKit
section
variable {Y : Run} {H : Heap}

theorem tmod2 {i j : Nat} : Int.tmod ((i : Int) + j) 2 = (((i + j) % 2 : Nat) : Int) := by
  rw [← Int.natCast_add, show (2 : Int) = ((2 : Nat) : Int) from rfl, ← Int.ofNat_tmod]

theorem L75_0 {v x11 x12 : AV} {n i rest k : Nat} {r : Int} {cells : List AV} (hr : r = rest) (hi : 1 ≤ i ∧ i < n) (d : Nat) : ∀ (j : Nat) (R : Heap) (h : List (List Int)), 1 ≤ j → j + d = n → HTab k R v h cells → Steep n h →
    ∃ R', lp EV Y F75L0 (sp 49 [(12, x12), (11, x11), (6, vI j), (5, vI i), (4, vI r), (2, vI n), (0, v)]) R = some (.x 4, sp 49 [(12, x12), (11, x11), (5, vI i), (4, vI r), (2, vI n), (0, v)], R') ∧ HTab k R' v (gyrRow rest i j d h) cells := by
  induction d with
  | zero =>
    intro j R h h1 hj hT S
    have : ¬ ((j : Int) < (n : Int)) := by omega
    refine ⟨R, ?_, hT⟩
    rw [un75_0]
    simp only [F75L0b, SS, insA, wantedA, Opd.ev, putA, binA, eqbA, unA, fldA, partA, reduceIte, reduceCtorEq, Nat.reduceMod, Nat.reduceDiv, Nat.reduceBEq, resultA, resA, vI, Nat.reduceMul, Nat.reduceAdd, Nat.reduceSub, Nat.reduceEqDiff, Nat.reduceLT, Nat.reducePow, Nat.reduceLeDiff, st, Option.bind_eq_bind, Option.pure_def, List.length_nil, Int.cast_ofNat_Int, List.reverse_nil, UU, idxP, cellsAt, storeA, fillA, zerosA, putAll, optNat, sliceA, row, Int.reduceLT, Int.reduceLE, Int.reduceGT, Int.reduceGE, Int.reduceEq, Int.reduceNe, Int.reduceToNat, Int.reduceBEq, Int.reduceBNe, Nat.reduceLeDiff, Nat.reduceLT, Nat.reduceBNe, Nat.reduceGT, List.drop_nil, List.take_nil, Option.isSome_none, Int.ofNat_one, Int.ofNat_zero, this]
  | succ d ih =>
    intro j R h h1 hj hT S
    have h5 := S.n5
    have hc : (j : Int) < (n : Int) := by omega
    have hww := wrap_succ (n := j) (by omega)
    have hj2 : 1 ≤ j ∧ j < n := ⟨h1, by omega⟩
    obtain ⟨w, a1, a2, _⟩ := snap_if (b := 59) hT
    have kf := fun H => free74 (Y := Y) (H := H) a1 S hi hj2
    have w1 : IntKind.wrap .i64 ((i : Int) + j) = i + j := wrap_id (by omega) (by omega)
    have hrow : gyrRow rest i j (d + 1) h = gyrRow rest i (j + 1) d (gyrStep rest i j h) := rfl
    cases hf : fridB h i j
    · rw [hf] at kf
      simp only [Bool.false_eq_true, if_false] at kf
      have e : gyrStep rest i j h = h := by unfold gyrStep; rw [hf]; simp
      rw [hrow, e]
      obtain ⟨R', p1, p2⟩ := ih (j + 1) R h (by omega) (by omega) hT S
      refine ⟨R', ?_, p2⟩
      rw [un75_0]
      simp only [SS, insA, wantedA, Opd.ev, putA, binA, eqbA, unA, fldA, partA, reduceIte, reduceCtorEq, Nat.reduceMod, Nat.reduceDiv, Nat.reduceBEq, resultA, resA, vI, Nat.reduceMul, Nat.reduceAdd, Nat.reduceSub, Nat.reduceEqDiff, Nat.reduceLT, Nat.reducePow, Nat.reduceLeDiff, st, Option.bind_eq_bind, Option.pure_def, List.length_nil, Int.cast_ofNat_Int, List.reverse_nil] at kf p1
      simp only [F75L0b, SS, insA, wantedA, Opd.ev, putA, binA, eqbA, unA, fldA, partA, reduceIte, reduceCtorEq, Nat.reduceMod, Nat.reduceDiv, Nat.reduceBEq, resultA, resA, vI, Nat.reduceMul, Nat.reduceAdd, Nat.reduceSub, Nat.reduceEqDiff, Nat.reduceLT, Nat.reducePow, Nat.reduceLeDiff, st, Option.bind_eq_bind, Option.pure_def, List.length_nil, Int.cast_ofNat_Int, List.reverse_nil, UU, idxP, cellsAt, storeA, fillA, zerosA, putAll, optNat, sliceA, row, Int.reduceLT, Int.reduceLE, Int.reduceGT, Int.reduceGE, Int.reduceEq, Int.reduceNe, Int.reduceToNat, Int.reduceBEq, Int.reduceBNe, Nat.reduceLeDiff, Nat.reduceLT, Nat.reduceBNe, Nat.reduceGT, List.drop_nil, List.take_nil, Option.isSome_none, Int.ofNat_one, Int.ofNat_zero, hc, a2, kf, hww, p1]
    · rw [hf] at kf
      simp only [if_true] at kf
      by_cases hp : (i + j) % 2 = rest
      · have e : gyrStep rest i j h = turnT h i j := by unfold gyrStep; rw [if_pos ⟨hf, hp⟩]
        have hp2 : ((((i + j) % 2 : Nat) : Int) == r) = true := by rw [hr, hp]; simp
        obtain ⟨b1, b2⟩ := S.in (i := i) (j := j) (by omega) (by omega)
        obtain ⟨id, o, s1, s2, s3⟩ := hT.setT (x := turnV h i j) b1 b2
        rw [hrow, e]
        obtain ⟨R', p1, p2⟩ := ih (j + 1) _ _ (by omega) (by omega) s2 (S.turn hi hj2 hf)
        refine ⟨R', ?_, p2⟩
        rw [un75_0]
        simp only [SS, insA, wantedA, Opd.ev, putA, binA, eqbA, unA, fldA, partA, reduceIte, reduceCtorEq, Nat.reduceMod, Nat.reduceDiv, Nat.reduceBEq, resultA, resA, vI, Nat.reduceMul, Nat.reduceAdd, Nat.reduceSub, Nat.reduceEqDiff, Nat.reduceLT, Nat.reducePow, Nat.reduceLeDiff, st, Option.bind_eq_bind, Option.pure_def, List.length_nil, Int.cast_ofNat_Int, List.reverse_nil] at kf p1 s1
        simp only [F75L0b, SS, insA, wantedA, Opd.ev, putA, binA, eqbA, unA, fldA, partA, reduceIte, reduceCtorEq, Nat.reduceMod, Nat.reduceDiv, Nat.reduceBEq, resultA, resA, vI, Nat.reduceMul, Nat.reduceAdd, Nat.reduceSub, Nat.reduceEqDiff, Nat.reduceLT, Nat.reducePow, Nat.reduceLeDiff, st, Option.bind_eq_bind, Option.pure_def, List.length_nil, Int.cast_ofNat_Int, List.reverse_nil, UU, idxP, cellsAt, fillA, zerosA, putAll, row, Int.reduceLT, Int.reduceLE, Int.reduceGT, Int.reduceGE, Int.reduceEq, Int.reduceNe, Int.reduceToNat, Int.reduceBEq, Int.reduceBNe, Nat.reduceLeDiff, Nat.reduceLT, Nat.reduceBNe, Nat.reduceGT, List.drop_nil, List.take_nil, Option.isSome_none, Int.ofNat_one, Int.ofNat_zero, hc, a2, kf, w1, tmod2, hp2, hT.idx b1, hT.load b1, hT.idx2 b1 b2, s1, hww, p1, and_self, ne_eq, not_false_eq_true, Int.reduceEq]
      · have e : gyrStep rest i j h = h := by unfold gyrStep; rw [if_neg (fun h => hp h.2)]
        have hp2 : ((((i + j) % 2 : Nat) : Int) == r) = false := by rw [hr]; simp; omega
        rw [hrow, e]
        obtain ⟨R', p1, p2⟩ := ih (j + 1) R h (by omega) (by omega) hT S
        refine ⟨R', ?_, p2⟩
        rw [un75_0]
        simp only [SS, insA, wantedA, Opd.ev, putA, binA, eqbA, unA, fldA, partA, reduceIte, reduceCtorEq, Nat.reduceMod, Nat.reduceDiv, Nat.reduceBEq, resultA, resA, vI, Nat.reduceMul, Nat.reduceAdd, Nat.reduceSub, Nat.reduceEqDiff, Nat.reduceLT, Nat.reducePow, Nat.reduceLeDiff, st, Option.bind_eq_bind, Option.pure_def, List.length_nil, Int.cast_ofNat_Int, List.reverse_nil] at kf p1
        simp only [F75L0b, SS, insA, wantedA, Opd.ev, putA, binA, eqbA, unA, fldA, partA, reduceIte, reduceCtorEq, Nat.reduceMod, Nat.reduceDiv, Nat.reduceBEq, resultA, resA, vI, Nat.reduceMul, Nat.reduceAdd, Nat.reduceSub, Nat.reduceEqDiff, Nat.reduceLT, Nat.reducePow, Nat.reduceLeDiff, st, Option.bind_eq_bind, Option.pure_def, List.length_nil, Int.cast_ofNat_Int, List.reverse_nil, UU, idxP, cellsAt, fillA, zerosA, putAll, row, Int.reduceLT, Int.reduceLE, Int.reduceGT, Int.reduceGE, Int.reduceEq, Int.reduceNe, Int.reduceToNat, Int.reduceBEq, Int.reduceBNe, Nat.reduceLeDiff, Nat.reduceLT, Nat.reduceBNe, Nat.reduceGT, List.drop_nil, List.take_nil, Option.isSome_none, Int.ofNat_one, Int.ofNat_zero, hc, a2, kf, w1, tmod2, hp2, hww, p1, and_self, ne_eq, not_false_eq_true, Int.reduceEq]

theorem L75_1 {v x11 x12 : AV} {n rest k : Nat} {r : Int} {cells : List AV} (hr : r = rest) (d : Nat) : ∀ (i : Nat) (R : Heap) (h : List (List Int)), 1 ≤ i → i + d = n → HTab k R v h cells → Steep n h →
    ∃ R', lp EV Y F75L1 (sp 49 [(12, x12), (11, x11), (5, vI i), (4, vI r), (2, vI n), (0, v)]) R = some (.x 2, sp 49 [(12, x12), (11, x11), (2, vI n), (0, v)], R') ∧ HTab k R' v (gyrAll n rest i d h) cells := by
  induction d with
  | zero =>
    intro i R h h1 hi hT S
    have : ¬ ((i : Int) < (n : Int)) := by omega
    refine ⟨R, ?_, hT⟩
    rw [un75_1]
    simp only [F75L1b, SS, insA, wantedA, Opd.ev, putA, binA, eqbA, unA, fldA, partA, reduceIte, reduceCtorEq, Nat.reduceMod, Nat.reduceDiv, Nat.reduceBEq, resultA, resA, vI, Nat.reduceMul, Nat.reduceAdd, Nat.reduceSub, Nat.reduceEqDiff, Nat.reduceLT, Nat.reducePow, Nat.reduceLeDiff, st, Option.bind_eq_bind, Option.pure_def, List.length_nil, Int.cast_ofNat_Int, List.reverse_nil, UU, idxP, cellsAt, storeA, fillA, zerosA, putAll, optNat, sliceA, row, Int.reduceLT, Int.reduceLE, Int.reduceGT, Int.reduceGE, Int.reduceEq, Int.reduceNe, Int.reduceToNat, Int.reduceBEq, Int.reduceBNe, Nat.reduceLeDiff, Nat.reduceLT, Nat.reduceBNe, Nat.reduceGT, List.drop_nil, List.take_nil, Option.isSome_none, Int.ofNat_one, Int.ofNat_zero, this]
  | succ d ih =>
    intro i R h h1 hi hT S
    have h5 := S.n5
    have hc : (i : Int) < (n : Int) := by omega
    have hww := wrap_succ (n := i) (by omega)
    obtain ⟨R1, a1, a2⟩ := L75_0 (Y := Y) (x11 := x11) (x12 := x12) hr (show 1 ≤ i ∧ i < n by omega) (n - 1) 1 R h (by omega) (by omega) hT S
    obtain ⟨R', p1, p2⟩ := ih (i + 1) R1 _ (by omega) (by omega) a2 (S.gyrRow ⟨h1, by omega⟩ (n - 1) 1 (by omega) (by omega))
    refine ⟨R', ?_, p2⟩
    rw [un75_1]
    simp only [SS, insA, wantedA, Opd.ev, putA, binA, eqbA, unA, fldA, partA, reduceIte, reduceCtorEq, Nat.reduceMod, Nat.reduceDiv, Nat.reduceBEq, resultA, resA, vI, Nat.reduceMul, Nat.reduceAdd, Nat.reduceSub, Nat.reduceEqDiff, Nat.reduceLT, Nat.reducePow, Nat.reduceLeDiff, st, Option.bind_eq_bind, Option.pure_def, List.length_nil, Int.cast_ofNat_Int, List.reverse_nil, Int.ofNat_one] at a1 p1
    simp only [F75L1b, F75T0, in75_0, SS, insA, wantedA, Opd.ev, putA, binA, eqbA, unA, fldA, partA, reduceIte, reduceCtorEq, Nat.reduceMod, Nat.reduceDiv, Nat.reduceBEq, resultA, resA, vI, Nat.reduceMul, Nat.reduceAdd, Nat.reduceSub, Nat.reduceEqDiff, Nat.reduceLT, Nat.reducePow, Nat.reduceLeDiff, st, Option.bind_eq_bind, Option.pure_def, List.length_nil, Int.cast_ofNat_Int, List.reverse_nil, UU, idxP, cellsAt, storeA, fillA, zerosA, putAll, optNat, sliceA, row, Int.reduceLT, Int.reduceLE, Int.reduceGT, Int.reduceGE, Int.reduceEq, Int.reduceNe, Int.reduceToNat, Int.reduceBEq, Int.reduceBNe, Nat.reduceLeDiff, Nat.reduceLT, Nat.reduceBNe, Nat.reduceGT, List.drop_nil, List.take_nil, Option.isSome_none, Int.ofNat_one, Int.ofNat_zero, hc, a1, hww, p1]

theorem gyrate75 {v : AV} {n k : Nat} {R : Heap} {h : List (List Int)} {cells : List AV} (hT : HTab k R v h cells) (S : Steep n h) : ∃ R', callL EV Y 75 [v] R = some (.tup [], R') ∧ HTab k R' v (gyr n h) cells := by
  have h1 := S.n1
  have h5 := S.n5
  obtain ⟨w, a1, a2, _⟩ := snap_if (b := 59) hT
  have hsz := fun H => size91 (Y := Y) (H := H) a1 S.len (by omega)
  obtain ⟨R1, b1, b2⟩ := L75_1 (Y := Y) (x11 := .agg [.int .i64 1, .int .i64 0]) (x12 := .int .i64 0) (rest := 1) (r := 1) rfl (n - 1) 1 R h (by omega) (by omega) hT S
  obtain ⟨R2, c1, c2⟩ := L75_1 (Y := Y) (x11 := .agg [.int .i64 1, .int .i64 0]) (x12 := .int .i64 1) (rest := 0) (r := 0) rfl (n - 1) 1 R1 _ (by omega) (by omega) b2 (S.gyrAll (n - 1) 1 (by omega) (by omega))
  refine ⟨R2, ?_, c2⟩
  have w1 : IntKind.wrap .i64 (0 + 1) = 1 := by rw [wrap_id] <;> omega
  have w2 : IntKind.wrap .i64 (1 + 1) = 2 := by rw [wrap_id] <;> omega
  rw [call75 rfl]
  simp only [SS, insA, wantedA, Opd.ev, putA, binA, eqbA, unA, fldA, partA, reduceIte, reduceCtorEq, Nat.reduceMod, Nat.reduceDiv, Nat.reduceBEq, resultA, resA, vI, Nat.reduceMul, Nat.reduceAdd, Nat.reduceSub, Nat.reduceEqDiff, Nat.reduceLT, Nat.reducePow, Nat.reduceLeDiff, st, Option.bind_eq_bind, Option.pure_def, List.length_nil, Int.cast_ofNat_Int, List.reverse_nil, Int.ofNat_one] at hsz b1 c1
  simp only [F75B, in75_2, SS, insA, wantedA, Opd.ev, putA, binA, eqbA, unA, fldA, partA, reduceIte, reduceCtorEq, Nat.reduceMod, Nat.reduceDiv, Nat.reduceBEq, resultA, resA, vI, Nat.reduceMul, Nat.reduceAdd, Nat.reduceSub, Nat.reduceEqDiff, Nat.reduceLT, Nat.reducePow, Nat.reduceLeDiff, st, Option.bind_eq_bind, Option.pure_def, List.length_nil, Int.cast_ofNat_Int, List.reverse_nil, UU, idxP, cellsAt, storeA, fillA, zerosA, putAll, optNat, sliceA, row, Int.reduceLT, Int.reduceLE, Int.reduceGT, Int.reduceGE, Int.reduceEq, Int.reduceNe, Int.reduceToNat, Int.reduceBEq, Int.reduceBNe, Nat.reduceLeDiff, Nat.reduceLT, Nat.reduceBNe, Nat.reduceGT, List.drop_nil, List.take_nil, Option.isSome_none, Int.ofNat_one, Int.ofNat_zero, a2, hsz]
  rw [un75_2]
  simp only [F75L2b, F75T1, in75_1, SS, insA, wantedA, Opd.ev, putA, binA, eqbA, unA, fldA, partA, reduceIte, reduceCtorEq, Nat.reduceMod, Nat.reduceDiv, Nat.reduceBEq, resultA, resA, vI, Nat.reduceMul, Nat.reduceAdd, Nat.reduceSub, Nat.reduceEqDiff, Nat.reduceLT, Nat.reducePow, Nat.reduceLeDiff, st, Option.bind_eq_bind, Option.pure_def, List.length_nil, Int.cast_ofNat_Int, List.reverse_nil, UU, idxP, cellsAt, storeA, fillA, zerosA, putAll, optNat, sliceA, row, Int.reduceLT, Int.reduceLE, Int.reduceGT, Int.reduceGE, Int.reduceEq, Int.reduceNe, Int.reduceToNat, Int.reduceBEq, Int.reduceBNe, Nat.reduceLeDiff, Nat.reduceLT, Nat.reduceBNe, Nat.reduceGT, List.drop_nil, List.take_nil, Option.isSome_none, Int.ofNat_one, Int.ofNat_zero, b1, w1, w2, Int.toNat_zero]
  rw [un75_2]
  simp only [F75L2b, F75T1, in75_1, SS, insA, wantedA, Opd.ev, putA, binA, eqbA, unA, fldA, partA, reduceIte, reduceCtorEq, Nat.reduceMod, Nat.reduceDiv, Nat.reduceBEq, resultA, resA, vI, Nat.reduceMul, Nat.reduceAdd, Nat.reduceSub, Nat.reduceEqDiff, Nat.reduceLT, Nat.reducePow, Nat.reduceLeDiff, st, Option.bind_eq_bind, Option.pure_def, List.length_nil, Int.cast_ofNat_Int, List.reverse_nil, UU, idxP, cellsAt, storeA, fillA, zerosA, putAll, optNat, sliceA, row, Int.reduceLT, Int.reduceLE, Int.reduceGT, Int.reduceGE, Int.reduceEq, Int.reduceNe, Int.reduceToNat, Int.reduceBEq, Int.reduceBNe, Nat.reduceLeDiff, Nat.reduceLT, Nat.reduceBNe, Nat.reduceGT, List.drop_nil, List.take_nil, Option.isSome_none, Int.ofNat_one, Int.ofNat_zero, c1, w1, w2, Int.toNat_one]
  rw [un75_2]
  simp only [F75L2b, SS, insA, wantedA, Opd.ev, putA, binA, eqbA, unA, fldA, partA, reduceIte, reduceCtorEq, Nat.reduceMod, Nat.reduceDiv, Nat.reduceBEq, resultA, resA, vI, Nat.reduceMul, Nat.reduceAdd, Nat.reduceSub, Nat.reduceEqDiff, Nat.reduceLT, Nat.reducePow, Nat.reduceLeDiff, st, Option.bind_eq_bind, Option.pure_def, List.length_nil, Int.cast_ofNat_Int, List.reverse_nil, UU, idxP, cellsAt, storeA, fillA, zerosA, putAll, optNat, sliceA, row, Int.reduceLT, Int.reduceLE, Int.reduceGT, Int.reduceGE, Int.reduceEq, Int.reduceNe, Int.reduceToNat, Int.reduceBEq, Int.reduceBNe, Nat.reduceLeDiff, Nat.reduceLT, Nat.reduceBNe, Nat.reduceGT, List.drop_nil, List.take_nil, Option.isSome_none, Int.ofNat_one, Int.ofNat_zero]

theorem gyrate47 {vt : AV} {t : List (List Int)} (ht : IsTab vt t) (hs : Small t) :
    (readOk t = true → ∃ w, IsTab w (vOf t.length (gyr t.length (hgtT t))) ∧ ∀ H, freeX H (callL EV Y 47 [vt] []) = some (.tup [w, vI 0], H)) ∧ (readOk t = false → ∀ H, freeX H (callL EV Y 47 [vt] []) = some (.tup [.nils, vI 2], H)) := by
  obtain ⟨H1, q, _⟩ := read64 (Y := Y) ht hs []
  constructor
  · intro ho
    have hv := veil_iff.1 ho
    have S := hv.steep
    rw [ho, if_pos rfl] at q
    obtain ⟨v, R, cells, q1, q2⟩ := raised_tab (Y := Y) ht hv H1
    obtain ⟨R2, g1, g2⟩ := gyrate75 (Y := Y) q2 S
    obtain ⟨_, _, _, w2, d1, d2⟩ := snap_if (b := 59) g2
    obtain ⟨w3, e1, e2, e3⟩ := of_steep (Y := Y) d1 S.gyr
    refine ⟨w3, e1, fun H => ?_⟩
    rw [call47 rfl]
    simp only [F47B, SS, insA, wantedA, Opd.ev, putA, binA, eqbA, unA, fldA, partA, reduceIte, reduceCtorEq, Nat.reduceMod, Nat.reduceDiv, Nat.reduceBEq, resultA, resA, vI, Nat.reduceMul, Nat.reduceAdd, Nat.reduceSub, Nat.reduceEqDiff, Nat.reduceLT, Nat.reducePow, Nat.reduceLeDiff, st, Option.bind_eq_bind, Option.pure_def, List.length_nil, Int.cast_ofNat_Int, List.reverse_nil, UU, idxP, cellsAt, storeA, fillA, zerosA, putAll, optNat, sliceA, row, Int.reduceLT, Int.reduceLE, Int.reduceGT, Int.reduceGE, Int.reduceEq, Int.reduceNe, Int.reduceToNat, Int.reduceBEq, Int.reduceBNe, Nat.reduceLeDiff, Nat.reduceLT, Nat.reduceBNe, Nat.reduceGT, List.drop_nil, List.take_nil, Option.isSome_none, Int.ofNat_one, Int.ofNat_zero, q, q1, g1, d2, e2, e3]
  · intro ho H
    rw [ho] at q
    simp only [Bool.false_eq_true, if_false] at q
    rw [call47 rfl]
    simp only [F47B, SS, insA, wantedA, Opd.ev, putA, binA, eqbA, unA, fldA, partA, reduceIte, reduceCtorEq, Nat.reduceMod, Nat.reduceDiv, Nat.reduceBEq, resultA, resA, vI, Nat.reduceMul, Nat.reduceAdd, Nat.reduceSub, Nat.reduceEqDiff, Nat.reduceLT, Nat.reducePow, Nat.reduceLeDiff, st, Option.bind_eq_bind, Option.pure_def, List.length_nil, Int.cast_ofNat_Int, List.reverse_nil, UU, idxP, cellsAt, storeA, fillA, zerosA, putAll, optNat, sliceA, row, Int.reduceLT, Int.reduceLE, Int.reduceGT, Int.reduceGE, Int.reduceEq, Int.reduceNe, Int.reduceToNat, Int.reduceBEq, Int.reduceBNe, Nat.reduceLeDiff, Nat.reduceLT, Nat.reduceBNe, Nat.reduceGT, List.drop_nil, List.take_nil, Option.isSome_none, Int.ofNat_one, Int.ofNat_zero, q]

/-! ### The specification's -/
theorem L52_0 {v vt : AV} {t : List (List Int)} {n i rest k : Nat} {r : Int} {cells : List AV} (ht : IsTab vt t) (hn : t.length = n) (hr : r = rest) (hi : 1 ≤ i ∧ i < n) (d : Nat) : ∀ (j : Nat) (R : Heap) (h : List (List Int)), 1 ≤ j → j + d = n → HTab k R v h cells → Steep n h →
    ∃ R', lp EV Y F52L0 (sp 56 [(7, vI j), (6, vI i), (5, vI r), (4, v), (0, vt)]) R = some (.x 4, sp 56 [(6, vI i), (5, vI r), (4, v), (0, vt)], R') ∧ HTab k R' v (gyrRow rest i j d h) cells := by
  have hl := ht.len
  rw [hn] at hl
  induction d with
  | zero =>
    intro j R h h1 hj hT S
    have : ¬ ((j : Int) < (n : Int)) := by omega
    refine ⟨R, ?_, hT⟩
    rw [un52_0]
    simp only [F52L0b, SS, insA, wantedA, Opd.ev, putA, binA, eqbA, unA, fldA, partA, reduceIte, reduceCtorEq, Nat.reduceMod, Nat.reduceDiv, Nat.reduceBEq, resultA, resA, vI, Nat.reduceMul, Nat.reduceAdd, Nat.reduceSub, Nat.reduceEqDiff, Nat.reduceLT, Nat.reducePow, Nat.reduceLeDiff, st, Option.bind_eq_bind, Option.pure_def, List.length_nil, Int.cast_ofNat_Int, List.reverse_nil, UU, idxP, cellsAt, storeA, fillA, zerosA, putAll, optNat, sliceA, row, Int.reduceLT, Int.reduceLE, Int.reduceGT, Int.reduceGE, Int.reduceEq, Int.reduceNe, Int.reduceToNat, Int.reduceBEq, Int.reduceBNe, Nat.reduceLeDiff, Nat.reduceLT, Nat.reduceBNe, Nat.reduceGT, List.drop_nil, List.take_nil, Option.isSome_none, Int.ofNat_one, Int.ofNat_zero, hl, this]
  | succ d ih =>
    intro j R h h1 hj hT S
    have h5 := S.n5
    have hc : (j : Int) < (n : Int) := by omega
    have hww := wrap_succ (n := j) (by omega)
    have hj2 : 1 ≤ j ∧ j < n := ⟨h1, by omega⟩
    obtain ⟨w, a1, a2, _⟩ := snap_if (b := 59) hT
    have kf := fun H => free76 (Y := Y) (H := H) a1 S hi hj2
    have w1 : IntKind.wrap .i64 ((i : Int) + j) = i + j := wrap_id (by omega) (by omega)
    have hrow : gyrRow rest i j (d + 1) h = gyrRow rest i (j + 1) d (gyrStep rest i j h) := rfl
    cases hf : fridB h i j
    · rw [hf] at kf
      have e : gyrStep rest i j h = h := by unfold gyrStep; rw [hf]; simp
      rw [hrow, e]
      obtain ⟨R', p1, p2⟩ := ih (j + 1) R h (by omega) (by omega) hT S
      refine ⟨R', ?_, p2⟩
      rw [un52_0]
      simp only [SS, insA, wantedA, Opd.ev, putA, binA, eqbA, unA, fldA, partA, reduceIte, reduceCtorEq, Nat.reduceMod, Nat.reduceDiv, Nat.reduceBEq, resultA, resA, vI, Nat.reduceMul, Nat.reduceAdd, Nat.reduceSub, Nat.reduceEqDiff, Nat.reduceLT, Nat.reducePow, Nat.reduceLeDiff, st, Option.bind_eq_bind, Option.pure_def, List.length_nil, Int.cast_ofNat_Int, List.reverse_nil] at kf p1
      simp only [F52L0b, SS, insA, wantedA, Opd.ev, putA, binA, eqbA, unA, fldA, partA, reduceIte, reduceCtorEq, Nat.reduceMod, Nat.reduceDiv, Nat.reduceBEq, resultA, resA, vI, Nat.reduceMul, Nat.reduceAdd, Nat.reduceSub, Nat.reduceEqDiff, Nat.reduceLT, Nat.reducePow, Nat.reduceLeDiff, st, Option.bind_eq_bind, Option.pure_def, List.length_nil, Int.cast_ofNat_Int, List.reverse_nil, UU, idxP, cellsAt, storeA, fillA, zerosA, putAll, optNat, sliceA, row, Int.reduceLT, Int.reduceLE, Int.reduceGT, Int.reduceGE, Int.reduceEq, Int.reduceNe, Int.reduceToNat, Int.reduceBEq, Int.reduceBNe, Nat.reduceLeDiff, Nat.reduceLT, Nat.reduceBNe, Nat.reduceGT, List.drop_nil, List.take_nil, Option.isSome_none, Int.ofNat_one, Int.ofNat_zero, hl, hc, a2, kf, hww, p1]
    · rw [hf] at kf
      by_cases hp : (i + j) % 2 = rest
      · have e : gyrStep rest i j h = turnT h i j := by unfold gyrStep; rw [if_pos ⟨hf, hp⟩]
        have hp2 : ((((i + j) % 2 : Nat) : Int) == r) = true := by rw [hr, hp]; simp
        obtain ⟨b1, b2⟩ := S.in (i := i) (j := j) (by omega) (by omega)
        obtain ⟨id, o, s1, s2, s3⟩ := hT.setT (x := turnV h i j) b1 b2
        rw [hrow, e]
        obtain ⟨R', p1, p2⟩ := ih (j + 1) _ _ (by omega) (by omega) s2 (S.turn hi hj2 hf)
        refine ⟨R', ?_, p2⟩
        rw [un52_0]
        simp only [SS, insA, wantedA, Opd.ev, putA, binA, eqbA, unA, fldA, partA, reduceIte, reduceCtorEq, Nat.reduceMod, Nat.reduceDiv, Nat.reduceBEq, resultA, resA, vI, Nat.reduceMul, Nat.reduceAdd, Nat.reduceSub, Nat.reduceEqDiff, Nat.reduceLT, Nat.reducePow, Nat.reduceLeDiff, st, Option.bind_eq_bind, Option.pure_def, List.length_nil, Int.cast_ofNat_Int, List.reverse_nil] at kf p1 s1
        simp only [F52L0b, SS, insA, wantedA, Opd.ev, putA, binA, eqbA, unA, fldA, partA, reduceIte, reduceCtorEq, Nat.reduceMod, Nat.reduceDiv, Nat.reduceBEq, resultA, resA, vI, Nat.reduceMul, Nat.reduceAdd, Nat.reduceSub, Nat.reduceEqDiff, Nat.reduceLT, Nat.reducePow, Nat.reduceLeDiff, st, Option.bind_eq_bind, Option.pure_def, List.length_nil, Int.cast_ofNat_Int, List.reverse_nil, UU, idxP, cellsAt, fillA, zerosA, putAll, row, Int.reduceLT, Int.reduceLE, Int.reduceGT, Int.reduceGE, Int.reduceEq, Int.reduceNe, Int.reduceToNat, Int.reduceBEq, Int.reduceBNe, Nat.reduceLeDiff, Nat.reduceLT, Nat.reduceBNe, Nat.reduceGT, List.drop_nil, List.take_nil, Option.isSome_none, Int.ofNat_one, Int.ofNat_zero, hl, hc, a2, kf, w1, tmod2, hp2, hT.idx b1, hT.load b1, hT.idx2 b1 b2, s1, hww, p1, and_self, ne_eq, not_false_eq_true, Int.reduceEq]
      · have e : gyrStep rest i j h = h := by unfold gyrStep; rw [if_neg (fun h => hp h.2)]
        have hp2 : ((((i + j) % 2 : Nat) : Int) == r) = false := by rw [hr]; simp; omega
        rw [hrow, e]
        obtain ⟨R', p1, p2⟩ := ih (j + 1) R h (by omega) (by omega) hT S
        refine ⟨R', ?_, p2⟩
        rw [un52_0]
        simp only [SS, insA, wantedA, Opd.ev, putA, binA, eqbA, unA, fldA, partA, reduceIte, reduceCtorEq, Nat.reduceMod, Nat.reduceDiv, Nat.reduceBEq, resultA, resA, vI, Nat.reduceMul, Nat.reduceAdd, Nat.reduceSub, Nat.reduceEqDiff, Nat.reduceLT, Nat.reducePow, Nat.reduceLeDiff, st, Option.bind_eq_bind, Option.pure_def, List.length_nil, Int.cast_ofNat_Int, List.reverse_nil] at kf p1
        simp only [F52L0b, SS, insA, wantedA, Opd.ev, putA, binA, eqbA, unA, fldA, partA, reduceIte, reduceCtorEq, Nat.reduceMod, Nat.reduceDiv, Nat.reduceBEq, resultA, resA, vI, Nat.reduceMul, Nat.reduceAdd, Nat.reduceSub, Nat.reduceEqDiff, Nat.reduceLT, Nat.reducePow, Nat.reduceLeDiff, st, Option.bind_eq_bind, Option.pure_def, List.length_nil, Int.cast_ofNat_Int, List.reverse_nil, UU, idxP, cellsAt, fillA, zerosA, putAll, row, Int.reduceLT, Int.reduceLE, Int.reduceGT, Int.reduceGE, Int.reduceEq, Int.reduceNe, Int.reduceToNat, Int.reduceBEq, Int.reduceBNe, Nat.reduceLeDiff, Nat.reduceLT, Nat.reduceBNe, Nat.reduceGT, List.drop_nil, List.take_nil, Option.isSome_none, Int.ofNat_one, Int.ofNat_zero, hl, hc, a2, kf, w1, tmod2, hp2, hww, p1, and_self, ne_eq, not_false_eq_true, Int.reduceEq]

theorem L52_1 {v vt : AV} {t : List (List Int)} {n rest k : Nat} {r : Int} {cells : List AV} (ht : IsTab vt t) (hn : t.length = n) (hr : r = rest) (d : Nat) : ∀ (i : Nat) (R : Heap) (h : List (List Int)), 1 ≤ i → i + d = n → HTab k R v h cells → Steep n h →
    ∃ R', lp EV Y F52L1 (sp 56 [(6, vI i), (5, vI r), (4, v), (0, vt)]) R = some (.x 2, sp 56 [(5, vI r), (4, v), (0, vt)], R') ∧ HTab k R' v (gyrAll n rest i d h) cells := by
  have hl := ht.len
  rw [hn] at hl
  induction d with
  | zero =>
    intro i R h h1 hi hT S
    have : ¬ ((i : Int) < (n : Int)) := by omega
    refine ⟨R, ?_, hT⟩
    rw [un52_1]
    simp only [F52L1b, SS, insA, wantedA, Opd.ev, putA, binA, eqbA, unA, fldA, partA, reduceIte, reduceCtorEq, Nat.reduceMod, Nat.reduceDiv, Nat.reduceBEq, resultA, resA, vI, Nat.reduceMul, Nat.reduceAdd, Nat.reduceSub, Nat.reduceEqDiff, Nat.reduceLT, Nat.reducePow, Nat.reduceLeDiff, st, Option.bind_eq_bind, Option.pure_def, List.length_nil, Int.cast_ofNat_Int, List.reverse_nil, UU, idxP, cellsAt, storeA, fillA, zerosA, putAll, optNat, sliceA, row, Int.reduceLT, Int.reduceLE, Int.reduceGT, Int.reduceGE, Int.reduceEq, Int.reduceNe, Int.reduceToNat, Int.reduceBEq, Int.reduceBNe, Nat.reduceLeDiff, Nat.reduceLT, Nat.reduceBNe, Nat.reduceGT, List.drop_nil, List.take_nil, Option.isSome_none, Int.ofNat_one, Int.ofNat_zero, hl, this]
  | succ d ih =>
    intro i R h h1 hi hT S
    have h5 := S.n5
    have hc : (i : Int) < (n : Int) := by omega
    have hww := wrap_succ (n := i) (by omega)
    obtain ⟨R1, a1, a2⟩ := L52_0 (Y := Y) ht hn hr (show 1 ≤ i ∧ i < n by omega) (n - 1) 1 R h (by omega) (by omega) hT S
    obtain ⟨R', p1, p2⟩ := ih (i + 1) R1 _ (by omega) (by omega) a2 (S.gyrRow ⟨h1, by omega⟩ (n - 1) 1 (by omega) (by omega))
    refine ⟨R', ?_, p2⟩
    rw [un52_1]
    simp only [SS, insA, wantedA, Opd.ev, putA, binA, eqbA, unA, fldA, partA, reduceIte, reduceCtorEq, Nat.reduceMod, Nat.reduceDiv, Nat.reduceBEq, resultA, resA, vI, Nat.reduceMul, Nat.reduceAdd, Nat.reduceSub, Nat.reduceEqDiff, Nat.reduceLT, Nat.reducePow, Nat.reduceLeDiff, st, Option.bind_eq_bind, Option.pure_def, List.length_nil, Int.cast_ofNat_Int, List.reverse_nil, Int.ofNat_one] at a1 p1
    simp only [F52L1b, F52T0, in52_0, SS, insA, wantedA, Opd.ev, putA, binA, eqbA, unA, fldA, partA, reduceIte, reduceCtorEq, Nat.reduceMod, Nat.reduceDiv, Nat.reduceBEq, resultA, resA, vI, Nat.reduceMul, Nat.reduceAdd, Nat.reduceSub, Nat.reduceEqDiff, Nat.reduceLT, Nat.reducePow, Nat.reduceLeDiff, st, Option.bind_eq_bind, Option.pure_def, List.length_nil, Int.cast_ofNat_Int, List.reverse_nil, UU, idxP, cellsAt, storeA, fillA, zerosA, putAll, optNat, sliceA, row, Int.reduceLT, Int.reduceLE, Int.reduceGT, Int.reduceGE, Int.reduceEq, Int.reduceNe, Int.reduceToNat, Int.reduceBEq, Int.reduceBNe, Nat.reduceLeDiff, Nat.reduceLT, Nat.reduceBNe, Nat.reduceGT, List.drop_nil, List.take_nil, Option.isSome_none, Int.ofNat_one, Int.ofNat_zero, hl, hc, a1, hww, p1]

theorem gyrate52 {vt : AV} {t : List (List Int)} (ht : IsTab vt t) (hs : Small t) :
    (readOk t = true → ∃ w, IsTab w (vOf t.length (gyr t.length (hgtT t))) ∧ ∀ H, freeX H (callL EV Y 52 [vt] []) = some (.tup [w, vI 0], H)) ∧ (readOk t = false → ∀ H, freeX H (callL EV Y 52 [vt] []) = some (.tup [.nils, vI 2], H)) := by
  have k := fun H => isveil26 (Y := Y) (H := H) ht hs
  rw [ref_read] at k
  constructor
  · intro ho
    have hv := veil_iff.1 ho
    have S := hv.steep
    have h1 := hv.n1
    have h5 := hv.n5
    rw [ho] at k
    obtain ⟨v, R, cells, q1, q2, _⟩ := heights_tab (Y := Y) ht hv []
    obtain ⟨R1, b1, b2⟩ := L52_1 (Y := Y) ht rfl (rest := 1) (r := 1) rfl (t.length - 1) 1 R _ (by omega) (by omega) q2 S
    obtain ⟨R2, c1, c2⟩ := L52_1 (Y := Y) ht rfl (rest := 0) (r := 0) rfl (t.length - 1) 1 R1 _ (by omega) (by omega) b2 (S.gyrAll (t.length - 1) 1 (by omega) (by omega))
    obtain ⟨w2, d1, d2, _⟩ := snap_if (b := 59) c2
    obtain ⟨w3, e1, e2, e3⟩ := table_steep (Y := Y) d1 S.gyr
    have w1 : IntKind.wrap .i64 (1 - 1) = 0 := by rw [wrap_id] <;> omega
    have w2' : IntKind.wrap .i64 (0 - 1) = -1 := by rw [wrap_id] <;> omega
    refine ⟨w3, e1, fun H => ?_⟩
    rw [call52 rfl]
    simp only [SS, insA, wantedA, Opd.ev, putA, binA, eqbA, unA, fldA, partA, reduceIte, reduceCtorEq, Nat.reduceMod, Nat.reduceDiv, Nat.reduceBEq, resultA, resA, vI, Nat.reduceMul, Nat.reduceAdd, Nat.reduceSub, Nat.reduceEqDiff, Nat.reduceLT, Nat.reducePow, Nat.reduceLeDiff, st, Option.bind_eq_bind, Option.pure_def, List.length_nil, Int.cast_ofNat_Int, List.reverse_nil, Int.ofNat_one] at b1 c1
    simp only [F52B, in52_2, SS, insA, wantedA, Opd.ev, putA, binA, eqbA, unA, fldA, partA, reduceIte, reduceCtorEq, Nat.reduceMod, Nat.reduceDiv, Nat.reduceBEq, resultA, resA, vI, Nat.reduceMul, Nat.reduceAdd, Nat.reduceSub, Nat.reduceEqDiff, Nat.reduceLT, Nat.reducePow, Nat.reduceLeDiff, st, Option.bind_eq_bind, Option.pure_def, List.length_nil, Int.cast_ofNat_Int, List.reverse_nil, UU, idxP, cellsAt, storeA, fillA, zerosA, putAll, optNat, sliceA, row, Int.reduceLT, Int.reduceLE, Int.reduceGT, Int.reduceGE, Int.reduceEq, Int.reduceNe, Int.reduceToNat, Int.reduceBEq, Int.reduceBNe, Nat.reduceLeDiff, Nat.reduceLT, Nat.reduceBNe, Nat.reduceGT, List.drop_nil, List.take_nil, Option.isSome_none, Int.ofNat_one, Int.ofNat_zero, ht.snap, k, q1]
    rw [un52_2]
    simp only [F52L2b, F52T1, in52_1, SS, insA, wantedA, Opd.ev, putA, binA, eqbA, unA, fldA, partA, reduceIte, reduceCtorEq, Nat.reduceMod, Nat.reduceDiv, Nat.reduceBEq, resultA, resA, vI, Nat.reduceMul, Nat.reduceAdd, Nat.reduceSub, Nat.reduceEqDiff, Nat.reduceLT, Nat.reducePow, Nat.reduceLeDiff, st, Option.bind_eq_bind, Option.pure_def, List.length_nil, Int.cast_ofNat_Int, List.reverse_nil, UU, idxP, cellsAt, storeA, fillA, zerosA, putAll, optNat, sliceA, row, Int.reduceLT, Int.reduceLE, Int.reduceGT, Int.reduceGE, Int.reduceEq, Int.reduceNe, Int.reduceToNat, Int.reduceBEq, Int.reduceBNe, Nat.reduceLeDiff, Nat.reduceLT, Nat.reduceBNe, Nat.reduceGT, List.drop_nil, List.take_nil, Option.isSome_none, Int.ofNat_one, Int.ofNat_zero, b1, w1]
    rw [un52_2]
    simp only [F52L2b, F52T1, in52_1, SS, insA, wantedA, Opd.ev, putA, binA, eqbA, unA, fldA, partA, reduceIte, reduceCtorEq, Nat.reduceMod, Nat.reduceDiv, Nat.reduceBEq, resultA, resA, vI, Nat.reduceMul, Nat.reduceAdd, Nat.reduceSub, Nat.reduceEqDiff, Nat.reduceLT, Nat.reducePow, Nat.reduceLeDiff, st, Option.bind_eq_bind, Option.pure_def, List.length_nil, Int.cast_ofNat_Int, List.reverse_nil, UU, idxP, cellsAt, storeA, fillA, zerosA, putAll, optNat, sliceA, row, Int.reduceLT, Int.reduceLE, Int.reduceGT, Int.reduceGE, Int.reduceEq, Int.reduceNe, Int.reduceToNat, Int.reduceBEq, Int.reduceBNe, Nat.reduceLeDiff, Nat.reduceLT, Nat.reduceBNe, Nat.reduceGT, List.drop_nil, List.take_nil, Option.isSome_none, Int.ofNat_one, Int.ofNat_zero, c1, w2']
    rw [un52_2]
    simp only [F52L2b, F52T2, SS, insA, wantedA, Opd.ev, putA, binA, eqbA, unA, fldA, partA, reduceIte, reduceCtorEq, Nat.reduceMod, Nat.reduceDiv, Nat.reduceBEq, resultA, resA, vI, Nat.reduceMul, Nat.reduceAdd, Nat.reduceSub, Nat.reduceEqDiff, Nat.reduceLT, Nat.reducePow, Nat.reduceLeDiff, st, Option.bind_eq_bind, Option.pure_def, List.length_nil, Int.cast_ofNat_Int, List.reverse_nil, UU, idxP, cellsAt, storeA, fillA, zerosA, putAll, optNat, sliceA, row, Int.reduceLT, Int.reduceLE, Int.reduceGT, Int.reduceGE, Int.reduceEq, Int.reduceNe, Int.reduceToNat, Int.reduceBEq, Int.reduceBNe, Nat.reduceLeDiff, Nat.reduceLT, Nat.reduceBNe, Nat.reduceGT, List.drop_nil, List.take_nil, Option.isSome_none, Int.ofNat_one, Int.ofNat_zero, d2, e2, e3]
  · intro ho H
    rw [ho] at k
    rw [call52 rfl]
    simp only [F52B, SS, insA, wantedA, Opd.ev, putA, binA, eqbA, unA, fldA, partA, reduceIte, reduceCtorEq, Nat.reduceMod, Nat.reduceDiv, Nat.reduceBEq, resultA, resA, vI, Nat.reduceMul, Nat.reduceAdd, Nat.reduceSub, Nat.reduceEqDiff, Nat.reduceLT, Nat.reducePow, Nat.reduceLeDiff, st, Option.bind_eq_bind, Option.pure_def, List.length_nil, Int.cast_ofNat_Int, List.reverse_nil, UU, idxP, cellsAt, storeA, fillA, zerosA, putAll, optNat, sliceA, row, Int.reduceLT, Int.reduceLE, Int.reduceGT, Int.reduceGE, Int.reduceEq, Int.reduceNe, Int.reduceToNat, Int.reduceBEq, Int.reduceBNe, Nat.reduceLeDiff, Nat.reduceLT, Nat.reduceBNe, Nat.reduceGT, List.drop_nil, List.take_nil, Option.isSome_none, Int.ofNat_one, Int.ofNat_zero, ht.snap, k]
end
end Go.X
