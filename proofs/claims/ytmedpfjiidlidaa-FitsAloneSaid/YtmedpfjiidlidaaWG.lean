import Derived.Test.YtmedpfjiidlidaaWF
/-! Fashions alone: the law. -/
set_option linter.unusedSimpArgs false
set_option linter.unusedVariables false
set_option maxHeartbeats 4000000
set_option maxRecDepth 10000
namespace Go.X
open Go Go.RowKit
section
variable {Y : Run} {H : Heap}

theorem L11_0 {vt : AV} {t : List (List Int)} (ht : IsTab vt t) (hok : okTab t) (hs : Small t) {i : Nat} (hi : i < t.length) (d : Nat) : ∀ (k : Nat) (R : Heap) (L : List (Nat × AV)), k + d = t.length →
    fget L 0 = vt → fget L 3 = vI t.length → fget L 4 = vI i → fget L 5 = vI k →
    ∃ H', lp E2 Y F11L0 (sp 155 L) R = some (.x 2, sp 155 [(4, vI i), (3, vI t.length), (0, vt)], H') := by
  have hn := hok.2.1
  induction d with
  | zero =>
    intro k R L hk g0 g3 g4 g5
    have : ¬ ((k : Int) < (t.length : Int)) := by omega
    refine ⟨R, ?_⟩
    rw [un11_0, F11L0b_eq]
    have hkp := fun (L : List (Nat × AV)) (h0 : fget L 0 = vt) (h3 : fget L 3 = vI t.length) (h4 : fget L 4 = vI i) => keep25 (n := 155) h0 h3 h4
    simp only [SS, insA, wantedA, Opd.ev, putA, binA, eqbA, unA, fldA, partA, reduceIte, reduceCtorEq, Nat.reduceMod, Nat.reduceDiv, Nat.reduceBEq, resultA, resA, vI, Nat.reduceMul, Nat.reduceAdd, Nat.reduceSub, Nat.reduceEqDiff, Nat.reduceLT, Nat.reducePow, Nat.reduceLeDiff, st, Option.bind_eq_bind, Option.pure_def, List.length_nil, Int.cast_ofNat_Int, List.reverse_nil] at g3 g4 g5 hkp
    simp only [F11L0c, SS, insA, wantedA, Opd.ev, putA, binA, eqbA, unA, fldA, partA, reduceIte, reduceCtorEq, Nat.reduceMod, Nat.reduceDiv, Nat.reduceBEq, resultA, resA, vI, Nat.reduceMul, Nat.reduceAdd, Nat.reduceSub, Nat.reduceEqDiff, Nat.reduceLT, Nat.reducePow, Nat.reduceLeDiff, st, Option.bind_eq_bind, Option.pure_def, List.length_nil, Int.cast_ofNat_Int, List.reverse_nil, UU, idxP, cellsAt, storeA, fillA, zerosA, putAll, optNat, sliceA, row, Int.reduceLT, Int.reduceLE, Int.reduceGT, Int.reduceGE, Int.reduceEq, Int.reduceNe, Int.reduceToNat, Int.reduceBEq, Int.reduceBNe, Nat.reduceLeDiff, Nat.reduceLT, Nat.reduceBNe, Nat.reduceGT, List.drop_nil, List.take_nil, Option.isSome_none, Int.ofNat_one, Int.ofNat_zero, fget_fins, fget_fkeep, g0, g3, g4, g5, this]
    rw [hkp]
    all_goals simp only [fget_fins, fget_fkeep, g0, g3, g4, g5, Nat.reduceEqDiff, if_false, if_true, Nat.reducePow, Nat.reduceDiv, Nat.reduceMod]
  | succ d ih =>
    intro k R L hk g0 g3 g4 g5
    have hlt : k < t.length := by omega
    have hc : (k : Int) < (t.length : Int) := by omega
    have hw := wrap_succ (n := k) (by omega)
    have ih := fun R L => ih (k + 1) R L (by omega)
    have ecut : ∀ fr H, codeL E2 Y F11X fr H = thenX (codeL E2 Y (headC 6 F11X) fr H) (codeL E2 Y X11z) := fun fr H => cut 6 F11X fr H
    by_cases hne : i = k
    · subst hne
      rw [un11_0, F11L0b_eq]
      simp only [SS, insA, wantedA, Opd.ev, putA, binA, eqbA, unA, fldA, partA, reduceIte, reduceCtorEq, Nat.reduceMod, Nat.reduceDiv, Nat.reduceBEq, resultA, resA, vI, Nat.reduceMul, Nat.reduceAdd, Nat.reduceSub, Nat.reduceEqDiff, Nat.reduceLT, Nat.reducePow, Nat.reduceLeDiff, st, Option.bind_eq_bind, Option.pure_def, List.length_nil, Int.cast_ofNat_Int, List.reverse_nil] at g3 g4 g5 ih
      simp only [F11L0c, ecut, headC, F11X, SS, insA, wantedA, Opd.ev, putA, binA, eqbA, unA, fldA, partA, reduceIte, reduceCtorEq, Nat.reduceMod, Nat.reduceDiv, Nat.reduceBEq, resultA, resA, vI, Nat.reduceMul, Nat.reduceAdd, Nat.reduceSub, Nat.reduceEqDiff, Nat.reduceLT, Nat.reducePow, Nat.reduceLeDiff, st, Option.bind_eq_bind, Option.pure_def, List.length_nil, Int.cast_ofNat_Int, List.reverse_nil, UU, idxP, cellsAt, storeA, fillA, zerosA, putAll, optNat, sliceA, row, Int.reduceLT, Int.reduceLE, Int.reduceGT, Int.reduceGE, Int.reduceEq, Int.reduceNe, Int.reduceToNat, Int.reduceBEq, Int.reduceBNe, Nat.reduceLeDiff, Nat.reduceLT, Nat.reduceBNe, Nat.reduceGT, List.drop_nil, List.take_nil, Option.isSome_none, Int.ofNat_one, Int.ofNat_zero, fget_fins, fget_fkeep, g0, g3, g4, g5, hc, hw, BEq.rfl]
      apply ih
      all_goals simp only [fget_fins, fget_fkeep, g0, g3, g4, g5, Nat.reduceEqDiff, if_false, if_true, Nat.reducePow, Nat.reduceDiv, Nat.reduceMod]
    · have hne' : ((i : Int) == (k : Int)) = false := by simp; omega
      have hu : ∀ j, (unit t.length j).length = t.length := fun j => by simp [unit]
      have hki : 0 ≤ (t.length : Int) ∧ (t.length : Int) * 8 ≤ 140737488355328 ∧ (t.length : Int) ≤ 9223372036854775807 := by omega
      have hset1 : ((List.replicate t.length (0 : Int)).map vI).set i (.int .i64 1) = (unit t.length i).map vI := by simp [unit, List.map_set]
      have hset2 : ((List.replicate t.length (0 : Int)).map vI).set k (.int .i64 1) = (unit t.length k).map vI := by simp [unit, List.map_set]
      have hil : i + 1 ≤ t.length := hi
      have hkl : k + 1 ≤ t.length := hlt
      have htk1 : List.take t.length ((unit t.length i).map vI) = (unit t.length i).map vI := List.take_of_length_le (by simp [hu])
      have htk2 : List.take t.length ((unit t.length k).map vI) = (unit t.length k).map vI := List.take_of_length_le (by simp [hu])
      have hz := zeros_int (n := t.length)
      simp only [SS, insA, wantedA, Opd.ev, putA, binA, eqbA, unA, fldA, partA, reduceIte, reduceCtorEq, Nat.reduceMod, Nat.reduceDiv, Nat.reduceBEq, resultA, resA, vI, Nat.reduceMul, Nat.reduceAdd, Nat.reduceSub, Nat.reduceEqDiff, Nat.reduceLT, Nat.reducePow, Nat.reduceLeDiff, st, Option.bind_eq_bind, Option.pure_def, List.length_nil, Int.cast_ofNat_Int, List.reverse_nil, UU, idxP, cellsAt, storeA, fillA, zerosA, putAll, optNat, sliceA, row, Int.reduceLT, Int.reduceLE, Int.reduceGT, Int.reduceGE, Int.reduceEq, Int.reduceNe, Int.reduceToNat, Int.reduceBEq, Int.reduceBNe, Nat.reduceLeDiff, Nat.reduceLT, Nat.reduceBNe, Nat.reduceGT, List.drop_nil, List.take_nil, Option.isSome_none, Int.ofNat_one, Int.ofNat_zero] at hz
      have k1 := fun H => freeX_up (Y := Y) E2_up (lasts32 (Y := noRun) (H := H) (dx := 1) ht (by omega) (.imm true (unit t.length i)) (by rw [hu]; omega))
      have k2 := fun H => limit38 (Y := Y) (H := H) (dx := 1) (dy := 1) ht hs (.imm true (unit t.length i)) (by rw [hu]; omega) (.imm true (unit t.length k)) (by rw [hu]; omega)
      obtain ⟨m1, m2, f, e, hf⟩ := alone_lim hok hi hlt hne
      simp only [e, hu] at k2
      have hL1 := alone_lasts hok hi hlt hne
      have hL2 := alone_two hok hi hlt hne
      simp only [err, ask_alone hok hi, Bool.true_and, if_true, hu] at k1
      generalize lastsP t (unit t.length i) = lb at *
      have fin : fairS t i k ∧ f = 0 ∧ 1 ≤ m1 ∧ 1 ≤ m2 ∧ (lb = true ∨ lb = false ∧ t.length ≠ 2) ∨ ¬ fairS t i k ∧ f = 9 ∧ lb = false := by
        rcases hf with ⟨h1, h2, h3, h4⟩ | ⟨h1, h2⟩
        · refine .inl ⟨h1, h2, h3, h4, ?_⟩
          cases hlb : lb
          · right
            refine ⟨rfl, fun h => ?_⟩
            have := hL2 h h1
            rw [hlb] at this; cases this
          · exact .inl rfl
        · refine .inr ⟨h1, h2, ?_⟩
          cases hlb : lb
          · rfl
          · exact absurd (hL1 hlb) h1
      have tl := fun L o0 o1 o2 o3 h0 h3 h4 h5 h8 h9 h10 h11 => tail11 (Y := Y) (L := L) (R := R) (o0 := o0) (o1 := o1) (o2 := o2) (o3 := o3) ht hok hi hlt h0 h3 h4 h5 h8 h9 h10 h11 fin
      rw [un11_0, F11L0b_eq]
      simp only [SS, insA, wantedA, Opd.ev, putA, binA, eqbA, unA, fldA, partA, reduceIte, reduceCtorEq, Nat.reduceMod, Nat.reduceDiv, Nat.reduceBEq, resultA, resA, vI, Nat.reduceMul, Nat.reduceAdd, Nat.reduceSub, Nat.reduceEqDiff, Nat.reduceLT, Nat.reducePow, Nat.reduceLeDiff, st, Option.bind_eq_bind, Option.pure_def, List.length_nil, Int.cast_ofNat_Int, List.reverse_nil] at g3 g4 g5 k1 k2 ih
      simp only [F11L0c, ecut, SS, insA, wantedA, Opd.ev, putA, binA, eqbA, unA, fldA, partA, reduceIte, reduceCtorEq, Nat.reduceMod, Nat.reduceDiv, Nat.reduceBEq, resultA, resA, vI, Nat.reduceMul, Nat.reduceAdd, Nat.reduceSub, Nat.reduceEqDiff, Nat.reduceLT, Nat.reducePow, Nat.reduceLeDiff, st, Option.bind_eq_bind, Option.pure_def, List.length_nil, Int.cast_ofNat_Int, List.reverse_nil, UU, idxP, cellsAt, storeA, fillA, zerosA, putAll, optNat, sliceA, row, Int.reduceLT, Int.reduceLE, Int.reduceGT, Int.reduceGE, Int.reduceEq, Int.reduceNe, Int.reduceToNat, Int.reduceBEq, Int.reduceBNe, Nat.reduceLeDiff, Nat.reduceLT, Nat.reduceBNe, Nat.reduceGT, List.drop_nil, List.take_nil, Option.isSome_none, Int.ofNat_one, Int.ofNat_zero, fget_fins, fget_fkeep, g0, g3, g4, g5, hc]
      simp only [headC, F11X, SS, insA, wantedA, Opd.ev, putA, binA, eqbA, unA, fldA, partA, reduceIte, reduceCtorEq, Nat.reduceMod, Nat.reduceDiv, Nat.reduceBEq, resultA, resA, vI, Nat.reduceMul, Nat.reduceAdd, Nat.reduceSub, Nat.reduceEqDiff, Nat.reduceLT, Nat.reducePow, Nat.reduceLeDiff, st, Option.bind_eq_bind, Option.pure_def, List.length_nil, Int.cast_ofNat_Int, List.reverse_nil, UU, idxP, cellsAt, storeA, fillA, zerosA, putAll, optNat, sliceA, row, Int.reduceLT, Int.reduceLE, Int.reduceGT, Int.reduceGE, Int.reduceEq, Int.reduceNe, Int.reduceToNat, Int.reduceBEq, Int.reduceBNe, Nat.reduceLeDiff, Nat.reduceLT, Nat.reduceBNe, Nat.reduceGT, List.drop_nil, List.take_nil, Option.isSome_none, Int.ofNat_one, Int.ofNat_zero, fget_fins, fget_fkeep, g0, g3, g4, g5, hc, hne', hz, Int.toNat_natCast, Int.natCast_nonneg, hki, hset1, hset2, hil, hkl, hi, hlt, htk1, htk2, hu, List.length_map, List.length_replicate, Nat.mul_one, mapM_snap, ht.snap,
        get_last, set_last, ap2_0, ap2_1, ap3_0, ap3_1, ap3_2, ap4_0, ap4_1, ap4_2, ap4_3, ap5_4, as2_0, as2_1, as3_2, as4_0, as4_1, as4_2, as4_3, as5_4, k1, k2, bne_self_eq_false, BEq.rfl]
      generalize hLL : fins 11 _ _ = LL
      have tl := tl LL ⟨0, (unit t.length i).map vI⟩ ⟨0, (unit t.length k).map vI⟩ ⟨0, [.sl R.length 0 1 0 t.length none, vI 1]⟩ ⟨0, [.sl (R.length + 1) 0 1 0 t.length none, vI 1]⟩
      simp only [SS, insA, wantedA, Opd.ev, putA, binA, eqbA, unA, fldA, partA, reduceIte, reduceCtorEq, Nat.reduceMod, Nat.reduceDiv, Nat.reduceBEq, resultA, resA, vI, Nat.reduceMul, Nat.reduceAdd, Nat.reduceSub, Nat.reduceEqDiff, Nat.reduceLT, Nat.reducePow, Nat.reduceLeDiff, st, Option.bind_eq_bind, Option.pure_def, List.length_nil, Int.cast_ofNat_Int, List.reverse_nil] at tl
      obtain ⟨L', q, a0, a3, a4, a5⟩ := tl
        (by rw [← hLL]; simp only [fget_fins, fget_fkeep, g0, Nat.reduceEqDiff, if_false, if_true, Nat.reducePow, Nat.reduceDiv, Nat.reduceMod])
        (by rw [← hLL]; simp only [fget_fins, fget_fkeep, g3, Nat.reduceEqDiff, if_false, if_true, Nat.reducePow, Nat.reduceDiv, Nat.reduceMod])
        (by rw [← hLL]; simp only [fget_fins, fget_fkeep, g4, Nat.reduceEqDiff, if_false, if_true, Nat.reducePow, Nat.reduceDiv, Nat.reduceMod])
        (by rw [← hLL]; simp only [fget_fins, fget_fkeep, g5, Nat.reduceEqDiff, if_false, if_true, Nat.reducePow, Nat.reduceDiv, Nat.reduceMod])
        (by rw [← hLL]; simp only [fget_fins, Nat.reduceEqDiff, if_false, if_true])
        (by rw [← hLL]; simp only [fget_fins, Nat.reduceEqDiff, if_false, if_true])
        (by rw [← hLL]; simp only [fget_fins, Nat.reduceEqDiff, if_false, if_true])
        (by rw [← hLL]; simp only [fget_fins, Nat.reduceEqDiff, if_false, if_true])
      clear hLL
      simp only [SS, insA, wantedA, Opd.ev, putA, binA, eqbA, unA, fldA, partA, reduceIte, reduceCtorEq, Nat.reduceMod, Nat.reduceDiv, Nat.reduceBEq, resultA, resA, vI, Nat.reduceMul, Nat.reduceAdd, Nat.reduceSub, Nat.reduceEqDiff, Nat.reduceLT, Nat.reducePow, Nat.reduceLeDiff, st, Option.bind_eq_bind, Option.pure_def, List.length_nil, Int.cast_ofNat_Int, List.reverse_nil, UU, idxP, cellsAt, storeA, fillA, zerosA, putAll, optNat, sliceA, row, Int.reduceLT, Int.reduceLE, Int.reduceGT, Int.reduceGE, Int.reduceEq, Int.reduceNe, Int.reduceToNat, Int.reduceBEq, Int.reduceBNe, Nat.reduceLeDiff, Nat.reduceLT, Nat.reduceBNe, Nat.reduceGT, List.drop_nil, List.take_nil, Option.isSome_none, Int.ofNat_one, Int.ofNat_zero, q, fget_fins, fget_fkeep, a0, a3, a4, a5, hw]
      apply ih
      all_goals simp only [fget_fins, fget_fkeep, a0, a3, a4, a5, Nat.reduceEqDiff, if_false, if_true, Nat.reducePow, Nat.reduceDiv, Nat.reduceMod]

theorem L11_1 {vt : AV} {t : List (List Int)} (ht : IsTab vt t) (hok : okTab t) (hs : Small t) (d : Nat) : ∀ (i : Nat) (R : Heap), i + d = t.length →
    ∃ H', lp E2 Y F11L1 (sp 155 [(4, vI i), (3, vI t.length), (0, vt)]) R = some (.x 0, sp 155 [], H') := by
  have hn := hok.2.1
  induction d with
  | zero =>
    intro i R hi
    have : ¬ ((i : Int) < (t.length : Int)) := by omega
    refine ⟨R, ?_⟩
    rw [un11_1]
    simp only [F11L1b, F11T0, SS, insA, wantedA, Opd.ev, putA, binA, eqbA, unA, fldA, partA, reduceIte, reduceCtorEq, Nat.reduceMod, Nat.reduceDiv, Nat.reduceBEq, resultA, resA, vI, Nat.reduceMul, Nat.reduceAdd, Nat.reduceSub, Nat.reduceEqDiff, Nat.reduceLT, Nat.reducePow, Nat.reduceLeDiff, st, Option.bind_eq_bind, Option.pure_def, List.length_nil, Int.cast_ofNat_Int, List.reverse_nil, UU, idxP, cellsAt, storeA, fillA, zerosA, putAll, optNat, sliceA, row, Int.reduceLT, Int.reduceLE, Int.reduceGT, Int.reduceGE, Int.reduceEq, Int.reduceNe, Int.reduceToNat, Int.reduceBEq, Int.reduceBNe, Nat.reduceLeDiff, Nat.reduceLT, Nat.reduceBNe, Nat.reduceGT, List.drop_nil, List.take_nil, Option.isSome_none, Int.ofNat_one, Int.ofNat_zero, this]
  | succ d ih =>
    intro i R hi
    have hlt : i < t.length := by omega
    have hc : (i : Int) < (t.length : Int) := by omega
    have hw := wrap_succ (n := i) (by omega)
    obtain ⟨H', q⟩ := L11_0 (Y := Y) ht hok hs hlt t.length 0 R [(5, vI 0), (4, vI i), (3, vI t.length), (0, vt)] (by omega) rfl rfl rfl rfl
    have ih := ih (i + 1) H' (by omega)
    rw [un11_1]
    simp only [SS, insA, wantedA, Opd.ev, putA, binA, eqbA, unA, fldA, partA, reduceIte, reduceCtorEq, Nat.reduceMod, Nat.reduceDiv, Nat.reduceBEq, resultA, resA, vI, Nat.reduceMul, Nat.reduceAdd, Nat.reduceSub, Nat.reduceEqDiff, Nat.reduceLT, Nat.reducePow, Nat.reduceLeDiff, st, Option.bind_eq_bind, Option.pure_def, List.length_nil, Int.cast_ofNat_Int, List.reverse_nil, Int.ofNat_zero] at q ih
    simp only [F11L1b, F11T0, in11_0, SS, insA, wantedA, Opd.ev, putA, binA, eqbA, unA, fldA, partA, reduceIte, reduceCtorEq, Nat.reduceMod, Nat.reduceDiv, Nat.reduceBEq, resultA, resA, vI, Nat.reduceMul, Nat.reduceAdd, Nat.reduceSub, Nat.reduceEqDiff, Nat.reduceLT, Nat.reducePow, Nat.reduceLeDiff, st, Option.bind_eq_bind, Option.pure_def, List.length_nil, Int.cast_ofNat_Int, List.reverse_nil, UU, idxP, cellsAt, storeA, fillA, zerosA, putAll, optNat, sliceA, row, Int.reduceLT, Int.reduceLE, Int.reduceGT, Int.reduceGE, Int.reduceEq, Int.reduceNe, Int.reduceToNat, Int.reduceBEq, Int.reduceBNe, Nat.reduceLeDiff, Nat.reduceLT, Nat.reduceBNe, Nat.reduceGT, List.drop_nil, List.take_nil, Option.isSome_none, Int.ofNat_one, Int.ofNat_zero, hc, hw, q]
    exact ih

theorem law11 {vt : AV} {t : List (List Int)} (ht : IsTab vt t) : freeX [] (callL E2 Y 11 [vt] []) = some (.bool true, []) := by
  have f := fun H => few15 (Y := noRun) (H := H) ht (.nil) (by simp)
  have ha := fun H => freeX_up (Y := Y) E2_up (alive16 (Y := noRun) (H := H))
  rw [call11 rfl]
  by_cases hf : fewS t []
  · have f1 := fun H => freeX_up (Y := Y) E2_up ((f H).1 hf)
    have kt := fun H => callL_up (Y := Y) E2_up (table34 (Y := noRun) (H := H) ht hf.1)
    by_cases hok : okTab t
    · rw [decide_eq_true hok] at kt
      obtain ⟨H', q⟩ := L11_1 (Y := Y) ht hok hf.1 t.length 0 [] (by omega)
      simp only [SS, insA, wantedA, Opd.ev, putA, binA, eqbA, unA, fldA, partA, reduceIte, reduceCtorEq, Nat.reduceMod, Nat.reduceDiv, Nat.reduceBEq, resultA, resA, vI, Nat.reduceMul, Nat.reduceAdd, Nat.reduceSub, Nat.reduceEqDiff, Nat.reduceLT, Nat.reducePow, Nat.reduceLeDiff, st, Option.bind_eq_bind, Option.pure_def, List.length_nil, Int.cast_ofNat_Int, List.reverse_nil, Int.ofNat_zero] at q
      simp only [F11B, F11T1, in11_1, SS, insA, wantedA, Opd.ev, putA, binA, eqbA, unA, fldA, partA, reduceIte, reduceCtorEq, Nat.reduceMod, Nat.reduceDiv, Nat.reduceBEq, resultA, resA, vI, Nat.reduceMul, Nat.reduceAdd, Nat.reduceSub, Nat.reduceEqDiff, Nat.reduceLT, Nat.reducePow, Nat.reduceLeDiff, st, Option.bind_eq_bind, Option.pure_def, List.length_nil, Int.cast_ofNat_Int, List.reverse_nil, UU, idxP, cellsAt, storeA, fillA, zerosA, putAll, optNat, sliceA, row, Int.reduceLT, Int.reduceLE, Int.reduceGT, Int.reduceGE, Int.reduceEq, Int.reduceNe, Int.reduceToNat, Int.reduceBEq, Int.reduceBNe, Nat.reduceLeDiff, Nat.reduceLT, Nat.reduceBNe, Nat.reduceGT, List.drop_nil, List.take_nil, Option.isSome_none, Int.ofNat_one, Int.ofNat_zero, ht.snap, ht.len, f1, kt, q, ha]
    · rw [decide_eq_false hok] at kt
      simp only [F11B, F11T1, SS, insA, wantedA, Opd.ev, putA, binA, eqbA, unA, fldA, partA, reduceIte, reduceCtorEq, Nat.reduceMod, Nat.reduceDiv, Nat.reduceBEq, resultA, resA, vI, Nat.reduceMul, Nat.reduceAdd, Nat.reduceSub, Nat.reduceEqDiff, Nat.reduceLT, Nat.reducePow, Nat.reduceLeDiff, st, Option.bind_eq_bind, Option.pure_def, List.length_nil, Int.cast_ofNat_Int, List.reverse_nil, UU, idxP, cellsAt, storeA, fillA, zerosA, putAll, optNat, sliceA, row, Int.reduceLT, Int.reduceLE, Int.reduceGT, Int.reduceGE, Int.reduceEq, Int.reduceNe, Int.reduceToNat, Int.reduceBEq, Int.reduceBNe, Nat.reduceLeDiff, Nat.reduceLT, Nat.reduceBNe, Nat.reduceGT, List.drop_nil, List.take_nil, Option.isSome_none, Int.ofNat_one, Int.ofNat_zero, ht.snap, f1, kt, ha]
  · have f2 := fun H => freeX_up (Y := Y) E2_up ((f H).2 hf)
    simp only [F11B, F11T1, SS, insA, wantedA, Opd.ev, putA, binA, eqbA, unA, fldA, partA, reduceIte, reduceCtorEq, Nat.reduceMod, Nat.reduceDiv, Nat.reduceBEq, resultA, resA, vI, Nat.reduceMul, Nat.reduceAdd, Nat.reduceSub, Nat.reduceEqDiff, Nat.reduceLT, Nat.reducePow, Nat.reduceLeDiff, st, Option.bind_eq_bind, Option.pure_def, List.length_nil, Int.cast_ofNat_Int, List.reverse_nil, UU, idxP, cellsAt, storeA, fillA, zerosA, putAll, optNat, sliceA, row, Int.reduceLT, Int.reduceLE, Int.reduceGT, Int.reduceGE, Int.reduceEq, Int.reduceNe, Int.reduceToNat, Int.reduceBEq, Int.reduceBNe, Nat.reduceLeDiff, Nat.reduceLT, Nat.reduceBNe, Nat.reduceGT, List.drop_nil, List.take_nil, Option.isSome_none, Int.ofNat_one, Int.ofNat_zero, ht.snap, f2, ha]
end
end Go.X
