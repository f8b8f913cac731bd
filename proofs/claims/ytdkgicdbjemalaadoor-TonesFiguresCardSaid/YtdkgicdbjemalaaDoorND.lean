import Derived.Test.YtdkgicdbjemalaaDoorNC
/-! Tones: Walks of the specification; the law of figures. -/
set_option linter.unusedSimpArgs false
set_option linter.unusedVariables false
set_option maxHeartbeats 2000000
set_option maxRecDepth 10000
namespace Go.X
open Go Go.RowKit
section
variable {Y : Run}

theorem set_same {l : List Int} {k : Nat} (h : k < l.length) (x : Int) : l.set k (l.getD k 0 + x * 0) = l := by
  apply List.ext_getElem
  · simp
  · intro j h1 h2
    rw [List.getElem_set]
    split
    · rename_i e; subst e; rw [getD_get h]; omega
    · rfl

theorem L45_0 {fr nx nv v6 v7 v9 w1 : AV} {f : List Nat} {i p q : Nat} {now : List Int} (hF : Fr fr f) (hpq : p ≠ q) (hi : i < f.length) (hnow : now.length = f.length) (d : Nat) : ∀ {H : Heap} {next : List Int} (k : Nat), k + d = f.length → next.length = f.length → Rw H nx q next → Rw H nv p now →
    ∃ H', lp ET Y F45L0 (sp 82 [(12, vI k), (11, vI i), (10, nx), (9, v9), (8, nv), (7, v7), (6, v6), (1, w1), (0, fr)]) H =
        some (.x 6, sp 82 [(11, vI i), (10, nx), (9, v9), (8, nv), (7, v7), (6, v6), (1, w1), (0, fr)], H') ∧
      Rw H' nx q ((List.range' k d).foldl (fun next k => next.set k (next.getD k 0 + now.getD i 0 * bt f i k)) next) ∧ Rw H' nv p now ∧ H'.length = H.length := by
  have hn7 := hF.n7
  have hflen := hF.hv.len
  rw [List.length_map] at hflen
  induction d with
  | zero =>
    intro H next k hk hl h1 h2
    refine ⟨H, ?_, by simpa using h1, h2, rfl⟩
    rw [un45_0]
    have : ¬ ((k : Int) < (f.length : Int)) := by omega
    simp only [F45L0b, SS, insA, wantedA, Opd.ev, putA, binA, eqbA, unA, fldA, partA, reduceIte, reduceCtorEq, Nat.reduceMod, Nat.reduceDiv, Nat.reduceBEq, resultA, resA, vI, Nat.reduceMul, Nat.reduceAdd, Nat.reduceSub, Nat.reduceEqDiff, Nat.reduceLT, Nat.reducePow, Nat.reduceLeDiff, st, Option.bind_eq_bind, Option.pure_def, List.length_nil, Int.cast_ofNat_Int, List.reverse_nil, UU, idxP, cellsAt, storeA, fillA, zerosA, putAll, optNat, sliceA, row, Int.reduceLT, Int.reduceLE, Int.reduceGT, Int.reduceGE, Int.reduceEq, Int.reduceNe, Int.reduceToNat, Int.reduceBEq, Int.reduceBNe, Nat.reduceLeDiff, Nat.reduceLT, Nat.reduceBNe, Nat.reduceGT, List.drop_nil, List.take_nil, Option.isSome_none, Int.ofNat_one, Int.ofNat_zero, hflen, this]
  | succ d ih =>
    intro H next k hk hl h1 h2
    have hc : (k : Int) < (f.length : Int) := by omega
    have hw := wrap_succ (n := k) (by omega)
    have hp2 : (0 : Int) ≤ (k : Int) := by omega
    have hs2 := shr_eq (k := k) (by omega)
    have h20 : (2 : Int) ≠ 0 := by decide
    have hip := hF.hv.idx (i := i) (by simpa using hi)
    have hlp := hF.hv.load (H := H) (i := i) (by simpa using hi)
    rw [getD_nat hi] at hlp
    have ht := tmod_emod (sh_nonneg (x := ((f.getD i 0 : Nat) : Int)) (by omega) k)
    have q0 := sh_beq (f.getD i 0) k
    rw [un45_0, List.range'_succ, List.foldl_cons]
    cases hb : (f.getD i 0).testBit k with
    | false =>
      rw [hb] at q0
      have e0 : bt f i k = 0 := by unfold bt; rw [hb]; rfl
      rw [e0, set_same (by omega)]
      obtain ⟨H', e2, r4, r5, r6⟩ := ih (k + 1) (by omega) hl h1 h2
      refine ⟨H', ?_, r4, r5, r6⟩
      simp only [SS, insA, wantedA, Opd.ev, putA, binA, eqbA, unA, fldA, partA, reduceIte, reduceCtorEq, Nat.reduceMod, Nat.reduceDiv, Nat.reduceBEq, resultA, resA, vI, Nat.reduceMul, Nat.reduceAdd, Nat.reduceSub, Nat.reduceEqDiff, Nat.reduceLT, Nat.reducePow, Nat.reduceLeDiff, st, Option.bind_eq_bind, Option.pure_def, List.length_nil, Int.cast_ofNat_Int, List.reverse_nil] at e2
      simp only [F45L0b, SS, insA, wantedA, Opd.ev, putA, binA, eqbA, unA, fldA, partA, reduceIte, reduceCtorEq, Nat.reduceMod, Nat.reduceDiv, Nat.reduceBEq, resultA, resA, vI, Nat.reduceMul, Nat.reduceAdd, Nat.reduceSub, Nat.reduceEqDiff, Nat.reduceLT, Nat.reducePow, Nat.reduceLeDiff, st, Option.bind_eq_bind, Option.pure_def, List.length_nil, Int.cast_ofNat_Int, List.reverse_nil, UU, idxP, cellsAt, storeA, fillA, zerosA, putAll, optNat, sliceA, row, Int.reduceLT, Int.reduceLE, Int.reduceGT, Int.reduceGE, Int.reduceEq, Int.reduceNe, Int.reduceToNat, Int.reduceBEq, Int.reduceBNe, Nat.reduceLeDiff, Nat.reduceLT, Nat.reduceBNe, Nat.reduceGT, List.drop_nil, List.take_nil, Option.isSome_none, Int.ofNat_one, Int.ofNat_zero, hflen, hc, hw, hp2, hs2, h20, ht, hip, hlp, q0, e2, ne_eq, not_false_eq_true, and_self]
    | true =>
      rw [hb] at q0
      have e0 : bt f i k = 1 := by unfold bt; rw [hb]; rfl
      have i1 := h1.gro.idx (i := k) (by omega)
      have l1 := h1.gro.load (i := k) (by omega)
      rw [getD_wr (by omega)] at l1
      have i2 := h2.gro.idx (i := i) (by omega)
      have l2 := h2.gro.load (i := i) (by omega)
      rw [getD_wr (by omega)] at l2
      rw [e0, Int.mul_one]
      obtain ⟨H1, e1, r1, r2, r3⟩ := h1.st (i := k) (by omega) (next.getD k 0 + now.getD i 0)
      have w2 := wr_add (next.getD k 0) (now.getD i 0)
      obtain ⟨H', e2, r4, r5, r6⟩ := ih (k + 1) (by omega) (by simp [hl]) r1 (r2 _ _ _ hpq h2)
      refine ⟨H', ?_, r4, r5, by omega⟩
      simp only [vW, wr, SS, insA, wantedA, Opd.ev, putA, binA, eqbA, unA, fldA, partA, reduceIte, reduceCtorEq, Nat.reduceMod, Nat.reduceDiv, Nat.reduceBEq, resultA, resA, vI, Nat.reduceMul, Nat.reduceAdd, Nat.reduceSub, Nat.reduceEqDiff, Nat.reduceLT, Nat.reducePow, Nat.reduceLeDiff, st, Option.bind_eq_bind, Option.pure_def, List.length_nil, Int.cast_ofNat_Int, List.reverse_nil] at e1 e2 l1 l2 w2
      simp only [F45L0b, SS, insA, wantedA, Opd.ev, putA, binA, eqbA, unA, fldA, partA, reduceIte, reduceCtorEq, Nat.reduceMod, Nat.reduceDiv, Nat.reduceBEq, resultA, resA, vI, Nat.reduceMul, Nat.reduceAdd, Nat.reduceSub, Nat.reduceEqDiff, Nat.reduceLT, Nat.reducePow, Nat.reduceLeDiff, st, Option.bind_eq_bind, Option.pure_def, List.length_nil, Int.cast_ofNat_Int, List.reverse_nil, UU, idxP, cellsAt, fillA, zerosA, putAll, row, Int.reduceLT, Int.reduceLE, Int.reduceGT, Int.reduceGE, Int.reduceEq, Int.reduceNe, Int.reduceToNat, Int.reduceBEq, Int.reduceBNe, Nat.reduceLeDiff, Nat.reduceLT, Nat.reduceBNe, Nat.reduceGT, List.drop_nil, List.take_nil, Option.isSome_none, Int.ofNat_one, Int.ofNat_zero, hflen, hc, hw, hp2, hs2, h20, ht, hip, hlp, q0, i1, l1, i2, l2, w2, e1, e2, ne_eq, not_false_eq_true, and_self]

theorem L45_1 {fr nx nv v6 v7 v9 w1 : AV} {f : List Nat} {p q : Nat} {now : List Int} (hF : Fr fr f) (hpq : p ≠ q) (hnow : now.length = f.length) (d : Nat) : ∀ {H : Heap} {next : List Int} (i : Nat), i + d = f.length → next.length = f.length → Rw H nx q next → Rw H nv p now →
    ∃ H', lp ET Y F45L1 (sp 82 [(11, vI i), (10, nx), (9, v9), (8, nv), (7, v7), (6, v6), (1, w1), (0, fr)]) H =
        some (.x 4, sp 82 [(10, nx), (9, v9), (7, v7), (6, v6), (1, w1), (0, fr)], H') ∧
      Rw H' nx q ((List.range' i d).foldl (fun next i => wk1 f f.length now next i) next) ∧ H'.length = H.length := by
  have hn7 := hF.n7
  have hflen := hF.hv.len
  rw [List.length_map] at hflen
  induction d with
  | zero =>
    intro H next i hk hl h1 h2
    refine ⟨H, ?_, by simpa using h1, rfl⟩
    rw [un45_1]
    have : ¬ ((i : Int) < (f.length : Int)) := by omega
    simp only [F45L1b, SS, insA, wantedA, Opd.ev, putA, binA, eqbA, unA, fldA, partA, reduceIte, reduceCtorEq, Nat.reduceMod, Nat.reduceDiv, Nat.reduceBEq, resultA, resA, vI, Nat.reduceMul, Nat.reduceAdd, Nat.reduceSub, Nat.reduceEqDiff, Nat.reduceLT, Nat.reducePow, Nat.reduceLeDiff, st, Option.bind_eq_bind, Option.pure_def, List.length_nil, Int.cast_ofNat_Int, List.reverse_nil, UU, idxP, cellsAt, storeA, fillA, zerosA, putAll, optNat, sliceA, row, Int.reduceLT, Int.reduceLE, Int.reduceGT, Int.reduceGE, Int.reduceEq, Int.reduceNe, Int.reduceToNat, Int.reduceBEq, Int.reduceBNe, Nat.reduceLeDiff, Nat.reduceLT, Nat.reduceBNe, Nat.reduceGT, List.drop_nil, List.take_nil, Option.isSome_none, Int.ofNat_one, Int.ofNat_zero, hflen, this]
  | succ d ih =>
    intro H next i hk hl h1 h2
    have hi : i < f.length := by omega
    have hc : (i : Int) < (f.length : Int) := by omega
    have hw := wrap_succ (n := i) (by omega)
    obtain ⟨H1, e1, r1, r2, r3⟩ := L45_0 (Y := Y) (v6 := v6) (v7 := v7) (v9 := v9) (w1 := w1) hF hpq hi hnow f.length 0 (by omega) hl h1 h2
    rw [← List.range_eq_range'] at r1
    obtain ⟨H', e2, r4, r6⟩ := ih (i + 1) (by omega) (wk1_len f f.length now next i f.length hl) r1 r2
    refine ⟨H', ?_, by rw [List.range'_succ, List.foldl_cons]; exact r4, by omega⟩
    rw [un45_1]
    simp only [SS, insA, wantedA, Opd.ev, putA, binA, eqbA, unA, fldA, partA, reduceIte, reduceCtorEq, Nat.reduceMod, Nat.reduceDiv, Nat.reduceBEq, resultA, resA, vI, Nat.reduceMul, Nat.reduceAdd, Nat.reduceSub, Nat.reduceEqDiff, Nat.reduceLT, Nat.reducePow, Nat.reduceLeDiff, st, Option.bind_eq_bind, Option.pure_def, List.length_nil, Int.cast_ofNat_Int, List.reverse_nil, Int.ofNat_zero] at e1 e2
    simp only [F45L1b, F45T0, in45_0, SS, insA, wantedA, Opd.ev, putA, binA, eqbA, unA, fldA, partA, reduceIte, reduceCtorEq, Nat.reduceMod, Nat.reduceDiv, Nat.reduceBEq, resultA, resA, vI, Nat.reduceMul, Nat.reduceAdd, Nat.reduceSub, Nat.reduceEqDiff, Nat.reduceLT, Nat.reducePow, Nat.reduceLeDiff, st, Option.bind_eq_bind, Option.pure_def, List.length_nil, Int.cast_ofNat_Int, List.reverse_nil, UU, idxP, cellsAt, storeA, fillA, zerosA, putAll, optNat, sliceA, row, Int.reduceLT, Int.reduceLE, Int.reduceGT, Int.reduceGE, Int.reduceEq, Int.reduceNe, Int.reduceToNat, Int.reduceBEq, Int.reduceBNe, Nat.reduceLeDiff, Nat.reduceLT, Nat.reduceBNe, Nat.reduceGT, List.drop_nil, List.take_nil, Option.isSome_none, Int.ofNat_one, Int.ofNat_zero, hc, hw, hflen, e1, e2]

theorem L45_2 {fr v6 v7 : AV} {f : List Nat} {stp : Nat} (hF : Fr fr f) (hst : stp ≤ 16) (d : Nat) : ∀ {H : Heap} {nv : AV} {p : Nat} {now : List Int} (s : Nat), s + d = stp → now.length = f.length → Rw H nv p now →
    ∃ H' nv' p', lp ET Y F45L2 (sp 82 [(9, vI s), (8, nv), (7, v7), (6, v6), (1, vI stp), (0, fr)]) H =
        some (.x 2, sp 82 [(8, nv'), (7, v7), (6, v6), (1, vI stp), (0, fr)], H') ∧ Rw H' nv' p' (wkS f f.length d now) := by
  have hn7 := hF.n7
  have hflen := hF.hv.len
  rw [List.length_map] at hflen
  induction d with
  | zero =>
    intro H nv p now s hs hl h
    refine ⟨H, nv, p, ?_, h⟩
    rw [un45_2]
    have : ¬ ((s : Int) < (stp : Int)) := by omega
    simp only [F45L2b, SS, insA, wantedA, Opd.ev, putA, binA, eqbA, unA, fldA, partA, reduceIte, reduceCtorEq, Nat.reduceMod, Nat.reduceDiv, Nat.reduceBEq, resultA, resA, vI, Nat.reduceMul, Nat.reduceAdd, Nat.reduceSub, Nat.reduceEqDiff, Nat.reduceLT, Nat.reducePow, Nat.reduceLeDiff, st, Option.bind_eq_bind, Option.pure_def, List.length_nil, Int.cast_ofNat_Int, List.reverse_nil, UU, idxP, cellsAt, storeA, fillA, zerosA, putAll, optNat, sliceA, row, Int.reduceLT, Int.reduceLE, Int.reduceGT, Int.reduceGE, Int.reduceEq, Int.reduceNe, Int.reduceToNat, Int.reduceBEq, Int.reduceBNe, Nat.reduceLeDiff, Nat.reduceLT, Nat.reduceBNe, Nat.reduceGT, List.drop_nil, List.take_nil, Option.isSome_none, Int.ofNat_one, Int.ofNat_zero, this]
  | succ d ih =>
    intro H nv p now s hs hl h
    have hc : (s : Int) < (stp : Int) := by omega
    have hw := wrap_succ (n := s) (by omega)
    have hki : (0 : Int) ≤ (f.length : Int) ∧ (f.length : Int) * 8 ≤ 140737488355328 ∧ (f.length : Int) ≤ 9223372036854775807 := by omega
    have hzr := zeros_int (n := f.length)
    have hfr := Rw.fresh H f.length
    obtain ⟨H1, e1, r1, r2⟩ := L45_1 (Y := Y) (v6 := v6) (v7 := v7) (v9 := vI s) (w1 := vI stp) hF (by have := hlt_of h.2; omega) hl f.length 0 (by omega) (by simp) hfr (h.add _)
    rw [← List.range_eq_range'] at r1
    obtain ⟨H', nv', p', e2, r4⟩ := ih (s + 1) (by omega) (wk2_len f f.length now) r1
    refine ⟨H', nv', p', ?_, r4⟩
    rw [un45_2]
    generalize hZ : List.map vI (List.replicate f.length (0 : Int)) = Z at *
    simp only [SS, insA, wantedA, Opd.ev, putA, binA, eqbA, unA, fldA, partA, reduceIte, reduceCtorEq, Nat.reduceMod, Nat.reduceDiv, Nat.reduceBEq, resultA, resA, vI, Nat.reduceMul, Nat.reduceAdd, Nat.reduceSub, Nat.reduceEqDiff, Nat.reduceLT, Nat.reducePow, Nat.reduceLeDiff, st, Option.bind_eq_bind, Option.pure_def, List.length_nil, Int.cast_ofNat_Int, List.reverse_nil, Int.ofNat_zero] at e1 e2 hzr
    simp only [F45L2b, F45T1, F45T2, in45_1, SS, insA, wantedA, Opd.ev, putA, binA, eqbA, unA, fldA, partA, reduceIte, reduceCtorEq, Nat.reduceMod, Nat.reduceDiv, Nat.reduceBEq, resultA, resA, vI, Nat.reduceMul, Nat.reduceAdd, Nat.reduceSub, Nat.reduceEqDiff, Nat.reduceLT, Nat.reducePow, Nat.reduceLeDiff, st, Option.bind_eq_bind, Option.pure_def, List.length_nil, Int.cast_ofNat_Int, List.reverse_nil, UU, idxP, cellsAt, storeA, fillA, putAll, optNat, sliceA, row, Int.reduceLT, Int.reduceLE, Int.reduceGT, Int.reduceGE, Int.reduceEq, Int.reduceNe, Int.reduceToNat, Int.reduceBEq, Int.reduceBNe, Nat.reduceLeDiff, Nat.reduceLT, Nat.reduceBNe, Nat.reduceGT, List.drop_nil, List.take_nil, Option.isSome_none, Int.ofNat_one, Int.ofNat_zero, hc, hw, hflen, hki, hzr, Int.toNat_natCast, Int.natCast_nonneg, Nat.mul_one, e1, e2]

theorem L45_3 {fr : AV} {f : List Nat} {stp : Nat} (hF : Fr fr f) (hst : stp ≤ 16) (d : Nat) : ∀ {H : Heap} {out : Int} (a : Nat), a + d = f.length →
    ∃ H', lp ET Y F45L3 (sp 82 [(7, vI a), (6, vW out), (1, vI stp), (0, fr)]) H =
        some (.x 0, sp 82 [(6, vW ((List.range' a d).foldl (fun out a => out + (wkS f f.length stp ((List.replicate f.length 0).set a 1)).getD a 0) out))], H') := by
  have hn7 := hF.n7
  have hflen := hF.hv.len
  rw [List.length_map] at hflen
  induction d with
  | zero =>
    intro H out a hs
    refine ⟨H, ?_⟩
    rw [un45_3]
    have : ¬ ((a : Int) < (f.length : Int)) := by omega
    simp only [F45L3b, SS, insA, wantedA, Opd.ev, putA, binA, eqbA, unA, fldA, partA, reduceIte, reduceCtorEq, Nat.reduceMod, Nat.reduceDiv, Nat.reduceBEq, resultA, resA, vI, Nat.reduceMul, Nat.reduceAdd, Nat.reduceSub, Nat.reduceEqDiff, Nat.reduceLT, Nat.reducePow, Nat.reduceLeDiff, st, Option.bind_eq_bind, Option.pure_def, List.length_nil, Int.cast_ofNat_Int, List.reverse_nil, UU, idxP, cellsAt, storeA, fillA, zerosA, putAll, optNat, sliceA, row, Int.reduceLT, Int.reduceLE, Int.reduceGT, Int.reduceGE, Int.reduceEq, Int.reduceNe, Int.reduceToNat, Int.reduceBEq, Int.reduceBNe, Nat.reduceLeDiff, Nat.reduceLT, Nat.reduceBNe, Nat.reduceGT, List.drop_nil, List.take_nil, Option.isSome_none, Int.ofNat_one, Int.ofNat_zero, hflen, this, List.range'_zero, List.foldl_nil]
  | succ d ih =>
    intro H out a hs
    have hc : (a : Int) < (f.length : Int) := by omega
    have hw := wrap_succ (n := a) (by omega)
    have hki : (0 : Int) ≤ (f.length : Int) ∧ (f.length : Int) * 8 ≤ 140737488355328 ∧ (f.length : Int) ≤ 9223372036854775807 := by omega
    have hzr := zeros_int (n := f.length)
    have hfr := Rw.fresh H f.length
    have i1 := hfr.gro.idx (i := a) (by simp; omega)
    obtain ⟨H1, e1, r1, r2, r3⟩ := hfr.st (i := a) (by simp; omega) 1
    have e01 : vW 1 = vI 1 := by simp [vW, wr, IntKind.wrap_i64]
    rw [e01] at e1
    obtain ⟨H2, nv, p, e2, r4⟩ := L45_2 (Y := Y) (v6 := vW out) (v7 := vI a) hF hst stp 0 (by omega) (by simp) r1
    have i2 := r4.gro.idx (i := a) (by rw [wkS_len _ _ _ _ (by simp)]; omega)
    have l2 := r4.gro.load (i := a) (by rw [wkS_len _ _ _ _ (by simp)]; omega)
    rw [getD_wr (by rw [wkS_len _ _ _ _ (by simp)]; omega)] at l2
    have w2 := wr_add out ((wkS f f.length stp ((List.replicate f.length 0).set a 1)).getD a 0)
    obtain ⟨H', e3⟩ := ih (H := H2) (out := out + (wkS f f.length stp ((List.replicate f.length 0).set a 1)).getD a 0) (a + 1) (by omega)
    refine ⟨H', ?_⟩
    rw [List.range'_succ, List.foldl_cons, un45_3]
    clear r1 r2 r4 hfr
    generalize hZ : List.map vI (List.replicate f.length (0 : Int)) = Z at *
    simp only [vW, wr, SS, insA, wantedA, Opd.ev, putA, binA, eqbA, unA, fldA, partA, reduceIte, reduceCtorEq, Nat.reduceMod, Nat.reduceDiv, Nat.reduceBEq, resultA, resA, vI, Nat.reduceMul, Nat.reduceAdd, Nat.reduceSub, Nat.reduceEqDiff, Nat.reduceLT, Nat.reducePow, Nat.reduceLeDiff, st, Option.bind_eq_bind, Option.pure_def, List.length_nil, Int.cast_ofNat_Int, List.reverse_nil, Int.ofNat_zero] at e1 e2 e3 hzr l2 w2
    simp only [F45L3b, F45T3, F45T4, in45_2, SS, insA, wantedA, Opd.ev, putA, binA, eqbA, unA, fldA, partA, reduceIte, reduceCtorEq, Nat.reduceMod, Nat.reduceDiv, Nat.reduceBEq, resultA, resA, vI, Nat.reduceMul, Nat.reduceAdd, Nat.reduceSub, Nat.reduceEqDiff, Nat.reduceLT, Nat.reducePow, Nat.reduceLeDiff, st, Option.bind_eq_bind, Option.pure_def, List.length_nil, Int.cast_ofNat_Int, List.reverse_nil, UU, idxP, cellsAt, fillA, putAll, row, Int.reduceLT, Int.reduceLE, Int.reduceGT, Int.reduceGE, Int.reduceEq, Int.reduceNe, Int.reduceToNat, Int.reduceBEq, Int.reduceBNe, Nat.reduceLeDiff, Nat.reduceLT, Nat.reduceBNe, Nat.reduceGT, List.drop_nil, List.take_nil, Option.isSome_none, Int.ofNat_one, Int.ofNat_zero, hc, hw, hflen, hki, hzr, i1, e1, e2, i2, l2, w2, e3, Int.toNat_natCast, Int.natCast_nonneg, Nat.mul_one, vW]

theorem walks45 {v : AV} {l : List Int} (hv : IsRow v l) (hf : frameB l = true) {s : Nat} (hs : s ≤ 16) {H : Heap} :
    freeX H (callL ET Y 45 [v, vI s] []) = some (.tup [vW (wkA (l.map Int.toNat) l.length s), vI 0], H) := by
  have hn := frame_n hf
  have hr := fun H => frame20 (Y := Y) (H := H) hv (by omega)
  rw [hf] at hr
  obtain ⟨hF, _⟩ := Fr.of hv hf
  have hlen : (l.map Int.toNat).length = l.length := by simp
  obtain ⟨H', e1⟩ := L45_3 (Y := Y) (stp := s) (H := []) (out := 0) hF hs (l.map Int.toNat).length 0 (by omega)
  rw [← List.range_eq_range', hlen] at e1
  have c1 : ¬ ((s : Int) < 0) := by omega
  have c2 : ¬ ((s : Int) > 16) := by omega
  have e00 : vW 0 = vI 0 := by simp [vW, wr, IntKind.wrap_i64]
  rw [e00] at e1
  rw [call45 rfl]
  unfold wkA
  simp only [SS, insA, wantedA, Opd.ev, putA, binA, eqbA, unA, fldA, partA, reduceIte, reduceCtorEq, Nat.reduceMod, Nat.reduceDiv, Nat.reduceBEq, resultA, resA, vI, Nat.reduceMul, Nat.reduceAdd, Nat.reduceSub, Nat.reduceEqDiff, Nat.reduceLT, Nat.reducePow, Nat.reduceLeDiff, st, Option.bind_eq_bind, Option.pure_def, List.length_nil, Int.cast_ofNat_Int, List.reverse_nil, Int.ofNat_zero] at e1
  simp only [F45B, F45T5, in45_3, SS, insA, wantedA, Opd.ev, putA, binA, eqbA, unA, fldA, partA, reduceIte, reduceCtorEq, Nat.reduceMod, Nat.reduceDiv, Nat.reduceBEq, resultA, resA, vI, Nat.reduceMul, Nat.reduceAdd, Nat.reduceSub, Nat.reduceEqDiff, Nat.reduceLT, Nat.reducePow, Nat.reduceLeDiff, st, Option.bind_eq_bind, Option.pure_def, List.length_nil, Int.cast_ofNat_Int, List.reverse_nil, UU, idxP, cellsAt, storeA, fillA, zerosA, putAll, optNat, sliceA, row, Int.reduceLT, Int.reduceLE, Int.reduceGT, Int.reduceGE, Int.reduceEq, Int.reduceNe, Int.reduceToNat, Int.reduceBEq, Int.reduceBNe, Nat.reduceLeDiff, Nat.reduceLT, Nat.reduceBNe, Nat.reduceGT, List.drop_nil, List.take_nil, Option.isSome_none, Int.ofNat_one, Int.ofNat_zero, hr, hv.snap, hv.len, c1, c2, e1]

theorem walks45_bad {v : AV} {l : List Int} (hv : IsRow v l) (hl : l.length ≤ 1000) {s : Int} (h : frameB l = false ∨ s < 0 ∨ s > 16) {H : Heap} :
    freeX H (callL ET Y 45 [v, .int .i64 s] []) = some (.tup [vI 0, vI 2], H) := by
  have hr := fun H => frame20 (Y := Y) (H := H) hv hl
  rw [call45 rfl]
  cases hf : frameB l with
  | false =>
    rw [hf] at hr
    simp only [F45B, SS, insA, wantedA, Opd.ev, putA, binA, eqbA, unA, fldA, partA, reduceIte, reduceCtorEq, Nat.reduceMod, Nat.reduceDiv, Nat.reduceBEq, resultA, resA, vI, Nat.reduceMul, Nat.reduceAdd, Nat.reduceSub, Nat.reduceEqDiff, Nat.reduceLT, Nat.reducePow, Nat.reduceLeDiff, st, Option.bind_eq_bind, Option.pure_def, List.length_nil, Int.cast_ofNat_Int, List.reverse_nil, UU, idxP, cellsAt, storeA, fillA, zerosA, putAll, optNat, sliceA, row, Int.reduceLT, Int.reduceLE, Int.reduceGT, Int.reduceGE, Int.reduceEq, Int.reduceNe, Int.reduceToNat, Int.reduceBEq, Int.reduceBNe, Nat.reduceLeDiff, Nat.reduceLT, Nat.reduceBNe, Nat.reduceGT, List.drop_nil, List.take_nil, Option.isSome_none, Int.ofNat_one, Int.ofNat_zero, hr, hv.snap]
  | true =>
    rw [hf] at hr
    by_cases c : s < 0
    · simp only [F45B, SS, insA, wantedA, Opd.ev, putA, binA, eqbA, unA, fldA, partA, reduceIte, reduceCtorEq, Nat.reduceMod, Nat.reduceDiv, Nat.reduceBEq, resultA, resA, vI, Nat.reduceMul, Nat.reduceAdd, Nat.reduceSub, Nat.reduceEqDiff, Nat.reduceLT, Nat.reducePow, Nat.reduceLeDiff, st, Option.bind_eq_bind, Option.pure_def, List.length_nil, Int.cast_ofNat_Int, List.reverse_nil, UU, idxP, cellsAt, storeA, fillA, zerosA, putAll, optNat, sliceA, row, Int.reduceLT, Int.reduceLE, Int.reduceGT, Int.reduceGE, Int.reduceEq, Int.reduceNe, Int.reduceToNat, Int.reduceBEq, Int.reduceBNe, Nat.reduceLeDiff, Nat.reduceLT, Nat.reduceBNe, Nat.reduceGT, List.drop_nil, List.take_nil, Option.isSome_none, Int.ofNat_one, Int.ofNat_zero, hr, hv.snap, hv.len, c]
    · have c2 : s > 16 := by
        rcases h with h | h | h
        · rw [hf] at h; cases h
        · exact absurd h c
        · exact h
      simp only [F45B, SS, insA, wantedA, Opd.ev, putA, binA, eqbA, unA, fldA, partA, reduceIte, reduceCtorEq, Nat.reduceMod, Nat.reduceDiv, Nat.reduceBEq, resultA, resA, vI, Nat.reduceMul, Nat.reduceAdd, Nat.reduceSub, Nat.reduceEqDiff, Nat.reduceLT, Nat.reducePow, Nat.reduceLeDiff, st, Option.bind_eq_bind, Option.pure_def, List.length_nil, Int.cast_ofNat_Int, List.reverse_nil, UU, idxP, cellsAt, storeA, fillA, zerosA, putAll, optNat, sliceA, row, Int.reduceLT, Int.reduceLE, Int.reduceGT, Int.reduceGE, Int.reduceEq, Int.reduceNe, Int.reduceToNat, Int.reduceBEq, Int.reduceBNe, Nat.reduceLeDiff, Nat.reduceLT, Nat.reduceBNe, Nat.reduceGT, List.drop_nil, List.take_nil, Option.isSome_none, Int.ofNat_one, Int.ofNat_zero, hr, hv.snap, hv.len, c, c2]

/-- Both ways give the same. -/
theorem walks_same {v : AV} {l : List Int} (hv : IsRow v l) (hl : l.length ≤ 1000) (s : Int) : ∃ x e : Int, ∀ H, freeX H (callL ET Y 44 [v, .int .i64 s] []) = some (.tup [vI x, vI e], H) ∧ freeX H (callL ET Y 45 [v, .int .i64 s] []) = some (.tup [vI x, vI e], H) := by
  by_cases h : frameB l = false ∨ s < 0 ∨ s > 16
  · exact ⟨0, 2, fun H => ⟨walks44_bad hv hl h, walks45_bad hv hl h⟩⟩
  · have hf : frameB l = true := by
      cases hh : frameB l with
      | true => rfl
      | false => exact absurd (.inl hh) h
    have hs : s = ((s.toNat : Nat) : Int) := by omega
    have h16 : s.toNat ≤ 16 := by omega
    rw [hs]
    exact ⟨_, 0, fun H => ⟨walks44 hv hf h16, walks45 hv hf h16⟩⟩

theorem figs_same {v : AV} {l : List Int} (hv : IsRow v l) (hl : l.length ≤ 1000) (k : Int) : ∃ x y e : Int, ∀ H, freeX H (callL ET Y 22 [v, .int .i64 k] []) = some (.tup [vI x, vI y, vI e], H) ∧ freeX H (callL ET Y 43 [v, .int .i64 k] []) = some (.tup [vI x, vI y, vI e], H) := by
  by_cases h : frameB l = false ∨ k < 0 ∨ k > l.length
  · exact ⟨0, 0, 2, fun H => ⟨figs22_bad hv hl h, figs43_bad hv hl h⟩⟩
  · have hf : frameB l = true := by
      cases hh : frameB l with
      | true => rfl
      | false => exact absurd (.inl hh) h
    have hs : k = ((k.toNat : Nat) : Int) := by omega
    have hk : k.toNat ≤ l.length := by omega
    rw [hs]
    exact ⟨_, _, 0, fun H => ⟨figs22S hv hf hk, figs43 hv hf hk⟩⟩

theorem law12 (hY : ∀ args H, Y 97 args H = yA 97 args H) {v : AV} {l : List Int} (hv : IsRow v l) (k s : Int) : freeX [] (callL ET Y 12 [v, .int .i64 k, .int .i64 s] []) = some (.bool true, []) := by
  have hal := fun H => alive17 (Y := Y) (H := H) hY
  have hfew := fun H => few16 (Y := Y) (H := H) hv .nil
  simp only [List.length_nil, show (0 : Nat) ≤ 40 from by decide, decide_true, Bool.and_true] at hfew
  rw [call12 rfl]
  by_cases h40 : l.length ≤ 40
  · simp only [h40, decide_true] at hfew
    obtain ⟨x, y, e, h1⟩ := figs_same (Y := Y) hv (by omega) k
    obtain ⟨z, e', h2⟩ := walks_same (Y := Y) hv (by omega) s
    have a1 := fun H => (h1 H).1
    have a2 := fun H => (h1 H).2
    have b1 := fun H => (h2 H).1
    have b2 := fun H => (h2 H).2
    have q : ∀ x : Int, (x != x) = false := fun x => by simp
    have q' : ∀ x : Int, (x == x) = true := fun x => by simp
    simp only [F12B, SS, insA, wantedA, Opd.ev, putA, binA, eqbA, unA, fldA, partA, reduceIte, reduceCtorEq, Nat.reduceMod, Nat.reduceDiv, Nat.reduceBEq, resultA, resA, vI, Nat.reduceMul, Nat.reduceAdd, Nat.reduceSub, Nat.reduceEqDiff, Nat.reduceLT, Nat.reducePow, Nat.reduceLeDiff, st, Option.bind_eq_bind, Option.pure_def, List.length_nil, Int.cast_ofNat_Int, List.reverse_nil, UU, idxP, cellsAt, storeA, fillA, zerosA, putAll, optNat, sliceA, row, Int.reduceLT, Int.reduceLE, Int.reduceGT, Int.reduceGE, Int.reduceEq, Int.reduceNe, Int.reduceToNat, Int.reduceBEq, Int.reduceBNe, Nat.reduceLeDiff, Nat.reduceLT, Nat.reduceBNe, Nat.reduceGT, List.drop_nil, List.take_nil, Option.isSome_none, Int.ofNat_one, Int.ofNat_zero, hv.snap, hfew, a1, a2, b1, b2, q, q', hal]
  · simp only [h40, decide_false] at hfew
    simp only [F12B, SS, insA, wantedA, Opd.ev, putA, binA, eqbA, unA, fldA, partA, reduceIte, reduceCtorEq, Nat.reduceMod, Nat.reduceDiv, Nat.reduceBEq, resultA, resA, vI, Nat.reduceMul, Nat.reduceAdd, Nat.reduceSub, Nat.reduceEqDiff, Nat.reduceLT, Nat.reducePow, Nat.reduceLeDiff, st, Option.bind_eq_bind, Option.pure_def, List.length_nil, Int.cast_ofNat_Int, List.reverse_nil, UU, idxP, cellsAt, storeA, fillA, zerosA, putAll, optNat, sliceA, row, Int.reduceLT, Int.reduceLE, Int.reduceGT, Int.reduceGE, Int.reduceEq, Int.reduceNe, Int.reduceToNat, Int.reduceBEq, Int.reduceBNe, Nat.reduceLeDiff, Nat.reduceLT, Nat.reduceBNe, Nat.reduceGT, List.drop_nil, List.take_nil, Option.isSome_none, Int.ofNat_one, Int.ofNat_zero, hv.snap, hfew, hal]
end
end Go.X
