import Derived.Test.YtchgifdkhknppaaVY
import Derived.Test.YtchgifdkhknppaaVQ
/-! Veils: Of, by rows and whole. -/
set_option linter.unusedSimpArgs false
set_option linter.unusedVariables false
set_option maxHeartbeats 8000000
set_option maxRecDepth 10000
namespace Go.X
open Go Go.RowKit
section
variable {Y : Run} {H : Heap}

def rowsOkB (n : Nat) (h : List (List Int)) (i d : Nat) : Bool := (List.range' i d).all fun a => decide ((h.getD a []).length = n + 1) && rowOkB n h a 0 (n + 1)
theorem rowOkB.cell {n i : Nat} {h : List (List Int)} (c : rowOkB n h i 0 (n + 1) = true) {j : Nat} (hj : j ≤ n) : cellOk n h i j :=
  of_decide_eq_true (List.all_eq_true.1 c j (by simp; omega))

theorem L43_1 {hv : AV} {h : List (List Int)} {n : Nat} (ht : IsTab hv h) (h1 : 1 ≤ n) (h5 : n ≤ 5) (hl : h.length = n + 1) (d : Nat) : ∀ (i : Nat), i + d = n + 1 → (∀ a, a < i → ∀ (ha : a < h.length), h[a].length = n + 1) → PB n i h →
    lp EV Y F43L1 (sp 138 [(21, vI i), (20, vI ((n + 1 : Nat) : Int)), (19, hv), (4, vI n), (0, hv)]) H =
      if rowsOkB n h i d = true then some (.x 0, sp 138 [(0, hv)], H) else some (.r, sp 138 [(3, vI 2), (2, .nils)], H) := by
  induction d with
  | zero =>
    intro i hi hr pb
    have : ¬ ((i : Int) < ((n + 1 : Nat) : Int)) := by omega
    rw [un43_1, if_pos (show rowsOkB n h i 0 = true from rfl)]
    simp only [F43L1b, SS, insA, wantedA, Opd.ev, putA, binA, eqbA, unA, fldA, partA, reduceIte, reduceCtorEq, Nat.reduceMod, Nat.reduceDiv, Nat.reduceBEq, resultA, resA, vI, Nat.reduceMul, Nat.reduceAdd, Nat.reduceSub, Nat.reduceEqDiff, Nat.reduceLT, Nat.reducePow, Nat.reduceLeDiff, st, Option.bind_eq_bind, Option.pure_def, List.length_nil, Int.cast_ofNat_Int, List.reverse_nil, UU, idxP, cellsAt, storeA, fillA, zerosA, putAll, optNat, sliceA, row, Int.reduceLT, Int.reduceLE, Int.reduceGT, Int.reduceGE, Int.reduceEq, Int.reduceNe, Int.reduceToNat, Int.reduceBEq, Int.reduceBNe, Nat.reduceLeDiff, Nat.reduceLT, Nat.reduceBNe, Nat.reduceGT, List.drop_nil, List.take_nil, Option.isSome_none, Int.ofNat_one, Int.ofNat_zero, this]
  | succ d ih =>
    intro i hi hr pb
    have k1 : i < h.length := by omega
    have hc : (i : Int) < ((n + 1 : Nat) : Int) := by omega
    have hww := wrap_succ (n := i) (by omega)
    have wn : IntKind.wrap .i64 ((n : Int) + 1) = ((n + 1 : Nat) : Int) := wrap_succ (by omega)
    have r1 := ht.row k1
    rw [getD_get k1] at r1
    have hok : rowsOkB n h i (d + 1) = (decide (h[i].length = n + 1) && rowOkB n h i 0 (n + 1) && rowsOkB n h (i + 1) d) := by simp only [rowsOkB, List.range'_succ, List.all_cons, getD_get k1]
    rw [un43_1, hok]
    by_cases c1 : h[i].length = n + 1
    · have c1' : ((h[i].length : Int) != ((n + 1 : Nat) : Int)) = false := by rw [c1, bne_self_eq_false]
      have hr2 : ∀ a, a ≤ i → ∀ (ha : a < h.length), h[a].length = n + 1 := fun a ha hb => by
        rcases Nat.lt_or_eq_of_le ha with q | q
        · exact hr a q hb
        · subst q; exact c1
      have h0 := L43_0 (Y := Y) (H := H) ht h1 h5 hl hr2 (by omega) pb (n + 1) 0 (by omega) (fun q => absurd q (by omega))
      rw [decide_eq_true c1, Bool.true_and]
      have hlen : lenA (cellAt hv i) = some h[i].length := r1.len
      cases hu : rowOkB n h i 0 (n + 1)
      · rw [hu] at h0
        rw [Bool.false_and, if_neg (by decide)]
        rw [if_neg (by decide)] at h0
        simp only [SS, insA, wantedA, Opd.ev, putA, binA, eqbA, unA, fldA, partA, reduceIte, reduceCtorEq, Nat.reduceMod, Nat.reduceDiv, Nat.reduceBEq, resultA, resA, vI, Nat.reduceMul, Nat.reduceAdd, Nat.reduceSub, Nat.reduceEqDiff, Nat.reduceLT, Nat.reducePow, Nat.reduceLeDiff, st, Option.bind_eq_bind, Option.pure_def, List.length_nil, Int.cast_ofNat_Int, List.reverse_nil, Int.ofNat_zero] at h0
        simp only [F43L1b, F43T0, in43_0, SS, insA, wantedA, Opd.ev, putA, binA, eqbA, unA, fldA, partA, reduceIte, reduceCtorEq, Nat.reduceMod, Nat.reduceDiv, Nat.reduceBEq, resultA, resA, vI, Nat.reduceMul, Nat.reduceAdd, Nat.reduceSub, Nat.reduceEqDiff, Nat.reduceLT, Nat.reducePow, Nat.reduceLeDiff, st, Option.bind_eq_bind, Option.pure_def, List.length_nil, Int.cast_ofNat_Int, List.reverse_nil, UU, idxP, cellsAt, storeA, fillA, zerosA, putAll, optNat, sliceA, row, Int.reduceLT, Int.reduceLE, Int.reduceGT, Int.reduceGE, Int.reduceEq, Int.reduceNe, Int.reduceToNat, Int.reduceBEq, Int.reduceBNe, Nat.reduceLeDiff, Nat.reduceLT, Nat.reduceBNe, Nat.reduceGT, List.drop_nil, List.take_nil, Option.isSome_none, Int.ofNat_one, Int.ofNat_zero, hc, ht.idx k1, ht.load k1, hlen, c1, wn, c1', h0, bne_self_eq_false]
      · rw [hu, if_pos rfl] at h0
        have ih := ih (i + 1) (by omega) (fun a ha hb => hr2 a (by omega) hb) (fun b hb _ => by
          have := (rowOkB.cell hu hb).bd (by omega) hb pb
          rw [Nat.add_sub_cancel]; omega)
        rw [Bool.true_and]
        simp only [SS, insA, wantedA, Opd.ev, putA, binA, eqbA, unA, fldA, partA, reduceIte, reduceCtorEq, Nat.reduceMod, Nat.reduceDiv, Nat.reduceBEq, resultA, resA, vI, Nat.reduceMul, Nat.reduceAdd, Nat.reduceSub, Nat.reduceEqDiff, Nat.reduceLT, Nat.reducePow, Nat.reduceLeDiff, st, Option.bind_eq_bind, Option.pure_def, List.length_nil, Int.cast_ofNat_Int, List.reverse_nil, Int.ofNat_zero] at h0 ih
        simp only [F43L1b, F43T0, in43_0, SS, insA, wantedA, Opd.ev, putA, binA, eqbA, unA, fldA, partA, reduceIte, reduceCtorEq, Nat.reduceMod, Nat.reduceDiv, Nat.reduceBEq, resultA, resA, vI, Nat.reduceMul, Nat.reduceAdd, Nat.reduceSub, Nat.reduceEqDiff, Nat.reduceLT, Nat.reducePow, Nat.reduceLeDiff, st, Option.bind_eq_bind, Option.pure_def, List.length_nil, Int.cast_ofNat_Int, List.reverse_nil, UU, idxP, cellsAt, storeA, fillA, zerosA, putAll, optNat, sliceA, row, Int.reduceLT, Int.reduceLE, Int.reduceGT, Int.reduceGE, Int.reduceEq, Int.reduceNe, Int.reduceToNat, Int.reduceBEq, Int.reduceBNe, Nat.reduceLeDiff, Nat.reduceLT, Nat.reduceBNe, Nat.reduceGT, List.drop_nil, List.take_nil, Option.isSome_none, Int.ofNat_one, Int.ofNat_zero, hc, ht.idx k1, ht.load k1, hlen, c1, wn, c1', h0, bne_self_eq_false, hww, ih]
    · have c1' : ((h[i].length : Int) != ((n + 1 : Nat) : Int)) = true := by simp; omega
      have hlen : lenA (cellAt hv i) = some h[i].length := r1.len
      rw [decide_eq_false c1, Bool.false_and, Bool.false_and, if_neg (by decide)]
      simp only [F43L1b, F43T0, in43_0, SS, insA, wantedA, Opd.ev, putA, binA, eqbA, unA, fldA, partA, reduceIte, reduceCtorEq, Nat.reduceMod, Nat.reduceDiv, Nat.reduceBEq, resultA, resA, vI, Nat.reduceMul, Nat.reduceAdd, Nat.reduceSub, Nat.reduceEqDiff, Nat.reduceLT, Nat.reducePow, Nat.reduceLeDiff, st, Option.bind_eq_bind, Option.pure_def, List.length_nil, Int.cast_ofNat_Int, List.reverse_nil, UU, idxP, cellsAt, storeA, fillA, zerosA, putAll, optNat, sliceA, row, Int.reduceLT, Int.reduceLE, Int.reduceGT, Int.reduceGE, Int.reduceEq, Int.reduceNe, Int.reduceToNat, Int.reduceBEq, Int.reduceBNe, Nat.reduceLeDiff, Nat.reduceLT, Nat.reduceBNe, Nat.reduceGT, List.drop_nil, List.take_nil, Option.isSome_none, Int.ofNat_one, Int.ofNat_zero, hc, ht.idx k1, ht.load k1, hlen, wn, c1']

/-- Heights that Of takes. -/
def ofOk (h : List (List Int)) : Bool := decide (2 ≤ h.length ∧ h.length ≤ 6) && rowsOkB (h.length - 1) h 0 h.length

theorem ofOk_iff {h : List (List Int)} {n : Nat} (hl : h.length = n + 1) : ofOk h = true ↔ Steep n h := by
  unfold ofOk
  rw [Bool.and_eq_true, decide_eq_true_eq, hl, Nat.add_sub_cancel]
  constructor
  · rintro ⟨a, b⟩
    have hq : ∀ i, i ≤ n → (h.getD i []).length = n + 1 ∧ rowOkB n h i 0 (n + 1) = true := fun i hi => by
      have := List.all_eq_true.1 b i (by simp; omega)
      rw [Bool.and_eq_true, decide_eq_true_eq] at this
      exact this
    have hc : ∀ i j, i ≤ n → j ≤ n → cellOk n h i j := fun i j hi hj => rowOkB.cell (hq i hi).2 hj
    refine ⟨by omega, by omega, hl, ?_, ?_, ?_, ?_, ?_, ?_, ?_⟩
    · intro r hr
      obtain ⟨i, hi, rfl⟩ := List.getElem_of_mem hr
      have := (hq i (by omega)).1
      rwa [getD_get hi] at this
    · intro j hj; exact (hc 0 j (by omega) hj).1 rfl
    · intro i hi; exact (hc i 0 hi (by omega)).2.1 rfl
    · intro j hj; exact (hc n j (by omega) hj).2.2.1 rfl
    · intro i hi; exact (hc i n hi (by omega)).2.2.2.1 rfl
    · intro i j hi hj
      have := (hc i (j + 1) hi (by omega)).2.2.2.2.2 (by omega)
      rw [Nat.add_sub_cancel] at this
      unfold pm; omega
    · intro i j hi hj
      have := (hc (i + 1) j (by omega) hj).2.2.2.2.1 (by omega)
      rw [Nat.add_sub_cancel] at this
      unfold pm; omega
  · intro S
    refine ⟨⟨by have := S.n1; omega, by have := S.n5; omega⟩, ?_⟩
    refine List.all_eq_true.2 fun i hi => ?_
    have hi : i ≤ n := by simp at hi; omega
    rw [Bool.and_eq_true, decide_eq_true_eq]
    refine ⟨?_, List.all_eq_true.2 fun j hj => decide_eq_true ?_⟩
    · have : i < h.length := by omega
      rw [getD_get this]
      exact S.row _ (List.getElem_mem this)
    · have hj : j ≤ n := by simp at hj; omega
      refine ⟨fun e => by subst e; exact S.top j hj, fun e => by subst e; exact S.left i hi, fun e => by subst e; exact S.bot j hj, fun e => by subst e; exact S.right i hi, fun e => ?_, fun e => ?_⟩
      · have := S.ver (i - 1) j (by omega) hj
        rw [Nat.sub_add_cancel e] at this
        unfold pm at this; omega
      · have := S.hor i (j - 1) hi (by omega)
        rw [Nat.sub_add_cancel e] at this
        unfold pm at this; omega

theorem of43_no {hv : AV} {h : List (List Int)} (ht : IsTab hv h) (hb : h.length ≤ 1000) (ho : ofOk h = false) : freeX H (callL EV Y 43 [hv] []) = some (.tup [.nils, vI 2], H) := by
  rw [call43 rfl]
  by_cases c1 : h.length < 2
  · have w : IntKind.wrap .i64 ((h.length : Int) - 1) = (h.length : Int) - 1 := wrap_id (by omega) (by omega)
    have c : (h.length : Int) - 1 < 1 := by omega
    simp only [F43B, SS, insA, wantedA, Opd.ev, putA, binA, eqbA, unA, fldA, partA, reduceIte, reduceCtorEq, Nat.reduceMod, Nat.reduceDiv, Nat.reduceBEq, resultA, resA, vI, Nat.reduceMul, Nat.reduceAdd, Nat.reduceSub, Nat.reduceEqDiff, Nat.reduceLT, Nat.reducePow, Nat.reduceLeDiff, st, Option.bind_eq_bind, Option.pure_def, List.length_nil, Int.cast_ofNat_Int, List.reverse_nil, UU, idxP, cellsAt, storeA, fillA, zerosA, putAll, optNat, sliceA, row, Int.reduceLT, Int.reduceLE, Int.reduceGT, Int.reduceGE, Int.reduceEq, Int.reduceNe, Int.reduceToNat, Int.reduceBEq, Int.reduceBNe, Nat.reduceLeDiff, Nat.reduceLT, Nat.reduceBNe, Nat.reduceGT, List.drop_nil, List.take_nil, Option.isSome_none, Int.ofNat_one, Int.ofNat_zero, ht.len, w, c]
  · by_cases c2 : h.length > 6
    · have w : IntKind.wrap .i64 ((h.length : Int) - 1) = (h.length : Int) - 1 := wrap_id (by omega) (by omega)
      have c : ¬ (h.length : Int) - 1 < 1 := by omega
      have c' : (h.length : Int) - 1 > 5 := by omega
      simp only [F43B, SS, insA, wantedA, Opd.ev, putA, binA, eqbA, unA, fldA, partA, reduceIte, reduceCtorEq, Nat.reduceMod, Nat.reduceDiv, Nat.reduceBEq, resultA, resA, vI, Nat.reduceMul, Nat.reduceAdd, Nat.reduceSub, Nat.reduceEqDiff, Nat.reduceLT, Nat.reducePow, Nat.reduceLeDiff, st, Option.bind_eq_bind, Option.pure_def, List.length_nil, Int.cast_ofNat_Int, List.reverse_nil, UU, idxP, cellsAt, storeA, fillA, zerosA, putAll, optNat, sliceA, row, Int.reduceLT, Int.reduceLE, Int.reduceGT, Int.reduceGE, Int.reduceEq, Int.reduceNe, Int.reduceToNat, Int.reduceBEq, Int.reduceBNe, Nat.reduceLeDiff, Nat.reduceLT, Nat.reduceBNe, Nat.reduceGT, List.drop_nil, List.take_nil, Option.isSome_none, Int.ofNat_one, Int.ofNat_zero, ht.len, w, c, c']
    · obtain ⟨n, hl⟩ : ∃ n, h.length = n + 1 := ⟨h.length - 1, by omega⟩
      have w : IntKind.wrap .i64 (((n + 1 : Nat) : Int) - 1) = (n : Int) := wrap_pred (by omega) (by omega)
      have c : ¬ (n : Int) < 1 := by omega
      have c' : ¬ (n : Int) > 5 := by omega
      have h0 := L43_1 (Y := Y) (H := []) ht (by omega) (by omega) hl (n + 1) 0 (by omega) (fun a ha => absurd ha (by omega)) (fun b _ q => absurd q (by omega))
      have e : rowsOkB n h 0 (n + 1) = false := by
        unfold ofOk at ho
        rw [decide_eq_true (by omega), Bool.true_and, hl, Nat.add_sub_cancel] at ho
        exact ho
      rw [e, if_neg (by decide)] at h0
      simp only [SS, insA, wantedA, Opd.ev, putA, binA, eqbA, unA, fldA, partA, reduceIte, reduceCtorEq, Nat.reduceMod, Nat.reduceDiv, Nat.reduceBEq, resultA, resA, vI, Nat.reduceMul, Nat.reduceAdd, Nat.reduceSub, Nat.reduceEqDiff, Nat.reduceLT, Nat.reducePow, Nat.reduceLeDiff, st, Option.bind_eq_bind, Option.pure_def, List.length_nil, Int.cast_ofNat_Int, List.reverse_nil, Int.ofNat_zero] at h0
      simp only [F43B, SS, insA, wantedA, Opd.ev, putA, binA, eqbA, unA, fldA, partA, reduceIte, reduceCtorEq, Nat.reduceMod, Nat.reduceDiv, Nat.reduceBEq, resultA, resA, vI, Nat.reduceMul, Nat.reduceAdd, Nat.reduceSub, Nat.reduceEqDiff, Nat.reduceLT, Nat.reducePow, Nat.reduceLeDiff, st, Option.bind_eq_bind, Option.pure_def, List.length_nil, Int.cast_ofNat_Int, List.reverse_nil, UU, idxP, cellsAt, storeA, fillA, zerosA, putAll, optNat, sliceA, row, Int.reduceLT, Int.reduceLE, Int.reduceGT, Int.reduceGE, Int.reduceEq, Int.reduceNe, Int.reduceToNat, Int.reduceBEq, Int.reduceBNe, Nat.reduceLeDiff, Nat.reduceLT, Nat.reduceBNe, Nat.reduceGT, List.drop_nil, List.take_nil, Option.isSome_none, Int.ofNat_one, Int.ofNat_zero, ht.len, hl, w, c, c', h0, in43_1]

theorem of43_ok {hv : AV} {h : List (List Int)} {n : Nat} (ht : IsTab hv h) (S : Steep n h) : ∃ w, IsTab w (vOf n h) ∧ ∀ H, freeX H (callL EV Y 43 [hv] []) = some (.tup [w, vI 0], H) := by
  obtain ⟨w3, e1, e2, e3⟩ := of_steep (Y := Y) ht S
  refine ⟨w3, e1, fun H => ?_⟩
  have h1 := S.n1; have h5 := S.n5; have hl := S.len
  have ho := (ofOk_iff hl).2 S
  rw [call43 rfl]
  have w : IntKind.wrap .i64 (((n + 1 : Nat) : Int) - 1) = (n : Int) := wrap_pred (by omega) (by omega)
  have c : ¬ (n : Int) < 1 := by omega
  have c' : ¬ (n : Int) > 5 := by omega
  have h0 := L43_1 (Y := Y) (H := []) ht (by omega) (by omega) hl (n + 1) 0 (by omega) (fun a ha => absurd ha (by omega)) (fun b _ q => absurd q (by omega))
  have e : rowsOkB n h 0 (n + 1) = true := by
    unfold ofOk at ho
    rw [decide_eq_true (by omega), Bool.true_and, hl, Nat.add_sub_cancel] at ho
    exact ho
  rw [e, if_pos rfl] at h0
  simp only [SS, insA, wantedA, Opd.ev, putA, binA, eqbA, unA, fldA, partA, reduceIte, reduceCtorEq, Nat.reduceMod, Nat.reduceDiv, Nat.reduceBEq, resultA, resA, vI, Nat.reduceMul, Nat.reduceAdd, Nat.reduceSub, Nat.reduceEqDiff, Nat.reduceLT, Nat.reducePow, Nat.reduceLeDiff, st, Option.bind_eq_bind, Option.pure_def, List.length_nil, Int.cast_ofNat_Int, List.reverse_nil, Int.ofNat_zero] at h0
  have hsi : ∀ H n, snapA H (n + 2) (.iface 59 hv) = some (.iface 59 hv) := fun H n => by rw [snap_ifc, ht.snap]; rfl
  simp only [F43B, F43T1, SS, insA, wantedA, Opd.ev, putA, binA, eqbA, unA, fldA, partA, reduceIte, reduceCtorEq, Nat.reduceMod, Nat.reduceDiv, Nat.reduceBEq, resultA, resA, vI, Nat.reduceMul, Nat.reduceAdd, Nat.reduceSub, Nat.reduceEqDiff, Nat.reduceLT, Nat.reducePow, Nat.reduceLeDiff, st, Option.bind_eq_bind, Option.pure_def, List.length_nil, Int.cast_ofNat_Int, List.reverse_nil, UU, idxP, cellsAt, storeA, fillA, zerosA, putAll, optNat, sliceA, row, Int.reduceLT, Int.reduceLE, Int.reduceGT, Int.reduceGE, Int.reduceEq, Int.reduceNe, Int.reduceToNat, Int.reduceBEq, Int.reduceBNe, Nat.reduceLeDiff, Nat.reduceLT, Nat.reduceBNe, Nat.reduceGT, List.drop_nil, List.take_nil, Option.isSome_none, Int.ofNat_one, Int.ofNat_zero, ht.len, hl, w, c, c', h0, in43_1, hsi, e2, e3]
end
end Go.X
