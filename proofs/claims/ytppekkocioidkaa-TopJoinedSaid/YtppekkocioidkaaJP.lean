import Derived.Test.YtppekkocioidkaaJE
/-! Meshes: a mesh that is read. -/
set_option linter.unusedSimpArgs false
set_option linter.unusedVariables false
set_option maxHeartbeats 2000000
set_option maxRecDepth 10000
namespace Go.X
open Go Go.RowKit

/-- Is a thread not one of n knots? -/
def badT (n : Int) (p : Int × Int) : Bool := decide (min p.1 p.2 < 0) || decide (max p.1 p.2 ≥ n) || (p.1 == p.2)
def badK (n : Int) (k : Int) : Bool := decide (k < 0) || decide (k ≥ n)
/-- The errors of a mesh and knots. -/
def readE (n : Int) (l : List (Int × Int)) (ks : List Int) : Int :=
  if n < 2 ∨ n > 8 then 2 else if l.length > 13 then 3 else if l.any (badT n) = true then 2 else if ks.any (badK n) = true then 2 else 0

section
variable {Y : Run}

theorem store_last2 {H : Heap} {a b c d : Int} : storeA (H ++ [(⟨0, [vI c, vI d]⟩ : Ob)]) 2 (.ptr H.length 0 0) (.agg [vI a, vI b]) = some (H ++ [⟨0, [vI a, vI b]⟩]) := by
  simp [storeA, cellsOf, one, putAll]
theorem any_drop {α : Type} {f : α → Bool} {l : List α} {i : Nat} (h : i < l.length) : (l.drop i).any f = (f l[i] || (l.drop (i + 1)).any f) := by
  rw [List.drop_eq_getElem_cons h, List.any_cons]

theorem L13_0 {lv kv : AV} {l : List (Int × Int)} (ht : IsPairs lv l) (hl : l.length ≤ 1000) {n : Int} {q : Nat} (d : Nat) : ∀ (i : Nat) (H : Heap), i + d = l.length → H[q]? = some ⟨0, [vI 0, .nils]⟩ →
    ∃ H', (∀ j, j < H.length → H'[j]? = H[j]?) ∧ H.length ≤ H'.length ∧ lp EJ Y F13L0 (sp 73 [(27, vI i), (26, vI l.length), (25, lv), (6, .ptr q 0 0), (2, kv), (1, lv), (0, vI n)]) H =
      if (l.drop i).any (badT n) = true then some (.r, sp 73 [(7, vI 2), (6, .ptr q 0 0)], H') else some (.x 1, sp 73 [(6, .ptr q 0 0), (2, kv), (1, lv), (0, vI n)], H') := by
  induction d with
  | zero =>
    intro i H hi h0
    refine ⟨H, fun _ _ => rfl, Nat.le_refl _, ?_⟩
    rw [un13_0, List.drop_eq_nil_of_le (by omega)]
    have : ¬ ((i : Int) < (l.length : Int)) := by omega
    simp only [F13L0b, List.any_nil, Bool.false_eq_true, if_false, SS, insA, wantedA, Opd.ev, putA, binA, eqbA, unA, fldA, partA, reduceIte, reduceCtorEq, Nat.reduceMod, Nat.reduceDiv, Nat.reduceBEq, resultA, resA, vI, Nat.reduceMul, Nat.reduceAdd, Nat.reduceSub, Nat.reduceEqDiff, Nat.reduceLT, Nat.reducePow, Nat.reduceLeDiff, st, Option.bind_eq_bind, Option.pure_def, List.length_nil, Int.cast_ofNat_Int, List.reverse_nil, UU, idxP, cellsAt, storeA, fillA, zerosA, putAll, optNat, sliceA, row, Int.reduceLT, Int.reduceLE, Int.reduceGT, Int.reduceGE, Int.reduceEq, Int.reduceNe, Int.reduceToNat, Int.reduceBEq, Int.reduceBNe, Nat.reduceLeDiff, Nat.reduceLT, Nat.reduceBNe, Nat.reduceGT, List.drop_nil, List.take_nil, Option.isSome_none, Int.ofNat_one, Int.ofNat_zero, this]
  | succ d ih =>
    intro i H hi h0
    have hlt : i < l.length := by omega
    have hc : (i : Int) < (l.length : Int) := by omega
    have hw := wrap_succ (n := i) (by omega)
    have hl1 := ht.load (H := H) hlt
    have hq : q < H.length := hlt_of h0
    rw [show l.getD i (0, 0) = l[i] by simp [List.getD_eq_getElem?_getD, hlt]] at hl1
    rw [any_drop hlt]
    generalize hp : l[i] = p at *
    obtain ⟨a, b⟩ := p
    have g0 : (H ++ [(⟨0, [vI a, vI b]⟩ : Ob)])[q]? = some ⟨0, [vI 0, .nils]⟩ := by rw [List.getElem?_append_left hq]; exact h0
    have hst : storeA (H ++ [(⟨0, [vI a, vI b]⟩ : Ob)]) 2 (.ptr q 0 0) (.agg [vI 0, .nils]) = some (H ++ [(⟨0, [vI a, vI b]⟩ : Ob)]) := by
      simp only [storeA, g0, cellsOf, List.length_cons, List.length_nil, List.all_cons, List.all_nil, one, Bool.and_true, and_self, if_true, putAll, List.set_cons_zero, List.set_cons_succ, Nat.zero_add, Nat.le_refl]
      congr 1
      apply List.ext_getElem?
      intro j
      by_cases e : j = q
      · subst e; rw [List.getElem?_set_self (by simp; omega), g0]
      · rw [List.getElem?_set_ne (fun h => e h.symm)]
    have keep : ∀ j, j < H.length → (H ++ [(⟨0, [vI a, vI b]⟩ : Ob)])[j]? = H[j]? := fun j hj => List.getElem?_append_left hj
    have hle : H.length ≤ (H ++ [(⟨0, [vI a, vI b]⟩ : Ob)]).length := by simp
    have s9 := store_last2 (H := H) (a := a) (b := b) (c := 0) (d := 0)
    simp only [vI] at s9 hst
    rw [un13_0]
    unfold badT
    simp only
    by_cases c1 : min a b < 0
    · refine ⟨_, keep, hle, ?_⟩
      simp only [c1, decide_true, Bool.true_or, if_true]
      simp only [F13L0b, SS, insA, wantedA, Opd.ev, putA, binA, eqbA, unA, fldA, partA, reduceIte, reduceCtorEq, Nat.reduceMod, Nat.reduceDiv, Nat.reduceBEq, resultA, resA, vI, Nat.reduceMul, Nat.reduceAdd, Nat.reduceSub, Nat.reduceEqDiff, Nat.reduceLT, Nat.reducePow, Nat.reduceLeDiff, st, Option.bind_eq_bind, Option.pure_def, List.length_nil, Int.cast_ofNat_Int, List.reverse_nil, UU, idxP, cellsAt, fillA, zerosA, putAll, row, Int.reduceLT, Int.reduceLE, Int.reduceGT, Int.reduceGE, Int.reduceEq, Int.reduceNe, Int.reduceToNat, Int.reduceBEq, Int.reduceBNe, Nat.reduceLeDiff, Nat.reduceLT, Nat.reduceBNe, Nat.reduceGT, List.drop_nil, List.take_nil, Option.isSome_none, Int.ofNat_one, Int.ofNat_zero, hc, ht.idx hlt, hl1, s9, c1, hst, get_last, set_last, cellsOf, List.set_cons_zero, List.set_cons_succ, List.all_cons, List.all_nil, one, Bool.true_and]
    · by_cases c2 : max a b ≥ n
      · refine ⟨_, keep, hle, ?_⟩
        simp only [c1, c2, decide_true, decide_false, Bool.true_or, Bool.false_or, if_true]
        simp only [F13L0b, SS, insA, wantedA, Opd.ev, putA, binA, eqbA, unA, fldA, partA, reduceIte, reduceCtorEq, Nat.reduceMod, Nat.reduceDiv, Nat.reduceBEq, resultA, resA, vI, Nat.reduceMul, Nat.reduceAdd, Nat.reduceSub, Nat.reduceEqDiff, Nat.reduceLT, Nat.reducePow, Nat.reduceLeDiff, st, Option.bind_eq_bind, Option.pure_def, List.length_nil, Int.cast_ofNat_Int, List.reverse_nil, UU, idxP, cellsAt, fillA, zerosA, putAll, row, Int.reduceLT, Int.reduceLE, Int.reduceGT, Int.reduceGE, Int.reduceEq, Int.reduceNe, Int.reduceToNat, Int.reduceBEq, Int.reduceBNe, Nat.reduceLeDiff, Nat.reduceLT, Nat.reduceBNe, Nat.reduceGT, List.drop_nil, List.take_nil, Option.isSome_none, Int.ofNat_one, Int.ofNat_zero, hc, ht.idx hlt, hl1, s9, c1, c2, hst, get_last, set_last, cellsOf, List.set_cons_zero, List.set_cons_succ, List.all_cons, List.all_nil, one, Bool.true_and]
      · by_cases c3 : a = b
        · have c3' : (a == b) = true := beq_iff_eq.2 c3
          refine ⟨_, keep, hle, ?_⟩
          simp only [c1, c2, c3', decide_true, decide_false, Bool.true_or, Bool.false_or, if_true]
          simp only [F13L0b, SS, insA, wantedA, Opd.ev, putA, binA, eqbA, unA, fldA, partA, reduceIte, reduceCtorEq, Nat.reduceMod, Nat.reduceDiv, Nat.reduceBEq, resultA, resA, vI, Nat.reduceMul, Nat.reduceAdd, Nat.reduceSub, Nat.reduceEqDiff, Nat.reduceLT, Nat.reducePow, Nat.reduceLeDiff, st, Option.bind_eq_bind, Option.pure_def, List.length_nil, Int.cast_ofNat_Int, List.reverse_nil, UU, idxP, cellsAt, fillA, zerosA, putAll, row, Int.reduceLT, Int.reduceLE, Int.reduceGT, Int.reduceGE, Int.reduceEq, Int.reduceNe, Int.reduceToNat, Int.reduceBEq, Int.reduceBNe, Nat.reduceLeDiff, Nat.reduceLT, Nat.reduceBNe, Nat.reduceGT, List.drop_nil, List.take_nil, Option.isSome_none, Int.ofNat_one, Int.ofNat_zero, hc, ht.idx hlt, hl1, s9, c1, c2, c3', hst, get_last, set_last, cellsOf, List.set_cons_zero, List.set_cons_succ, List.all_cons, List.all_nil, one, Bool.true_and]
        · have c3' : (a == b) = false := beq_false_of_ne c3
          obtain ⟨H', r1, r2, r3⟩ := ih (i + 1) _ (by omega) g0
          refine ⟨H', fun j hj => (r1 j (by simp; omega)).trans (keep j hj), Nat.le_trans hle r2, ?_⟩
          simp only [c1, c2, c3', decide_false, Bool.false_or]
          unfold badT at r3
          simp only [SS, insA, wantedA, Opd.ev, putA, binA, eqbA, unA, fldA, partA, reduceIte, reduceCtorEq, Nat.reduceMod, Nat.reduceDiv, Nat.reduceBEq, resultA, resA, vI, Nat.reduceMul, Nat.reduceAdd, Nat.reduceSub, Nat.reduceEqDiff, Nat.reduceLT, Nat.reducePow, Nat.reduceLeDiff, st, Option.bind_eq_bind, Option.pure_def, List.length_nil, Int.cast_ofNat_Int, List.reverse_nil] at r3
          simp only [F13L0b, SS, insA, wantedA, Opd.ev, putA, binA, eqbA, unA, fldA, partA, reduceIte, reduceCtorEq, Nat.reduceMod, Nat.reduceDiv, Nat.reduceBEq, resultA, resA, vI, Nat.reduceMul, Nat.reduceAdd, Nat.reduceSub, Nat.reduceEqDiff, Nat.reduceLT, Nat.reducePow, Nat.reduceLeDiff, st, Option.bind_eq_bind, Option.pure_def, List.length_nil, Int.cast_ofNat_Int, List.reverse_nil, UU, idxP, cellsAt, fillA, zerosA, putAll, row, Int.reduceLT, Int.reduceLE, Int.reduceGT, Int.reduceGE, Int.reduceEq, Int.reduceNe, Int.reduceToNat, Int.reduceBEq, Int.reduceBNe, Nat.reduceLeDiff, Nat.reduceLT, Nat.reduceBNe, Nat.reduceGT, List.drop_nil, List.take_nil, Option.isSome_none, Int.ofNat_one, Int.ofNat_zero, hc, ht.idx hlt, hl1, s9, hw, c1, c2, c3', get_last, set_last, cellsOf, List.set_cons_zero, List.set_cons_succ, List.all_cons, List.all_nil, one, Bool.true_and, r3]

theorem L13_1 {lv kv : AV} {ks : List Int} (hks : ks.length ≤ 1000) {n : Int} {q : Nat} (d : Nat) : ∀ (i : Nat) {H : Heap}, i + d = ks.length → Gro 0 1 H kv ks.length (ks.map vI) → H[q]? = some ⟨0, [vI 0, .nils]⟩ →
    lp EJ Y F13L1 (sp 73 [(57, vI i), (56, vI ks.length), (55, kv), (6, .ptr q 0 0), (1, lv), (0, vI n)]) H =
      if (ks.drop i).any (badK n) = true then some (.r, sp 73 [(7, vI 2), (6, .ptr q 0 0)], H) else some (.x 3, sp 73 [(6, .ptr q 0 0), (1, lv), (0, vI n)], H) := by
  induction d with
  | zero =>
    intro i H hi hg h0
    rw [un13_1, List.drop_eq_nil_of_le (by omega)]
    have : ¬ ((i : Int) < (ks.length : Int)) := by omega
    simp only [F13L1b, List.any_nil, Bool.false_eq_true, if_false, SS, insA, wantedA, Opd.ev, putA, binA, eqbA, unA, fldA, partA, reduceIte, reduceCtorEq, Nat.reduceMod, Nat.reduceDiv, Nat.reduceBEq, resultA, resA, vI, Nat.reduceMul, Nat.reduceAdd, Nat.reduceSub, Nat.reduceEqDiff, Nat.reduceLT, Nat.reducePow, Nat.reduceLeDiff, st, Option.bind_eq_bind, Option.pure_def, List.length_nil, Int.cast_ofNat_Int, List.reverse_nil, UU, idxP, cellsAt, storeA, fillA, zerosA, putAll, optNat, sliceA, row, Int.reduceLT, Int.reduceLE, Int.reduceGT, Int.reduceGE, Int.reduceEq, Int.reduceNe, Int.reduceToNat, Int.reduceBEq, Int.reduceBNe, Nat.reduceLeDiff, Nat.reduceLT, Nat.reduceBNe, Nat.reduceGT, List.drop_nil, List.take_nil, Option.isSome_none, Int.ofNat_one, Int.ofNat_zero, this]
  | succ d ih =>
    intro i H hi hg h0
    have hlt : i < ks.length := by omega
    have hc : (i : Int) < (ks.length : Int) := by omega
    have hw := wrap_succ (n := i) (by omega)
    have hix := hg.idx hlt
    have hld := hg.load hlt
    have hq : q < H.length := hlt_of h0
    rw [getD_get (by simpa using hlt), List.getElem_map] at hld
    rw [any_drop hlt]
    generalize hp : ks[i] = k at *
    have hst : storeA H 2 (.ptr q 0 0) (.agg [vI 0, .nils]) = some H := by
      simp only [storeA, h0, cellsOf, List.length_cons, List.length_nil, List.all_cons, List.all_nil, one, Bool.and_true, and_self, if_true, putAll, List.set_cons_zero, List.set_cons_succ, Nat.zero_add, Nat.le_refl]
      congr 1
      apply List.ext_getElem?
      intro j
      by_cases e : j = q
      · subst e; rw [List.getElem?_set_self (by omega), h0]
      · rw [List.getElem?_set_ne (fun h => e h.symm)]
    simp only [vI] at hst
    rw [un13_1]
    unfold badK
    by_cases c1 : k < 0
    · simp only [c1, decide_true, Bool.true_or, if_true]
      simp only [F13L1b, SS, insA, wantedA, Opd.ev, putA, binA, eqbA, unA, fldA, partA, reduceIte, reduceCtorEq, Nat.reduceMod, Nat.reduceDiv, Nat.reduceBEq, resultA, resA, vI, Nat.reduceMul, Nat.reduceAdd, Nat.reduceSub, Nat.reduceEqDiff, Nat.reduceLT, Nat.reducePow, Nat.reduceLeDiff, st, Option.bind_eq_bind, Option.pure_def, List.length_nil, Int.cast_ofNat_Int, List.reverse_nil, UU, idxP, cellsAt, fillA, zerosA, putAll, row, Int.reduceLT, Int.reduceLE, Int.reduceGT, Int.reduceGE, Int.reduceEq, Int.reduceNe, Int.reduceToNat, Int.reduceBEq, Int.reduceBNe, Nat.reduceLeDiff, Nat.reduceLT, Nat.reduceBNe, Nat.reduceGT, List.drop_nil, List.take_nil, Option.isSome_none, Int.ofNat_one, Int.ofNat_zero, hc, hix, hld, c1, hst]
    · by_cases c2 : k ≥ n
      · simp only [c1, c2, decide_true, decide_false, Bool.true_or, Bool.false_or, if_true]
        simp only [F13L1b, SS, insA, wantedA, Opd.ev, putA, binA, eqbA, unA, fldA, partA, reduceIte, reduceCtorEq, Nat.reduceMod, Nat.reduceDiv, Nat.reduceBEq, resultA, resA, vI, Nat.reduceMul, Nat.reduceAdd, Nat.reduceSub, Nat.reduceEqDiff, Nat.reduceLT, Nat.reducePow, Nat.reduceLeDiff, st, Option.bind_eq_bind, Option.pure_def, List.length_nil, Int.cast_ofNat_Int, List.reverse_nil, UU, idxP, cellsAt, fillA, zerosA, putAll, row, Int.reduceLT, Int.reduceLE, Int.reduceGT, Int.reduceGE, Int.reduceEq, Int.reduceNe, Int.reduceToNat, Int.reduceBEq, Int.reduceBNe, Nat.reduceLeDiff, Nat.reduceLT, Nat.reduceBNe, Nat.reduceGT, List.drop_nil, List.take_nil, Option.isSome_none, Int.ofNat_one, Int.ofNat_zero, hc, hix, hld, c1, c2, hst]
      · have r3 := ih (i + 1) (by omega) hg h0
        simp only [c1, c2, decide_false, Bool.false_or]
        unfold badK at r3
        simp only [SS, insA, wantedA, Opd.ev, putA, binA, eqbA, unA, fldA, partA, reduceIte, reduceCtorEq, Nat.reduceMod, Nat.reduceDiv, Nat.reduceBEq, resultA, resA, vI, Nat.reduceMul, Nat.reduceAdd, Nat.reduceSub, Nat.reduceEqDiff, Nat.reduceLT, Nat.reducePow, Nat.reduceLeDiff, st, Option.bind_eq_bind, Option.pure_def, List.length_nil, Int.cast_ofNat_Int, List.reverse_nil] at r3
        simp only [F13L1b, SS, insA, wantedA, Opd.ev, putA, binA, eqbA, unA, fldA, partA, reduceIte, reduceCtorEq, Nat.reduceMod, Nat.reduceDiv, Nat.reduceBEq, resultA, resA, vI, Nat.reduceMul, Nat.reduceAdd, Nat.reduceSub, Nat.reduceEqDiff, Nat.reduceLT, Nat.reducePow, Nat.reduceLeDiff, st, Option.bind_eq_bind, Option.pure_def, List.length_nil, Int.cast_ofNat_Int, List.reverse_nil, UU, idxP, cellsAt, fillA, zerosA, putAll, row, Int.reduceLT, Int.reduceLE, Int.reduceGT, Int.reduceGE, Int.reduceEq, Int.reduceNe, Int.reduceToNat, Int.reduceBEq, Int.reduceBNe, Nat.reduceLeDiff, Nat.reduceLT, Nat.reduceBNe, Nat.reduceGT, List.drop_nil, List.take_nil, Option.isSome_none, Int.ofNat_one, Int.ofNat_zero, hc, hix, hld, hw, c1, c2, r3]

theorem read13 {H : Heap} {lv kv : AV} {l : List (Int × Int)} {ks : List Int} {n : Int} (ht : IsPairs lv l) (hl : l.length ≤ 1000) (hks : ks.length ≤ 1000) (hg : Gro 0 1 H kv ks.length (ks.map vI)) :
    ∃ H', (∀ j, j < H.length → H'[j]? = H[j]?) ∧ H.length ≤ H'.length ∧ callL EJ Y 13 [vI n, lv, kv] H = some (.tup [if readE n l ks = 0 then .agg [vI n, lv] else .agg [vI 0, .nils], vI (readE n l ks)], H') := by
  rw [call13 rfl]
  have keep : ∀ j, j < H.length → (H ++ [(⟨0, [vI 0, .nils]⟩ : Ob)])[j]? = H[j]? := fun j hj => List.getElem?_append_left hj
  have hle : H.length ≤ (H ++ [(⟨0, [vI 0, .nils]⟩ : Ob)]).length := by simp
  have hst : storeA (H ++ [(⟨0, [vI 0, .nils]⟩ : Ob)]) 2 (.ptr H.length 0 0) (.agg [vI 0, .nils]) = some (H ++ [(⟨0, [vI 0, .nils]⟩ : Ob)]) := by simp [storeA, cellsOf, one, putAll]
  have hld : loadA (H ++ [(⟨0, [vI 0, .nils]⟩ : Ob)]) (some 2) (.ptr H.length 0 0) = some (.agg [vI 0, .nils]) := by simp [loadA, cellsAt]
  simp only [vI] at hst hld
  by_cases c1 : n < 2
  · refine ⟨_, keep, hle, ?_⟩
    have e : readE n l ks = 2 := by unfold readE; exact if_pos (.inl c1)
    rw [e]
    simp only [F13B, SS, insA, wantedA, Opd.ev, putA, binA, eqbA, unA, fldA, partA, reduceIte, reduceCtorEq, Nat.reduceMod, Nat.reduceDiv, Nat.reduceBEq, resultA, resA, vI, Nat.reduceMul, Nat.reduceAdd, Nat.reduceSub, Nat.reduceEqDiff, Nat.reduceLT, Nat.reducePow, Nat.reduceLeDiff, st, Option.bind_eq_bind, Option.pure_def, List.length_nil, Int.cast_ofNat_Int, List.reverse_nil, UU, idxP, cellsAt, fillA, zerosA, putAll, row, Int.reduceLT, Int.reduceLE, Int.reduceGT, Int.reduceGE, Int.reduceEq, Int.reduceNe, Int.reduceToNat, Int.reduceBEq, Int.reduceBNe, Nat.reduceLeDiff, Nat.reduceLT, Nat.reduceBNe, Nat.reduceGT, List.drop_nil, List.take_nil, Option.isSome_none, Int.ofNat_one, Int.ofNat_zero, c1, hst, hld, endX, List.mapM_cons, List.mapM_nil, reduceCtorEq, Int.reduceEq, if_false]
  · by_cases c2 : n > 8
    · refine ⟨_, keep, hle, ?_⟩
      have e : readE n l ks = 2 := by unfold readE; exact if_pos (.inr c2)
      rw [e]
      simp only [F13B, SS, insA, wantedA, Opd.ev, putA, binA, eqbA, unA, fldA, partA, reduceIte, reduceCtorEq, Nat.reduceMod, Nat.reduceDiv, Nat.reduceBEq, resultA, resA, vI, Nat.reduceMul, Nat.reduceAdd, Nat.reduceSub, Nat.reduceEqDiff, Nat.reduceLT, Nat.reducePow, Nat.reduceLeDiff, st, Option.bind_eq_bind, Option.pure_def, List.length_nil, Int.cast_ofNat_Int, List.reverse_nil, UU, idxP, cellsAt, fillA, zerosA, putAll, row, Int.reduceLT, Int.reduceLE, Int.reduceGT, Int.reduceGE, Int.reduceEq, Int.reduceNe, Int.reduceToNat, Int.reduceBEq, Int.reduceBNe, Nat.reduceLeDiff, Nat.reduceLT, Nat.reduceBNe, Nat.reduceGT, List.drop_nil, List.take_nil, Option.isSome_none, Int.ofNat_one, Int.ofNat_zero, c1, c2, hst, hld, endX, List.mapM_cons, List.mapM_nil, reduceCtorEq, Int.reduceEq, if_false]
    · have nn : ¬ (n < 2 ∨ n > 8) := by omega
      by_cases c3 : l.length > 13
      · have c3' : (l.length : Int) > 13 := by omega
        refine ⟨_, keep, hle, ?_⟩
        have e : readE n l ks = 3 := by unfold readE; rw [if_neg nn, if_pos c3]
        rw [e]
        simp only [F13B, SS, insA, wantedA, Opd.ev, putA, binA, eqbA, unA, fldA, partA, reduceIte, reduceCtorEq, Nat.reduceMod, Nat.reduceDiv, Nat.reduceBEq, resultA, resA, vI, Nat.reduceMul, Nat.reduceAdd, Nat.reduceSub, Nat.reduceEqDiff, Nat.reduceLT, Nat.reducePow, Nat.reduceLeDiff, st, Option.bind_eq_bind, Option.pure_def, List.length_nil, Int.cast_ofNat_Int, List.reverse_nil, UU, idxP, cellsAt, fillA, zerosA, putAll, row, Int.reduceLT, Int.reduceLE, Int.reduceGT, Int.reduceGE, Int.reduceEq, Int.reduceNe, Int.reduceToNat, Int.reduceBEq, Int.reduceBNe, Nat.reduceLeDiff, Nat.reduceLT, Nat.reduceBNe, Nat.reduceGT, List.drop_nil, List.take_nil, Option.isSome_none, Int.ofNat_one, Int.ofNat_zero, c1, c2, ht.len, c3', hst, hld, endX, List.mapM_cons, List.mapM_nil, reduceCtorEq, Int.reduceEq, if_false]
      · have c3' : ¬ (l.length : Int) > 13 := by omega
        obtain ⟨H1, k1, k2, k3⟩ := L13_0 (Y := Y) (kv := kv) ht hl (n := n) (q := H.length) l.length 0 (H ++ [⟨0, [vI 0, .nils]⟩]) (by omega) get_last
        have m1 : ∀ j, j < H.length → H1[j]? = H[j]? := fun j hj => (k1 j (by simp; omega)).trans (keep j hj)
        have m2 : H.length ≤ H1.length := Nat.le_trans hle k2
        have o1 : H1[H.length]? = some ⟨0, [vI 0, .nils]⟩ := (k1 _ (by simp)).trans get_last
        have hld1 : loadA H1 (some 2) (.ptr H.length 0 0) = some (.agg [vI 0, .nils]) := by simp [loadA, cellsAt, o1]
        simp only [vI] at hld1
        rw [List.drop_zero] at k3
        cases b1 : l.any (badT n) with
        | true =>
          refine ⟨H1, m1, m2, ?_⟩
          have e : readE n l ks = 2 := by unfold readE; rw [if_neg nn, if_neg c3, if_pos b1]
          rw [e]
          rw [b1, if_pos rfl] at k3
          simp only [SS, insA, wantedA, Opd.ev, putA, binA, eqbA, unA, fldA, partA, reduceIte, reduceCtorEq, Nat.reduceMod, Nat.reduceDiv, Nat.reduceBEq, resultA, resA, vI, Nat.reduceMul, Nat.reduceAdd, Nat.reduceSub, Nat.reduceEqDiff, Nat.reduceLT, Nat.reducePow, Nat.reduceLeDiff, st, Option.bind_eq_bind, Option.pure_def, List.length_nil, Int.cast_ofNat_Int, List.reverse_nil, Int.ofNat_zero] at k3
          simp only [F13B, F13T1, in13_0, SS, insA, wantedA, Opd.ev, putA, binA, eqbA, unA, fldA, partA, reduceIte, reduceCtorEq, Nat.reduceMod, Nat.reduceDiv, Nat.reduceBEq, resultA, resA, vI, Nat.reduceMul, Nat.reduceAdd, Nat.reduceSub, Nat.reduceEqDiff, Nat.reduceLT, Nat.reducePow, Nat.reduceLeDiff, st, Option.bind_eq_bind, Option.pure_def, List.length_nil, Int.cast_ofNat_Int, List.reverse_nil, UU, idxP, cellsAt, fillA, zerosA, putAll, row, Int.reduceLT, Int.reduceLE, Int.reduceGT, Int.reduceGE, Int.reduceEq, Int.reduceNe, Int.reduceToNat, Int.reduceBEq, Int.reduceBNe, Nat.reduceLeDiff, Nat.reduceLT, Nat.reduceBNe, Nat.reduceGT, List.drop_nil, List.take_nil, Option.isSome_none, Int.ofNat_one, Int.ofNat_zero, c1, c2, ht.len, c3', k3, hld1, endX, List.mapM_cons, List.mapM_nil, reduceCtorEq, Int.reduceEq, if_false, if_true]
        | false =>
          rw [b1, if_neg (by simp)] at k3
          have hg1 : Gro 0 1 H1 kv ks.length (ks.map vI) := hg.keep fun j hj => m1 j (hg.id_lt hj)
          have k4 := L13_1 (Y := Y) (lv := lv) hks (n := n) (q := H.length) ks.length 0 (by omega) hg1 o1
          rw [List.drop_zero] at k4
          cases b2 : ks.any (badK n) with
          | true =>
            refine ⟨H1, m1, m2, ?_⟩
            have e : readE n l ks = 2 := by unfold readE; rw [if_neg nn, if_neg c3, if_neg (by simp [b1]), if_pos b2]
            rw [e]
            rw [b2, if_pos rfl] at k4
            simp only [SS, insA, wantedA, Opd.ev, putA, binA, eqbA, unA, fldA, partA, reduceIte, reduceCtorEq, Nat.reduceMod, Nat.reduceDiv, Nat.reduceBEq, resultA, resA, vI, Nat.reduceMul, Nat.reduceAdd, Nat.reduceSub, Nat.reduceEqDiff, Nat.reduceLT, Nat.reducePow, Nat.reduceLeDiff, st, Option.bind_eq_bind, Option.pure_def, List.length_nil, Int.cast_ofNat_Int, List.reverse_nil, Int.ofNat_zero] at k3 k4
            simp only [F13B, F13T1, in13_0, in13_1, SS, insA, wantedA, Opd.ev, putA, binA, eqbA, unA, fldA, partA, reduceIte, reduceCtorEq, Nat.reduceMod, Nat.reduceDiv, Nat.reduceBEq, resultA, resA, vI, Nat.reduceMul, Nat.reduceAdd, Nat.reduceSub, Nat.reduceEqDiff, Nat.reduceLT, Nat.reducePow, Nat.reduceLeDiff, st, Option.bind_eq_bind, Option.pure_def, List.length_nil, Int.cast_ofNat_Int, List.reverse_nil, UU, idxP, cellsAt, fillA, zerosA, putAll, row, Int.reduceLT, Int.reduceLE, Int.reduceGT, Int.reduceGE, Int.reduceEq, Int.reduceNe, Int.reduceToNat, Int.reduceBEq, Int.reduceBNe, Nat.reduceLeDiff, Nat.reduceLT, Nat.reduceBNe, Nat.reduceGT, List.drop_nil, List.take_nil, Option.isSome_none, Int.ofNat_one, Int.ofNat_zero, c1, c2, ht.len, hg1.len, c3', k3, k4, hld1, endX, List.mapM_cons, List.mapM_nil, reduceCtorEq, Int.reduceEq, if_false, if_true, Bool.false_eq_true]
          | false =>
            rw [b2, if_neg (by simp)] at k4
            have e : readE n l ks = 0 := by unfold readE; rw [if_neg nn, if_neg c3, if_neg (by simp [b1]), if_neg (by simp [b2])]
            rw [e]
            have hq1 : H.length < H1.length := by have : H.length < (H ++ [(⟨0, [vI 0, .nils]⟩ : Ob)]).length := by simp
                                                  omega
            have hst1 : storeA H1 2 (.ptr H.length 0 0) (.agg [vI n, lv]) = some (H1.set H.length ⟨0, [vI n, lv]⟩) := by
              have ov : one (vI n) = true := rfl
              simp [storeA, cellsOf, putAll, o1, ht.one.1, ov]
            have hfl : fillA [vI 0, .nils] [(0, 1, vI n), (1, 1, lv)] = some [vI n, lv] := by cases ht <;> rfl
            have hld2 : loadA (H1.set H.length ⟨0, [vI n, lv]⟩) (some 2) (.ptr H.length 0 0) = some (.agg [vI n, lv]) := by simp [loadA, cellsAt, hq1]
            simp only [vI] at hst1 hld2 hfl
            refine ⟨H1.set H.length ⟨0, [vI n, lv]⟩, fun j hj => by rw [List.getElem?_set_ne (by omega)]; exact m1 j hj, by simpa using m2, ?_⟩
            simp only [SS, insA, wantedA, Opd.ev, putA, binA, eqbA, unA, fldA, partA, reduceIte, reduceCtorEq, Nat.reduceMod, Nat.reduceDiv, Nat.reduceBEq, resultA, resA, vI, Nat.reduceMul, Nat.reduceAdd, Nat.reduceSub, Nat.reduceEqDiff, Nat.reduceLT, Nat.reducePow, Nat.reduceLeDiff, st, Option.bind_eq_bind, Option.pure_def, List.length_nil, Int.cast_ofNat_Int, List.reverse_nil, Int.ofNat_zero] at k3 k4
            simp only [F13B, F13T1, F13T0, in13_0, in13_1, SS, insA, wantedA, Opd.ev, putA, binA, eqbA, unA, fldA, partA, reduceIte, reduceCtorEq, Nat.reduceMod, Nat.reduceDiv, Nat.reduceBEq, resultA, resA, vI, Nat.reduceMul, Nat.reduceAdd, Nat.reduceSub, Nat.reduceEqDiff, Nat.reduceLT, Nat.reducePow, Nat.reduceLeDiff, st, Option.bind_eq_bind, Option.pure_def, List.length_nil, Int.cast_ofNat_Int, List.reverse_nil, UU, idxP, cellsAt, zerosA, putAll, row, Int.reduceLT, Int.reduceLE, Int.reduceGT, Int.reduceGE, Int.reduceEq, Int.reduceNe, Int.reduceToNat, Int.reduceBEq, Int.reduceBNe, Nat.reduceLeDiff, Nat.reduceLT, Nat.reduceBNe, Nat.reduceGT, List.drop_nil, List.take_nil, Option.isSome_none, Int.ofNat_one, Int.ofNat_zero, c1, c2, ht.len, hg1.len, c3', k3, k4, hst1, hld2, hfl, endX, List.mapM_cons, List.mapM_nil, reduceCtorEq, if_false, if_true, Bool.false_eq_true, List.set_cons_zero, List.set_cons_succ]
end
end Go.X
