import Derived.Test.YtmedpfjiidlidaaYA
/-! Mixtures, and what looks at tables and mixtures. -/
set_option linter.unusedSimpArgs false
set_option linter.unusedVariables false
set_option maxHeartbeats 2000000
set_option maxRecDepth 10000
namespace Go.X
open Go Go.RowKit
section
variable {Y : Run} {H : Heap}

def fit (den : Int) (l : List Int) : Prop := ∀ p ∈ l, 0 ≤ p ∧ p ≤ den
instance (den : Int) (l : List Int) : Decidable (fit den l) := by unfold fit; exact inferInstance
theorem fit_nil {den : Int} : fit den [] := fun _ h => by simp at h
theorem fit_cons {den x : Int} {l : List Int} : fit den (x :: l) ↔ (0 ≤ x ∧ x ≤ den) ∧ fit den l := by unfold fit; exact List.forall_mem_cons

/-- Whether parts are a mixture. -/
def mixP (n : Int) (l : List Int) (den : Int) : Prop := 1 ≤ n ∧ n ≤ 3 ∧ (l.length : Int) = n ∧ 1 ≤ den ∧ den ≤ 10000 ∧ fit den l ∧ sumL l = den ∧ gcdL den l = 1
instance (n : Int) (l : List Int) (den : Int) : Decidable (mixP n l den) := by unfold mixP; exact inferInstance
def mixS (n : Int) (l : List Int) (den : Int) : Bool := decide (mixP n l den)

theorem L21 {v w0 : AV} {l : List Int} {den : Int} (hv : IsRow v l) (hl : l.length ≤ 3) (hd : 1 ≤ den ∧ den ≤ 10000) (d : Nat) : ∀ (i : Nat) (s g : Int), i + d = l.length → 0 ≤ s ∧ s + d * 10000 ≤ 30000 → 0 ≤ g ∧ g ≤ 10000 →
    lp E Y F21L0 (st 64 [(3, .ptr 0 0 0), (5, vI s), (6, vI g), (35, v), (36, vI l.length), (37, vI i)]) [⟨0, [w0, vI den]⟩] =
      if fit den (l.drop i) then some (.x 0, st 64 [(3, .ptr 0 0 0), (5, vI (s + sumL (l.drop i))), (6, vI (gcdL g (l.drop i)))], [⟨0, [w0, vI den]⟩]) else some (.r, st 64 [(4, .bool false)], [⟨0, [w0, vI den]⟩]) := by
  induction d with
  | zero =>
    intro i s g hi hs hg
    rw [un21_0, List.drop_eq_nil_of_le (by omega), if_pos fit_nil]
    have : ¬ ((i : Int) < (l.length : Int)) := by omega
    simp only [F21L0b, SS, insA, wantedA, Opd.ev, putA, binA, eqbA, unA, fldA, partA, reduceIte, reduceCtorEq, Nat.reduceMod, Nat.reduceDiv, Nat.reduceBEq, resultA, resA, vI, Nat.reduceMul, Nat.reduceAdd, Nat.reduceSub, Nat.reduceEqDiff, Nat.reduceLT, Nat.reducePow, Nat.reduceLeDiff, st, Option.bind_eq_bind, Option.pure_def, List.length_nil, Int.cast_ofNat_Int, List.reverse_nil, this, sumL, gcdL, List.foldr_nil, Int.add_zero]
  | succ d ih =>
    intro i s g hi hs hg
    have hlt : i < l.length := by omega
    rw [un21_0, List.drop_eq_getElem_cons hlt]
    have hc : (i : Int) < (l.length : Int) := by omega
    have hw := wrap_succ (n := i) (by omega)
    have hgi : l.getD i 0 = l[i] := by simp [List.getD_eq_getElem?_getD, hlt]
    simp only [fit_cons]
    by_cases c1 : l[i] < 0
    · have : ¬ (0 ≤ l[i] ∧ l[i] ≤ den) := by omega
      simp only [F21L0b, SS, insA, wantedA, Opd.ev, putA, binA, eqbA, unA, fldA, partA, reduceIte, reduceCtorEq, Nat.reduceMod, Nat.reduceDiv, Nat.reduceBEq, resultA, resA, vI, Nat.reduceMul, Nat.reduceAdd, Nat.reduceSub, Nat.reduceEqDiff, Nat.reduceLT, Nat.reducePow, Nat.reduceLeDiff, st, Option.bind_eq_bind, Option.pure_def, List.length_nil, Int.cast_ofNat_Int, List.reverse_nil, UU, idxP, cellsAt, storeA, fillA, zerosA, putAll, optNat, sliceA, row, Int.reduceLT, Int.reduceLE, Int.reduceGT, Int.reduceGE, Int.reduceEq, Int.reduceNe, Int.reduceToNat, Int.reduceBEq, Int.reduceBNe, Nat.reduceLeDiff, Nat.reduceLT, Nat.reduceBNe, Nat.reduceGT, List.drop_nil, List.take_nil, Option.isSome_none, Int.ofNat_one, Int.ofNat_zero, hc, hv.idx hlt, hv.load hlt, hw, hgi, c1, this, decide_true, BEq.rfl, false_and]
    · by_cases c2 : l[i] > den
      · have : ¬ (0 ≤ l[i] ∧ l[i] ≤ den) := by omega
        simp only [F21L0b, SS, insA, wantedA, Opd.ev, putA, binA, eqbA, unA, fldA, partA, reduceIte, reduceCtorEq, Nat.reduceMod, Nat.reduceDiv, Nat.reduceBEq, resultA, resA, vI, Nat.reduceMul, Nat.reduceAdd, Nat.reduceSub, Nat.reduceEqDiff, Nat.reduceLT, Nat.reducePow, Nat.reduceLeDiff, st, Option.bind_eq_bind, Option.pure_def, List.length_nil, Int.cast_ofNat_Int, List.reverse_nil, UU, idxP, cellsAt, storeA, fillA, zerosA, putAll, optNat, sliceA, row, Int.reduceLT, Int.reduceLE, Int.reduceGT, Int.reduceGE, Int.reduceEq, Int.reduceNe, Int.reduceToNat, Int.reduceBEq, Int.reduceBNe, Nat.reduceLeDiff, Nat.reduceLT, Nat.reduceBNe, Nat.reduceGT, List.drop_nil, List.take_nil, Option.isSome_none, Int.ofNat_one, Int.ofNat_zero, hc, hv.idx hlt, hv.load hlt, hw, hgi, c1, c2, this, decide_true, decide_false, BEq.rfl, false_and]
      · have : (0 ≤ l[i] ∧ l[i] ≤ den) := by omega
        have w1 : IntKind.wrap .i64 (s + l[i]) = s + l[i] := wrap_id (by omega) (by omega)
        have g1 := gcd52 (Y := Y) (H := []) (a := g) (b := l[i]) (by omega) (by omega)
        have g2 : Int.gcd g l[i] ≤ 10000 := gcd_small (by omega) (by omega)
        have h3 := ih (i + 1) (s + l[i]) (Int.gcd g l[i] : Int) (by omega) (by omega) (by omega)
        simp only [SS, insA, wantedA, Opd.ev, putA, binA, eqbA, unA, fldA, partA, reduceIte, reduceCtorEq, Nat.reduceMod, Nat.reduceDiv, Nat.reduceBEq, resultA, resA, vI, Nat.reduceMul, Nat.reduceAdd, Nat.reduceSub, Nat.reduceEqDiff, Nat.reduceLT, Nat.reducePow, Nat.reduceLeDiff, st, Option.bind_eq_bind, Option.pure_def, List.length_nil, Int.cast_ofNat_Int, List.reverse_nil] at h3 g1
        simp only [F21L0b, SS, insA, wantedA, Opd.ev, putA, binA, eqbA, unA, fldA, partA, reduceIte, reduceCtorEq, Nat.reduceMod, Nat.reduceDiv, Nat.reduceBEq, resultA, resA, vI, Nat.reduceMul, Nat.reduceAdd, Nat.reduceSub, Nat.reduceEqDiff, Nat.reduceLT, Nat.reducePow, Nat.reduceLeDiff, st, Option.bind_eq_bind, Option.pure_def, List.length_nil, Int.cast_ofNat_Int, List.reverse_nil, UU, idxP, cellsAt, storeA, fillA, zerosA, putAll, optNat, sliceA, row, Int.reduceLT, Int.reduceLE, Int.reduceGT, Int.reduceGE, Int.reduceEq, Int.reduceNe, Int.reduceToNat, Int.reduceBEq, Int.reduceBNe, Nat.reduceLeDiff, Nat.reduceLT, Nat.reduceBNe, Nat.reduceGT, List.drop_nil, List.take_nil, Option.isSome_none, Int.ofNat_one, Int.ofNat_zero, hc, hv.idx hlt, hv.load hlt, hw, hgi, c1, c2, this, w1, g1, h3, decide_true, decide_false, BEq.rfl, true_and, sumL, gcdL, List.foldr_cons, Int.add_assoc]

theorem mix21 {v : AV} {l : List Int} {n den : Int} (hv : IsRow v l) (hl : l.length ≤ 20) : freeX H (callL E Y 21 [vI n, .agg [v, vI den]] []) = some (.bool (mixS n l den), H) := by
  rw [call21 rfl]
  have no : ¬ mixP n l den → mixS n l den = false := fun h => by simp [mixS, h]
  by_cases c1 : n < 1
  · rw [no (fun h => by have := h.1; omega)]
    simp only [F21B, SS, insA, wantedA, Opd.ev, putA, binA, eqbA, unA, fldA, partA, reduceIte, reduceCtorEq, Nat.reduceMod, Nat.reduceDiv, Nat.reduceBEq, resultA, resA, vI, Nat.reduceMul, Nat.reduceAdd, Nat.reduceSub, Nat.reduceEqDiff, Nat.reduceLT, Nat.reducePow, Nat.reduceLeDiff, st, Option.bind_eq_bind, Option.pure_def, List.length_nil, Int.cast_ofNat_Int, List.reverse_nil, UU, idxP, cellsAt, storeA, fillA, zerosA, putAll, optNat, sliceA, row, Int.reduceLT, Int.reduceLE, Int.reduceGT, Int.reduceGE, Int.reduceEq, Int.reduceNe, Int.reduceToNat, Int.reduceBEq, Int.reduceBNe, Nat.reduceLeDiff, Nat.reduceLT, Nat.reduceBNe, Nat.reduceGT, List.drop_nil, List.take_nil, Option.isSome_none, Int.ofNat_one, Int.ofNat_zero, c1, decide_true, decide_false, BEq.rfl]
  by_cases c2 : n > 3
  · rw [no (fun h => by have := h.2.1; omega)]
    simp only [F21B, SS, insA, wantedA, Opd.ev, putA, binA, eqbA, unA, fldA, partA, reduceIte, reduceCtorEq, Nat.reduceMod, Nat.reduceDiv, Nat.reduceBEq, resultA, resA, vI, Nat.reduceMul, Nat.reduceAdd, Nat.reduceSub, Nat.reduceEqDiff, Nat.reduceLT, Nat.reducePow, Nat.reduceLeDiff, st, Option.bind_eq_bind, Option.pure_def, List.length_nil, Int.cast_ofNat_Int, List.reverse_nil, UU, idxP, cellsAt, storeA, fillA, zerosA, putAll, optNat, sliceA, row, Int.reduceLT, Int.reduceLE, Int.reduceGT, Int.reduceGE, Int.reduceEq, Int.reduceNe, Int.reduceToNat, Int.reduceBEq, Int.reduceBNe, Nat.reduceLeDiff, Nat.reduceLT, Nat.reduceBNe, Nat.reduceGT, List.drop_nil, List.take_nil, Option.isSome_none, Int.ofNat_one, Int.ofNat_zero, c1, c2, decide_true, decide_false, BEq.rfl]
  by_cases c3 : (l.length : Int) = n
  · by_cases c4 : den < 1
    · rw [no (fun h => by have := h.2.2.2.1; omega)]
      simp only [F21B, SS, insA, wantedA, Opd.ev, putA, binA, eqbA, unA, fldA, partA, reduceIte, reduceCtorEq, Nat.reduceMod, Nat.reduceDiv, Nat.reduceBEq, resultA, resA, vI, Nat.reduceMul, Nat.reduceAdd, Nat.reduceSub, Nat.reduceEqDiff, Nat.reduceLT, Nat.reducePow, Nat.reduceLeDiff, st, Option.bind_eq_bind, Option.pure_def, List.length_nil, Int.cast_ofNat_Int, List.reverse_nil, UU, idxP, cellsAt, storeA, fillA, zerosA, putAll, optNat, sliceA, row, Int.reduceLT, Int.reduceLE, Int.reduceGT, Int.reduceGE, Int.reduceEq, Int.reduceNe, Int.reduceToNat, Int.reduceBEq, Int.reduceBNe, Nat.reduceLeDiff, Nat.reduceLT, Nat.reduceBNe, Nat.reduceGT, List.drop_nil, List.take_nil, Option.isSome_none, Int.ofNat_one, Int.ofNat_zero, c1, c2, hv.len, c3, c4, bne_self_eq_false, decide_true, decide_false, BEq.rfl]
    by_cases c5 : den > 10000
    · rw [no (fun h => by have := h.2.2.2.2.1; omega)]
      simp only [F21B, SS, insA, wantedA, Opd.ev, putA, binA, eqbA, unA, fldA, partA, reduceIte, reduceCtorEq, Nat.reduceMod, Nat.reduceDiv, Nat.reduceBEq, resultA, resA, vI, Nat.reduceMul, Nat.reduceAdd, Nat.reduceSub, Nat.reduceEqDiff, Nat.reduceLT, Nat.reducePow, Nat.reduceLeDiff, st, Option.bind_eq_bind, Option.pure_def, List.length_nil, Int.cast_ofNat_Int, List.reverse_nil, UU, idxP, cellsAt, storeA, fillA, zerosA, putAll, optNat, sliceA, row, Int.reduceLT, Int.reduceLE, Int.reduceGT, Int.reduceGE, Int.reduceEq, Int.reduceNe, Int.reduceToNat, Int.reduceBEq, Int.reduceBNe, Nat.reduceLeDiff, Nat.reduceLT, Nat.reduceBNe, Nat.reduceGT, List.drop_nil, List.take_nil, Option.isSome_none, Int.ofNat_one, Int.ofNat_zero, c1, c2, hv.len, c3, c4, c5, bne_self_eq_false, decide_true, decide_false, BEq.rfl]
    have h1 := L21 (Y := Y) (w0 := v) (den := den) hv (by omega) (by omega) l.length 0 0 den (by omega) (by omega) (by omega)
    simp only [SS, insA, wantedA, Opd.ev, putA, binA, eqbA, unA, fldA, partA, reduceIte, reduceCtorEq, Nat.reduceMod, Nat.reduceDiv, Nat.reduceBEq, resultA, resA, vI, Nat.reduceMul, Nat.reduceAdd, Nat.reduceSub, Nat.reduceEqDiff, Nat.reduceLT, Nat.reducePow, Nat.reduceLeDiff, st, Option.bind_eq_bind, Option.pure_def, List.length_nil, Int.cast_ofNat_Int, List.reverse_nil, List.drop_zero, Int.ofNat_zero, Int.zero_add, c3] at h1
    by_cases c6 : fit den l
    · rw [if_pos c6] at h1
      by_cases c7 : sumL l = den
      · by_cases c8 : gcdL den l = 1
        · have : mixS n l den = true := by
            have : mixP n l den := ⟨by omega, by omega, c3, by omega, by omega, c6, c7, c8⟩
            simp [mixS, this]
          rw [this]
          simp only [F21B, F21T0, in21_0, SS, insA, wantedA, Opd.ev, putA, binA, eqbA, unA, fldA, partA, reduceIte, reduceCtorEq, Nat.reduceMod, Nat.reduceDiv, Nat.reduceBEq, resultA, resA, vI, Nat.reduceMul, Nat.reduceAdd, Nat.reduceSub, Nat.reduceEqDiff, Nat.reduceLT, Nat.reducePow, Nat.reduceLeDiff, st, Option.bind_eq_bind, Option.pure_def, List.length_nil, Int.cast_ofNat_Int, List.reverse_nil, UU, idxP, cellsAt, storeA, fillA, zerosA, putAll, optNat, sliceA, row, Int.reduceLT, Int.reduceLE, Int.reduceGT, Int.reduceGE, Int.reduceEq, Int.reduceNe, Int.reduceToNat, Int.reduceBEq, Int.reduceBNe, Nat.reduceLeDiff, Nat.reduceLT, Nat.reduceBNe, Nat.reduceGT, List.drop_nil, List.take_nil, Option.isSome_none, Int.ofNat_one, Int.ofNat_zero, c1, c2, hv.len, c3, c4, c5, bne_self_eq_false, decide_true, decide_false, BEq.rfl, h1, c7, c8]
        · rw [no (fun h => c8 h.2.2.2.2.2.2.2)]
          have c8' : (gcdL den l == 1) = false := by simpa using c8
          simp only [F21B, F21T0, in21_0, SS, insA, wantedA, Opd.ev, putA, binA, eqbA, unA, fldA, partA, reduceIte, reduceCtorEq, Nat.reduceMod, Nat.reduceDiv, Nat.reduceBEq, resultA, resA, vI, Nat.reduceMul, Nat.reduceAdd, Nat.reduceSub, Nat.reduceEqDiff, Nat.reduceLT, Nat.reducePow, Nat.reduceLeDiff, st, Option.bind_eq_bind, Option.pure_def, List.length_nil, Int.cast_ofNat_Int, List.reverse_nil, UU, idxP, cellsAt, storeA, fillA, zerosA, putAll, optNat, sliceA, row, Int.reduceLT, Int.reduceLE, Int.reduceGT, Int.reduceGE, Int.reduceEq, Int.reduceNe, Int.reduceToNat, Int.reduceBEq, Int.reduceBNe, Nat.reduceLeDiff, Nat.reduceLT, Nat.reduceBNe, Nat.reduceGT, List.drop_nil, List.take_nil, Option.isSome_none, Int.ofNat_one, Int.ofNat_zero, c1, c2, hv.len, c3, c4, c5, bne_self_eq_false, decide_true, decide_false, BEq.rfl, h1, c7, c8']
      · rw [no (fun h => c7 h.2.2.2.2.2.2.1)]
        have c7' : (sumL l == den) = false := by simpa using c7
        simp only [F21B, F21T0, in21_0, SS, insA, wantedA, Opd.ev, putA, binA, eqbA, unA, fldA, partA, reduceIte, reduceCtorEq, Nat.reduceMod, Nat.reduceDiv, Nat.reduceBEq, resultA, resA, vI, Nat.reduceMul, Nat.reduceAdd, Nat.reduceSub, Nat.reduceEqDiff, Nat.reduceLT, Nat.reducePow, Nat.reduceLeDiff, st, Option.bind_eq_bind, Option.pure_def, List.length_nil, Int.cast_ofNat_Int, List.reverse_nil, UU, idxP, cellsAt, storeA, fillA, zerosA, putAll, optNat, sliceA, row, Int.reduceLT, Int.reduceLE, Int.reduceGT, Int.reduceGE, Int.reduceEq, Int.reduceNe, Int.reduceToNat, Int.reduceBEq, Int.reduceBNe, Nat.reduceLeDiff, Nat.reduceLT, Nat.reduceBNe, Nat.reduceGT, List.drop_nil, List.take_nil, Option.isSome_none, Int.ofNat_one, Int.ofNat_zero, c1, c2, hv.len, c3, c4, c5, bne_self_eq_false, decide_true, decide_false, BEq.rfl, h1, c7']
    · rw [if_neg c6] at h1
      rw [no (fun h => c6 h.2.2.2.2.2.1)]
      simp only [F21B, F21T0, in21_0, SS, insA, wantedA, Opd.ev, putA, binA, eqbA, unA, fldA, partA, reduceIte, reduceCtorEq, Nat.reduceMod, Nat.reduceDiv, Nat.reduceBEq, resultA, resA, vI, Nat.reduceMul, Nat.reduceAdd, Nat.reduceSub, Nat.reduceEqDiff, Nat.reduceLT, Nat.reducePow, Nat.reduceLeDiff, st, Option.bind_eq_bind, Option.pure_def, List.length_nil, Int.cast_ofNat_Int, List.reverse_nil, UU, idxP, cellsAt, storeA, fillA, zerosA, putAll, optNat, sliceA, row, Int.reduceLT, Int.reduceLE, Int.reduceGT, Int.reduceGE, Int.reduceEq, Int.reduceNe, Int.reduceToNat, Int.reduceBEq, Int.reduceBNe, Nat.reduceLeDiff, Nat.reduceLT, Nat.reduceBNe, Nat.reduceGT, List.drop_nil, List.take_nil, Option.isSome_none, Int.ofNat_one, Int.ofNat_zero, c1, c2, hv.len, c3, c4, c5, bne_self_eq_false, decide_true, decide_false, BEq.rfl, h1]
  · rw [no (fun h => c3 h.2.2.1)]
    have c3' : ((l.length : Int) != n) = true := by simpa using c3
    simp only [F21B, SS, insA, wantedA, Opd.ev, putA, binA, eqbA, unA, fldA, partA, reduceIte, reduceCtorEq, Nat.reduceMod, Nat.reduceDiv, Nat.reduceBEq, resultA, resA, vI, Nat.reduceMul, Nat.reduceAdd, Nat.reduceSub, Nat.reduceEqDiff, Nat.reduceLT, Nat.reducePow, Nat.reduceLeDiff, st, Option.bind_eq_bind, Option.pure_def, List.length_nil, Int.cast_ofNat_Int, List.reverse_nil, UU, idxP, cellsAt, storeA, fillA, zerosA, putAll, optNat, sliceA, row, Int.reduceLT, Int.reduceLE, Int.reduceGT, Int.reduceGE, Int.reduceEq, Int.reduceNe, Int.reduceToNat, Int.reduceBEq, Int.reduceBNe, Nat.reduceLeDiff, Nat.reduceLT, Nat.reduceBNe, Nat.reduceGT, List.drop_nil, List.take_nil, Option.isSome_none, Int.ofNat_one, Int.ofNat_zero, c1, c2, hv.len, c3', decide_true, decide_false, BEq.rfl]
theorem L22 {v : AV} {l : List Int} {den : Int} (hv : IsRow v l) (hl : l.length ≤ 3) (hd : 1 ≤ den ∧ den ≤ 10000) (d : Nat) : ∀ (i : Nat) (s g : Int), i + d = l.length → 0 ≤ s ∧ s + d * 10000 ≤ 30000 → 0 ≤ g ∧ g ≤ 10000 →
    lp E Y F22L0 (st 76 [(0, vI l.length), (3, .ptr 0 0 0), (5, vI s), (6, vI g), (7, vI i)]) [⟨0, [v, vI den]⟩] =
      if fit den (l.drop i) then some (.x 0, st 76 [(3, .ptr 0 0 0), (5, vI (s + sumL (l.drop i))), (6, vI (gcdL g (l.drop i)))], [⟨0, [v, vI den]⟩]) else some (.r, st 76 [(4, .bool false)], [⟨0, [v, vI den]⟩]) := by
  induction d with
  | zero =>
    intro i s g hi hs hg
    rw [un22_0, List.drop_eq_nil_of_le (by omega), if_pos fit_nil]
    have : ¬ ((i : Int) < (l.length : Int)) := by omega
    simp only [F22L0b, SS, insA, wantedA, Opd.ev, putA, binA, eqbA, unA, fldA, partA, reduceIte, reduceCtorEq, Nat.reduceMod, Nat.reduceDiv, Nat.reduceBEq, resultA, resA, vI, Nat.reduceMul, Nat.reduceAdd, Nat.reduceSub, Nat.reduceEqDiff, Nat.reduceLT, Nat.reducePow, Nat.reduceLeDiff, st, Option.bind_eq_bind, Option.pure_def, List.length_nil, Int.cast_ofNat_Int, List.reverse_nil, this, sumL, gcdL, List.foldr_nil, Int.add_zero]
  | succ d ih =>
    intro i s g hi hs hg
    have hlt : i < l.length := by omega
    rw [un22_0, List.drop_eq_getElem_cons hlt]
    have hc : (i : Int) < (l.length : Int) := by omega
    have hw := wrap_succ (n := i) (by omega)
    have hgi : l.getD i 0 = l[i] := by simp [List.getD_eq_getElem?_getD, hlt]
    simp only [fit_cons]
    by_cases c1 : l[i] < 0
    · have : ¬ (0 ≤ l[i] ∧ l[i] ≤ den) := by omega
      simp only [F22L0b, SS, insA, wantedA, Opd.ev, putA, binA, eqbA, unA, fldA, partA, reduceIte, reduceCtorEq, Nat.reduceMod, Nat.reduceDiv, Nat.reduceBEq, resultA, resA, vI, Nat.reduceMul, Nat.reduceAdd, Nat.reduceSub, Nat.reduceEqDiff, Nat.reduceLT, Nat.reducePow, Nat.reduceLeDiff, st, Option.bind_eq_bind, Option.pure_def, List.length_nil, Int.cast_ofNat_Int, List.reverse_nil, UU, idxP, cellsAt, storeA, fillA, zerosA, putAll, optNat, sliceA, row, Int.reduceLT, Int.reduceLE, Int.reduceGT, Int.reduceGE, Int.reduceEq, Int.reduceNe, Int.reduceToNat, Int.reduceBEq, Int.reduceBNe, Nat.reduceLeDiff, Nat.reduceLT, Nat.reduceBNe, Nat.reduceGT, List.drop_nil, List.take_nil, Option.isSome_none, Int.ofNat_one, Int.ofNat_zero, hc, hv.idx hlt, hv.load hlt, hw, hgi, c1, this, decide_true, BEq.rfl, false_and]
    · by_cases c2 : l[i] > den
      · have : ¬ (0 ≤ l[i] ∧ l[i] ≤ den) := by omega
        simp only [F22L0b, SS, insA, wantedA, Opd.ev, putA, binA, eqbA, unA, fldA, partA, reduceIte, reduceCtorEq, Nat.reduceMod, Nat.reduceDiv, Nat.reduceBEq, resultA, resA, vI, Nat.reduceMul, Nat.reduceAdd, Nat.reduceSub, Nat.reduceEqDiff, Nat.reduceLT, Nat.reducePow, Nat.reduceLeDiff, st, Option.bind_eq_bind, Option.pure_def, List.length_nil, Int.cast_ofNat_Int, List.reverse_nil, UU, idxP, cellsAt, storeA, fillA, zerosA, putAll, optNat, sliceA, row, Int.reduceLT, Int.reduceLE, Int.reduceGT, Int.reduceGE, Int.reduceEq, Int.reduceNe, Int.reduceToNat, Int.reduceBEq, Int.reduceBNe, Nat.reduceLeDiff, Nat.reduceLT, Nat.reduceBNe, Nat.reduceGT, List.drop_nil, List.take_nil, Option.isSome_none, Int.ofNat_one, Int.ofNat_zero, hc, hv.idx hlt, hv.load hlt, hw, hgi, c1, c2, this, decide_true, decide_false, BEq.rfl, false_and]
      · have : (0 ≤ l[i] ∧ l[i] ≤ den) := by omega
        have w1 : IntKind.wrap .i64 (s + l[i]) = s + l[i] := wrap_id (by omega) (by omega)
        have g1 := gcd53 (Y := Y) (H := []) (a := g) (b := l[i]) (by omega) (by omega)
        have g2 : Int.gcd g l[i] ≤ 10000 := gcd_small (by omega) (by omega)
        have h3 := ih (i + 1) (s + l[i]) (Int.gcd g l[i] : Int) (by omega) (by omega) (by omega)
        simp only [SS, insA, wantedA, Opd.ev, putA, binA, eqbA, unA, fldA, partA, reduceIte, reduceCtorEq, Nat.reduceMod, Nat.reduceDiv, Nat.reduceBEq, resultA, resA, vI, Nat.reduceMul, Nat.reduceAdd, Nat.reduceSub, Nat.reduceEqDiff, Nat.reduceLT, Nat.reducePow, Nat.reduceLeDiff, st, Option.bind_eq_bind, Option.pure_def, List.length_nil, Int.cast_ofNat_Int, List.reverse_nil] at h3 g1
        simp only [F22L0b, SS, insA, wantedA, Opd.ev, putA, binA, eqbA, unA, fldA, partA, reduceIte, reduceCtorEq, Nat.reduceMod, Nat.reduceDiv, Nat.reduceBEq, resultA, resA, vI, Nat.reduceMul, Nat.reduceAdd, Nat.reduceSub, Nat.reduceEqDiff, Nat.reduceLT, Nat.reducePow, Nat.reduceLeDiff, st, Option.bind_eq_bind, Option.pure_def, List.length_nil, Int.cast_ofNat_Int, List.reverse_nil, UU, idxP, cellsAt, storeA, fillA, zerosA, putAll, optNat, sliceA, row, Int.reduceLT, Int.reduceLE, Int.reduceGT, Int.reduceGE, Int.reduceEq, Int.reduceNe, Int.reduceToNat, Int.reduceBEq, Int.reduceBNe, Nat.reduceLeDiff, Nat.reduceLT, Nat.reduceBNe, Nat.reduceGT, List.drop_nil, List.take_nil, Option.isSome_none, Int.ofNat_one, Int.ofNat_zero, hc, hv.idx hlt, hv.load hlt, hw, hgi, c1, c2, this, w1, g1, h3, decide_true, decide_false, BEq.rfl, true_and, sumL, gcdL, List.foldr_cons, Int.add_assoc]


theorem mix22 {v : AV} {l : List Int} {n den : Int} (hv : IsRow v l) (hl : l.length ≤ 20) : freeX H (callL E Y 22 [vI n, .agg [v, vI den]] []) = some (.bool (mixS n l den), H) := by
  rw [call22 rfl]
  have no : ¬ mixP n l den → mixS n l den = false := fun h => by simp [mixS, h]
  by_cases c1 : n < 1
  · rw [no (fun h => by have := h.1; omega)]
    simp only [F22B, SS, insA, wantedA, Opd.ev, putA, binA, eqbA, unA, fldA, partA, reduceIte, reduceCtorEq, Nat.reduceMod, Nat.reduceDiv, Nat.reduceBEq, resultA, resA, vI, Nat.reduceMul, Nat.reduceAdd, Nat.reduceSub, Nat.reduceEqDiff, Nat.reduceLT, Nat.reducePow, Nat.reduceLeDiff, st, Option.bind_eq_bind, Option.pure_def, List.length_nil, Int.cast_ofNat_Int, List.reverse_nil, UU, idxP, cellsAt, storeA, fillA, zerosA, putAll, optNat, sliceA, row, Int.reduceLT, Int.reduceLE, Int.reduceGT, Int.reduceGE, Int.reduceEq, Int.reduceNe, Int.reduceToNat, Int.reduceBEq, Int.reduceBNe, Nat.reduceLeDiff, Nat.reduceLT, Nat.reduceBNe, Nat.reduceGT, List.drop_nil, List.take_nil, Option.isSome_none, Int.ofNat_one, Int.ofNat_zero, c1, decide_true, decide_false, BEq.rfl]
  by_cases c2 : n > 3
  · rw [no (fun h => by have := h.2.1; omega)]
    simp only [F22B, SS, insA, wantedA, Opd.ev, putA, binA, eqbA, unA, fldA, partA, reduceIte, reduceCtorEq, Nat.reduceMod, Nat.reduceDiv, Nat.reduceBEq, resultA, resA, vI, Nat.reduceMul, Nat.reduceAdd, Nat.reduceSub, Nat.reduceEqDiff, Nat.reduceLT, Nat.reducePow, Nat.reduceLeDiff, st, Option.bind_eq_bind, Option.pure_def, List.length_nil, Int.cast_ofNat_Int, List.reverse_nil, UU, idxP, cellsAt, storeA, fillA, zerosA, putAll, optNat, sliceA, row, Int.reduceLT, Int.reduceLE, Int.reduceGT, Int.reduceGE, Int.reduceEq, Int.reduceNe, Int.reduceToNat, Int.reduceBEq, Int.reduceBNe, Nat.reduceLeDiff, Nat.reduceLT, Nat.reduceBNe, Nat.reduceGT, List.drop_nil, List.take_nil, Option.isSome_none, Int.ofNat_one, Int.ofNat_zero, c1, c2, decide_true, decide_false, BEq.rfl]
  by_cases c3 : (l.length : Int) = n
  · subst c3
    have c3 : (l.length : Int) = (l.length : Int) := rfl
    by_cases c4 : den < 1
    · rw [no (fun h => by have := h.2.2.2.1; omega)]
      simp only [F22B, SS, insA, wantedA, Opd.ev, putA, binA, eqbA, unA, fldA, partA, reduceIte, reduceCtorEq, Nat.reduceMod, Nat.reduceDiv, Nat.reduceBEq, resultA, resA, vI, Nat.reduceMul, Nat.reduceAdd, Nat.reduceSub, Nat.reduceEqDiff, Nat.reduceLT, Nat.reducePow, Nat.reduceLeDiff, st, Option.bind_eq_bind, Option.pure_def, List.length_nil, Int.cast_ofNat_Int, List.reverse_nil, UU, idxP, cellsAt, storeA, fillA, zerosA, putAll, optNat, sliceA, row, Int.reduceLT, Int.reduceLE, Int.reduceGT, Int.reduceGE, Int.reduceEq, Int.reduceNe, Int.reduceToNat, Int.reduceBEq, Int.reduceBNe, Nat.reduceLeDiff, Nat.reduceLT, Nat.reduceBNe, Nat.reduceGT, List.drop_nil, List.take_nil, Option.isSome_none, Int.ofNat_one, Int.ofNat_zero, c1, c2, hv.len, c4, bne_self_eq_false, decide_true, decide_false, BEq.rfl]
    by_cases c5 : den > 10000
    · rw [no (fun h => by have := h.2.2.2.2.1; omega)]
      simp only [F22B, SS, insA, wantedA, Opd.ev, putA, binA, eqbA, unA, fldA, partA, reduceIte, reduceCtorEq, Nat.reduceMod, Nat.reduceDiv, Nat.reduceBEq, resultA, resA, vI, Nat.reduceMul, Nat.reduceAdd, Nat.reduceSub, Nat.reduceEqDiff, Nat.reduceLT, Nat.reducePow, Nat.reduceLeDiff, st, Option.bind_eq_bind, Option.pure_def, List.length_nil, Int.cast_ofNat_Int, List.reverse_nil, UU, idxP, cellsAt, storeA, fillA, zerosA, putAll, optNat, sliceA, row, Int.reduceLT, Int.reduceLE, Int.reduceGT, Int.reduceGE, Int.reduceEq, Int.reduceNe, Int.reduceToNat, Int.reduceBEq, Int.reduceBNe, Nat.reduceLeDiff, Nat.reduceLT, Nat.reduceBNe, Nat.reduceGT, List.drop_nil, List.take_nil, Option.isSome_none, Int.ofNat_one, Int.ofNat_zero, c1, c2, hv.len, c4, c5, bne_self_eq_false, decide_true, decide_false, BEq.rfl]
    have h1 := L22 (Y := Y) (den := den) hv (by omega) (by omega) l.length 0 0 den (by omega) (by omega) (by omega)
    simp only [SS, insA, wantedA, Opd.ev, putA, binA, eqbA, unA, fldA, partA, reduceIte, reduceCtorEq, Nat.reduceMod, Nat.reduceDiv, Nat.reduceBEq, resultA, resA, vI, Nat.reduceMul, Nat.reduceAdd, Nat.reduceSub, Nat.reduceEqDiff, Nat.reduceLT, Nat.reducePow, Nat.reduceLeDiff, st, Option.bind_eq_bind, Option.pure_def, List.length_nil, Int.cast_ofNat_Int, List.reverse_nil, List.drop_zero, Int.ofNat_zero, Int.zero_add] at h1
    by_cases c6 : fit den l
    · rw [if_pos c6] at h1
      by_cases c7 : sumL l = den
      · by_cases c8 : gcdL den l = 1
        · have : mixS (l.length : Int) l den = true := by
            have : mixP (l.length : Int) l den := ⟨by omega, by omega, c3, by omega, by omega, c6, c7, c8⟩
            simp [mixS, this]
          rw [this]
          simp only [F22B, F22T0, in22_0, SS, insA, wantedA, Opd.ev, putA, binA, eqbA, unA, fldA, partA, reduceIte, reduceCtorEq, Nat.reduceMod, Nat.reduceDiv, Nat.reduceBEq, resultA, resA, vI, Nat.reduceMul, Nat.reduceAdd, Nat.reduceSub, Nat.reduceEqDiff, Nat.reduceLT, Nat.reducePow, Nat.reduceLeDiff, st, Option.bind_eq_bind, Option.pure_def, List.length_nil, Int.cast_ofNat_Int, List.reverse_nil, UU, idxP, cellsAt, storeA, fillA, zerosA, putAll, optNat, sliceA, row, Int.reduceLT, Int.reduceLE, Int.reduceGT, Int.reduceGE, Int.reduceEq, Int.reduceNe, Int.reduceToNat, Int.reduceBEq, Int.reduceBNe, Nat.reduceLeDiff, Nat.reduceLT, Nat.reduceBNe, Nat.reduceGT, List.drop_nil, List.take_nil, Option.isSome_none, Int.ofNat_one, Int.ofNat_zero, c1, c2, hv.len, c4, c5, bne_self_eq_false, decide_true, decide_false, BEq.rfl, h1, c7, c8]
        · rw [no (fun h => c8 h.2.2.2.2.2.2.2)]
          have c8' : (gcdL den l == 1) = false := by simpa using c8
          simp only [F22B, F22T0, in22_0, SS, insA, wantedA, Opd.ev, putA, binA, eqbA, unA, fldA, partA, reduceIte, reduceCtorEq, Nat.reduceMod, Nat.reduceDiv, Nat.reduceBEq, resultA, resA, vI, Nat.reduceMul, Nat.reduceAdd, Nat.reduceSub, Nat.reduceEqDiff, Nat.reduceLT, Nat.reducePow, Nat.reduceLeDiff, st, Option.bind_eq_bind, Option.pure_def, List.length_nil, Int.cast_ofNat_Int, List.reverse_nil, UU, idxP, cellsAt, storeA, fillA, zerosA, putAll, optNat, sliceA, row, Int.reduceLT, Int.reduceLE, Int.reduceGT, Int.reduceGE, Int.reduceEq, Int.reduceNe, Int.reduceToNat, Int.reduceBEq, Int.reduceBNe, Nat.reduceLeDiff, Nat.reduceLT, Nat.reduceBNe, Nat.reduceGT, List.drop_nil, List.take_nil, Option.isSome_none, Int.ofNat_one, Int.ofNat_zero, c1, c2, hv.len, c4, c5, bne_self_eq_false, decide_true, decide_false, BEq.rfl, h1, c7, c8']
      · rw [no (fun h => c7 h.2.2.2.2.2.2.1)]
        have c7' : (sumL l == den) = false := by simpa using c7
        simp only [F22B, F22T0, in22_0, SS, insA, wantedA, Opd.ev, putA, binA, eqbA, unA, fldA, partA, reduceIte, reduceCtorEq, Nat.reduceMod, Nat.reduceDiv, Nat.reduceBEq, resultA, resA, vI, Nat.reduceMul, Nat.reduceAdd, Nat.reduceSub, Nat.reduceEqDiff, Nat.reduceLT, Nat.reducePow, Nat.reduceLeDiff, st, Option.bind_eq_bind, Option.pure_def, List.length_nil, Int.cast_ofNat_Int, List.reverse_nil, UU, idxP, cellsAt, storeA, fillA, zerosA, putAll, optNat, sliceA, row, Int.reduceLT, Int.reduceLE, Int.reduceGT, Int.reduceGE, Int.reduceEq, Int.reduceNe, Int.reduceToNat, Int.reduceBEq, Int.reduceBNe, Nat.reduceLeDiff, Nat.reduceLT, Nat.reduceBNe, Nat.reduceGT, List.drop_nil, List.take_nil, Option.isSome_none, Int.ofNat_one, Int.ofNat_zero, c1, c2, hv.len, c4, c5, bne_self_eq_false, decide_true, decide_false, BEq.rfl, h1, c7']
    · rw [if_neg c6] at h1
      rw [no (fun h => c6 h.2.2.2.2.2.1)]
      simp only [F22B, F22T0, in22_0, SS, insA, wantedA, Opd.ev, putA, binA, eqbA, unA, fldA, partA, reduceIte, reduceCtorEq, Nat.reduceMod, Nat.reduceDiv, Nat.reduceBEq, resultA, resA, vI, Nat.reduceMul, Nat.reduceAdd, Nat.reduceSub, Nat.reduceEqDiff, Nat.reduceLT, Nat.reducePow, Nat.reduceLeDiff, st, Option.bind_eq_bind, Option.pure_def, List.length_nil, Int.cast_ofNat_Int, List.reverse_nil, UU, idxP, cellsAt, storeA, fillA, zerosA, putAll, optNat, sliceA, row, Int.reduceLT, Int.reduceLE, Int.reduceGT, Int.reduceGE, Int.reduceEq, Int.reduceNe, Int.reduceToNat, Int.reduceBEq, Int.reduceBNe, Nat.reduceLeDiff, Nat.reduceLT, Nat.reduceBNe, Nat.reduceGT, List.drop_nil, List.take_nil, Option.isSome_none, Int.ofNat_one, Int.ofNat_zero, c1, c2, hv.len, c4, c5, bne_self_eq_false, decide_true, decide_false, BEq.rfl, h1]
  · rw [no (fun h => c3 h.2.2.1)]
    have c3' : ((l.length : Int) != n) = true := by simpa using c3
    simp only [F22B, SS, insA, wantedA, Opd.ev, putA, binA, eqbA, unA, fldA, partA, reduceIte, reduceCtorEq, Nat.reduceMod, Nat.reduceDiv, Nat.reduceBEq, resultA, resA, vI, Nat.reduceMul, Nat.reduceAdd, Nat.reduceSub, Nat.reduceEqDiff, Nat.reduceLT, Nat.reducePow, Nat.reduceLeDiff, st, Option.bind_eq_bind, Option.pure_def, List.length_nil, Int.cast_ofNat_Int, List.reverse_nil, UU, idxP, cellsAt, storeA, fillA, zerosA, putAll, optNat, sliceA, row, Int.reduceLT, Int.reduceLE, Int.reduceGT, Int.reduceGE, Int.reduceEq, Int.reduceNe, Int.reduceToNat, Int.reduceBEq, Int.reduceBNe, Nat.reduceLeDiff, Nat.reduceLT, Nat.reduceBNe, Nat.reduceGT, List.drop_nil, List.take_nil, Option.isSome_none, Int.ofNat_one, Int.ofNat_zero, c1, c2, hv.len, c3', decide_true, decide_false, BEq.rfl]

/-! ### Tables and mixtures together -/
def askS (t : List (List Int)) (ps : List (List Int × Int)) : Bool := decide (okTab t) && ps.all fun p => mixS t.length p.1 p.2

theorem wc1 : IntKind.wrap .i64 (0 + 1) = 1 := by rw [wrap_id] <;> omega
theorem wc2 : IntKind.wrap .i64 (1 + 1) = 2 := by rw [wrap_id] <;> omega

theorem IsRow.one {v : AV} {l : List Int} (h : IsRow v l) : one v = true ∧ isU v = false ∧ cellsOf v = [v] := by cases h <;> exact ⟨rfl, rfl, rfl⟩

theorem mixed54_1 {vt xv : AV} {t : List (List Int)} {xs : List Int} {dx : Int} (ht : IsTab vt t) (hs : t.length < 1000) (hx : IsRow xv xs) (hxl : xs.length ≤ 20) {id : Nat} (hH : H[id]? = some ⟨0, [xv, vI dx]⟩) :
    callL E Y 54 [vt, .sl id 0 2 0 1 none] H = some (.tup [if okTab t then vt else .nils, .bool (askS t [(xs, dx)])], H ++ [⟨0, [xv, vI dx]⟩]) := by
  have r := read47 (Y := Y) (H := H) ht hs
  have hm := fun H => mix21 (Y := Y) (H := H) (n := (t.length : Int)) (den := dx) hx hxl
  have e : askS t [(xs, dx)] = (decide (okTab t) && mixS t.length xs dx) := by simp [askS]
  rw [call54 rfl, e]
  obtain ⟨o1, o2, o3⟩ := hx.one
  simp only [SS, insA, wantedA, Opd.ev, putA, binA, eqbA, unA, fldA, partA, reduceIte, reduceCtorEq, Nat.reduceMod, Nat.reduceDiv, Nat.reduceBEq, resultA, resA, vI, Nat.reduceMul, Nat.reduceAdd, Nat.reduceSub, Nat.reduceEqDiff, Nat.reduceLT, Nat.reducePow, Nat.reduceLeDiff, st, Option.bind_eq_bind, Option.pure_def, List.length_nil, Int.cast_ofNat_Int, List.reverse_nil] at hm
  by_cases hok : okTab t
  · simp only [hok, if_true, decide_true] at r ⊢
    simp only [F54B, F54T0, F54L0b, in54_0, un54_0, SS, insA, wantedA, Opd.ev, putA, binA, eqbA, unA, fldA, partA, reduceIte, reduceCtorEq, Nat.reduceMod, Nat.reduceDiv, Nat.reduceBEq, resultA, resA, vI, Nat.reduceMul, Nat.reduceAdd, Nat.reduceSub, Nat.reduceEqDiff, Nat.reduceLT, Nat.reducePow, Nat.reduceLeDiff, st, Option.bind_eq_bind, Option.pure_def, List.length_nil, Int.cast_ofNat_Int, List.reverse_nil, UU, idxP, cellsAt, storeA, fillA, zerosA, putAll, optNat, sliceA, row, Int.reduceLT, Int.reduceLE, Int.reduceGT, Int.reduceGE, Int.reduceEq, Int.reduceNe, Int.reduceToNat, Int.reduceBEq, Int.reduceBNe, Nat.reduceLeDiff, Nat.reduceLT, Nat.reduceBNe, Nat.reduceGT, List.drop_nil, List.take_nil, Option.isSome_none, Int.ofNat_one, Int.ofNat_zero, wc1, wc2, r, hH, o1, o2, o3, get_last, set_last, ht.len, hx.snap, hm]
  · simp only [hok, if_false, decide_false] at r ⊢
    simp only [F54B, F54T0, F54L0b, in54_0, un54_0, SS, insA, wantedA, Opd.ev, putA, binA, eqbA, unA, fldA, partA, reduceIte, reduceCtorEq, Nat.reduceMod, Nat.reduceDiv, Nat.reduceBEq, resultA, resA, vI, Nat.reduceMul, Nat.reduceAdd, Nat.reduceSub, Nat.reduceEqDiff, Nat.reduceLT, Nat.reducePow, Nat.reduceLeDiff, st, Option.bind_eq_bind, Option.pure_def, List.length_nil, Int.cast_ofNat_Int, List.reverse_nil, UU, idxP, cellsAt, storeA, fillA, zerosA, putAll, optNat, sliceA, row, Int.reduceLT, Int.reduceLE, Int.reduceGT, Int.reduceGE, Int.reduceEq, Int.reduceNe, Int.reduceToNat, Int.reduceBEq, Int.reduceBNe, Nat.reduceLeDiff, Nat.reduceLT, Nat.reduceBNe, Nat.reduceGT, List.drop_nil, List.take_nil, Option.isSome_none, Int.ofNat_one, Int.ofNat_zero, wc1, wc2, r, hH, o1, o2, o3, get_last, set_last, ht.len, hx.snap, hm, Bool.false_and]

theorem mixed54_2 {vt xv yv : AV} {t : List (List Int)} {xs ys : List Int} {dx dy : Int} (ht : IsTab vt t) (hs : t.length < 1000) (hx : IsRow xv xs) (hxl : xs.length ≤ 20) (hy : IsRow yv ys) (hyl : ys.length ≤ 20)
    {A B : Ob} {id : Nat} (hH : H[id]? = some ⟨0, [xv, vI dx, yv, vI dy]⟩) :
    callL E Y 54 [vt, .sl id 0 2 0 2 none] H = some (.tup [if okTab t then vt else .nils, .bool (askS t [(xs, dx), (ys, dy)])], H ++ [⟨0, [xv, vI dx]⟩, ⟨0, [yv, vI dy]⟩]) := by
  have r := read47 (Y := Y) (H := H) ht hs
  have hm := fun H => mix21 (Y := Y) (H := H) (n := (t.length : Int)) (den := dx) hx hxl
  have hm2 := fun H => mix21 (Y := Y) (H := H) (n := (t.length : Int)) (den := dy) hy hyl
  have e : askS t [(xs, dx), (ys, dy)] = (decide (okTab t) && (mixS t.length xs dx && mixS t.length ys dy)) := by simp [askS]
  rw [call54 rfl, e]
  obtain ⟨o1, o2, o3⟩ := hx.one
  obtain ⟨p1, p2, p3⟩ := hy.one
  have hlt : id < H.length := by
    rcases Nat.lt_or_ge id H.length with h | h
    · exact h
    · rw [List.getElem?_eq_none h] at hH; cases hH
  have hH2 : (H ++ [⟨0, [xv, vI dx]⟩])[id]? = some ⟨0, [xv, vI dx, yv, vI dy]⟩ := by rw [List.getElem?_append_left hlt]; exact hH
  have g1 : ∀ (a b : Ob), (H ++ [a, b])[H.length + 1]? = some b := fun a b => by rw [List.getElem?_append_right (by omega)]; simp
  have g2 : ∀ (a b c : Ob), (H ++ [a, b]).set (H.length + 1) c = H ++ [a, c] := fun a b c => by rw [List.set_append_right _ _ (by omega)]; simp
  simp only [SS, insA, wantedA, Opd.ev, putA, binA, eqbA, unA, fldA, partA, reduceIte, reduceCtorEq, Nat.reduceMod, Nat.reduceDiv, Nat.reduceBEq, resultA, resA, vI, Nat.reduceMul, Nat.reduceAdd, Nat.reduceSub, Nat.reduceEqDiff, Nat.reduceLT, Nat.reducePow, Nat.reduceLeDiff, st, Option.bind_eq_bind, Option.pure_def, List.length_nil, Int.cast_ofNat_Int, List.reverse_nil] at hm hm2
  by_cases hok : okTab t
  · simp only [hok, if_true, decide_true] at r ⊢
    cases hb : mixS t.length xs dx
    · simp only [hb] at hm ⊢
      simp only [F54B, F54T0, F54L0b, in54_0, un54_0, SS, insA, wantedA, Opd.ev, putA, binA, eqbA, unA, fldA, partA, reduceIte, reduceCtorEq, Nat.reduceMod, Nat.reduceDiv, Nat.reduceBEq, resultA, resA, vI, Nat.reduceMul, Nat.reduceAdd, Nat.reduceSub, Nat.reduceEqDiff, Nat.reduceLT, Nat.reducePow, Nat.reduceLeDiff, st, Option.bind_eq_bind, Option.pure_def, List.length_nil, Int.cast_ofNat_Int, List.reverse_nil, UU, idxP, cellsAt, storeA, fillA, zerosA, putAll, optNat, sliceA, row, Int.reduceLT, Int.reduceLE, Int.reduceGT, Int.reduceGE, Int.reduceEq, Int.reduceNe, Int.reduceToNat, Int.reduceBEq, Int.reduceBNe, Nat.reduceLeDiff, Nat.reduceLT, Nat.reduceBNe, Nat.reduceGT, List.drop_nil, List.take_nil, Option.isSome_none, Int.ofNat_one, Int.ofNat_zero, wc1, wc2, r, hH, hH2, o1, o2, o3, p1, p2, p3, get_last, set_last, g1, g2, ht.len, hx.snap, hy.snap, hm, hm2, Bool.false_and, Bool.true_and]
    · simp only [hb] at hm ⊢
      simp only [F54B, F54T0, F54L0b, in54_0, un54_0, SS, insA, wantedA, Opd.ev, putA, binA, eqbA, unA, fldA, partA, reduceIte, reduceCtorEq, Nat.reduceMod, Nat.reduceDiv, Nat.reduceBEq, resultA, resA, vI, Nat.reduceMul, Nat.reduceAdd, Nat.reduceSub, Nat.reduceEqDiff, Nat.reduceLT, Nat.reducePow, Nat.reduceLeDiff, st, Option.bind_eq_bind, Option.pure_def, List.length_nil, Int.cast_ofNat_Int, List.reverse_nil, UU, idxP, cellsAt, storeA, fillA, zerosA, putAll, optNat, sliceA, row, Int.reduceLT, Int.reduceLE, Int.reduceGT, Int.reduceGE, Int.reduceEq, Int.reduceNe, Int.reduceToNat, Int.reduceBEq, Int.reduceBNe, Nat.reduceLeDiff, Nat.reduceLT, Nat.reduceBNe, Nat.reduceGT, List.drop_nil, List.take_nil, Option.isSome_none, Int.ofNat_one, Int.ofNat_zero, wc1, wc2, r, hH, hH2, o1, o2, o3, p1, p2, p3, get_last, set_last, g1, g2, ht.len, hx.snap, hy.snap, hm, hm2, Bool.false_and, Bool.true_and]
  · simp only [hok, if_false, decide_false] at r ⊢
    simp only [F54B, F54T0, F54L0b, in54_0, un54_0, SS, insA, wantedA, Opd.ev, putA, binA, eqbA, unA, fldA, partA, reduceIte, reduceCtorEq, Nat.reduceMod, Nat.reduceDiv, Nat.reduceBEq, resultA, resA, vI, Nat.reduceMul, Nat.reduceAdd, Nat.reduceSub, Nat.reduceEqDiff, Nat.reduceLT, Nat.reducePow, Nat.reduceLeDiff, st, Option.bind_eq_bind, Option.pure_def, List.length_nil, Int.cast_ofNat_Int, List.reverse_nil, UU, idxP, cellsAt, storeA, fillA, zerosA, putAll, optNat, sliceA, row, Int.reduceLT, Int.reduceLE, Int.reduceGT, Int.reduceGE, Int.reduceEq, Int.reduceNe, Int.reduceToNat, Int.reduceBEq, Int.reduceBNe, Nat.reduceLeDiff, Nat.reduceLT, Nat.reduceBNe, Nat.reduceGT, List.drop_nil, List.take_nil, Option.isSome_none, Int.ofNat_one, Int.ofNat_zero, wc1, wc2, r, hH, hH2, o1, o2, o3, p1, p2, p3, get_last, set_last, g1, g2, ht.len, hx.snap, hy.snap, hm, hm2, Bool.false_and]

/-! ### Ratios and gains -/
def divR (a b : Int) : Int := if b < 0 then -(Int.gcd a b : Int) else Int.gcd a b
def ratA (a b : Int) : AV := .agg [vI (a.tdiv (divR a b)), vI (b.tdiv (divR a b))]

theorem divR_ok {a b : Int} (hb0 : b ≠ 0) : divR a b ≠ 0 := by
  have : Int.gcd a b ≠ 0 := fun h => hb0 (Int.gcd_eq_zero_iff.1 h).2
  unfold divR; split <;> omega

theorem tdiv_le (a b : Int) : (a.tdiv b).natAbs ≤ a.natAbs := by rw [Int.natAbs_tdiv]; exact Nat.div_le_self _ _

theorem gcd_le_right {a b : Int} (hb : b ≠ 0) : Int.gcd a b ≤ b.natAbs := Int.gcd_le_natAbs_right _ hb

theorem ratio55 {a b : Int} (ha : a.natAbs < 4611686018427387904) (hb : b.natAbs < 4611686018427387904) (hb0 : b ≠ 0) : freeX H (callL E Y 55 [vI a, vI b] []) = some (ratA a b, H) := by
  have g := gcd52 (Y := Y) (H := []) ha hb
  have hd := divR_ok (a := a) hb0
  have q1 := tdiv_le a (divR a b)
  have q2 := tdiv_le b (divR a b)
  have g3 := gcd_le_right (a := a) hb0
  have w1 : IntKind.wrap .i64 (a.tdiv (divR a b)) = a.tdiv (divR a b) := wrap_id (by omega) (by omega)
  have w2 : IntKind.wrap .i64 (b.tdiv (divR a b)) = b.tdiv (divR a b) := wrap_id (by omega) (by omega)
  rw [call55 rfl]
  unfold ratA
  simp only [SS, insA, wantedA, Opd.ev, putA, binA, eqbA, unA, fldA, partA, reduceIte, reduceCtorEq, Nat.reduceMod, Nat.reduceDiv, Nat.reduceBEq, resultA, resA, vI, Nat.reduceMul, Nat.reduceAdd, Nat.reduceSub, Nat.reduceEqDiff, Nat.reduceLT, Nat.reducePow, Nat.reduceLeDiff, st, Option.bind_eq_bind, Option.pure_def, List.length_nil, Int.cast_ofNat_Int, List.reverse_nil] at g
  by_cases c : b < 0
  · have e : divR a b = -(Int.gcd a b : Int) := by unfold divR; rw [if_pos c]
    have w3 : IntKind.wrap .i64 (0 - (Int.gcd a b : Int)) = divR a b := by rw [wrap_id (by omega) (by omega), e]; omega
    simp only [F55B, SS, insA, wantedA, Opd.ev, putA, binA, eqbA, unA, fldA, partA, reduceIte, reduceCtorEq, Nat.reduceMod, Nat.reduceDiv, Nat.reduceBEq, resultA, resA, vI, Nat.reduceMul, Nat.reduceAdd, Nat.reduceSub, Nat.reduceEqDiff, Nat.reduceLT, Nat.reducePow, Nat.reduceLeDiff, st, Option.bind_eq_bind, Option.pure_def, List.length_nil, Int.cast_ofNat_Int, List.reverse_nil, UU, idxP, cellsAt, storeA, fillA, zerosA, putAll, optNat, sliceA, row, Int.reduceLT, Int.reduceLE, Int.reduceGT, Int.reduceGE, Int.reduceEq, Int.reduceNe, Int.reduceToNat, Int.reduceBEq, Int.reduceBNe, Nat.reduceLeDiff, Nat.reduceLT, Nat.reduceBNe, Nat.reduceGT, List.drop_nil, List.take_nil, Option.isSome_none, Int.ofNat_one, Int.ofNat_zero, g, c, w3, hd, w1, w2]
  · have e : (Int.gcd a b : Int) = divR a b := by unfold divR; rw [if_neg c]
    rw [e] at g
    simp only [F55B, SS, insA, wantedA, Opd.ev, putA, binA, eqbA, unA, fldA, partA, reduceIte, reduceCtorEq, Nat.reduceMod, Nat.reduceDiv, Nat.reduceBEq, resultA, resA, vI, Nat.reduceMul, Nat.reduceAdd, Nat.reduceSub, Nat.reduceEqDiff, Nat.reduceLT, Nat.reducePow, Nat.reduceLeDiff, st, Option.bind_eq_bind, Option.pure_def, List.length_nil, Int.cast_ofNat_Int, List.reverse_nil, UU, idxP, cellsAt, storeA, fillA, zerosA, putAll, optNat, sliceA, row, Int.reduceLT, Int.reduceLE, Int.reduceGT, Int.reduceGE, Int.reduceEq, Int.reduceNe, Int.reduceToNat, Int.reduceBEq, Int.reduceBNe, Nat.reduceLeDiff, Nat.reduceLT, Nat.reduceBNe, Nat.reduceGT, List.drop_nil, List.take_nil, Option.isSome_none, Int.ofNat_one, Int.ofNat_zero, g, c, hd, w1, w2]

end
end Go.X
