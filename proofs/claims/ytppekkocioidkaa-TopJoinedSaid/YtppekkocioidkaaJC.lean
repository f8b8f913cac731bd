import Derived.Test.YtppekkocioidkaaJF
import Derived.Test.YtppekkocioidkaaJG
import Derived.Test.YtppekkocioidkaaJB
/-! What looks at shops. -/
set_option linter.unusedSimpArgs false
set_option linter.unusedVariables false
set_option maxHeartbeats 2000000
set_option maxRecDepth 10000
namespace Go.X
open Go Go.RowKit

/-! ### Frames -/
def okE (n i : Nat) (x : Int) : Bool := decide (0 ≤ x) && decide (x < ((2 ^ n : Nat) : Int)) && (sh x i % 2 != 1)
def symE (l : List Int) (i k : Nat) : Bool := sh (l.getD i 0) k % 2 == sh (l.getD k 0) i % 2
def okL (l : List Int) : Bool := (List.range l.length).all fun i => okE l.length i (l.getD i 0)
def symL (l : List Int) : Bool := (List.range l.length).all fun i => (List.range l.length).all fun k => symE l i k
/-- Is this a frame? -/
def frameB (l : List Int) : Bool := decide (1 ≤ l.length) && decide (l.length ≤ 10) && okL l && symL l


section
variable {Y : Run} {H : Heap}

theorem L4_0 {v : AV} {l : List Int} (hv : IsRow v l) (hl : l.length ≤ 10) (d : Nat) : ∀ (i : Nat), i + d = l.length →
    lp EJ Y F4L0 (sp 69 [(4, vI i), (3, vI l.length), (0, v)]) H = if (List.range' i d).all (fun j => okE l.length j (l.getD j 0)) = true then some (.x 0, sp 69 [(3, vI l.length), (0, v)], H) else some (.r, sp 69 [(2, .bool false)], H) := by
  induction d with
  | zero =>
    intro i hi
    rw [un4_0]
    have : ¬ ((i : Int) < (l.length : Int)) := by omega
    simp only [F4L0b, SS, insA, wantedA, Opd.ev, putA, binA, eqbA, unA, fldA, partA, reduceIte, reduceCtorEq, Nat.reduceMod, Nat.reduceDiv, Nat.reduceBEq, resultA, resA, vI, Nat.reduceMul, Nat.reduceAdd, Nat.reduceSub, Nat.reduceEqDiff, Nat.reduceLT, Nat.reducePow, Nat.reduceLeDiff, st, Option.bind_eq_bind, Option.pure_def, List.length_nil, Int.cast_ofNat_Int, List.reverse_nil, UU, idxP, cellsAt, storeA, fillA, zerosA, putAll, optNat, sliceA, row, Int.reduceLT, Int.reduceLE, Int.reduceGT, Int.reduceGE, Int.reduceEq, Int.reduceNe, Int.reduceToNat, Int.reduceBEq, Int.reduceBNe, Nat.reduceLeDiff, Nat.reduceLT, Nat.reduceBNe, Nat.reduceGT, List.drop_nil, List.take_nil, Option.isSome_none, Int.ofNat_one, Int.ofNat_zero, this, List.range'_zero, List.all_nil]
  | succ d ih =>
    intro i hi
    have hlt : i < l.length := by omega
    have hc : (i : Int) < (l.length : Int) := by omega
    have hw := wrap_succ (n := i) (by omega)
    have ih := ih (i + 1) (by omega)
    have hp1 : (0 : Int) ≤ (l.length : Int) := by omega
    have hp2 : (0 : Int) ≤ (i : Int) := by omega
    have hs1 := shl_eq (k := l.length) (by omega)
    have hs2 := shr_eq (k := i) (by omega)
    rw [un4_0, List.range'_succ, List.all_cons]
    unfold okE
    by_cases c1 : l.getD i 0 < 0
    · have c1' : ¬ 0 ≤ l.getD i 0 := by omega
      simp only [F4L0b, SS, insA, wantedA, Opd.ev, putA, binA, eqbA, unA, fldA, partA, reduceIte, reduceCtorEq, Nat.reduceMod, Nat.reduceDiv, Nat.reduceBEq, resultA, resA, vI, Nat.reduceMul, Nat.reduceAdd, Nat.reduceSub, Nat.reduceEqDiff, Nat.reduceLT, Nat.reducePow, Nat.reduceLeDiff, st, Option.bind_eq_bind, Option.pure_def, List.length_nil, Int.cast_ofNat_Int, List.reverse_nil, UU, idxP, cellsAt, storeA, fillA, zerosA, putAll, optNat, sliceA, row, Int.reduceLT, Int.reduceLE, Int.reduceGT, Int.reduceGE, Int.reduceEq, Int.reduceNe, Int.reduceToNat, Int.reduceBEq, Int.reduceBNe, Nat.reduceLeDiff, Nat.reduceLT, Nat.reduceBNe, Nat.reduceGT, List.drop_nil, List.take_nil, Option.isSome_none, Int.ofNat_one, Int.ofNat_zero, hc, hv.idx hlt, hv.load hlt, hw, c1, c1', decide_false, Bool.false_and, Bool.false_eq_true]
    · have c1' : 0 ≤ l.getD i 0 := by omega
      by_cases c2 : l.getD i 0 ≥ ((2 ^ l.length : Nat) : Int)
      · have c2' : ¬ l.getD i 0 < ((2 ^ l.length : Nat) : Int) := by omega
        simp only [F4L0b, SS, insA, wantedA, Opd.ev, putA, binA, eqbA, unA, fldA, partA, reduceIte, reduceCtorEq, Nat.reduceMod, Nat.reduceDiv, Nat.reduceBEq, resultA, resA, vI, Nat.reduceMul, Nat.reduceAdd, Nat.reduceSub, Nat.reduceEqDiff, Nat.reduceLT, Nat.reducePow, Nat.reduceLeDiff, st, Option.bind_eq_bind, Option.pure_def, List.length_nil, Int.cast_ofNat_Int, List.reverse_nil, UU, idxP, cellsAt, storeA, fillA, zerosA, putAll, optNat, sliceA, row, Int.reduceLT, Int.reduceLE, Int.reduceGT, Int.reduceGE, Int.reduceEq, Int.reduceNe, Int.reduceToNat, Int.reduceBEq, Int.reduceBNe, Nat.reduceLeDiff, Nat.reduceLT, Nat.reduceBNe, Nat.reduceGT, List.drop_nil, List.take_nil, Option.isSome_none, Int.ofNat_one, Int.ofNat_zero, hc, hv.idx hlt, hv.load hlt, hw, c1, c1', c2, c2', hp1, hs1, decide_false, decide_true, Bool.false_and, Bool.true_and, Bool.false_eq_true]
      · have c2' : l.getD i 0 < ((2 ^ l.length : Nat) : Int) := by omega
        have ht := tmod_emod (sh_nonneg c1' i)
        have h20 : (2 : Int) ≠ 0 := by decide
        by_cases c3 : sh (l.getD i 0) i % 2 = 1
        · have c3' : (sh (l.getD i 0) i % 2 == 1) = true := beq_iff_eq.2 c3
          have c3'' : (sh (l.getD i 0) i % 2 != 1) = false := by rw [c3]; rfl
          simp only [F4L0b, SS, insA, wantedA, Opd.ev, putA, binA, eqbA, unA, fldA, partA, reduceIte, reduceCtorEq, Nat.reduceMod, Nat.reduceDiv, Nat.reduceBEq, resultA, resA, vI, Nat.reduceMul, Nat.reduceAdd, Nat.reduceSub, Nat.reduceEqDiff, Nat.reduceLT, Nat.reducePow, Nat.reduceLeDiff, st, Option.bind_eq_bind, Option.pure_def, List.length_nil, Int.cast_ofNat_Int, List.reverse_nil, UU, idxP, cellsAt, storeA, fillA, zerosA, putAll, optNat, sliceA, row, Int.reduceLT, Int.reduceLE, Int.reduceGT, Int.reduceGE, Int.reduceEq, Int.reduceNe, Int.reduceToNat, Int.reduceBEq, Int.reduceBNe, Nat.reduceLeDiff, Nat.reduceLT, Nat.reduceBNe, Nat.reduceGT, List.drop_nil, List.take_nil, Option.isSome_none, Int.ofNat_one, Int.ofNat_zero, hc, hv.idx hlt, hv.load hlt, hw, c1, c1', c2, c2', hp1, hp2, hs1, hs2, ht, h20, c3', c3'', decide_false, decide_true, Bool.false_and, Bool.true_and, Bool.false_eq_true, ne_eq, not_false_eq_true, and_self]
        · have c3' : (sh (l.getD i 0) i % 2 == 1) = false := beq_false_of_ne c3
          have c3'' : (sh (l.getD i 0) i % 2 != 1) = true := bne_iff_ne.2 c3
          simp only [SS, insA, wantedA, Opd.ev, putA, binA, eqbA, unA, fldA, partA, reduceIte, reduceCtorEq, Nat.reduceMod, Nat.reduceDiv, Nat.reduceBEq, resultA, resA, vI, Nat.reduceMul, Nat.reduceAdd, Nat.reduceSub, Nat.reduceEqDiff, Nat.reduceLT, Nat.reducePow, Nat.reduceLeDiff, st, Option.bind_eq_bind, Option.pure_def, List.length_nil, Int.cast_ofNat_Int, List.reverse_nil] at ih
          simp only [F4L0b, SS, insA, wantedA, Opd.ev, putA, binA, eqbA, unA, fldA, partA, reduceIte, reduceCtorEq, Nat.reduceMod, Nat.reduceDiv, Nat.reduceBEq, resultA, resA, vI, Nat.reduceMul, Nat.reduceAdd, Nat.reduceSub, Nat.reduceEqDiff, Nat.reduceLT, Nat.reducePow, Nat.reduceLeDiff, st, Option.bind_eq_bind, Option.pure_def, List.length_nil, Int.cast_ofNat_Int, List.reverse_nil, UU, idxP, cellsAt, storeA, fillA, zerosA, putAll, optNat, sliceA, row, Int.reduceLT, Int.reduceLE, Int.reduceGT, Int.reduceGE, Int.reduceEq, Int.reduceNe, Int.reduceToNat, Int.reduceBEq, Int.reduceBNe, Nat.reduceLeDiff, Nat.reduceLT, Nat.reduceBNe, Nat.reduceGT, List.drop_nil, List.take_nil, Option.isSome_none, Int.ofNat_one, Int.ofNat_zero, hc, hv.idx hlt, hv.load hlt, hw, c1, c1', c2, c2', hp1, hp2, hs1, hs2, ht, h20, c3', c3'', ih, decide_false, decide_true, Bool.false_and, Bool.true_and, Bool.false_eq_true, ne_eq, not_false_eq_true, and_self]
          rfl

theorem L4_1 {v : AV} {l : List Int} (hv : IsRow v l) (hl : l.length ≤ 10) (hnn : ∀ j, j < l.length → 0 ≤ l.getD j 0) {i : Nat} (hi : i < l.length) (d : Nat) : ∀ (k : Nat), k + d = l.length →
    lp EJ Y F4L1 (sp 69 [(6, vI k), (5, vI i), (3, vI l.length), (0, v)]) H = if (List.range' k d).all (fun k => symE l i k) = true then some (.x 4, sp 69 [(5, vI i), (3, vI l.length), (0, v)], H) else some (.r, sp 69 [(2, .bool false)], H) := by
  induction d with
  | zero =>
    intro k hk
    rw [un4_1]
    have : ¬ ((k : Int) < (l.length : Int)) := by omega
    simp only [F4L1b, SS, insA, wantedA, Opd.ev, putA, binA, eqbA, unA, fldA, partA, reduceIte, reduceCtorEq, Nat.reduceMod, Nat.reduceDiv, Nat.reduceBEq, resultA, resA, vI, Nat.reduceMul, Nat.reduceAdd, Nat.reduceSub, Nat.reduceEqDiff, Nat.reduceLT, Nat.reducePow, Nat.reduceLeDiff, st, Option.bind_eq_bind, Option.pure_def, List.length_nil, Int.cast_ofNat_Int, List.reverse_nil, UU, idxP, cellsAt, storeA, fillA, zerosA, putAll, optNat, sliceA, row, Int.reduceLT, Int.reduceLE, Int.reduceGT, Int.reduceGE, Int.reduceEq, Int.reduceNe, Int.reduceToNat, Int.reduceBEq, Int.reduceBNe, Nat.reduceLeDiff, Nat.reduceLT, Nat.reduceBNe, Nat.reduceGT, List.drop_nil, List.take_nil, Option.isSome_none, Int.ofNat_one, Int.ofNat_zero, this, List.range'_zero, List.all_nil]
  | succ d ih =>
    intro k hk
    have hlt : k < l.length := by omega
    have hc : (k : Int) < (l.length : Int) := by omega
    have hw := wrap_succ (n := k) (by omega)
    have ih := ih (k + 1) (by omega)
    have hp1 : (0 : Int) ≤ (i : Int) := by omega
    have hp2 : (0 : Int) ≤ (k : Int) := by omega
    have hs1 := shr_eq (k := i) (by omega)
    have hs2 := shr_eq (k := k) (by omega)
    have h20 : (2 : Int) ≠ 0 := by decide
    have t1 := tmod_emod (sh_nonneg (hnn i hi) k)
    have t2 := tmod_emod (sh_nonneg (hnn k hlt) i)
    rw [un4_1, List.range'_succ, List.all_cons]
    unfold symE
    by_cases c : sh (l.getD i 0) k % 2 = sh (l.getD k 0) i % 2
    · have c1 : (sh (l.getD i 0) k % 2 != sh (l.getD k 0) i % 2) = false := by rw [c]; simp
      have c2 : (sh (l.getD i 0) k % 2 == sh (l.getD k 0) i % 2) = true := beq_iff_eq.2 c
      simp only [SS, insA, wantedA, Opd.ev, putA, binA, eqbA, unA, fldA, partA, reduceIte, reduceCtorEq, Nat.reduceMod, Nat.reduceDiv, Nat.reduceBEq, resultA, resA, vI, Nat.reduceMul, Nat.reduceAdd, Nat.reduceSub, Nat.reduceEqDiff, Nat.reduceLT, Nat.reducePow, Nat.reduceLeDiff, st, Option.bind_eq_bind, Option.pure_def, List.length_nil, Int.cast_ofNat_Int, List.reverse_nil] at ih
      simp only [F4L1b, SS, insA, wantedA, Opd.ev, putA, binA, eqbA, unA, fldA, partA, reduceIte, reduceCtorEq, Nat.reduceMod, Nat.reduceDiv, Nat.reduceBEq, resultA, resA, vI, Nat.reduceMul, Nat.reduceAdd, Nat.reduceSub, Nat.reduceEqDiff, Nat.reduceLT, Nat.reducePow, Nat.reduceLeDiff, st, Option.bind_eq_bind, Option.pure_def, List.length_nil, Int.cast_ofNat_Int, List.reverse_nil, UU, idxP, cellsAt, storeA, fillA, zerosA, putAll, optNat, sliceA, row, Int.reduceLT, Int.reduceLE, Int.reduceGT, Int.reduceGE, Int.reduceEq, Int.reduceNe, Int.reduceToNat, Int.reduceBEq, Int.reduceBNe, Nat.reduceLeDiff, Nat.reduceLT, Nat.reduceBNe, Nat.reduceGT, List.drop_nil, List.take_nil, Option.isSome_none, Int.ofNat_one, Int.ofNat_zero, hc, hv.idx hlt, hv.load hlt, hv.idx hi, hv.load hi, hw, hp1, hp2, hs1, hs2, h20, t1, t2, c1, c2, ih, Bool.true_and, ne_eq, not_false_eq_true, and_self]
      rfl
    · have c1 : (sh (l.getD i 0) k % 2 != sh (l.getD k 0) i % 2) = true := bne_iff_ne.2 c
      have c2 : (sh (l.getD i 0) k % 2 == sh (l.getD k 0) i % 2) = false := beq_false_of_ne c
      simp only [F4L1b, SS, insA, wantedA, Opd.ev, putA, binA, eqbA, unA, fldA, partA, reduceIte, reduceCtorEq, Nat.reduceMod, Nat.reduceDiv, Nat.reduceBEq, resultA, resA, vI, Nat.reduceMul, Nat.reduceAdd, Nat.reduceSub, Nat.reduceEqDiff, Nat.reduceLT, Nat.reducePow, Nat.reduceLeDiff, st, Option.bind_eq_bind, Option.pure_def, List.length_nil, Int.cast_ofNat_Int, List.reverse_nil, UU, idxP, cellsAt, storeA, fillA, zerosA, putAll, optNat, sliceA, row, Int.reduceLT, Int.reduceLE, Int.reduceGT, Int.reduceGE, Int.reduceEq, Int.reduceNe, Int.reduceToNat, Int.reduceBEq, Int.reduceBNe, Nat.reduceLeDiff, Nat.reduceLT, Nat.reduceBNe, Nat.reduceGT, List.drop_nil, List.take_nil, Option.isSome_none, Int.ofNat_one, Int.ofNat_zero, hc, hv.idx hlt, hv.load hlt, hv.idx hi, hv.load hi, hw, hp1, hp2, hs1, hs2, h20, t1, t2, c1, c2, Bool.false_and, Bool.false_eq_true, ne_eq, not_false_eq_true, and_self]

theorem L4_2 {v : AV} {l : List Int} (hv : IsRow v l) (hl : l.length ≤ 10) (hnn : ∀ j, j < l.length → 0 ≤ l.getD j 0) (d : Nat) : ∀ (i : Nat), i + d = l.length →
    lp EJ Y F4L2 (sp 69 [(5, vI i), (3, vI l.length), (0, v)]) H = if (List.range' i d).all (fun i => (List.range l.length).all fun k => symE l i k) = true then some (.x 2, sp 69 [], H) else some (.r, sp 69 [(2, .bool false)], H) := by
  induction d with
  | zero =>
    intro i hi
    rw [un4_2]
    have : ¬ ((i : Int) < (l.length : Int)) := by omega
    simp only [F4L2b, SS, insA, wantedA, Opd.ev, putA, binA, eqbA, unA, fldA, partA, reduceIte, reduceCtorEq, Nat.reduceMod, Nat.reduceDiv, Nat.reduceBEq, resultA, resA, vI, Nat.reduceMul, Nat.reduceAdd, Nat.reduceSub, Nat.reduceEqDiff, Nat.reduceLT, Nat.reducePow, Nat.reduceLeDiff, st, Option.bind_eq_bind, Option.pure_def, List.length_nil, Int.cast_ofNat_Int, List.reverse_nil, UU, idxP, cellsAt, storeA, fillA, zerosA, putAll, optNat, sliceA, row, Int.reduceLT, Int.reduceLE, Int.reduceGT, Int.reduceGE, Int.reduceEq, Int.reduceNe, Int.reduceToNat, Int.reduceBEq, Int.reduceBNe, Nat.reduceLeDiff, Nat.reduceLT, Nat.reduceBNe, Nat.reduceGT, List.drop_nil, List.take_nil, Option.isSome_none, Int.ofNat_one, Int.ofNat_zero, this, List.range'_zero, List.all_nil]
  | succ d ih =>
    intro i hi
    have hlt : i < l.length := by omega
    have hc : (i : Int) < (l.length : Int) := by omega
    have hw := wrap_succ (n := i) (by omega)
    have ih := ih (i + 1) (by omega)
    have h0 := L4_1 (Y := Y) (H := H) hv hl hnn hlt l.length 0 (by omega)
    rw [un4_2, List.range'_succ, List.all_cons]
    rw [← List.range_eq_range'] at h0
    cases hb : (List.range l.length).all fun k => symE l i k with
    | true =>
      rw [hb, if_pos rfl] at h0
      simp only [SS, insA, wantedA, Opd.ev, putA, binA, eqbA, unA, fldA, partA, reduceIte, reduceCtorEq, Nat.reduceMod, Nat.reduceDiv, Nat.reduceBEq, resultA, resA, vI, Nat.reduceMul, Nat.reduceAdd, Nat.reduceSub, Nat.reduceEqDiff, Nat.reduceLT, Nat.reducePow, Nat.reduceLeDiff, st, Option.bind_eq_bind, Option.pure_def, List.length_nil, Int.cast_ofNat_Int, List.reverse_nil, Int.ofNat_zero] at h0 ih
      simp only [F4L2b, F4T0, in4_1, SS, insA, wantedA, Opd.ev, putA, binA, eqbA, unA, fldA, partA, reduceIte, reduceCtorEq, Nat.reduceMod, Nat.reduceDiv, Nat.reduceBEq, resultA, resA, vI, Nat.reduceMul, Nat.reduceAdd, Nat.reduceSub, Nat.reduceEqDiff, Nat.reduceLT, Nat.reducePow, Nat.reduceLeDiff, st, Option.bind_eq_bind, Option.pure_def, List.length_nil, Int.cast_ofNat_Int, List.reverse_nil, UU, idxP, cellsAt, storeA, fillA, zerosA, putAll, optNat, sliceA, row, Int.reduceLT, Int.reduceLE, Int.reduceGT, Int.reduceGE, Int.reduceEq, Int.reduceNe, Int.reduceToNat, Int.reduceBEq, Int.reduceBNe, Nat.reduceLeDiff, Nat.reduceLT, Nat.reduceBNe, Nat.reduceGT, List.drop_nil, List.take_nil, Option.isSome_none, Int.ofNat_one, Int.ofNat_zero, hc, hw, h0, ih, Bool.true_and]
    | false =>
      rw [hb, if_neg (by simp)] at h0
      simp only [SS, insA, wantedA, Opd.ev, putA, binA, eqbA, unA, fldA, partA, reduceIte, reduceCtorEq, Nat.reduceMod, Nat.reduceDiv, Nat.reduceBEq, resultA, resA, vI, Nat.reduceMul, Nat.reduceAdd, Nat.reduceSub, Nat.reduceEqDiff, Nat.reduceLT, Nat.reducePow, Nat.reduceLeDiff, st, Option.bind_eq_bind, Option.pure_def, List.length_nil, Int.cast_ofNat_Int, List.reverse_nil, Int.ofNat_zero] at h0
      simp only [F4L2b, F4T0, in4_1, SS, insA, wantedA, Opd.ev, putA, binA, eqbA, unA, fldA, partA, reduceIte, reduceCtorEq, Nat.reduceMod, Nat.reduceDiv, Nat.reduceBEq, resultA, resA, vI, Nat.reduceMul, Nat.reduceAdd, Nat.reduceSub, Nat.reduceEqDiff, Nat.reduceLT, Nat.reducePow, Nat.reduceLeDiff, st, Option.bind_eq_bind, Option.pure_def, List.length_nil, Int.cast_ofNat_Int, List.reverse_nil, UU, idxP, cellsAt, storeA, fillA, zerosA, putAll, optNat, sliceA, row, Int.reduceLT, Int.reduceLE, Int.reduceGT, Int.reduceGE, Int.reduceEq, Int.reduceNe, Int.reduceToNat, Int.reduceBEq, Int.reduceBNe, Nat.reduceLeDiff, Nat.reduceLT, Nat.reduceBNe, Nat.reduceGT, List.drop_nil, List.take_nil, Option.isSome_none, Int.ofNat_one, Int.ofNat_zero, hc, h0, Bool.false_and, Bool.false_eq_true]

theorem okL_nn {l : List Int} (h : okL l = true) : ∀ j, j < l.length → 0 ≤ l.getD j 0 := by
  intro j hj
  have := List.all_eq_true.1 h j (List.mem_range.2 hj)
  simp only [okE, Bool.and_eq_true, decide_eq_true_eq] at this
  exact this.1.1

theorem frame4 {v : AV} {l : List Int} (hv : IsRow v l) (hl : l.length ≤ 1000) : freeX H (callL EJ Y 4 [v] []) = some (.bool (frameB l), H) := by
  rw [call4 rfl]
  unfold frameB
  by_cases c1 : l.length < 1
  · have d1 : (l.length : Int) < 1 := by omega
    have d2 : decide (1 ≤ l.length) = false := decide_eq_false (by omega)
    simp only [F4B, F4T2, SS, insA, wantedA, Opd.ev, putA, binA, eqbA, unA, fldA, partA, reduceIte, reduceCtorEq, Nat.reduceMod, Nat.reduceDiv, Nat.reduceBEq, resultA, resA, vI, Nat.reduceMul, Nat.reduceAdd, Nat.reduceSub, Nat.reduceEqDiff, Nat.reduceLT, Nat.reducePow, Nat.reduceLeDiff, st, Option.bind_eq_bind, Option.pure_def, List.length_nil, Int.cast_ofNat_Int, List.reverse_nil, UU, idxP, cellsAt, storeA, fillA, zerosA, putAll, optNat, sliceA, row, Int.reduceLT, Int.reduceLE, Int.reduceGT, Int.reduceGE, Int.reduceEq, Int.reduceNe, Int.reduceToNat, Int.reduceBEq, Int.reduceBNe, Nat.reduceLeDiff, Nat.reduceLT, Nat.reduceBNe, Nat.reduceGT, List.drop_nil, List.take_nil, Option.isSome_none, Int.ofNat_one, Int.ofNat_zero, hv.len, d1, d2, Bool.false_and]
  · have d1 : ¬ (l.length : Int) < 1 := by omega
    have d2 : decide (1 ≤ l.length) = true := decide_eq_true (by omega)
    by_cases c2 : l.length > 10
    · have d3 : (l.length : Int) > 10 := by omega
      have d4 : decide (l.length ≤ 10) = false := decide_eq_false (by omega)
      simp only [F4B, F4T2, SS, insA, wantedA, Opd.ev, putA, binA, eqbA, unA, fldA, partA, reduceIte, reduceCtorEq, Nat.reduceMod, Nat.reduceDiv, Nat.reduceBEq, resultA, resA, vI, Nat.reduceMul, Nat.reduceAdd, Nat.reduceSub, Nat.reduceEqDiff, Nat.reduceLT, Nat.reducePow, Nat.reduceLeDiff, st, Option.bind_eq_bind, Option.pure_def, List.length_nil, Int.cast_ofNat_Int, List.reverse_nil, UU, idxP, cellsAt, storeA, fillA, zerosA, putAll, optNat, sliceA, row, Int.reduceLT, Int.reduceLE, Int.reduceGT, Int.reduceGE, Int.reduceEq, Int.reduceNe, Int.reduceToNat, Int.reduceBEq, Int.reduceBNe, Nat.reduceLeDiff, Nat.reduceLT, Nat.reduceBNe, Nat.reduceGT, List.drop_nil, List.take_nil, Option.isSome_none, Int.ofNat_one, Int.ofNat_zero, hv.len, d1, d2, d3, d4, Bool.false_and, Bool.true_and]
    · have d3 : ¬ (l.length : Int) > 10 := by omega
      have d4 : decide (l.length ≤ 10) = true := decide_eq_true (by omega)
      have h0 := L4_0 (Y := Y) (H := []) hv (by omega) l.length 0 (by omega)
      rw [← List.range_eq_range'] at h0
      cases hb : okL l with
      | false =>
        rw [show ((List.range l.length).all fun j => okE l.length j (l.getD j 0)) = false from hb, if_neg (by simp)] at h0
        simp only [SS, insA, wantedA, Opd.ev, putA, binA, eqbA, unA, fldA, partA, reduceIte, reduceCtorEq, Nat.reduceMod, Nat.reduceDiv, Nat.reduceBEq, resultA, resA, vI, Nat.reduceMul, Nat.reduceAdd, Nat.reduceSub, Nat.reduceEqDiff, Nat.reduceLT, Nat.reducePow, Nat.reduceLeDiff, st, Option.bind_eq_bind, Option.pure_def, List.length_nil, Int.cast_ofNat_Int, List.reverse_nil, Int.ofNat_zero] at h0
        simp only [F4B, F4T2, in4_0, SS, insA, wantedA, Opd.ev, putA, binA, eqbA, unA, fldA, partA, reduceIte, reduceCtorEq, Nat.reduceMod, Nat.reduceDiv, Nat.reduceBEq, resultA, resA, vI, Nat.reduceMul, Nat.reduceAdd, Nat.reduceSub, Nat.reduceEqDiff, Nat.reduceLT, Nat.reducePow, Nat.reduceLeDiff, st, Option.bind_eq_bind, Option.pure_def, List.length_nil, Int.cast_ofNat_Int, List.reverse_nil, UU, idxP, cellsAt, storeA, fillA, zerosA, putAll, optNat, sliceA, row, Int.reduceLT, Int.reduceLE, Int.reduceGT, Int.reduceGE, Int.reduceEq, Int.reduceNe, Int.reduceToNat, Int.reduceBEq, Int.reduceBNe, Nat.reduceLeDiff, Nat.reduceLT, Nat.reduceBNe, Nat.reduceGT, List.drop_nil, List.take_nil, Option.isSome_none, Int.ofNat_one, Int.ofNat_zero, hv.len, d1, d2, d3, d4, h0, Bool.false_and, Bool.true_and]
      | true =>
        rw [show ((List.range l.length).all fun j => okE l.length j (l.getD j 0)) = true from hb, if_pos rfl] at h0
        have h1 := L4_2 (Y := Y) (H := []) hv (by omega) (okL_nn hb) l.length 0 (by omega)
        rw [← List.range_eq_range'] at h1
        cases hs : symL l with
        | false =>
          rw [show ((List.range l.length).all fun i => (List.range l.length).all fun k => symE l i k) = false from hs, if_neg (by simp)] at h1
          simp only [SS, insA, wantedA, Opd.ev, putA, binA, eqbA, unA, fldA, partA, reduceIte, reduceCtorEq, Nat.reduceMod, Nat.reduceDiv, Nat.reduceBEq, resultA, resA, vI, Nat.reduceMul, Nat.reduceAdd, Nat.reduceSub, Nat.reduceEqDiff, Nat.reduceLT, Nat.reducePow, Nat.reduceLeDiff, st, Option.bind_eq_bind, Option.pure_def, List.length_nil, Int.cast_ofNat_Int, List.reverse_nil, Int.ofNat_zero] at h0 h1
          simp only [F4B, F4T2, in4_0, in4_2, SS, insA, wantedA, Opd.ev, putA, binA, eqbA, unA, fldA, partA, reduceIte, reduceCtorEq, Nat.reduceMod, Nat.reduceDiv, Nat.reduceBEq, resultA, resA, vI, Nat.reduceMul, Nat.reduceAdd, Nat.reduceSub, Nat.reduceEqDiff, Nat.reduceLT, Nat.reducePow, Nat.reduceLeDiff, st, Option.bind_eq_bind, Option.pure_def, List.length_nil, Int.cast_ofNat_Int, List.reverse_nil, UU, idxP, cellsAt, storeA, fillA, zerosA, putAll, optNat, sliceA, row, Int.reduceLT, Int.reduceLE, Int.reduceGT, Int.reduceGE, Int.reduceEq, Int.reduceNe, Int.reduceToNat, Int.reduceBEq, Int.reduceBNe, Nat.reduceLeDiff, Nat.reduceLT, Nat.reduceBNe, Nat.reduceGT, List.drop_nil, List.take_nil, Option.isSome_none, Int.ofNat_one, Int.ofNat_zero, hv.len, d1, d2, d3, d4, h0, h1, Bool.true_and]
        | true =>
          rw [show ((List.range l.length).all fun i => (List.range l.length).all fun k => symE l i k) = true from hs, if_pos rfl] at h1
          simp only [SS, insA, wantedA, Opd.ev, putA, binA, eqbA, unA, fldA, partA, reduceIte, reduceCtorEq, Nat.reduceMod, Nat.reduceDiv, Nat.reduceBEq, resultA, resA, vI, Nat.reduceMul, Nat.reduceAdd, Nat.reduceSub, Nat.reduceEqDiff, Nat.reduceLT, Nat.reducePow, Nat.reduceLeDiff, st, Option.bind_eq_bind, Option.pure_def, List.length_nil, Int.cast_ofNat_Int, List.reverse_nil, Int.ofNat_zero] at h0 h1
          simp only [F4B, F4T2, F4T1, in4_0, in4_2, SS, insA, wantedA, Opd.ev, putA, binA, eqbA, unA, fldA, partA, reduceIte, reduceCtorEq, Nat.reduceMod, Nat.reduceDiv, Nat.reduceBEq, resultA, resA, vI, Nat.reduceMul, Nat.reduceAdd, Nat.reduceSub, Nat.reduceEqDiff, Nat.reduceLT, Nat.reducePow, Nat.reduceLeDiff, st, Option.bind_eq_bind, Option.pure_def, List.length_nil, Int.cast_ofNat_Int, List.reverse_nil, UU, idxP, cellsAt, storeA, fillA, zerosA, putAll, optNat, sliceA, row, Int.reduceLT, Int.reduceLE, Int.reduceGT, Int.reduceGE, Int.reduceEq, Int.reduceNe, Int.reduceToNat, Int.reduceBEq, Int.reduceBNe, Nat.reduceLeDiff, Nat.reduceLT, Nat.reduceBNe, Nat.reduceGT, List.drop_nil, List.take_nil, Option.isSome_none, Int.ofNat_one, Int.ofNat_zero, hv.len, d1, d2, d3, d4, h0, h1, Bool.true_and]

theorem L16_0 {v : AV} {l : List Int} (hv : IsRow v l) (hl : l.length ≤ 10) {i : Nat} (hi : i < l.length) (d : Nat) : ∀ (k : Nat), k + d = l.length →
    lp EJ Y F16L0 (sp 58 [(41, vI k), (40, vI l.length), (39, v), (18, vI i), (17, vI l.length), (16, v), (5, vI (l.getD i 0)), (4, vI i), (0, v)]) H =
      if (List.range' k d).all (fun k => symE l i k) = true then some (.x 2, sp 58 [(18, vI i), (17, vI l.length), (16, v), (0, v)], H) else some (.r, sp 58 [(3, .bool false), (2, .nils)], H) := by
  induction d with
  | zero =>
    intro k hk
    rw [un16_0]
    have : ¬ ((k : Int) < (l.length : Int)) := by omega
    simp only [F16L0b, SS, insA, wantedA, Opd.ev, putA, binA, eqbA, unA, fldA, partA, reduceIte, reduceCtorEq, Nat.reduceMod, Nat.reduceDiv, Nat.reduceBEq, resultA, resA, vI, Nat.reduceMul, Nat.reduceAdd, Nat.reduceSub, Nat.reduceEqDiff, Nat.reduceLT, Nat.reducePow, Nat.reduceLeDiff, st, Option.bind_eq_bind, Option.pure_def, List.length_nil, Int.cast_ofNat_Int, List.reverse_nil, UU, idxP, cellsAt, storeA, fillA, zerosA, putAll, optNat, sliceA, row, Int.reduceLT, Int.reduceLE, Int.reduceGT, Int.reduceGE, Int.reduceEq, Int.reduceNe, Int.reduceToNat, Int.reduceBEq, Int.reduceBNe, Nat.reduceLeDiff, Nat.reduceLT, Nat.reduceBNe, Nat.reduceGT, List.drop_nil, List.take_nil, Option.isSome_none, Int.ofNat_one, Int.ofNat_zero, this, List.range'_zero, List.all_nil]
  | succ d ih =>
    intro k hk
    have hlt : k < l.length := by omega
    have hc : (k : Int) < (l.length : Int) := by omega
    have hw := wrap_succ (n := k) (by omega)
    have ih := ih (k + 1) (by omega)
    have hp1 : (0 : Int) ≤ (i : Int) := by omega
    have hp2 : (0 : Int) ≤ (k : Int) := by omega
    have hs1 := shr_eq (k := i) (by omega)
    have hs2 := shr_eq (k := k) (by omega)
    rw [un16_0, List.range'_succ, List.all_cons]
    unfold symE
    by_cases c : sh (l.getD i 0) k % 2 = sh (l.getD k 0) i % 2
    · have c1 : (sh (l.getD i 0) k % 2 != sh (l.getD k 0) i % 2) = false := by rw [c]; simp
      have c2 : (sh (l.getD i 0) k % 2 == sh (l.getD k 0) i % 2) = true := beq_iff_eq.2 c
      simp only [SS, insA, wantedA, Opd.ev, putA, binA, eqbA, unA, fldA, partA, reduceIte, reduceCtorEq, Nat.reduceMod, Nat.reduceDiv, Nat.reduceBEq, resultA, resA, vI, Nat.reduceMul, Nat.reduceAdd, Nat.reduceSub, Nat.reduceEqDiff, Nat.reduceLT, Nat.reducePow, Nat.reduceLeDiff, st, Option.bind_eq_bind, Option.pure_def, List.length_nil, Int.cast_ofNat_Int, List.reverse_nil] at ih
      simp only [F16L0b, SS, insA, wantedA, Opd.ev, putA, binA, eqbA, unA, fldA, partA, reduceIte, reduceCtorEq, Nat.reduceMod, Nat.reduceDiv, Nat.reduceBEq, resultA, resA, vI, Nat.reduceMul, Nat.reduceAdd, Nat.reduceSub, Nat.reduceEqDiff, Nat.reduceLT, Nat.reducePow, Nat.reduceLeDiff, st, Option.bind_eq_bind, Option.pure_def, List.length_nil, Int.cast_ofNat_Int, List.reverse_nil, UU, idxP, cellsAt, storeA, fillA, zerosA, putAll, optNat, sliceA, row, Int.reduceLT, Int.reduceLE, Int.reduceGT, Int.reduceGE, Int.reduceEq, Int.reduceNe, Int.reduceToNat, Int.reduceBEq, Int.reduceBNe, Nat.reduceLeDiff, Nat.reduceLT, Nat.reduceBNe, Nat.reduceGT, List.drop_nil, List.take_nil, Option.isSome_none, Int.ofNat_one, Int.ofNat_zero, hc, hv.idx hlt, hv.load hlt, hw, hp1, hp2, hs1, hs2, and_one, c1, c2, ih, Bool.true_and]
      rfl
    · have c1 : (sh (l.getD i 0) k % 2 != sh (l.getD k 0) i % 2) = true := bne_iff_ne.2 c
      have c2 : (sh (l.getD i 0) k % 2 == sh (l.getD k 0) i % 2) = false := beq_false_of_ne c
      simp only [F16L0b, SS, insA, wantedA, Opd.ev, putA, binA, eqbA, unA, fldA, partA, reduceIte, reduceCtorEq, Nat.reduceMod, Nat.reduceDiv, Nat.reduceBEq, resultA, resA, vI, Nat.reduceMul, Nat.reduceAdd, Nat.reduceSub, Nat.reduceEqDiff, Nat.reduceLT, Nat.reducePow, Nat.reduceLeDiff, st, Option.bind_eq_bind, Option.pure_def, List.length_nil, Int.cast_ofNat_Int, List.reverse_nil, UU, idxP, cellsAt, storeA, fillA, zerosA, putAll, optNat, sliceA, row, Int.reduceLT, Int.reduceLE, Int.reduceGT, Int.reduceGE, Int.reduceEq, Int.reduceNe, Int.reduceToNat, Int.reduceBEq, Int.reduceBNe, Nat.reduceLeDiff, Nat.reduceLT, Nat.reduceBNe, Nat.reduceGT, List.drop_nil, List.take_nil, Option.isSome_none, Int.ofNat_one, Int.ofNat_zero, hc, hv.idx hlt, hv.load hlt, hw, hp1, hp2, hs1, hs2, and_one, c1, c2, Bool.false_and, Bool.false_eq_true]

def rowOk (l : List Int) (i : Nat) : Bool := okE l.length i (l.getD i 0) && (List.range l.length).all fun k => symE l i k

theorem L16_1 {v : AV} {l : List Int} (hv : IsRow v l) (hl : l.length ≤ 10) (d : Nat) : ∀ (i : Nat), i + d = l.length →
    lp EJ Y F16L1 (sp 58 [(18, vI i), (17, vI l.length), (16, v), (0, v)]) H = if (List.range' i d).all (rowOk l) = true then some (.x 0, sp 58 [(0, v)], H) else some (.r, sp 58 [(3, .bool false), (2, .nils)], H) := by
  induction d with
  | zero =>
    intro i hi
    rw [un16_1]
    have : ¬ ((i : Int) < (l.length : Int)) := by omega
    simp only [F16L1b, SS, insA, wantedA, Opd.ev, putA, binA, eqbA, unA, fldA, partA, reduceIte, reduceCtorEq, Nat.reduceMod, Nat.reduceDiv, Nat.reduceBEq, resultA, resA, vI, Nat.reduceMul, Nat.reduceAdd, Nat.reduceSub, Nat.reduceEqDiff, Nat.reduceLT, Nat.reducePow, Nat.reduceLeDiff, st, Option.bind_eq_bind, Option.pure_def, List.length_nil, Int.cast_ofNat_Int, List.reverse_nil, UU, idxP, cellsAt, storeA, fillA, zerosA, putAll, optNat, sliceA, row, Int.reduceLT, Int.reduceLE, Int.reduceGT, Int.reduceGE, Int.reduceEq, Int.reduceNe, Int.reduceToNat, Int.reduceBEq, Int.reduceBNe, Nat.reduceLeDiff, Nat.reduceLT, Nat.reduceBNe, Nat.reduceGT, List.drop_nil, List.take_nil, Option.isSome_none, Int.ofNat_one, Int.ofNat_zero, this, List.range'_zero, List.all_nil]
  | succ d ih =>
    intro i hi
    have hlt : i < l.length := by omega
    have hc : (i : Int) < (l.length : Int) := by omega
    have hw := wrap_succ (n := i) (by omega)
    have ih := ih (i + 1) (by omega)
    have hp1 : (0 : Int) ≤ (l.length : Int) := by omega
    have hp2 : (0 : Int) ≤ (i : Int) := by omega
    have hs1 := shl_eq (k := l.length) (by omega)
    have hs2 := shr_eq (k := i) (by omega)
    have h0 := L16_0 (Y := Y) (H := H) hv hl hlt l.length 0 (by omega)
    rw [un16_1, List.range'_succ, List.all_cons]
    rw [← List.range_eq_range'] at h0
    unfold rowOk okE
    by_cases c1 : l.getD i 0 < 0
    · have c1' : ¬ 0 ≤ l.getD i 0 := by omega
      simp only [F16L1b, SS, insA, wantedA, Opd.ev, putA, binA, eqbA, unA, fldA, partA, reduceIte, reduceCtorEq, Nat.reduceMod, Nat.reduceDiv, Nat.reduceBEq, resultA, resA, vI, Nat.reduceMul, Nat.reduceAdd, Nat.reduceSub, Nat.reduceEqDiff, Nat.reduceLT, Nat.reducePow, Nat.reduceLeDiff, st, Option.bind_eq_bind, Option.pure_def, List.length_nil, Int.cast_ofNat_Int, List.reverse_nil, UU, idxP, cellsAt, storeA, fillA, zerosA, putAll, optNat, sliceA, row, Int.reduceLT, Int.reduceLE, Int.reduceGT, Int.reduceGE, Int.reduceEq, Int.reduceNe, Int.reduceToNat, Int.reduceBEq, Int.reduceBNe, Nat.reduceLeDiff, Nat.reduceLT, Nat.reduceBNe, Nat.reduceGT, List.drop_nil, List.take_nil, Option.isSome_none, Int.ofNat_one, Int.ofNat_zero, hc, hv.idx hlt, hv.load hlt, hw, c1, c1', decide_false, Bool.false_and, Bool.false_eq_true]
    · have c1' : 0 ≤ l.getD i 0 := by omega
      by_cases c2 : l.getD i 0 ≥ ((2 ^ l.length : Nat) : Int)
      · have c2' : ¬ l.getD i 0 < ((2 ^ l.length : Nat) : Int) := by omega
        simp only [F16L1b, SS, insA, wantedA, Opd.ev, putA, binA, eqbA, unA, fldA, partA, reduceIte, reduceCtorEq, Nat.reduceMod, Nat.reduceDiv, Nat.reduceBEq, resultA, resA, vI, Nat.reduceMul, Nat.reduceAdd, Nat.reduceSub, Nat.reduceEqDiff, Nat.reduceLT, Nat.reducePow, Nat.reduceLeDiff, st, Option.bind_eq_bind, Option.pure_def, List.length_nil, Int.cast_ofNat_Int, List.reverse_nil, UU, idxP, cellsAt, storeA, fillA, zerosA, putAll, optNat, sliceA, row, Int.reduceLT, Int.reduceLE, Int.reduceGT, Int.reduceGE, Int.reduceEq, Int.reduceNe, Int.reduceToNat, Int.reduceBEq, Int.reduceBNe, Nat.reduceLeDiff, Nat.reduceLT, Nat.reduceBNe, Nat.reduceGT, List.drop_nil, List.take_nil, Option.isSome_none, Int.ofNat_one, Int.ofNat_zero, hc, hv.idx hlt, hv.load hlt, hv.len, hw, c1, c1', c2, c2', hp1, hs1, decide_false, decide_true, Bool.false_and, Bool.true_and, Bool.false_eq_true]
      · have c2' : l.getD i 0 < ((2 ^ l.length : Nat) : Int) := by omega
        by_cases c3 : sh (l.getD i 0) i % 2 = 1
        · have c3' : (sh (l.getD i 0) i % 2 == 1) = true := beq_iff_eq.2 c3
          have c3'' : (sh (l.getD i 0) i % 2 != 1) = false := by rw [c3]; rfl
          simp only [F16L1b, SS, insA, wantedA, Opd.ev, putA, binA, eqbA, unA, fldA, partA, reduceIte, reduceCtorEq, Nat.reduceMod, Nat.reduceDiv, Nat.reduceBEq, resultA, resA, vI, Nat.reduceMul, Nat.reduceAdd, Nat.reduceSub, Nat.reduceEqDiff, Nat.reduceLT, Nat.reducePow, Nat.reduceLeDiff, st, Option.bind_eq_bind, Option.pure_def, List.length_nil, Int.cast_ofNat_Int, List.reverse_nil, UU, idxP, cellsAt, storeA, fillA, zerosA, putAll, optNat, sliceA, row, Int.reduceLT, Int.reduceLE, Int.reduceGT, Int.reduceGE, Int.reduceEq, Int.reduceNe, Int.reduceToNat, Int.reduceBEq, Int.reduceBNe, Nat.reduceLeDiff, Nat.reduceLT, Nat.reduceBNe, Nat.reduceGT, List.drop_nil, List.take_nil, Option.isSome_none, Int.ofNat_one, Int.ofNat_zero, hc, hv.idx hlt, hv.load hlt, hv.len, hw, c1, c1', c2, c2', hp1, hp2, hs1, hs2, and_one, c3', c3'', decide_false, decide_true, Bool.false_and, Bool.true_and, Bool.false_eq_true]
        · have c3' : (sh (l.getD i 0) i % 2 == 1) = false := beq_false_of_ne c3
          have c3'' : (sh (l.getD i 0) i % 2 != 1) = true := bne_iff_ne.2 c3
          cases hb : (List.range l.length).all fun k => symE l i k with
          | true =>
            rw [hb, if_pos rfl] at h0
            simp only [SS, insA, wantedA, Opd.ev, putA, binA, eqbA, unA, fldA, partA, reduceIte, reduceCtorEq, Nat.reduceMod, Nat.reduceDiv, Nat.reduceBEq, resultA, resA, vI, Nat.reduceMul, Nat.reduceAdd, Nat.reduceSub, Nat.reduceEqDiff, Nat.reduceLT, Nat.reducePow, Nat.reduceLeDiff, st, Option.bind_eq_bind, Option.pure_def, List.length_nil, Int.cast_ofNat_Int, List.reverse_nil, Int.ofNat_zero] at h0 ih
            simp only [F16L1b, F16T0, in16_0, SS, insA, wantedA, Opd.ev, putA, binA, eqbA, unA, fldA, partA, reduceIte, reduceCtorEq, Nat.reduceMod, Nat.reduceDiv, Nat.reduceBEq, resultA, resA, vI, Nat.reduceMul, Nat.reduceAdd, Nat.reduceSub, Nat.reduceEqDiff, Nat.reduceLT, Nat.reducePow, Nat.reduceLeDiff, st, Option.bind_eq_bind, Option.pure_def, List.length_nil, Int.cast_ofNat_Int, List.reverse_nil, UU, idxP, cellsAt, storeA, fillA, zerosA, putAll, optNat, sliceA, row, Int.reduceLT, Int.reduceLE, Int.reduceGT, Int.reduceGE, Int.reduceEq, Int.reduceNe, Int.reduceToNat, Int.reduceBEq, Int.reduceBNe, Nat.reduceLeDiff, Nat.reduceLT, Nat.reduceBNe, Nat.reduceGT, List.drop_nil, List.take_nil, Option.isSome_none, Int.ofNat_one, Int.ofNat_zero, hc, hv.idx hlt, hv.load hlt, hv.len, hw, c1, c1', c2, c2', hp1, hp2, hs1, hs2, and_one, c3', c3'', h0, ih, decide_false, decide_true, Bool.false_and, Bool.true_and, Bool.false_eq_true]
            rfl
          | false =>
            rw [hb, if_neg (by simp)] at h0
            simp only [SS, insA, wantedA, Opd.ev, putA, binA, eqbA, unA, fldA, partA, reduceIte, reduceCtorEq, Nat.reduceMod, Nat.reduceDiv, Nat.reduceBEq, resultA, resA, vI, Nat.reduceMul, Nat.reduceAdd, Nat.reduceSub, Nat.reduceEqDiff, Nat.reduceLT, Nat.reducePow, Nat.reduceLeDiff, st, Option.bind_eq_bind, Option.pure_def, List.length_nil, Int.cast_ofNat_Int, List.reverse_nil, Int.ofNat_zero] at h0
            simp only [F16L1b, F16T0, in16_0, SS, insA, wantedA, Opd.ev, putA, binA, eqbA, unA, fldA, partA, reduceIte, reduceCtorEq, Nat.reduceMod, Nat.reduceDiv, Nat.reduceBEq, resultA, resA, vI, Nat.reduceMul, Nat.reduceAdd, Nat.reduceSub, Nat.reduceEqDiff, Nat.reduceLT, Nat.reducePow, Nat.reduceLeDiff, st, Option.bind_eq_bind, Option.pure_def, List.length_nil, Int.cast_ofNat_Int, List.reverse_nil, UU, idxP, cellsAt, storeA, fillA, zerosA, putAll, optNat, sliceA, row, Int.reduceLT, Int.reduceLE, Int.reduceGT, Int.reduceGE, Int.reduceEq, Int.reduceNe, Int.reduceToNat, Int.reduceBEq, Int.reduceBNe, Nat.reduceLeDiff, Nat.reduceLT, Nat.reduceBNe, Nat.reduceGT, List.drop_nil, List.take_nil, Option.isSome_none, Int.ofNat_one, Int.ofNat_zero, hc, hv.idx hlt, hv.load hlt, hv.len, hw, c1, c1', c2, c2', hp1, hp2, hs1, hs2, and_one, c3', c3'', h0, decide_false, decide_true, Bool.false_and, Bool.true_and, Bool.and_false, Bool.false_eq_true]

theorem all_and' {α : Type} (p q : α → Bool) : ∀ (l : List α), (l.all fun x => p x && q x) = (l.all p && l.all q)
  | [] => rfl
  | x :: l => by simp only [List.all_cons, all_and' p q l]; cases p x <;> cases q x <;> cases l.all p <;> rfl

theorem read16 {v : AV} {l : List Int} (hv : IsRow v l) (hl : l.length ≤ 1000) : callL EJ Y 16 [v] H = some (.tup [if frameB l = true then v else .nils, .bool (frameB l)], H) := by
  rw [call16 rfl]
  have hf : frameB l = (decide (1 ≤ l.length) && decide (l.length ≤ 10) && (List.range l.length).all (rowOk l)) := by
    unfold frameB okL symL rowOk
    rw [all_and', Bool.and_assoc]
  rw [hf]
  by_cases c1 : l.length < 1
  · have d1 : (l.length : Int) < 1 := by omega
    have d2 : decide (1 ≤ l.length) = false := decide_eq_false (by omega)
    simp only [F16B, SS, insA, wantedA, Opd.ev, putA, binA, eqbA, unA, fldA, partA, reduceIte, reduceCtorEq, Nat.reduceMod, Nat.reduceDiv, Nat.reduceBEq, resultA, resA, vI, Nat.reduceMul, Nat.reduceAdd, Nat.reduceSub, Nat.reduceEqDiff, Nat.reduceLT, Nat.reducePow, Nat.reduceLeDiff, st, Option.bind_eq_bind, Option.pure_def, List.length_nil, Int.cast_ofNat_Int, List.reverse_nil, UU, idxP, cellsAt, storeA, fillA, zerosA, putAll, optNat, sliceA, row, Int.reduceLT, Int.reduceLE, Int.reduceGT, Int.reduceGE, Int.reduceEq, Int.reduceNe, Int.reduceToNat, Int.reduceBEq, Int.reduceBNe, Nat.reduceLeDiff, Nat.reduceLT, Nat.reduceBNe, Nat.reduceGT, List.drop_nil, List.take_nil, Option.isSome_none, Int.ofNat_one, Int.ofNat_zero, hv.len, d1, d2, Bool.false_and, endX, List.mapM_cons, List.mapM_nil, Bool.false_eq_true]
  · have d1 : ¬ (l.length : Int) < 1 := by omega
    have d2 : decide (1 ≤ l.length) = true := decide_eq_true (by omega)
    by_cases c2 : l.length > 10
    · have d3 : (l.length : Int) > 10 := by omega
      have d4 : decide (l.length ≤ 10) = false := decide_eq_false (by omega)
      simp only [F16B, SS, insA, wantedA, Opd.ev, putA, binA, eqbA, unA, fldA, partA, reduceIte, reduceCtorEq, Nat.reduceMod, Nat.reduceDiv, Nat.reduceBEq, resultA, resA, vI, Nat.reduceMul, Nat.reduceAdd, Nat.reduceSub, Nat.reduceEqDiff, Nat.reduceLT, Nat.reducePow, Nat.reduceLeDiff, st, Option.bind_eq_bind, Option.pure_def, List.length_nil, Int.cast_ofNat_Int, List.reverse_nil, UU, idxP, cellsAt, storeA, fillA, zerosA, putAll, optNat, sliceA, row, Int.reduceLT, Int.reduceLE, Int.reduceGT, Int.reduceGE, Int.reduceEq, Int.reduceNe, Int.reduceToNat, Int.reduceBEq, Int.reduceBNe, Nat.reduceLeDiff, Nat.reduceLT, Nat.reduceBNe, Nat.reduceGT, List.drop_nil, List.take_nil, Option.isSome_none, Int.ofNat_one, Int.ofNat_zero, hv.len, d1, d2, d3, d4, Bool.false_and, Bool.true_and, endX, List.mapM_cons, List.mapM_nil, Bool.false_eq_true]
    · have d3 : ¬ (l.length : Int) > 10 := by omega
      have d4 : decide (l.length ≤ 10) = true := decide_eq_true (by omega)
      have h0 := L16_1 (Y := Y) (H := H) hv (by omega) l.length 0 (by omega)
      rw [← List.range_eq_range'] at h0
      cases hb : (List.range l.length).all (rowOk l) with
      | true =>
        rw [hb, if_pos rfl] at h0
        simp only [SS, insA, wantedA, Opd.ev, putA, binA, eqbA, unA, fldA, partA, reduceIte, reduceCtorEq, Nat.reduceMod, Nat.reduceDiv, Nat.reduceBEq, resultA, resA, vI, Nat.reduceMul, Nat.reduceAdd, Nat.reduceSub, Nat.reduceEqDiff, Nat.reduceLT, Nat.reducePow, Nat.reduceLeDiff, st, Option.bind_eq_bind, Option.pure_def, List.length_nil, Int.cast_ofNat_Int, List.reverse_nil, Int.ofNat_zero] at h0
        simp only [F16B, F16T1, in16_1, SS, insA, wantedA, Opd.ev, putA, binA, eqbA, unA, fldA, partA, reduceIte, reduceCtorEq, Nat.reduceMod, Nat.reduceDiv, Nat.reduceBEq, resultA, resA, vI, Nat.reduceMul, Nat.reduceAdd, Nat.reduceSub, Nat.reduceEqDiff, Nat.reduceLT, Nat.reducePow, Nat.reduceLeDiff, st, Option.bind_eq_bind, Option.pure_def, List.length_nil, Int.cast_ofNat_Int, List.reverse_nil, UU, idxP, cellsAt, storeA, fillA, zerosA, putAll, optNat, sliceA, row, Int.reduceLT, Int.reduceLE, Int.reduceGT, Int.reduceGE, Int.reduceEq, Int.reduceNe, Int.reduceToNat, Int.reduceBEq, Int.reduceBNe, Nat.reduceLeDiff, Nat.reduceLT, Nat.reduceBNe, Nat.reduceGT, List.drop_nil, List.take_nil, Option.isSome_none, Int.ofNat_one, Int.ofNat_zero, hv.len, d1, d2, d3, d4, h0, Bool.false_and, Bool.true_and, endX, List.mapM_cons, List.mapM_nil]
      | false =>
        rw [hb, if_neg (by simp)] at h0
        simp only [SS, insA, wantedA, Opd.ev, putA, binA, eqbA, unA, fldA, partA, reduceIte, reduceCtorEq, Nat.reduceMod, Nat.reduceDiv, Nat.reduceBEq, resultA, resA, vI, Nat.reduceMul, Nat.reduceAdd, Nat.reduceSub, Nat.reduceEqDiff, Nat.reduceLT, Nat.reducePow, Nat.reduceLeDiff, st, Option.bind_eq_bind, Option.pure_def, List.length_nil, Int.cast_ofNat_Int, List.reverse_nil, Int.ofNat_zero] at h0
        simp only [F16B, F16T1, in16_1, SS, insA, wantedA, Opd.ev, putA, binA, eqbA, unA, fldA, partA, reduceIte, reduceCtorEq, Nat.reduceMod, Nat.reduceDiv, Nat.reduceBEq, resultA, resA, vI, Nat.reduceMul, Nat.reduceAdd, Nat.reduceSub, Nat.reduceEqDiff, Nat.reduceLT, Nat.reducePow, Nat.reduceLeDiff, st, Option.bind_eq_bind, Option.pure_def, List.length_nil, Int.cast_ofNat_Int, List.reverse_nil, UU, idxP, cellsAt, storeA, fillA, zerosA, putAll, optNat, sliceA, row, Int.reduceLT, Int.reduceLE, Int.reduceGT, Int.reduceGE, Int.reduceEq, Int.reduceNe, Int.reduceToNat, Int.reduceBEq, Int.reduceBNe, Nat.reduceLeDiff, Nat.reduceLT, Nat.reduceBNe, Nat.reduceGT, List.drop_nil, List.take_nil, Option.isSome_none, Int.ofNat_one, Int.ofNat_zero, hv.len, d1, d2, d3, d4, h0, Bool.false_and, Bool.true_and, endX, List.mapM_cons, List.mapM_nil, Bool.false_eq_true]

end
end Go.X
