import Derived.Test.YtmedpfjiidlidaaYA
import Derived.Test.YtmedpfjiidlidaaYB
/-! The law on lasting mixtures holds of the small machine. -/
set_option linter.unusedSimpArgs false
set_option linter.unusedVariables false
set_option maxHeartbeats 2000000
set_option maxRecDepth 10000
namespace Go.X
open Go Go.RowKit
section
variable {Y : Run} {H : Heap}

theorem mixL_drop : ∀ (l : List (List Int × Int)) (i : Nat) (hi : i < l.length), (mixL l).drop (i * 2) = .imm false (l[i].1.map vI) l[i].1.length :: vI l[i].2 :: (mixL l).drop ((i + 1) * 2)
  | [], i, hi => by simp at hi
  | x :: l, 0, hi => rfl
  | x :: l, i + 1, hi => by
    have h := mixL_drop l i (by simpa using hi)
    have e : ∀ k, (mixL (x :: l)).drop ((k + 1) * 2) = (mixL l).drop (k * 2) := by
      intro k
      have : (k + 1) * 2 = k * 2 + 2 := by omega
      rw [this]; rfl
    rw [e, e, h]; rfl

theorem mixL_len : ∀ (l : List (List Int × Int)), (mixL l).length = l.length * 2
  | [] => rfl
  | x :: l => by
    have := mixL_len l
    have e : (mixL (x :: l)).length = (mixL l).length + 2 := rfl
    rw [e, this, List.length_cons]; omega

theorem IsLst.pts {w : AV} {l : List (List Int × Int)} (h : IsLst w l.length (mixL l)) : IsPts w l := by
  rcases h with ⟨h0, rfl⟩ | ⟨s, rfl⟩
  · have : l = [] := List.eq_nil_of_length_eq_zero h0
    subst this; exact .nil
  · exact .imm s _ l (mixL_len l) fun i hi => ⟨_, .imm false _, mixL_drop l i hi⟩

theorem L3 {v w : AV} {l : List (List Int × Int)} (hv : IsPts v l) (hw : IsPts w l) (h20 : l.length ≤ 1000) (hl : ∀ x ∈ l, x.1.length ≤ 1000) (n : Nat) : ∀ (i : Nat), i + n = l.length →
    lp E Y F3L0 (st 49 [(3, v), (5, w), (7, vI i)]) H = some (.x 0, st 49 [], H) := by
  induction n with
  | zero =>
    intro i hi
    rw [un3_0]
    have : ¬ ((i : Int) < (l.length : Int)) := by omega
    simp only [F3L0b, SS, insA, wantedA, Opd.ev, putA, binA, eqbA, unA, fldA, partA, reduceIte, reduceCtorEq, Nat.reduceMod, Nat.reduceDiv, Nat.reduceBEq, resultA, resA, vI, Nat.reduceMul, Nat.reduceAdd, Nat.reduceSub, Nat.reduceEqDiff, Nat.reduceLT, Nat.reducePow, Nat.reduceLeDiff, st, Option.bind_eq_bind, Option.pure_def, List.length_nil, Int.cast_ofNat_Int, List.reverse_nil, UU, idxP, cellsAt, storeA, fillA, zerosA, putAll, optNat, sliceA, row, Int.reduceLT, Int.reduceLE, Int.reduceGT, Int.reduceGE, Int.reduceEq, Int.reduceNe, Int.reduceToNat, Int.reduceBEq, Int.reduceBNe, Nat.reduceLeDiff, Nat.reduceLT, Nat.reduceBNe, Nat.reduceGT, List.drop_nil, List.take_nil, Option.isSome_none, Int.ofNat_one, Int.ofNat_zero, hv.len, this]
  | succ n ih =>
    intro i hi
    have hlt : i < l.length := by omega
    have hc : (i : Int) < (l.length : Int) := by omega
    have hww := wrap_succ (n := i) (by omega)
    obtain ⟨s1, r1, c1, e1, h1⟩ := hv.get hlt
    obtain ⟨s2, r2, c2, e2, h2⟩ := hw.get hlt
    have hs := fun H => same19 (Y := Y) (H := H) (c := l[i].2) (d := l[i].2) h1 h2 (hl _ (by simp))
    have e3 : ∀ (k : Nat), 1 + 1 ≤ k + 1 + 1 := fun k => by omega
    have hq := ih (i + 1) (by omega)
    rw [un3_0]
    simp only [SS, insA, wantedA, Opd.ev, putA, binA, eqbA, unA, fldA, partA, reduceIte, reduceCtorEq, Nat.reduceMod, Nat.reduceDiv, Nat.reduceBEq, resultA, resA, vI, Nat.reduceMul, Nat.reduceAdd, Nat.reduceSub, Nat.reduceEqDiff, Nat.reduceLT, Nat.reducePow, Nat.reduceLeDiff, st, Option.bind_eq_bind, Option.pure_def, List.length_nil, Int.cast_ofNat_Int, List.reverse_nil] at hq hs
    simp only [F3L0b, SS, insA, wantedA, Opd.ev, putA, binA, eqbA, unA, fldA, partA, reduceIte, reduceCtorEq, Nat.reduceMod, Nat.reduceDiv, Nat.reduceBEq, resultA, resA, vI, Nat.reduceMul, Nat.reduceAdd, Nat.reduceSub, Nat.reduceEqDiff, Nat.reduceLT, Nat.reducePow, Nat.reduceLeDiff, st, Option.bind_eq_bind, Option.pure_def, List.length_nil, Int.cast_ofNat_Int, List.reverse_nil, UU, idxP, cellsAt, storeA, fillA, zerosA, putAll, optNat, sliceA, row, Int.reduceLT, Int.reduceLE, Int.reduceGT, Int.reduceGE, Int.reduceEq, Int.reduceNe, Int.reduceToNat, Int.reduceBEq, Int.reduceBNe, Nat.reduceLeDiff, Nat.reduceLT, Nat.reduceBNe, Nat.reduceGT, List.drop_nil, List.take_nil, Option.isSome_none, Int.ofNat_one, Int.ofNat_zero, hv.len, hc, hww, e1, e2, e3, h1.snap, h2.snap, hs, hq]

theorem lasting_rows {t : List (List Int)} (hok : okTab t) : (lastingS t).length ≤ 1000 ∧ ∀ x ∈ lastingS t, x.1.length ≤ 1000 := by
  have h8 : 2 ^ t.length ≤ 8 := Nat.pow_le_pow_right (by decide) hok.2.1 (n := 2)
  constructor
  · have := List.length_filterMap_le (pickS t) (List.range' 1 (2 ^ t.length - 1))
    unfold lastingS
    rw [List.length_range'] at this
    omega
  · intro x hx
    obtain ⟨set, h1, h2⟩ := List.mem_filterMap.1 hx
    rw [List.mem_range'_1] at h1
    unfold pickS at h2
    cases hr : restS t set with
    | none => rw [hr] at h2; cases h2
    | some y =>
      rw [hr] at h2
      simp only at h2
      split at h2
      · cases h2
        obtain ⟨_, _, _, h, _⟩ := resP_some hok (by omega) (by omega) (x := x.1) (d := x.2) hr
        have := hok.2.1
        omega
      · cases h2

theorem law3 {vt : AV} {t : List (List Int)} (ht : IsTab vt t) : callL E Y 3 [vt] [] = some (.bool true, []) := by
  obtain ⟨f1, f2⟩ := few15 (Y := Y) (H := []) ht IsPts.nil (by simp)
  have ha : freeX [] (callL E Y 16 [] []) = some (.bool true, []) := alive16
  rw [call3 rfl]
  by_cases hf : fewS t []
  · have f1 := f1 hf
    by_cases hok : okTab t
    · obtain ⟨w1, i1, l1⟩ := lasting17 (Y := Y) ht (by have := hf.1.1; omega) hok
      obtain ⟨w2, i2, l2⟩ := lasting18 (Y := Y) ht hf.1 hok
      obtain ⟨b1, b2⟩ := lasting_rows hok
      have hl := L3 (Y := Y) (H := []) i1.pts i2.pts b1 b2 (lastingS t).length 0 (by omega)
      simp only [SS, insA, wantedA, Opd.ev, putA, binA, eqbA, unA, fldA, partA, reduceIte, reduceCtorEq, Nat.reduceMod, Nat.reduceDiv, Nat.reduceBEq, resultA, resA, vI, Nat.reduceMul, Nat.reduceAdd, Nat.reduceSub, Nat.reduceEqDiff, Nat.reduceLT, Nat.reducePow, Nat.reduceLeDiff, st, Option.bind_eq_bind, Option.pure_def, List.length_nil, Int.cast_ofNat_Int, List.reverse_nil, Int.ofNat_zero] at hl
      simp only [F3B, F3T0, in3_0, SS, insA, wantedA, Opd.ev, putA, binA, eqbA, unA, fldA, partA, reduceIte, reduceCtorEq, Nat.reduceMod, Nat.reduceDiv, Nat.reduceBEq, resultA, resA, vI, Nat.reduceMul, Nat.reduceAdd, Nat.reduceSub, Nat.reduceEqDiff, Nat.reduceLT, Nat.reducePow, Nat.reduceLeDiff, st, Option.bind_eq_bind, Option.pure_def, List.length_nil, Int.cast_ofNat_Int, List.reverse_nil, UU, idxP, cellsAt, storeA, fillA, zerosA, putAll, optNat, sliceA, row, Int.reduceLT, Int.reduceLE, Int.reduceGT, Int.reduceGE, Int.reduceEq, Int.reduceNe, Int.reduceToNat, Int.reduceBEq, Int.reduceBNe, Nat.reduceLeDiff, Nat.reduceLT, Nat.reduceBNe, Nat.reduceGT, List.drop_nil, List.take_nil, Option.isSome_none, Int.ofNat_one, Int.ofNat_zero, ht.snap, f1, l1, l2, i1.pts.len, i2.pts.len, bne_self_eq_false, hl, ha]
    · have l1 := fun H => lasting17_no (Y := Y) (H := H) ht (by have := hf.1.1; omega) hok
      have l2 := fun H => lasting18_no (Y := Y) (H := H) ht hf.1 hok
      have hl := L3 (Y := Y) (H := []) IsPts.nil IsPts.nil (by simp) (by simp) 0 0 (by simp)
      simp only [SS, insA, wantedA, Opd.ev, putA, binA, eqbA, unA, fldA, partA, reduceIte, reduceCtorEq, Nat.reduceMod, Nat.reduceDiv, Nat.reduceBEq, resultA, resA, vI, Nat.reduceMul, Nat.reduceAdd, Nat.reduceSub, Nat.reduceEqDiff, Nat.reduceLT, Nat.reducePow, Nat.reduceLeDiff, st, Option.bind_eq_bind, Option.pure_def, List.length_nil, Int.cast_ofNat_Int, List.reverse_nil, Int.ofNat_zero] at hl
      simp only [F3B, F3T0, in3_0, SS, insA, wantedA, Opd.ev, putA, binA, eqbA, unA, fldA, partA, reduceIte, reduceCtorEq, Nat.reduceMod, Nat.reduceDiv, Nat.reduceBEq, resultA, resA, vI, Nat.reduceMul, Nat.reduceAdd, Nat.reduceSub, Nat.reduceEqDiff, Nat.reduceLT, Nat.reducePow, Nat.reduceLeDiff, st, Option.bind_eq_bind, Option.pure_def, List.length_nil, Int.cast_ofNat_Int, List.reverse_nil, UU, idxP, cellsAt, storeA, fillA, zerosA, putAll, optNat, sliceA, row, Int.reduceLT, Int.reduceLE, Int.reduceGT, Int.reduceGE, Int.reduceEq, Int.reduceNe, Int.reduceToNat, Int.reduceBEq, Int.reduceBNe, Nat.reduceLeDiff, Nat.reduceLT, Nat.reduceBNe, Nat.reduceGT, List.drop_nil, List.take_nil, Option.isSome_none, Int.ofNat_one, Int.ofNat_zero, ht.snap, f1, l1, l2, bne_self_eq_false, hl, ha]
  · have f2 := f2 hf
    simp only [F3B, F3T0, in3_0, SS, insA, wantedA, Opd.ev, putA, binA, eqbA, unA, fldA, partA, reduceIte, reduceCtorEq, Nat.reduceMod, Nat.reduceDiv, Nat.reduceBEq, resultA, resA, vI, Nat.reduceMul, Nat.reduceAdd, Nat.reduceSub, Nat.reduceEqDiff, Nat.reduceLT, Nat.reducePow, Nat.reduceLeDiff, st, Option.bind_eq_bind, Option.pure_def, List.length_nil, Int.cast_ofNat_Int, List.reverse_nil, UU, idxP, cellsAt, storeA, fillA, zerosA, putAll, optNat, sliceA, row, Int.reduceLT, Int.reduceLE, Int.reduceGT, Int.reduceGE, Int.reduceEq, Int.reduceNe, Int.reduceToNat, Int.reduceBEq, Int.reduceBNe, Nat.reduceLeDiff, Nat.reduceLT, Nat.reduceBNe, Nat.reduceGT, List.drop_nil, List.take_nil, Option.isSome_none, Int.ofNat_one, Int.ofNat_zero, ht.snap, f2, ha]
end
end Go.X
