import Derived.Test.YtmedpfjiidlidaaZP
import Derived.Test.YtmedpfjiidlidaaZG
/-! Ratios that are sound, and compared. -/
set_option linter.unusedSimpArgs false
set_option linter.unusedVariables false
set_option maxHeartbeats 2000000
set_option maxRecDepth 10000
namespace Go.X
open Go Go.RowKit
section
variable {Y : Run} {H : Heap}

def ratC (l : List (Int × Int)) : List AV := l.flatMap fun x => [vI x.1, vI x.2]

theorem ratC_drop : ∀ (l : List (Int × Int)) (i : Nat) (hi : i < l.length), (ratC l).drop (i * 2) = vI l[i].1 :: vI l[i].2 :: (ratC l).drop ((i + 1) * 2)
  | [], i, hi => by simp at hi
  | x :: l, 0, hi => rfl
  | x :: l, i + 1, hi => by
    have h := ratC_drop l i (by simpa using hi)
    have e : ∀ k, (ratC (x :: l)).drop ((k + 1) * 2) = (ratC l).drop (k * 2) := by
      intro k
      have : (k + 1) * 2 = k * 2 + 2 := by omega
      rw [this]; rfl
    rw [e, e, h]; rfl

def soundR (l : List (Int × Int)) : Prop := ∀ x ∈ l, 1 ≤ x.2 ∧ x.2 ≤ 100000000 ∧ -2000000000 ≤ x.1 ∧ x.1 ≤ 2000000000

theorem L35 {s : Bool} {l : List (Int × Int)} (hl : l.length ≤ 20) (h : soundR l) (n : Nat) : ∀ (i : Nat), i + n = l.length →
    lp E2 Y F35L0 (st 40 [(0, .imm s (ratC l) l.length), (3, vI i)]) H = some (.x 0, st 40 [], H) := by
  induction n with
  | zero =>
    intro i hi
    rw [un35_0]
    have : ¬ ((i : Int) < (l.length : Int)) := by omega
    simp only [F35L0b, SS, insA, wantedA, Opd.ev, putA, binA, eqbA, unA, fldA, partA, reduceIte, reduceCtorEq, Nat.reduceMod, Nat.reduceDiv, Nat.reduceBEq, resultA, resA, vI, Nat.reduceMul, Nat.reduceAdd, Nat.reduceSub, Nat.reduceEqDiff, Nat.reduceLT, Nat.reducePow, Nat.reduceLeDiff, st, Option.bind_eq_bind, Option.pure_def, List.length_nil, Int.cast_ofNat_Int, List.reverse_nil, UU, idxP, cellsAt, storeA, fillA, zerosA, putAll, optNat, sliceA, row, Int.reduceLT, Int.reduceLE, Int.reduceGT, Int.reduceGE, Int.reduceEq, Int.reduceNe, Int.reduceToNat, Int.reduceBEq, Int.reduceBNe, Nat.reduceLeDiff, Nat.reduceLT, Nat.reduceBNe, Nat.reduceGT, List.drop_nil, List.take_nil, Option.isSome_none, Int.ofNat_one, Int.ofNat_zero, this]
  | succ n ih =>
    intro i hi
    have hlt : i < l.length := by omega
    have hc : (i : Int) < (l.length : Int) := by omega
    have hw := wrap_succ (n := i) (by omega)
    have e1 : idxA 2 (.imm s (ratC l) l.length) (.int .i64 (i : Int)) = some (.cptr s (vI l[i].1 :: vI l[i].2 :: (ratC l).drop ((i + 1) * 2))) := by
      simp only [idxA, natOf_nat]
      rw [if_pos hlt, ratC_drop l i hlt]
    obtain ⟨h1, h2, h3, h4⟩ := h l[i] (by simp)
    have c1 : ¬ l[i].2 < 1 := by omega
    have c2 : ¬ l[i].2 > 100000000 := by omega
    have c3 : ¬ l[i].1 < -2000000000 := by omega
    have c4 : ¬ l[i].1 > 2000000000 := by omega
    have e2 : ∀ k : Nat, 1 ≤ k + 1 := fun k => by omega
    have h5 := ih (i + 1) (by omega)
    generalize hv : AV.imm s (ratC l) l.length = v at *
    have hlen : lenA v = some l.length := by rw [← hv]; rfl
    rw [un35_0]
    simp only [SS, insA, wantedA, Opd.ev, putA, binA, eqbA, unA, fldA, partA, reduceIte, reduceCtorEq, Nat.reduceMod, Nat.reduceDiv, Nat.reduceBEq, resultA, resA, vI, Nat.reduceMul, Nat.reduceAdd, Nat.reduceSub, Nat.reduceEqDiff, Nat.reduceLT, Nat.reducePow, Nat.reduceLeDiff, st, Option.bind_eq_bind, Option.pure_def, List.length_nil, Int.cast_ofNat_Int, List.reverse_nil] at h5 e1
    simp only [F35L0b, SS, insA, wantedA, Opd.ev, putA, binA, eqbA, unA, fldA, partA, reduceIte, reduceCtorEq, Nat.reduceMod, Nat.reduceDiv, Nat.reduceBEq, resultA, resA, vI, Nat.reduceMul, Nat.reduceAdd, Nat.reduceSub, Nat.reduceEqDiff, Nat.reduceLT, Nat.reducePow, Nat.reduceLeDiff, st, Option.bind_eq_bind, Option.pure_def, List.length_nil, Int.cast_ofNat_Int, List.reverse_nil, UU, idxP, cellsAt, storeA, fillA, zerosA, putAll, optNat, sliceA, row, Int.reduceLT, Int.reduceLE, Int.reduceGT, Int.reduceGE, Int.reduceEq, Int.reduceNe, Int.reduceToNat, Int.reduceBEq, Int.reduceBNe, Nat.reduceLeDiff, Nat.reduceLT, Nat.reduceBNe, Nat.reduceGT, List.drop_nil, List.take_nil, Option.isSome_none, Int.ofNat_one, Int.ofNat_zero, hlen, hc, hw, e1, e2, c1, c2, c3, c4, h5, decide_false, BEq.rfl]

theorem sound35 {s : Bool} {l : List (Int × Int)} (hl : l.length ≤ 20) (h : soundR l) : freeX H (callL E2 Y 35 [.imm s (ratC l) l.length] []) = some (.bool true, H) := by
  have h1 := L35 (Y := Y) (H := []) (s := s) hl h l.length 0 (by omega)
  rw [call35 rfl]
  simp only [SS, insA, wantedA, Opd.ev, putA, binA, eqbA, unA, fldA, partA, reduceIte, reduceCtorEq, Nat.reduceMod, Nat.reduceDiv, Nat.reduceBEq, resultA, resA, vI, Nat.reduceMul, Nat.reduceAdd, Nat.reduceSub, Nat.reduceEqDiff, Nat.reduceLT, Nat.reducePow, Nat.reduceLeDiff, st, Option.bind_eq_bind, Option.pure_def, List.length_nil, Int.cast_ofNat_Int, List.reverse_nil, Int.ofNat_zero] at h1
  simp only [F35B, F35T0, in35_0, SS, insA, wantedA, Opd.ev, putA, binA, eqbA, unA, fldA, partA, reduceIte, reduceCtorEq, Nat.reduceMod, Nat.reduceDiv, Nat.reduceBEq, resultA, resA, vI, Nat.reduceMul, Nat.reduceAdd, Nat.reduceSub, Nat.reduceEqDiff, Nat.reduceLT, Nat.reducePow, Nat.reduceLeDiff, st, Option.bind_eq_bind, Option.pure_def, List.length_nil, Int.cast_ofNat_Int, List.reverse_nil, UU, idxP, cellsAt, storeA, fillA, zerosA, putAll, optNat, sliceA, row, Int.reduceLT, Int.reduceLE, Int.reduceGT, Int.reduceGE, Int.reduceEq, Int.reduceNe, Int.reduceToNat, Int.reduceBEq, Int.reduceBNe, Nat.reduceLeDiff, Nat.reduceLT, Nat.reduceBNe, Nat.reduceGT, List.drop_nil, List.take_nil, Option.isSome_none, Int.ofNat_one, Int.ofNat_zero, h1]

theorem above37 {a b c d : Int} (hb : 1 ≤ b ∧ b ≤ 100000000) (ha : -2000000000 ≤ a ∧ a ≤ 2000000000) (hd : 1 ≤ d ∧ d ≤ 100000000) (hc : -2000000000 ≤ c ∧ c ≤ 2000000000) :
    freeX H (callL E2 Y 37 [.agg [vI a, vI b], .agg [vI c, vI d]] []) = some (.bool (decide (a * d > c * b)), H) := by
  have m1 := mulB (A := 2000000000) (B := 100000000) ha (b := d) (by omega)
  have m2 := mulB (A := 2000000000) (B := 100000000) hc (b := b) (by omega)
  have w1 : IntKind.wrap .i64 (a * d) = a * d := wrap_id (by omega) (by omega)
  have w2 : IntKind.wrap .i64 (c * b) = c * b := wrap_id (by omega) (by omega)
  rw [call37 rfl]
  simp only [F37B, SS, insA, wantedA, Opd.ev, putA, binA, eqbA, unA, fldA, partA, reduceIte, reduceCtorEq, Nat.reduceMod, Nat.reduceDiv, Nat.reduceBEq, resultA, resA, vI, Nat.reduceMul, Nat.reduceAdd, Nat.reduceSub, Nat.reduceEqDiff, Nat.reduceLT, Nat.reducePow, Nat.reduceLeDiff, st, Option.bind_eq_bind, Option.pure_def, List.length_nil, Int.cast_ofNat_Int, List.reverse_nil, UU, idxP, cellsAt, storeA, fillA, zerosA, putAll, optNat, sliceA, row, Int.reduceLT, Int.reduceLE, Int.reduceGT, Int.reduceGE, Int.reduceEq, Int.reduceNe, Int.reduceToNat, Int.reduceBEq, Int.reduceBNe, Nat.reduceLeDiff, Nat.reduceLT, Nat.reduceBNe, Nat.reduceGT, List.drop_nil, List.take_nil, Option.isSome_none, Int.ofNat_one, Int.ofNat_zero, w1, w2]
end
end Go.X
