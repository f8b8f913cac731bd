import Derived.Test.YtmedpfjiidlidaaZC
import Derived.Test.YtmedpfjiidlidaaXH2
import Derived.Test.YtmedpfjiidlidaaYC
/-! The ring of three: what is known of it, and the law. -/
set_option linter.unusedSimpArgs false
set_option linter.unusedVariables false
set_option maxHeartbeats 4000000
set_option maxRecDepth 10000
namespace Go.X
open Go Go.RowKit
section
variable {Y : Run} {H : Heap}

def ring (a b : Int) : List (List Int) := [[0, a, -b], [-b, 0, a], [a, -b, 0]]

def ringOk (a b : Int) : Bool :=
  askS (ring a b) [([1, 1, 1], 3)] && subS (fashS [1, 1, 1]) (bestS (ring a b) [1, 1, 1]) && (lastsP (ring a b) [1, 1, 1] == decide (a > b)) && (!decide (a > b) || lastingS (ring a b) == [([1, 1, 1], 3)])

theorem ring_all : ((List.range 20).all fun a => (List.range 20).all fun b => ringOk ((a : Int) + 1) ((b : Int) + 1)) = true := by decide +kernel

theorem ring_ok {a b : Int} (ha : 1 ≤ a ∧ a ≤ 20) (hb : 1 ≤ b ∧ b ≤ 20) : askS (ring a b) [([1, 1, 1], 3)] = true ∧ subS (fashS [1, 1, 1]) (bestS (ring a b) [1, 1, 1]) = true ∧ lastsP (ring a b) [1, 1, 1] = decide (a > b) ∧ (a > b → lastingS (ring a b) = [([1, 1, 1], 3)]) := by
  obtain ⟨m, rfl⟩ : ∃ m : Nat, a = (m : Int) + 1 := ⟨(a - 1).toNat, by omega⟩
  obtain ⟨n, rfl⟩ : ∃ n : Nat, b = (n : Int) + 1 := ⟨(b - 1).toNat, by omega⟩
  have := List.all_eq_true.1 (List.all_eq_true.1 ring_all m (by simp; omega)) n (by simp; omega)
  simp only [ringOk, Bool.and_eq_true, Bool.or_eq_true, Bool.not_eq_true', decide_eq_false_iff_not, beq_iff_eq] at this
  obtain ⟨⟨⟨h1, h2⟩, h3⟩, h4⟩ := this
  exact ⟨h1, h2, h3, fun h => h4.resolve_left (fun hn => hn h)⟩

theorem ring_tab (a b : Int) : IsTab (.imm true [.imm true [vI 0, vI a, vI (-b)] 3, .imm true [vI (-b), vI 0, vI a] 3, .imm true [vI a, vI (-b), vI 0] 3] 3) (ring a b) := by
  refine .imm true _ (ring a b) rfl fun i hi => ?_
  match i, hi with
  | 0, _ => exact .imm true [0, a, -b]
  | 1, _ => exact .imm true [-b, 0, a]
  | 2, _ => exact .imm true [a, -b, 0]

theorem law9 {u v : Int} (hu : 0 ≤ u ∧ u < 256) (hv : 0 ≤ v ∧ v < 256) : freeX [] (callL E2 Y 9 [.int .u8 u, .int .u8 v] []) = some (.bool true, []) := by
  have ha := fun H => freeX_up (Y := Y) E2_up (alive16 (Y := noRun) (H := H))
  have w1 : IntKind.wrap .i64 u = u := wrap_id (by omega) (by omega)
  have w2 : IntKind.wrap .i64 v = v := wrap_id (by omega) (by omega)
  have t1 : 0 ≤ u.tmod 20 ∧ u.tmod 20 < 20 := ⟨Int.tmod_nonneg _ hu.1, Int.tmod_lt_of_pos _ (by decide)⟩
  have t2 : 0 ≤ v.tmod 20 ∧ v.tmod 20 < 20 := ⟨Int.tmod_nonneg _ hv.1, Int.tmod_lt_of_pos _ (by decide)⟩
  have n20 : ¬ ((20 : Int) = 0) := by decide
  obtain ⟨a, ea⟩ : ∃ a, a = 1 + u.tmod 20 := ⟨_, rfl⟩
  obtain ⟨b, eb⟩ : ∃ b, b = 1 + v.tmod 20 := ⟨_, rfl⟩
  have w3 : IntKind.wrap .i64 (1 + u.tmod 20) = a := by rw [wrap_id (by omega) (by omega), ea]
  have w4 : IntKind.wrap .i64 (1 + v.tmod 20) = b := by rw [wrap_id (by omega) (by omega), eb]
  have w5 : IntKind.wrap .i64 (0 - b) = -b := by rw [wrap_id (by omega) (by omega)]; omega
  obtain ⟨h1, h2, h3, h4⟩ := ring_ok (a := a) (b := b) (by omega) (by omega)
  have hT := ring_tab a b
  have hX : IsRow (.imm true [vI 1, vI 1, vI 1] 3) [1, 1, 1] := .imm true [1, 1, 1]
  have k1 := fun H => freeX_up (Y := Y) E2_up (rest25 (Y := noRun) (H := H) (dx := 3) hT (show 3 < 1000 by omega) hX (by decide))
  have k2 := fun H => freeX_up (Y := Y) E2_up (lasts32 (Y := noRun) (H := H) (dx := 3) hT (show 3 < 1000 by omega) hX (by decide))
  obtain ⟨hok, _⟩ := ask1 h1
  obtain ⟨w, iw, k3⟩ := lasting17 (Y := noRun) hT (show 3 < 1000 by omega) hok
  have k3 := fun H => freeX_up (Y := Y) E2_up (k3 H)
  unfold err at k1 k2
  simp only [h1, h2, h3] at k1 k2
  rw [call9 rfl]
  by_cases c : a > b
  · have hp := iw.pts
    rw [h4 c] at hp
    obtain ⟨sn, rw1, cs, e1, hr⟩ := hp.get (i := 0) (by decide)
    have k4 := fun H => freeX_up (Y := Y) E2_up (same19 (Y := noRun) (H := H) (c := 3) (d := 3) hr hX (by decide))
    have e3 : ∀ (k : Nat), 1 + 1 ≤ k + 1 + 1 := fun k => by omega
    have hl := hp.len
    simp only [c, decide_true] at k1 k2
    simp only [List.getElem_cons_zero] at e1 hr k4
    simp only [SS, insA, wantedA, Opd.ev, putA, binA, eqbA, unA, fldA, partA, reduceIte, reduceCtorEq, Nat.reduceMod, Nat.reduceDiv, Nat.reduceBEq, resultA, resA, vI, Nat.reduceMul, Nat.reduceAdd, Nat.reduceSub, Nat.reduceEqDiff, Nat.reduceLT, Nat.reducePow, Nat.reduceLeDiff, st, Option.bind_eq_bind, Option.pure_def, List.length_nil, Int.cast_ofNat_Int, List.reverse_nil, UU, idxP, cellsAt, storeA, fillA, zerosA, putAll, optNat, sliceA, row, Int.reduceLT, Int.reduceLE, Int.reduceGT, Int.reduceGE, Int.reduceEq, Int.reduceNe, Int.reduceToNat, Int.reduceBEq, Int.reduceBNe, Nat.reduceLeDiff, Nat.reduceLT, Nat.reduceBNe, Nat.reduceGT, List.drop_nil, List.take_nil, Option.isSome_none, Int.ofNat_one, Int.ofNat_zero] at k1 k2 k3 k4 e1 hl
    simp only [F9B, SS, insA, wantedA, Opd.ev, putA, binA, eqbA, unA, fldA, partA, reduceIte, reduceCtorEq, Nat.reduceMod, Nat.reduceDiv, Nat.reduceBEq, resultA, resA, vI, Nat.reduceMul, Nat.reduceAdd, Nat.reduceSub, Nat.reduceEqDiff, Nat.reduceLT, Nat.reducePow, Nat.reduceLeDiff, st, Option.bind_eq_bind, Option.pure_def, List.length_nil, Int.cast_ofNat_Int, List.reverse_nil, UU, idxP, cellsAt, storeA, fillA, zerosA, putAll, optNat, sliceA, row, Int.reduceLT, Int.reduceLE, Int.reduceGT, Int.reduceGE, Int.reduceEq, Int.reduceNe, Int.reduceToNat, Int.reduceBEq, Int.reduceBNe, Nat.reduceLeDiff, Nat.reduceLT, Nat.reduceBNe, Nat.reduceGT, List.drop_nil, List.take_nil, Option.isSome_none, Int.ofNat_one, Int.ofNat_zero, w1, w2, n20, w3, w4, w5, k1, k2, k3, hl, e1, e3, hr.snap, k4, c, ha, decide_true, bne_self_eq_false]
  · simp only [c, decide_false] at k1 k2
    simp only [SS, insA, wantedA, Opd.ev, putA, binA, eqbA, unA, fldA, partA, reduceIte, reduceCtorEq, Nat.reduceMod, Nat.reduceDiv, Nat.reduceBEq, resultA, resA, vI, Nat.reduceMul, Nat.reduceAdd, Nat.reduceSub, Nat.reduceEqDiff, Nat.reduceLT, Nat.reducePow, Nat.reduceLeDiff, st, Option.bind_eq_bind, Option.pure_def, List.length_nil, Int.cast_ofNat_Int, List.reverse_nil, UU, idxP, cellsAt, storeA, fillA, zerosA, putAll, optNat, sliceA, row, Int.reduceLT, Int.reduceLE, Int.reduceGT, Int.reduceGE, Int.reduceEq, Int.reduceNe, Int.reduceToNat, Int.reduceBEq, Int.reduceBNe, Nat.reduceLeDiff, Nat.reduceLT, Nat.reduceBNe, Nat.reduceGT, List.drop_nil, List.take_nil, Option.isSome_none, Int.ofNat_one, Int.ofNat_zero] at k1 k2 k3
    simp only [F9B, SS, insA, wantedA, Opd.ev, putA, binA, eqbA, unA, fldA, partA, reduceIte, reduceCtorEq, Nat.reduceMod, Nat.reduceDiv, Nat.reduceBEq, resultA, resA, vI, Nat.reduceMul, Nat.reduceAdd, Nat.reduceSub, Nat.reduceEqDiff, Nat.reduceLT, Nat.reducePow, Nat.reduceLeDiff, st, Option.bind_eq_bind, Option.pure_def, List.length_nil, Int.cast_ofNat_Int, List.reverse_nil, UU, idxP, cellsAt, storeA, fillA, zerosA, putAll, optNat, sliceA, row, Int.reduceLT, Int.reduceLE, Int.reduceGT, Int.reduceGE, Int.reduceEq, Int.reduceNe, Int.reduceToNat, Int.reduceBEq, Int.reduceBNe, Nat.reduceLeDiff, Nat.reduceLT, Nat.reduceBNe, Nat.reduceGT, List.drop_nil, List.take_nil, Option.isSome_none, Int.ofNat_one, Int.ofNat_zero, w1, w2, n20, w3, w4, w5, k1, k2, k3, c, ha, decide_false, bne_self_eq_false]
end
end Go.X
