import Derived.Test.YtchgifdkhknppaaUT
import Derived.Test.YtchgifdkhknppaaVA
/-! Veils: the law on pairings. -/
set_option linter.unusedSimpArgs false
set_option linter.unusedVariables false
set_option maxHeartbeats 8000000
set_option maxRecDepth 10000
namespace Go.X
open Go Go.RowKit
section
variable {Y : Run}

theorem tabsC {b : Bool} {vt : AV} {t : List (List Int)} (ht : IsTab vt t) : IsTabs (.imm b [vt] 1) [t] :=
  ⟨b, [vt], rfl, rfl, fun i hi => by
    have : i = 0 := by simpa using hi
    subst this; exact ht⟩
theorem fewC {t : List (List Int)} : fewS [t] ↔ Small t := by simp [fewS]

/-- Both count alike. -/
theorem counts {w : AV} {l : List Int} (hw : IsRow w l) (hl : l.length ≤ 40) : ∃ c e : Int, (∀ H, freeX H (callL EV Y 22 [w] []) = some (.tup [vI c, vI e], H)) ∧ ∀ H, freeX H (callL EV Y 37 [w] []) = some (.tup [vI c, vI e], H) := by
  obtain ⟨a1, a2⟩ := count22 (Y := Y) hw hl
  obtain ⟨b1, b2⟩ := count37 (Y := Y) hw hl
  cases h : isPr l
  · exact ⟨0, 2, a2 h, b2 h⟩
  · exact ⟨_, 0, a1 h, b1 h⟩
theorem pairs {vt : AV} {t : List (List Int)} (ht : IsTab vt t) (hs : Small t) : ∃ u v q, ∃ e : Int, IsRow u q ∧ IsRow v q ∧ q.length ≤ 1000 ∧ (∀ H, freeX H (callL EV Y 34 [vt] []) = some (.tup [u, vI e], H)) ∧ ∀ H, freeX H (callL EV Y 35 [vt] []) = some (.tup [v, vI e], H) := by
  obtain ⟨a1, a2⟩ := pairing34 (Y := Y) ht hs
  obtain ⟨b1, b2⟩ := pairing35 (Y := Y) ht hs
  cases h : readOk t
  · exact ⟨.nils, .nils, [], 2, .nil, .nil, by simp, a2 h, b2 h⟩
  · obtain ⟨u, q, p1, p2, p3⟩ := a1 h
    obtain ⟨v, q', r1, r2, r3⟩ := b1 h
    rw [p1] at r1; cases r1
    have V := veil_iff.1 h
    obtain ⟨x, x1, _, x2⟩ := V.pairOf
    rw [p1] at x1; cases x1
    exact ⟨u, v, q, 0, p2, r2, by have := V.n5; omega, p3, r3⟩

theorem law7 {vt w : AV} {t : List (List Int)} {l : List Int} (ht : IsTab vt t) (hw : IsRow w l) : freeX [] (callL EV Y 7 [vt, w] []) = some (.bool true, []) := by
  obtain ⟨o1, o2, o3⟩ := ht.one
  have f := fun H => few23 (Y := Y) (H := H) (tabsC (b := true) ht) (by simp)
  have ha := fun H => alive20 (Y := Y) (H := H)
  rw [call7 rfl]
  by_cases hs : fewS [t]
  · have ts := fewC.1 hs
    rw [decide_eq_true hs] at f
    by_cases c : (l.length : Int) > 40
    · simp only [F7B, SS, insA, wantedA, Opd.ev, putA, binA, eqbA, unA, fldA, partA, reduceIte, reduceCtorEq, Nat.reduceMod, Nat.reduceDiv, Nat.reduceBEq, resultA, resA, vI, Nat.reduceMul, Nat.reduceAdd, Nat.reduceSub, Nat.reduceEqDiff, Nat.reduceLT, Nat.reducePow, Nat.reduceLeDiff, st, Option.bind_eq_bind, Option.pure_def, List.length_nil, Int.cast_ofNat_Int, List.reverse_nil, UU, idxP, cellsAt, storeA, fillA, zerosA, putAll, optNat, sliceA, row, Int.reduceLT, Int.reduceLE, Int.reduceGT, Int.reduceGE, Int.reduceEq, Int.reduceNe, Int.reduceToNat, Int.reduceBEq, Int.reduceBNe, Nat.reduceLeDiff, Nat.reduceLT, Nat.reduceBNe, Nat.reduceGT, List.drop_nil, List.take_nil, Option.isSome_none, Int.ofNat_one, Int.ofNat_zero, o1, o2, o3, ht.snap, f, hw.len, c, ha]
    · obtain ⟨a, b, q, e, a1, a2, a3, a4, a5⟩ := pairs (Y := Y) ht ts
      obtain ⟨c0, e0, b1, b2⟩ := counts (Y := Y) hw (by omega)
      have sm := fun H => same36 (Y := Y) (H := H) a1 a2 a3
      rw [decide_eq_true rfl] at sm
      simp only [SS, insA, wantedA, Opd.ev, putA, binA, eqbA, unA, fldA, partA, reduceIte, reduceCtorEq, Nat.reduceMod, Nat.reduceDiv, Nat.reduceBEq, resultA, resA, vI, Nat.reduceMul, Nat.reduceAdd, Nat.reduceSub, Nat.reduceEqDiff, Nat.reduceLT, Nat.reducePow, Nat.reduceLeDiff, st, Option.bind_eq_bind, Option.pure_def, List.length_nil, Int.cast_ofNat_Int, List.reverse_nil] at a4 a5 b1 b2
      simp only [F7B, SS, insA, wantedA, Opd.ev, putA, binA, eqbA, unA, fldA, partA, reduceIte, reduceCtorEq, Nat.reduceMod, Nat.reduceDiv, Nat.reduceBEq, resultA, resA, vI, Nat.reduceMul, Nat.reduceAdd, Nat.reduceSub, Nat.reduceEqDiff, Nat.reduceLT, Nat.reducePow, Nat.reduceLeDiff, st, Option.bind_eq_bind, Option.pure_def, List.length_nil, Int.cast_ofNat_Int, List.reverse_nil, UU, idxP, cellsAt, storeA, fillA, zerosA, putAll, optNat, sliceA, row, Int.reduceLT, Int.reduceLE, Int.reduceGT, Int.reduceGE, Int.reduceEq, Int.reduceNe, Int.reduceToNat, Int.reduceBEq, Int.reduceBNe, Nat.reduceLeDiff, Nat.reduceLT, Nat.reduceBNe, Nat.reduceGT, List.drop_nil, List.take_nil, Option.isSome_none, Int.ofNat_one, Int.ofNat_zero, o1, o2, o3, ht.snap, hw.snap, a1.snap, a2.snap, f, hw.len, c, a4, a5, b1, b2, sm, ha, BEq.rfl, bne_self_eq_false]
  · rw [decide_eq_false hs] at f
    simp only [F7B, SS, insA, wantedA, Opd.ev, putA, binA, eqbA, unA, fldA, partA, reduceIte, reduceCtorEq, Nat.reduceMod, Nat.reduceDiv, Nat.reduceBEq, resultA, resA, vI, Nat.reduceMul, Nat.reduceAdd, Nat.reduceSub, Nat.reduceEqDiff, Nat.reduceLT, Nat.reducePow, Nat.reduceLeDiff, st, Option.bind_eq_bind, Option.pure_def, List.length_nil, Int.cast_ofNat_Int, List.reverse_nil, UU, idxP, cellsAt, storeA, fillA, zerosA, putAll, optNat, sliceA, row, Int.reduceLT, Int.reduceLE, Int.reduceGT, Int.reduceGE, Int.reduceEq, Int.reduceNe, Int.reduceToNat, Int.reduceBEq, Int.reduceBNe, Nat.reduceLeDiff, Nat.reduceLT, Nat.reduceBNe, Nat.reduceGT, List.drop_nil, List.take_nil, Option.isSome_none, Int.ofNat_one, Int.ofNat_zero, o1, o2, o3, ht.snap, f, ha]
end
end Go.X
