import Derived.Test.YtchgifdkhknppaaVM
import Derived.Test.YtchgifdkhknppaaVA
/-! Veils: the law on tables. -/
set_option linter.unusedSimpArgs false
set_option linter.unusedVariables false
set_option maxHeartbeats 4000000
set_option maxRecDepth 10000
namespace Go.X
open Go Go.RowKit
section
variable {Y : Run} {H : Heap}

theorem tabs1 {s : Bool} {vt : AV} {t : List (List Int)} (ht : IsTab vt t) : IsTabs (.imm s [vt] 1) [t] :=
  ⟨s, [vt], rfl, rfl, fun i hi => by
    have : i = 0 := by simpa using hi
    subst this; exact ht⟩
theorem few1 {t : List (List Int)} : fewS [t] ↔ Small t := by simp [fewS]
theorem eqb_self {b : Bool} : (b == b) = true := by cases b <;> rfl

theorem hgt_small {t : List (List Int)} (hv : Veil t) (f : Nat → Nat → Int) : (tabF (t.length + 1) f).length ≤ 1000 ∧ ∀ r ∈ tabF (t.length + 1) f, r.length ≤ 1000 := by
  have := hv.n5
  exact ⟨by rw [tabF_len]; omega, fun r hr => by rw [tabF_mem r hr]; omega⟩
theorem triT_small {n k : Nat} {p : Nat → Nat → Bool} (hn : n ≤ 5) (hk : k ≤ 5) : (triT p n k).length ≤ 1000 ∧ ∀ r ∈ triT p n k, r.length ≤ 1000 := by
  refine ⟨by simp [triT]; omega, fun r hr => ?_⟩
  simp only [triT, List.mem_map, List.mem_range] at hr
  obtain ⟨i, _, rfl⟩ := hr
  have := triR_len (p := p i) n 0
  omega

theorem law5 {vt : AV} {t : List (List Int)} (ht : IsTab vt t) : freeX [] (callL EV Y 5 [vt] []) = some (.bool true, []) := by
  obtain ⟨o1, o2, o3⟩ := ht.one
  have f := fun H => few23 (Y := Y) (H := H) (tabs1 (s := true) ht) (by simp)
  have ha := fun H => alive20 (Y := Y) (H := H)
  rw [call5 rfl]
  by_cases hs : Small t
  · rw [decide_eq_true (few1.2 hs)] at f
    obtain ⟨w, w1, w2⟩ := copy24 (Y := Y) ht hs
    have k25 := fun H => isveil25 (Y := Y) (H := H) w1 hs
    have k26 := fun H => isveil26 (Y := Y) (H := H) ht hs
    rw [ref_read] at k26
    have k31 := fun H => minus31 (Y := Y) (H := H) w1 hs
    have k32 := fun H => minus32 (Y := Y) (H := H) ht hs
    have sm := fun H => same19 (Y := Y) (H := H) w1 ht (by have := hs.1; omega) (fun r hr => by have := hs.2 r hr; omega)
    rw [decide_eq_true rfl] at sm
    cases ho : readOk t
    · have k27 := (heights27 (Y := Y) w1 hs).2 ho
      have k28 := (heights28 (Y := Y) ht hs).2 ho
      have k29 := (tri29 (Y := Y) w1 hs).2 ho
      have k30 := (tri30 (Y := Y) ht hs).2 ho
      have sn := fun H => same19 (Y := Y) (H := H) IsTab.nil IsTab.nil (by simp) (by simp)
      rw [ho] at k25 k26 k31 k32
      simp only [Bool.false_eq_true, if_false] at k31 k32
      rw [decide_eq_true rfl] at sn
      simp only [SS, insA, wantedA, Opd.ev, putA, binA, eqbA, unA, fldA, partA, reduceIte, reduceCtorEq, Nat.reduceMod, Nat.reduceDiv, Nat.reduceBEq, resultA, resA, vI, Nat.reduceMul, Nat.reduceAdd, Nat.reduceSub, Nat.reduceEqDiff, Nat.reduceLT, Nat.reducePow, Nat.reduceLeDiff, st, Option.bind_eq_bind, Option.pure_def, List.length_nil, Int.cast_ofNat_Int, List.reverse_nil] at f k25 k26 k27 k28 k29 k30 k31 k32 sm sn
      simp only [F5B, SS, insA, wantedA, Opd.ev, putA, binA, eqbA, unA, fldA, partA, reduceIte, reduceCtorEq, Nat.reduceMod, Nat.reduceDiv, Nat.reduceBEq, resultA, resA, vI, Nat.reduceMul, Nat.reduceAdd, Nat.reduceSub, Nat.reduceEqDiff, Nat.reduceLT, Nat.reducePow, Nat.reduceLeDiff, st, Option.bind_eq_bind, Option.pure_def, List.length_nil, Int.cast_ofNat_Int, List.reverse_nil, UU, idxP, cellsAt, storeA, fillA, zerosA, putAll, optNat, sliceA, row, Int.reduceLT, Int.reduceLE, Int.reduceGT, Int.reduceGE, Int.reduceEq, Int.reduceNe, Int.reduceToNat, Int.reduceBEq, Int.reduceBNe, Nat.reduceLeDiff, Nat.reduceLT, Nat.reduceBNe, Nat.reduceGT, List.drop_nil, List.take_nil, Option.isSome_none, Int.ofNat_one, Int.ofNat_zero, o1, o2, o3, ht.snap, w1.snap, f, w2, k25, k26, k27, k28, k29, k30, k31, k32, sm, sn, ha, bne_self_eq_false, BEq.rfl, eqb_self]
    · have hv := veil_iff.1 ho
      have h5 := hv.n5
      obtain ⟨a1, a2, k27⟩ := (heights27 (Y := Y) w1 hs).1 ho
      obtain ⟨b1, b2, k28⟩ := (heights28 (Y := Y) ht hs).1 ho
      obtain ⟨c1, c2, k29⟩ := (tri29 (Y := Y) w1 hs).1 ho
      obtain ⟨d1, d2, k30⟩ := (tri30 (Y := Y) ht hs).1 ho
      have s1 := fun H => same19 (Y := Y) (H := H) a2 b2 (hgt_small hv _).1 (hgt_small hv _).2
      have s2 := fun H => same19 (Y := Y) (H := H) c2 d2 (triT_small h5 h5).1 (triT_small h5 h5).2
      rw [decide_eq_true rfl] at s1
      rw [decide_eq_true (tri_same hv)] at s2
      rw [ho] at k25 k26 k31 k32
      simp only [if_true] at k31 k32
      obtain ⟨m1, m2⟩ := minus_same hv
      rw [← m1, ← m2] at k32
      simp only [SS, insA, wantedA, Opd.ev, putA, binA, eqbA, unA, fldA, partA, reduceIte, reduceCtorEq, Nat.reduceMod, Nat.reduceDiv, Nat.reduceBEq, resultA, resA, vI, Nat.reduceMul, Nat.reduceAdd, Nat.reduceSub, Nat.reduceEqDiff, Nat.reduceLT, Nat.reducePow, Nat.reduceLeDiff, st, Option.bind_eq_bind, Option.pure_def, List.length_nil, Int.cast_ofNat_Int, List.reverse_nil] at f k25 k26 k27 k28 k29 k30 k31 k32 sm s1 s2
      simp only [F5B, SS, insA, wantedA, Opd.ev, putA, binA, eqbA, unA, fldA, partA, reduceIte, reduceCtorEq, Nat.reduceMod, Nat.reduceDiv, Nat.reduceBEq, resultA, resA, vI, Nat.reduceMul, Nat.reduceAdd, Nat.reduceSub, Nat.reduceEqDiff, Nat.reduceLT, Nat.reducePow, Nat.reduceLeDiff, st, Option.bind_eq_bind, Option.pure_def, List.length_nil, Int.cast_ofNat_Int, List.reverse_nil, UU, idxP, cellsAt, storeA, fillA, zerosA, putAll, optNat, sliceA, row, Int.reduceLT, Int.reduceLE, Int.reduceGT, Int.reduceGE, Int.reduceEq, Int.reduceNe, Int.reduceToNat, Int.reduceBEq, Int.reduceBNe, Nat.reduceLeDiff, Nat.reduceLT, Nat.reduceBNe, Nat.reduceGT, List.drop_nil, List.take_nil, Option.isSome_none, Int.ofNat_one, Int.ofNat_zero, o1, o2, o3, ht.snap, w1.snap, a2.snap, b2.snap, c2.snap, d2.snap, f, w2, k25, k26, k27, k28, k29, k30, k31, k32, sm, s1, s2, ha, bne_self_eq_false, BEq.rfl, eqb_self]
  · rw [decide_eq_false (fun h => hs (few1.1 h))] at f
    simp only [F5B, SS, insA, wantedA, Opd.ev, putA, binA, eqbA, unA, fldA, partA, reduceIte, reduceCtorEq, Nat.reduceMod, Nat.reduceDiv, Nat.reduceBEq, resultA, resA, vI, Nat.reduceMul, Nat.reduceAdd, Nat.reduceSub, Nat.reduceEqDiff, Nat.reduceLT, Nat.reducePow, Nat.reduceLeDiff, st, Option.bind_eq_bind, Option.pure_def, List.length_nil, Int.cast_ofNat_Int, List.reverse_nil, UU, idxP, cellsAt, storeA, fillA, zerosA, putAll, optNat, sliceA, row, Int.reduceLT, Int.reduceLE, Int.reduceGT, Int.reduceGE, Int.reduceEq, Int.reduceNe, Int.reduceToNat, Int.reduceBEq, Int.reduceBNe, Nat.reduceLeDiff, Nat.reduceLT, Nat.reduceBNe, Nat.reduceGT, List.drop_nil, List.take_nil, Option.isSome_none, Int.ofNat_one, Int.ofNat_zero, o1, o2, o3, ht.snap, f, ha]
end
end Go.X
