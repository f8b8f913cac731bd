import Derived.Test.YtchgifdkhknppaaVS
import Derived.Test.YtchgifdkhknppaaVN
/-! Veils: the law on turns. -/
set_option linter.unusedSimpArgs false
set_option linter.unusedVariables false
set_option maxHeartbeats 4000000
set_option maxRecDepth 10000
namespace Go.X
open Go Go.RowKit
section
variable {Y : Run} {H : Heap}

/-- Two calls with the same table and error. -/
structure Pair (Y : Run) (f g : Nat) (xs ys : List AV) (q : List (List Int)) (e : Int) (a b : AV) : Prop where
  ta : IsTab a q
  tb : IsTab b q
  len : q.length ≤ 1000
  row : ∀ r ∈ q, r.length ≤ 1000
  ca : ∀ H, freeX H (callL EV Y f xs []) = some (.tup [a, vI e], H)
  cb : ∀ H, freeX H (callL EV Y g ys []) = some (.tup [b, vI e], H)

theorem vOf_small {n : Nat} {h : List (List Int)} (hn : n ≤ 5) : (vOf n h).length ≤ 1000 ∧ ∀ r ∈ vOf n h, r.length ≤ 1000 := ⟨by rw [vOf, tabF_len]; omega, fun r hr => by rw [tabF_mem r hr]; omega⟩

theorem pair_turn {wt vt : AV} {t : List (List Int)} (hw : IsTab wt t) (ht : IsTab vt t) (hs : Small t) (i j : Int) : ∃ q e a b, Pair Y 46 51 [wt, vI i, vI j] [vt, vI i, vI j] q e a b := by
  by_cases c : readOk t = true ∧ (1 ≤ i ∧ i < t.length) ∧ 1 ≤ j ∧ j < t.length
  · obtain ⟨ho, hi, hj⟩ := c
    have hv := veil_iff.1 ho
    obtain ⟨a, rfl⟩ : ∃ a : Nat, i = a := ⟨i.toNat, by omega⟩
    obtain ⟨b, rfl⟩ : ∃ b : Nat, j = b := ⟨j.toNat, by omega⟩
    have t1 := turn46_ok (Y := Y) hw hs hv (i := a) (j := b) (by omega) (by omega)
    have t2 := turn51_ok (Y := Y) ht hs hv (i := a) (j := b) (by omega) (by omega)
    cases hf : fridB (hgtT t) a b
    · exact ⟨[], 9, .nils, .nils, .nil, .nil, by simp, by simp, t1.2 hf, t2.2 hf⟩
    · obtain ⟨x, x1, x2⟩ := t1.1 hf
      obtain ⟨y, y1, y2⟩ := t2.1 hf
      have := vOf_small (h := turnT (hgtT t) a b) hv.n5
      exact ⟨_, 0, x, y, x1, y1, this.1, this.2, x2, y2⟩
  · exact ⟨[], 2, .nils, .nils, .nil, .nil, by simp, by simp, fun H => turn46_no hw hs c, fun H => turn51_no ht hs c⟩

theorem pair_gyr {wt vt : AV} {t : List (List Int)} (hw : IsTab wt t) (ht : IsTab vt t) (hs : Small t) : ∃ q e a b, Pair Y 47 52 [wt] [vt] q e a b := by
  cases ho : readOk t
  · exact ⟨[], 2, .nils, .nils, .nil, .nil, by simp, by simp, (gyrate47 hw hs).2 ho, (gyrate52 ht hs).2 ho⟩
  · have hv := veil_iff.1 ho
    obtain ⟨x, x1, x2⟩ := (gyrate47 (Y := Y) hw hs).1 ho
    obtain ⟨y, y1, y2⟩ := (gyrate52 (Y := Y) ht hs).1 ho
    have := vOf_small (h := gyr t.length (hgtT t)) hv.n5
    exact ⟨_, 0, x, y, x1, y1, this.1, this.2, x2, y2⟩

theorem Pair.same {Y : Run} {f g : Nat} {xs ys : List AV} {q : List (List Int)} {e : Int} {a b : AV} (p : Pair Y f g xs ys q e a b) (H : Heap) : freeX H (callL EV Y 19 [a, b] []) = some (.bool true, H) := by
  have := same19 (Y := Y) (H := H) p.ta p.tb p.len p.row
  rwa [decide_eq_true rfl] at this

theorem law16 {vt : AV} {t : List (List Int)} {i j : Int} (ht : IsTab vt t) : freeX [] (callL EV Y 16 [vt, vI i, vI j] []) = some (.bool true, []) := by
  obtain ⟨o1, o2, o3⟩ := ht.one
  have f := fun H => few23 (Y := Y) (H := H) (tabs1 (s := true) ht) (by simp)
  have ha := fun H => alive20 (Y := Y) (H := H)
  rw [call16 rfl]
  by_cases hs : Small t
  · rw [decide_eq_true (few1.2 hs)] at f
    obtain ⟨w, w1, w2⟩ := copy24 (Y := Y) ht hs
    have sm := fun H => same19 (Y := Y) (H := H) w1 ht (by have := hs.1; omega) (fun r hr => by have := hs.2 r hr; omega)
    rw [decide_eq_true rfl] at sm
    obtain ⟨q, e, a, b, P⟩ := pair_turn (Y := Y) w1 ht hs i j
    obtain ⟨q2, e2, a2, b2, P2⟩ := pair_gyr (Y := Y) w1 ht hs
    have ca := P.ca; have cb := P.cb; have sa := P.same
    have ca2 := P2.ca; have cb2 := P2.cb; have sa2 := P2.same
    simp only [SS, insA, wantedA, Opd.ev, putA, binA, eqbA, unA, fldA, partA, reduceIte, reduceCtorEq, Nat.reduceMod, Nat.reduceDiv, Nat.reduceBEq, resultA, resA, vI, Nat.reduceMul, Nat.reduceAdd, Nat.reduceSub, Nat.reduceEqDiff, Nat.reduceLT, Nat.reducePow, Nat.reduceLeDiff, st, Option.bind_eq_bind, Option.pure_def, List.length_nil, Int.cast_ofNat_Int, List.reverse_nil] at ca cb ca2 cb2
    simp only [F16B, SS, insA, wantedA, Opd.ev, putA, binA, eqbA, unA, fldA, partA, reduceIte, reduceCtorEq, Nat.reduceMod, Nat.reduceDiv, Nat.reduceBEq, resultA, resA, vI, Nat.reduceMul, Nat.reduceAdd, Nat.reduceSub, Nat.reduceEqDiff, Nat.reduceLT, Nat.reducePow, Nat.reduceLeDiff, st, Option.bind_eq_bind, Option.pure_def, List.length_nil, Int.cast_ofNat_Int, List.reverse_nil, UU, idxP, cellsAt, storeA, fillA, zerosA, putAll, optNat, sliceA, row, Int.reduceLT, Int.reduceLE, Int.reduceGT, Int.reduceGE, Int.reduceEq, Int.reduceNe, Int.reduceToNat, Int.reduceBEq, Int.reduceBNe, Nat.reduceLeDiff, Nat.reduceLT, Nat.reduceBNe, Nat.reduceGT, List.drop_nil, List.take_nil, Option.isSome_none, Int.ofNat_one, Int.ofNat_zero, o1, o2, o3, ht.snap, w1.snap, P.ta.snap, P.tb.snap, P2.ta.snap, P2.tb.snap, f, w2, ca, cb, sa, ca2, cb2, sa2, sm, ha, bne_self_eq_false, BEq.rfl]
  · rw [decide_eq_false (fun h => hs (few1.1 h))] at f
    simp only [F16B, SS, insA, wantedA, Opd.ev, putA, binA, eqbA, unA, fldA, partA, reduceIte, reduceCtorEq, Nat.reduceMod, Nat.reduceDiv, Nat.reduceBEq, resultA, resA, vI, Nat.reduceMul, Nat.reduceAdd, Nat.reduceSub, Nat.reduceEqDiff, Nat.reduceLT, Nat.reducePow, Nat.reduceLeDiff, st, Option.bind_eq_bind, Option.pure_def, List.length_nil, Int.cast_ofNat_Int, List.reverse_nil, UU, idxP, cellsAt, storeA, fillA, zerosA, putAll, optNat, sliceA, row, Int.reduceLT, Int.reduceLE, Int.reduceGT, Int.reduceGE, Int.reduceEq, Int.reduceNe, Int.reduceToNat, Int.reduceBEq, Int.reduceBNe, Nat.reduceLeDiff, Nat.reduceLT, Nat.reduceBNe, Nat.reduceGT, List.drop_nil, List.take_nil, Option.isSome_none, Int.ofNat_one, Int.ofNat_zero, o1, o2, o3, ht.snap, f, ha]
end
end Go.X
