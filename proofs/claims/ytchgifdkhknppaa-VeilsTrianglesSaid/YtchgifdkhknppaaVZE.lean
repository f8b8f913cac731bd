import Derived.Test.YtchgifdkhknppaaVZD
import Derived.Test.YtchgifdkhknppaaVA
/-! Veils: the law on triangles. -/
set_option linter.unusedSimpArgs false
set_option linter.unusedVariables false
set_option maxHeartbeats 8000000
set_option maxRecDepth 10000
namespace Go.X
open Go Go.RowKit

theorem cnt_triR {p : Nat → Bool} : ∀ (d a k : Nat), a ≤ k → cntLe (k : Int) (triR p a d) = (triR p a (min d (k - a))).length
  | 0, a, k, _ => by rw [Nat.zero_min]; rfl
  | d + 1, a, k, h => by
    by_cases c : k = a
    · subst c
      rw [Nat.sub_self, Nat.min_zero]
      have : ∀ {r : List Int}, (∀ x ∈ r, (k : Int) < x) → cntLe (k : Int) r = 0 := fun {r} h => by
        induction r with
        | nil => rfl
        | cons x r ih =>
          unfold cntLe
          rw [if_neg (by have := h x List.mem_cons_self; omega)]
          exact ih fun y hy => h y (List.mem_cons_of_mem _ hy)
      rw [this fun x hx => by have := triR_mem hx; omega]
      rfl
    · have ih := cnt_triR (p := p) d (a + 1) k (by omega)
      have e : min (d + 1) (k - a) = min d (k - (a + 1)) + 1 := by omega
      rw [e, triR_s, triR_s]
      by_cases q : p a = true
      · rw [if_pos q, if_pos q]
        unfold cntLe
        rw [if_pos (by omega), ih]; rfl
      · rw [if_neg q, if_neg q]; exact ih

/-- The table of a veil's triangle is the veil. -/
theorem Veil.triBack {t : List (List Int)} (h : Veil t) : triV (triT (pR t) t.length t.length) = t := by
  have hl : (triT (pR t) t.length t.length).length = t.length := by simp [triT]
  have hs : ∀ i k, i ≤ t.length → k ≤ t.length → sT (triT (pR t) t.length t.length) i k = sumV t i k := fun i k hi hk => by
    unfold sT
    cases i with
    | zero => simp [sumV, sumI]
    | succ i =>
      have e : (triT (pR t) t.length t.length).getD i [] = triR (pR t i) 0 t.length := by
        rw [getD_get (by omega)]; simp [triT]
      rw [if_neg (by omega), Nat.add_sub_cancel, e, cnt_triR _ _ _ (Nat.zero_le _), Nat.sub_zero, Nat.min_eq_right hk]
      exact triR_cnt h (by omega) k hk
  refine sq_ext (m := t.length) (by rw [triV_len, hl]) (fun r hr => by have := tabF_mem r hr; omega) rfl h.row fun i j hi hj => ?_
  have e : at2 (triV (triT (pR t) t.length t.length)) i j = ofT (triT (pR t) t.length t.length) i j := by unfold triV; exact at2_tabF (by omega) (by omega)
  rw [e, ofT, hs _ _ (by omega) (by omega), hs _ _ (by omega) (by omega), hs _ _ (by omega) (by omega), hs _ _ (by omega) (by omega),
    sumV_row (i := i) (k := j + 1) hi, sumV_row (i := i) (k := j) hi, rowS_s hi (by rw [h.row _ (List.getElem_mem hi)]; exact hj)]
  omega
theorem Veil.fromOk {t : List (List Int)} (h : Veil t) : fromOk (triT (pR t) t.length t.length) = true := by
  have hl : (triT (pR t) t.length t.length).length = t.length := by simp [triT]
  unfold Go.X.fromOk
  rw [h.triBack, veil_iff.2 h, hl, h.triB, decide_eq_true ⟨h.n1, h.n5⟩]; rfl

section
variable {Y : Run}
theorem law12 {ut vt : AV} {s t : List (List Int)} (hu : IsTab ut s) (ht : IsTab vt t) : freeX [] (callL EV Y 12 [ut, vt] []) = some (.bool true, []) := by
  obtain ⟨o1, o2, o3⟩ := ht.one
  obtain ⟨p1, p2, p3⟩ := hu.one
  have f := fun H => few23 (Y := Y) (H := H) (tabsB (b := true) hu ht) (by simp)
  have ha := fun H => alive20 (Y := Y) (H := H)
  have ln : lenA AV.nils = some 0 := rfl
  have sm : ∀ {x : List (List Int)}, Small x → x.length ≤ 1000 ∧ ∀ r ∈ x, r.length ≤ 1000 := fun h => ⟨by have := h.1; omega, fun r hr => by have := h.2 r hr; omega⟩
  rw [call12 rfl]
  by_cases hs : fewS [s, t]
  · obtain ⟨us, ts⟩ := fewB.1 hs
    rw [decide_eq_true hs] at f
    have iv := fun H => isveil26 (Y := Y) (H := H) hu us
    rw [ref_read] at iv
    have fr := fun H => fair44 (Y := Y) (H := H) ht (sm ts).1
    obtain ⟨kT, kF⟩ := from45 (Y := Y) ht ts
    -- what is shown of the first table
    have first : readOk s = true → ∃ x b, IsTab x (triT (pR s) s.length s.length) ∧ IsTab b s ∧ (∀ H, freeX H (callL EV Y 29 [ut] []) = some (.tup [x, vI 0], H)) ∧ (∀ H, freeX H (callL EV Y 44 [x] []) = some (.bool true, H)) ∧ (∀ H, freeX H (callL EV Y 45 [x] []) = some (.tup [b, vI 0], H)) ∧ lenA x = some s.length := fun hr => by
      have V := veil_iff.1 hr
      obtain ⟨x, x1, x2⟩ := (tri29 (Y := Y) hu us).1 hr
      rw [tri_same V] at x1
      have hl : (triT (pR s) s.length s.length).length = s.length := by simp [triT]
      have hsm : Small (triT (pR s) s.length s.length) := by
        refine ⟨by have := V.n5; omega, fun r hr => ?_⟩
        simp only [triT, List.mem_map, List.mem_range] at hr
        obtain ⟨i, _, rfl⟩ := hr
        have := triR_len (p := pR s i) s.length 0
        have := V.n5
        omega
      obtain ⟨b, b1, b2⟩ := (from45 (Y := Y) x1 hsm).1 V.fromOk
      rw [V.triBack] at b1
      refine ⟨x, b, x1, b1, x2, fun H => ?_, b2, by rw [x1.len, hl]⟩
      have := fair44 (Y := Y) (H := H) x1 (sm hsm).1
      rwa [← from_fair, V.fromOk] at this
    cases ho : fromOk t
    · rw [← from_fair, ho] at fr
      have no := kF ho
      simp only [SS, insA, wantedA, Opd.ev, putA, binA, eqbA, unA, fldA, partA, reduceIte, reduceCtorEq, Nat.reduceMod, Nat.reduceDiv, Nat.reduceBEq, resultA, resA, vI, Nat.reduceMul, Nat.reduceAdd, Nat.reduceSub, Nat.reduceEqDiff, Nat.reduceLT, Nat.reducePow, Nat.reduceLeDiff, st, Option.bind_eq_bind, Option.pure_def, List.length_nil, Int.cast_ofNat_Int, List.reverse_nil] at no
      cases hr : readOk s
      · rw [hr] at iv
        simp only [F12B, SS, insA, wantedA, Opd.ev, putA, binA, eqbA, unA, fldA, partA, reduceIte, reduceCtorEq, Nat.reduceMod, Nat.reduceDiv, Nat.reduceBEq, resultA, resA, vI, Nat.reduceMul, Nat.reduceAdd, Nat.reduceSub, Nat.reduceEqDiff, Nat.reduceLT, Nat.reducePow, Nat.reduceLeDiff, st, Option.bind_eq_bind, Option.pure_def, List.length_nil, Int.cast_ofNat_Int, List.reverse_nil, UU, idxP, cellsAt, storeA, fillA, zerosA, putAll, optNat, sliceA, row, Int.reduceLT, Int.reduceLE, Int.reduceGT, Int.reduceGE, Int.reduceEq, Int.reduceNe, Int.reduceToNat, Int.reduceBEq, Int.reduceBNe, Nat.reduceLeDiff, Nat.reduceLT, Nat.reduceBNe, Nat.reduceGT, List.drop_nil, List.take_nil, Option.isSome_none, Int.ofNat_one, Int.ofNat_zero, o1, o2, o3, p1, p2, p3, ht.snap, hu.snap, f, iv, fr, no, ha, ln, BEq.rfl, bne_self_eq_false]
      · rw [hr] at iv
        obtain ⟨x, b, x1, b1, x2, x3, b2, x4⟩ := first hr
        have sb := fun H => same19 (Y := Y) (H := H) b1 hu (sm us).1 (sm us).2
        rw [decide_eq_true rfl] at sb
        simp only [SS, insA, wantedA, Opd.ev, putA, binA, eqbA, unA, fldA, partA, reduceIte, reduceCtorEq, Nat.reduceMod, Nat.reduceDiv, Nat.reduceBEq, resultA, resA, vI, Nat.reduceMul, Nat.reduceAdd, Nat.reduceSub, Nat.reduceEqDiff, Nat.reduceLT, Nat.reducePow, Nat.reduceLeDiff, st, Option.bind_eq_bind, Option.pure_def, List.length_nil, Int.cast_ofNat_Int, List.reverse_nil] at x2 b2
        simp only [F12B, SS, insA, wantedA, Opd.ev, putA, binA, eqbA, unA, fldA, partA, reduceIte, reduceCtorEq, Nat.reduceMod, Nat.reduceDiv, Nat.reduceBEq, resultA, resA, vI, Nat.reduceMul, Nat.reduceAdd, Nat.reduceSub, Nat.reduceEqDiff, Nat.reduceLT, Nat.reducePow, Nat.reduceLeDiff, st, Option.bind_eq_bind, Option.pure_def, List.length_nil, Int.cast_ofNat_Int, List.reverse_nil, UU, idxP, cellsAt, storeA, fillA, zerosA, putAll, optNat, sliceA, row, Int.reduceLT, Int.reduceLE, Int.reduceGT, Int.reduceGE, Int.reduceEq, Int.reduceNe, Int.reduceToNat, Int.reduceBEq, Int.reduceBNe, Nat.reduceLeDiff, Nat.reduceLT, Nat.reduceBNe, Nat.reduceGT, List.drop_nil, List.take_nil, Option.isSome_none, Int.ofNat_one, Int.ofNat_zero, o1, o2, o3, p1, p2, p3, ht.snap, hu.snap, x1.snap, b1.snap, hu.len, f, iv, fr, no, x2, x3, x4, b2, sb, ha, ln, BEq.rfl, bne_self_eq_false]
    · rw [← from_fair, ho] at fr
      obtain ⟨y, y1, y2⟩ := kT ho
      have hok := ho
      unfold fromOk at hok
      rw [Bool.and_eq_true, Bool.and_eq_true, decide_eq_true_eq] at hok
      obtain ⟨h5, hT, hR⟩ := hok
      have V := veil_iff.1 hR
      have iy := fun H => isveil26 (Y := Y) (H := H) y1 V.small
      rw [ref_read, hR] at iy
      obtain ⟨z, z1, z2⟩ := (tri29 (Y := Y) y1 V.small).1 hR
      rw [tri_same V, triV_len, tri_back hT] at z1
      have sz := fun H => same19 (Y := Y) (H := H) z1 ht (sm ts).1 (sm ts).2
      rw [decide_eq_true rfl] at sz
      simp only [SS, insA, wantedA, Opd.ev, putA, binA, eqbA, unA, fldA, partA, reduceIte, reduceCtorEq, Nat.reduceMod, Nat.reduceDiv, Nat.reduceBEq, resultA, resA, vI, Nat.reduceMul, Nat.reduceAdd, Nat.reduceSub, Nat.reduceEqDiff, Nat.reduceLT, Nat.reducePow, Nat.reduceLeDiff, st, Option.bind_eq_bind, Option.pure_def, List.length_nil, Int.cast_ofNat_Int, List.reverse_nil] at y2 z2
      cases hr : readOk s
      · rw [hr] at iv
        simp only [F12B, SS, insA, wantedA, Opd.ev, putA, binA, eqbA, unA, fldA, partA, reduceIte, reduceCtorEq, Nat.reduceMod, Nat.reduceDiv, Nat.reduceBEq, resultA, resA, vI, Nat.reduceMul, Nat.reduceAdd, Nat.reduceSub, Nat.reduceEqDiff, Nat.reduceLT, Nat.reducePow, Nat.reduceLeDiff, st, Option.bind_eq_bind, Option.pure_def, List.length_nil, Int.cast_ofNat_Int, List.reverse_nil, UU, idxP, cellsAt, storeA, fillA, zerosA, putAll, optNat, sliceA, row, Int.reduceLT, Int.reduceLE, Int.reduceGT, Int.reduceGE, Int.reduceEq, Int.reduceNe, Int.reduceToNat, Int.reduceBEq, Int.reduceBNe, Nat.reduceLeDiff, Nat.reduceLT, Nat.reduceBNe, Nat.reduceGT, List.drop_nil, List.take_nil, Option.isSome_none, Int.ofNat_one, Int.ofNat_zero, o1, o2, o3, p1, p2, p3, ht.snap, hu.snap, y1.snap, z1.snap, f, iv, fr, y2, iy, z2, sz, ha, ln, BEq.rfl, bne_self_eq_false]
      · rw [hr] at iv
        obtain ⟨x, b, x1, b1, x2, x3, b2, x4⟩ := first hr
        have sb := fun H => same19 (Y := Y) (H := H) b1 hu (sm us).1 (sm us).2
        rw [decide_eq_true rfl] at sb
        simp only [SS, insA, wantedA, Opd.ev, putA, binA, eqbA, unA, fldA, partA, reduceIte, reduceCtorEq, Nat.reduceMod, Nat.reduceDiv, Nat.reduceBEq, resultA, resA, vI, Nat.reduceMul, Nat.reduceAdd, Nat.reduceSub, Nat.reduceEqDiff, Nat.reduceLT, Nat.reducePow, Nat.reduceLeDiff, st, Option.bind_eq_bind, Option.pure_def, List.length_nil, Int.cast_ofNat_Int, List.reverse_nil] at x2 b2
        simp only [F12B, SS, insA, wantedA, Opd.ev, putA, binA, eqbA, unA, fldA, partA, reduceIte, reduceCtorEq, Nat.reduceMod, Nat.reduceDiv, Nat.reduceBEq, resultA, resA, vI, Nat.reduceMul, Nat.reduceAdd, Nat.reduceSub, Nat.reduceEqDiff, Nat.reduceLT, Nat.reducePow, Nat.reduceLeDiff, st, Option.bind_eq_bind, Option.pure_def, List.length_nil, Int.cast_ofNat_Int, List.reverse_nil, UU, idxP, cellsAt, storeA, fillA, zerosA, putAll, optNat, sliceA, row, Int.reduceLT, Int.reduceLE, Int.reduceGT, Int.reduceGE, Int.reduceEq, Int.reduceNe, Int.reduceToNat, Int.reduceBEq, Int.reduceBNe, Nat.reduceLeDiff, Nat.reduceLT, Nat.reduceBNe, Nat.reduceGT, List.drop_nil, List.take_nil, Option.isSome_none, Int.ofNat_one, Int.ofNat_zero, o1, o2, o3, p1, p2, p3, ht.snap, hu.snap, x1.snap, b1.snap, y1.snap, z1.snap, hu.len, f, iv, fr, y2, iy, z2, sz, x2, x3, x4, b2, sb, ha, ln, BEq.rfl, bne_self_eq_false]
  · rw [decide_eq_false hs] at f
    simp only [F12B, SS, insA, wantedA, Opd.ev, putA, binA, eqbA, unA, fldA, partA, reduceIte, reduceCtorEq, Nat.reduceMod, Nat.reduceDiv, Nat.reduceBEq, resultA, resA, vI, Nat.reduceMul, Nat.reduceAdd, Nat.reduceSub, Nat.reduceEqDiff, Nat.reduceLT, Nat.reducePow, Nat.reduceLeDiff, st, Option.bind_eq_bind, Option.pure_def, List.length_nil, Int.cast_ofNat_Int, List.reverse_nil, UU, idxP, cellsAt, storeA, fillA, zerosA, putAll, optNat, sliceA, row, Int.reduceLT, Int.reduceLE, Int.reduceGT, Int.reduceGE, Int.reduceEq, Int.reduceNe, Int.reduceToNat, Int.reduceBEq, Int.reduceBNe, Nat.reduceLeDiff, Nat.reduceLT, Nat.reduceBNe, Nat.reduceGT, List.drop_nil, List.take_nil, Option.isSome_none, Int.ofNat_one, Int.ofNat_zero, o1, o2, o3, p1, p2, p3, ht.snap, hu.snap, f, ha]
end
end Go.X
