import Derived.Test.YtdkgicdbjemalaaDoorNO
/-! Tones: the law Cuts. -/
set_option linter.unusedSimpArgs false
set_option linter.unusedVariables false
set_option maxHeartbeats 2000000
set_option maxRecDepth 10000
namespace Go.X
open Go Go.RowKit
section
variable {Y : Run}

theorem tree48 {v : AV} {l : List Int} (hv : IsRow v l) (hl : l.length ≤ 1000) {H : Heap} : freeX H (callL ET Y 48 [v] []) = some (.tup [.bool (frameB l && treB (l.map Int.toNat)), vI (if frameB l = true then 0 else 2)], H) := by
  have hr := fun H => frame20 (Y := Y) (H := H) hv hl
  rw [call48 rfl]
  cases hf : frameB l with
  | false =>
    rw [hf] at hr
    simp only [F48B, SS, insA, wantedA, Opd.ev, putA, binA, eqbA, unA, fldA, partA, reduceIte, reduceCtorEq, Nat.reduceMod, Nat.reduceDiv, Nat.reduceBEq, resultA, resA, vI, Nat.reduceMul, Nat.reduceAdd, Nat.reduceSub, Nat.reduceEqDiff, Nat.reduceLT, Nat.reducePow, Nat.reduceLeDiff, st, Option.bind_eq_bind, Option.pure_def, List.length_nil, Int.cast_ofNat_Int, List.reverse_nil, UU, idxP, cellsAt, storeA, fillA, zerosA, putAll, optNat, sliceA, row, Int.reduceLT, Int.reduceLE, Int.reduceGT, Int.reduceGE, Int.reduceEq, Int.reduceNe, Int.reduceToNat, Int.reduceBEq, Int.reduceBNe, Nat.reduceLeDiff, Nat.reduceLT, Nat.reduceBNe, Nat.reduceGT, List.drop_nil, List.take_nil, Option.isSome_none, Int.ofNat_one, Int.ofNat_zero, hv.snap, hr, Bool.false_eq_true, Bool.false_and, if_false]
  | true =>
    rw [hf] at hr
    have hn := frame_n hf
    obtain ⟨hF, _⟩ := Fr.of hv hf
    have hlen : (l.map Int.toNat).length = l.length := by simp
    have hp := fun H => parts42 (Y := Y) (H := H) hF
    have hw := fun H => wires32 (Y := Y) (H := H) hF
    have h2 := wires_two (frame_sy hf) (fun i hi => loop_off hf (by simpa using hi)) (by omega) hF.fb
    have h1 := parts_one (f := l.map Int.toNat) (by omega) (by omega) hF.fb
    have hws : IntKind.wrap .i64 ((l.length : Int) - 1) = ((l.length - 1 : Nat) : Int) := by rw [wrap_id (by omega) (by omega)]; omega
    have e : treB (l.map Int.toNat) = (decide (partsP (l.map Int.toNat) 8 (2 ^ (l.map Int.toNat).length - 1) 0 = 1) && decide (wiN (l.map Int.toNat) = l.length - 1)) := by
      unfold treB
      have a1 : decide (mtN (l.map Int.toNat) (l.map Int.toNat).length 1 = 2 ^ (l.map Int.toNat).length - 1) = decide (partsP (l.map Int.toNat) 8 (2 ^ (l.map Int.toNat).length - 1) 0 = 1) := decide_eq_decide.2 h1.symm
      have a2 : decide (wsum (l.map Int.toNat) = 2 * ((l.map Int.toNat).length - 1)) = decide (wiN (l.map Int.toNat) = l.length - 1) := decide_eq_decide.2 (by omega)
      rw [a1, a2]
    rw [e]
    generalize partsP (l.map Int.toNat) 8 (2 ^ (l.map Int.toNat).length - 1) 0 = pp at *
    generalize wiN (l.map Int.toNat) = ww at *
    have e1 : ((pp : Int) == 1) = decide (pp = 1) := by
      by_cases c : pp = 1
      · subst c; rfl
      · rw [decide_eq_false c]; exact beq_false_of_ne (by omega)
    have e2 : ((ww : Int) == ((l.length - 1 : Nat) : Int)) = decide (ww = l.length - 1) := by
      by_cases c : ww = l.length - 1
      · subst c; simp
      · rw [decide_eq_false c]; exact beq_false_of_ne (by omega)
    clear h1 h2 e
    generalize decide (pp = 1) = d1 at *
    generalize decide (ww = l.length - 1) = d2 at *
    cases d1 <;> simp only [F48B, SS, insA, wantedA, Opd.ev, putA, binA, eqbA, unA, fldA, partA, reduceIte, reduceCtorEq, Nat.reduceMod, Nat.reduceDiv, Nat.reduceBEq, resultA, resA, vI, Nat.reduceMul, Nat.reduceAdd, Nat.reduceSub, Nat.reduceEqDiff, Nat.reduceLT, Nat.reducePow, Nat.reduceLeDiff, st, Option.bind_eq_bind, Option.pure_def, List.length_nil, Int.cast_ofNat_Int, List.reverse_nil, UU, idxP, cellsAt, storeA, fillA, zerosA, putAll, optNat, sliceA, row, Int.reduceLT, Int.reduceLE, Int.reduceGT, Int.reduceGE, Int.reduceEq, Int.reduceNe, Int.reduceToNat, Int.reduceBEq, Int.reduceBNe, Nat.reduceLeDiff, Nat.reduceLT, Nat.reduceBNe, Nat.reduceGT, List.drop_nil, List.take_nil, Option.isSome_none, Int.ofNat_one, Int.ofNat_zero, hv.snap, hv.len, hr, hp, hw, hws, e1, e2, Bool.false_and]

theorem cut_len (l : List Int) (a b : Int) (hl : l.length ≤ 1000) : (cutR l a b).1.length ≤ 1000 := by
  unfold cutR
  split
  · split
    · simp [cutF]; omega
    · simp
  · simp
theorem wit_len (l : List Int) (a : Int) (hl : l.length ≤ 1000) : (witR l a).1.length ≤ 1000 := by
  unfold witR
  split
  · split
    · simp
    · have : (lsF (l.map Int.toNat) (2 ^ a.toNat)).length ≤ l.length := by
        unfold lsF
        rw [List.length_map]
        refine Nat.le_trans (List.length_filter_le _ _) ?_
        simp
      simp only [List.length_map]; omega
  · simp

theorem law15 (hY : ∀ args H, Y 97 args H = yA 97 args H) {v : AV} {l : List Int} (hv : IsRow v l) (a b : Int) : freeX [] (callL ET Y 15 [v, .int .i64 a, .int .i64 b] []) = some (.bool true, []) := by
  have hal := fun H => alive17 (Y := Y) (H := H) hY
  have hfew := fun H => few16 (Y := Y) (H := H) hv .nil
  simp only [List.length_nil, show (0 : Nat) ≤ 40 from by decide, decide_true, Bool.and_true] at hfew
  rw [call15 rfl]
  by_cases h40 : l.length ≤ 40
  · simp only [h40, decide_true] at hfew
    obtain ⟨w, H', u, a1, a2, a3⟩ := own_copy (H := []) hv (by omega)
    obtain ⟨t1, p1, p2⟩ := without38 (Y := Y) a3 (by omega) a
    obtain ⟨t2, p3, p4⟩ := without46 (Y := Y) hv (by omega) a
    obtain ⟨t3, p5, p6⟩ := cut31 (Y := Y) a3 (by omega) a b
    obtain ⟨t4, p7, p8⟩ := cut47 (Y := Y) hv (by omega) a b
    have r1 := fun H => tree41 (Y := Y) (H := H) a3 (by omega)
    have r2 := fun H => tree48 (Y := Y) (H := H) hv (by omega)
    have s5 := fun H => same29 (Y := Y) (H := H) a3 hv (by omega)
    have s1 := fun H => same29 (Y := Y) (H := H) p2.row p4.row (wit_len l a (by omega))
    have s2 := fun H => same29 (Y := Y) (H := H) p6.row p8.row (cut_len l a b (by omega))
    simp only [decide_true] at s5 s1 s2
    have q0 : ∀ b : Bool, (b != b) = false := fun b => by cases b <;> rfl
    have q3 : ∀ b : Bool, (b == b) = true := fun b => by cases b <;> rfl
    have q1 : ∀ x : Int, (x != x) = false := fun x => by simp
    have q2 : ∀ x : Int, (x == x) = true := fun x => by simp
    have n1 := fun H n => p2.row.snap (H := H) (n := n)
    have n2 := fun H n => p4.row.snap (H := H) (n := n)
    have n3 := fun H n => p6.row.snap (H := H) (n := n)
    have n4 := fun H n => p8.row.snap (H := H) (n := n)
    clear p2 p4 p6 p8
    generalize (if frameB l = true then (0 : Int) else 2) = fl at *
    generalize (frameB l && treB (l.map Int.toNat)) = fb at *
    generalize (witR l a).2 = e1 at *
    generalize (cutR l a b).2 = e2 at *
    simp only [SS, insA, wantedA, Opd.ev, putA, binA, eqbA, unA, fldA, partA, reduceIte, reduceCtorEq, Nat.reduceMod, Nat.reduceDiv, Nat.reduceBEq, resultA, resA, vI, Nat.reduceMul, Nat.reduceAdd, Nat.reduceSub, Nat.reduceEqDiff, Nat.reduceLT, Nat.reducePow, Nat.reduceLeDiff, st, Option.bind_eq_bind, Option.pure_def, List.length_nil, Int.cast_ofNat_Int, List.reverse_nil] at a1
    simp only [F15B, SS, insA, wantedA, Opd.ev, putA, binA, eqbA, unA, fldA, partA, reduceIte, reduceCtorEq, Nat.reduceMod, Nat.reduceDiv, Nat.reduceBEq, resultA, resA, vI, Nat.reduceMul, Nat.reduceAdd, Nat.reduceSub, Nat.reduceEqDiff, Nat.reduceLT, Nat.reducePow, Nat.reduceLeDiff, st, Option.bind_eq_bind, Option.pure_def, List.length_nil, Int.cast_ofNat_Int, List.reverse_nil, UU, idxP, cellsAt, storeA, fillA, zerosA, putAll, optNat, sliceA, row, Int.reduceLT, Int.reduceLE, Int.reduceGT, Int.reduceGE, Int.reduceEq, Int.reduceNe, Int.reduceToNat, Int.reduceBEq, Int.reduceBNe, Nat.reduceLeDiff, Nat.reduceLT, Nat.reduceBNe, Nat.reduceGT, List.drop_nil, List.take_nil, Option.isSome_none, Int.ofNat_one, Int.ofNat_zero, hv.snap, hfew, a1, a2, p1, p3, p5, p7, r1, r2, s1, s2, s5, n1, n2, n3, n4, q0, q1, q2, q3, hal]
  · simp only [h40, decide_false] at hfew
    simp only [F15B, SS, insA, wantedA, Opd.ev, putA, binA, eqbA, unA, fldA, partA, reduceIte, reduceCtorEq, Nat.reduceMod, Nat.reduceDiv, Nat.reduceBEq, resultA, resA, vI, Nat.reduceMul, Nat.reduceAdd, Nat.reduceSub, Nat.reduceEqDiff, Nat.reduceLT, Nat.reducePow, Nat.reduceLeDiff, st, Option.bind_eq_bind, Option.pure_def, List.length_nil, Int.cast_ofNat_Int, List.reverse_nil, UU, idxP, cellsAt, storeA, fillA, zerosA, putAll, optNat, sliceA, row, Int.reduceLT, Int.reduceLE, Int.reduceGT, Int.reduceGE, Int.reduceEq, Int.reduceNe, Int.reduceToNat, Int.reduceBEq, Int.reduceBNe, Nat.reduceLeDiff, Nat.reduceLT, Nat.reduceBNe, Nat.reduceGT, List.drop_nil, List.take_nil, Option.isSome_none, Int.ofNat_one, Int.ofNat_zero, hv.snap, hfew, hal]
end
end Go.X
