import Derived.Test.YtdkgicdbjemalaaDoorSF
/-! Tones: the law Trees. -/
set_option linter.unusedSimpArgs false
set_option linter.unusedVariables false
set_option maxHeartbeats 2000000
set_option maxRecDepth 10000
namespace Go.X
open Go Go.RowKit
section
variable {Y : Run}

theorem tree_iff {f : List Nat} (hf : Fm f) : treB f = (decide (wiN f + partsP f 8 (2 ^ f.length - 1) 0 = f.length) && decide (partsP f 8 (2 ^ f.length - 1) 0 = 1)) := by
  have h1 := parts_one hf.n7 hf.n1 hf.bitn
  have h2 := wires_two hf.sy hf.no hf.n7 hf.bitn
  have n1 := hf.n1
  unfold treB
  rw [h2]
  by_cases c : partsP f 8 (2 ^ f.length - 1) 0 = 1
  · rw [decide_eq_true (h1.1 c), decide_eq_true c, Bool.true_and, Bool.and_true]
    rw [decide_eq_decide]; omega
  · rw [decide_eq_false (fun h => c (h1.2 h)), decide_eq_false c, Bool.false_and, Bool.and_false]

theorem law11 (hY : ∀ args H, Y 97 args H = yA 97 args H) {v : AV} {l : List Int} (hv : IsRow v l) : freeX [] (callL ET Y 11 [v] []) = some (.bool true, []) := by
  have hal := fun H => alive17 (Y := Y) (H := H) hY
  have hfew := fun H => few16 (Y := Y) (H := H) hv .nil
  simp only [List.length_nil, show (0 : Nat) ≤ 40 from by decide, decide_true, Bool.and_true] at hfew
  rw [call11 rfl]
  by_cases h40 : l.length ≤ 40
  · simp only [h40, decide_true] at hfew
    have hfr := fun H => frame20 (Y := Y) (H := H) hv (by omega)
    cases hf : frameB l with
    | false =>
      rw [hf] at hfr
      simp only [F11B, SS, insA, wantedA, Opd.ev, putA, binA, eqbA, unA, fldA, partA, reduceIte, reduceCtorEq, Nat.reduceMod, Nat.reduceDiv, Nat.reduceBEq, resultA, resA, vI, Nat.reduceMul, Nat.reduceAdd, Nat.reduceSub, Nat.reduceEqDiff, Nat.reduceLT, Nat.reducePow, Nat.reduceLeDiff, st, Option.bind_eq_bind, Option.pure_def, List.length_nil, Int.cast_ofNat_Int, List.reverse_nil, UU, idxP, cellsAt, storeA, fillA, zerosA, putAll, optNat, sliceA, row, Int.reduceLT, Int.reduceLE, Int.reduceGT, Int.reduceGE, Int.reduceEq, Int.reduceNe, Int.reduceToNat, Int.reduceBEq, Int.reduceBNe, Nat.reduceLeDiff, Nat.reduceLT, Nat.reduceBNe, Nat.reduceGT, List.drop_nil, List.take_nil, Option.isSome_none, Int.ofNat_one, Int.ofNat_zero, hv.snap, hfew, hfr, hal]
    | true =>
      rw [hf] at hfr
      have hn := frame_n hf
      obtain ⟨hF, he⟩ := Fr.of hv hf
      have hf2 := hf
      rw [he] at hf2
      have hm := Fm.of hf2
      have hlen : (l.map Int.toNat).length = l.length := by simp
      obtain ⟨t1, p1, p2⟩ := tones21 (Y := Y) hv (by omega)
      obtain ⟨t3, p5, p6⟩ := match23 (Y := Y) hv (by omega)
      rw [if_pos hf] at p1 p2 p5 p6
      rw [poly_trim] at p2 p6
      have htr := fun H => tree41 (Y := Y) (H := H) hv (by omega)
      rw [hf, Bool.true_and, if_pos rfl] at htr
      have k1 := fun H => wires32 (Y := Y) (H := H) hF
      have k2 := fun H => parts42 (Y := Y) (H := H) hF
      have s1 := fun H => same29 (Y := Y) (H := H) p2.row p6.row (by rw [List.length_map, polyL_len, hlen]; omega)
      have hsame : decide ((polyL (l.map Int.toNat) (-1) (-2)).map wr = (polyL (l.map Int.toNat) (-1) 0).map wr) = decide (wiN (l.map Int.toNat) + partsP (l.map Int.toNat) 8 (2 ^ (l.map Int.toNat).length - 1) 0 = (l.map Int.toNat).length) := by
        rw [decide_eq_decide, same_iff hm.sy hm.n7, rings_iff hm]
      rw [hsame] at s1
      rw [tree_iff hm] at htr
      have hW : wiN (l.map Int.toNat) ≤ 1000 := by
        have hs : ∀ (ks : List Nat), (∀ i ∈ ks, i < 7) → (ks.map fun i => wiR ((l.map Int.toNat).getD i 0) (List.range i)).sum ≤ 7 * ks.length := fun ks => by
          induction ks with
          | nil => intro _; simp
          | cons k ks ih =>
            intro hk
            have h1 := wiR_le ((l.map Int.toNat).getD k 0) (List.range k)
            have h2 := hk k List.mem_cons_self
            have h3 := ih fun i hi => hk i (List.mem_cons_of_mem _ hi)
            rw [List.length_range] at h1
            rw [List.map_cons, List.sum_cons, List.length_cons]
            omega
        have := hs (List.range (l.map Int.toNat).length) fun i hi => by have := List.mem_range.1 hi; omega
        rw [List.length_range] at this
        unfold wiN
        omega
      have hP : partsP (l.map Int.toNat) 8 (2 ^ (l.map Int.toNat).length - 1) 0 ≤ 1000 := by
        rw [parts_eq hm]
        unfold fixN
        have := List.length_filter_le (fun x => (uf (l.map Int.toNat) prs).lab x == x) (List.range (l.map Int.toNat).length)
        rw [List.length_range] at this
        omega
      rw [hlen] at htr s1 k2 hP
      generalize partsP (l.map Int.toNat) 8 (2 ^ l.length - 1) 0 = P at *
      generalize wiN (l.map Int.toNat) = W at *
      have a1 : IntKind.wrap .i64 ((W : Int) - (l.length : Int)) = (W : Int) - (l.length : Int) := wrap_id (by omega) (by omega)
      have a2 : IntKind.wrap .i64 ((W : Int) - (l.length : Int) + (P : Int)) = (W : Int) - (l.length : Int) + (P : Int) := wrap_id (by omega) (by omega)
      have b1 : ((W : Int) - (l.length : Int) + (P : Int) == 0) = decide (W + P = l.length) := by
        rw [Bool.eq_iff_iff, decide_eq_true_eq, beq_iff_eq]; omega
      have b2 : ((P : Int) == 1) = decide (P = 1) := by
        rw [Bool.eq_iff_iff, decide_eq_true_eq, beq_iff_eq]; omega
      have n1 := fun H n => p2.row.snap (H := H) (n := n)
      have n2 := fun H n => p6.row.snap (H := H) (n := n)
      clear p2 p6 hsame
      by_cases c1 : W + P = l.length <;> by_cases c2 : P = 1
      · rw [decide_eq_true c1] at b1 s1 htr
        rw [decide_eq_true c2] at b2 htr
        simp only [Bool.and_true] at htr
        simp only [F11B, SS, insA, wantedA, Opd.ev, putA, binA, eqbA, unA, fldA, partA, reduceIte, reduceCtorEq, Nat.reduceMod, Nat.reduceDiv, Nat.reduceBEq, resultA, resA, vI, Nat.reduceMul, Nat.reduceAdd, Nat.reduceSub, Nat.reduceEqDiff, Nat.reduceLT, Nat.reducePow, Nat.reduceLeDiff, st, Option.bind_eq_bind, Option.pure_def, List.length_nil, Int.cast_ofNat_Int, List.reverse_nil, UU, idxP, cellsAt, storeA, fillA, zerosA, putAll, optNat, sliceA, row, Int.reduceLT, Int.reduceLE, Int.reduceGT, Int.reduceGE, Int.reduceEq, Int.reduceNe, Int.reduceToNat, Int.reduceBEq, Int.reduceBNe, Nat.reduceLeDiff, Nat.reduceLT, Nat.reduceBNe, Nat.reduceGT, List.drop_nil, List.take_nil, Option.isSome_none, Int.ofNat_one, Int.ofNat_zero, hv.snap, hv.len, hfew, hfr, p1, p5, htr, k1, k2, a1, a2, b1, b2, n1, n2, s1, hal]
      · rw [decide_eq_true c1] at b1 s1 htr
        rw [decide_eq_false c2] at b2 htr
        simp only [Bool.and_false] at htr
        simp only [F11B, SS, insA, wantedA, Opd.ev, putA, binA, eqbA, unA, fldA, partA, reduceIte, reduceCtorEq, Nat.reduceMod, Nat.reduceDiv, Nat.reduceBEq, resultA, resA, vI, Nat.reduceMul, Nat.reduceAdd, Nat.reduceSub, Nat.reduceEqDiff, Nat.reduceLT, Nat.reducePow, Nat.reduceLeDiff, st, Option.bind_eq_bind, Option.pure_def, List.length_nil, Int.cast_ofNat_Int, List.reverse_nil, UU, idxP, cellsAt, storeA, fillA, zerosA, putAll, optNat, sliceA, row, Int.reduceLT, Int.reduceLE, Int.reduceGT, Int.reduceGE, Int.reduceEq, Int.reduceNe, Int.reduceToNat, Int.reduceBEq, Int.reduceBNe, Nat.reduceLeDiff, Nat.reduceLT, Nat.reduceBNe, Nat.reduceGT, List.drop_nil, List.take_nil, Option.isSome_none, Int.ofNat_one, Int.ofNat_zero, hv.snap, hv.len, hfew, hfr, p1, p5, htr, k1, k2, a1, a2, b1, b2, n1, n2, s1, hal]
      · rw [decide_eq_false c1] at b1 s1 htr
        simp only [Bool.false_and] at htr
        simp only [F11B, SS, insA, wantedA, Opd.ev, putA, binA, eqbA, unA, fldA, partA, reduceIte, reduceCtorEq, Nat.reduceMod, Nat.reduceDiv, Nat.reduceBEq, resultA, resA, vI, Nat.reduceMul, Nat.reduceAdd, Nat.reduceSub, Nat.reduceEqDiff, Nat.reduceLT, Nat.reducePow, Nat.reduceLeDiff, st, Option.bind_eq_bind, Option.pure_def, List.length_nil, Int.cast_ofNat_Int, List.reverse_nil, UU, idxP, cellsAt, storeA, fillA, zerosA, putAll, optNat, sliceA, row, Int.reduceLT, Int.reduceLE, Int.reduceGT, Int.reduceGE, Int.reduceEq, Int.reduceNe, Int.reduceToNat, Int.reduceBEq, Int.reduceBNe, Nat.reduceLeDiff, Nat.reduceLT, Nat.reduceBNe, Nat.reduceGT, List.drop_nil, List.take_nil, Option.isSome_none, Int.ofNat_one, Int.ofNat_zero, hv.snap, hv.len, hfew, hfr, p1, p5, htr, k1, k2, a1, a2, b1, n1, n2, s1, hal]
      · rw [decide_eq_false c1] at b1 s1 htr
        simp only [Bool.false_and] at htr
        simp only [F11B, SS, insA, wantedA, Opd.ev, putA, binA, eqbA, unA, fldA, partA, reduceIte, reduceCtorEq, Nat.reduceMod, Nat.reduceDiv, Nat.reduceBEq, resultA, resA, vI, Nat.reduceMul, Nat.reduceAdd, Nat.reduceSub, Nat.reduceEqDiff, Nat.reduceLT, Nat.reducePow, Nat.reduceLeDiff, st, Option.bind_eq_bind, Option.pure_def, List.length_nil, Int.cast_ofNat_Int, List.reverse_nil, UU, idxP, cellsAt, storeA, fillA, zerosA, putAll, optNat, sliceA, row, Int.reduceLT, Int.reduceLE, Int.reduceGT, Int.reduceGE, Int.reduceEq, Int.reduceNe, Int.reduceToNat, Int.reduceBEq, Int.reduceBNe, Nat.reduceLeDiff, Nat.reduceLT, Nat.reduceBNe, Nat.reduceGT, List.drop_nil, List.take_nil, Option.isSome_none, Int.ofNat_one, Int.ofNat_zero, hv.snap, hv.len, hfew, hfr, p1, p5, htr, k1, k2, a1, a2, b1, n1, n2, s1, hal]
  · simp only [h40, decide_false] at hfew
    simp only [F11B, SS, insA, wantedA, Opd.ev, putA, binA, eqbA, unA, fldA, partA, reduceIte, reduceCtorEq, Nat.reduceMod, Nat.reduceDiv, Nat.reduceBEq, resultA, resA, vI, Nat.reduceMul, Nat.reduceAdd, Nat.reduceSub, Nat.reduceEqDiff, Nat.reduceLT, Nat.reducePow, Nat.reduceLeDiff, st, Option.bind_eq_bind, Option.pure_def, List.length_nil, Int.cast_ofNat_Int, List.reverse_nil, UU, idxP, cellsAt, storeA, fillA, zerosA, putAll, optNat, sliceA, row, Int.reduceLT, Int.reduceLE, Int.reduceGT, Int.reduceGE, Int.reduceEq, Int.reduceNe, Int.reduceToNat, Int.reduceBEq, Int.reduceBNe, Nat.reduceLeDiff, Nat.reduceLT, Nat.reduceBNe, Nat.reduceGT, List.drop_nil, List.take_nil, Option.isSome_none, Int.ofNat_one, Int.ofNat_zero, hv.snap, hfew, hal]
end
end Go.X
