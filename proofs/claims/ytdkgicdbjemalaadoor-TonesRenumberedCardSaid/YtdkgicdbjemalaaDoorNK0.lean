import Derived.Test.YtdkgicdbjemalaaDoorNI
/-! Tones: Alike. -/
set_option linter.unusedSimpArgs false
set_option linter.unusedVariables false
set_option maxHeartbeats 2000000
set_option maxRecDepth 10000
namespace Go.X
open Go Go.RowKit
section
variable {Y : Run}

theorem L53 {v w : AV} {l q : List Int} {H : Heap} (hv : IsRow v l) (hw : IsRow w q) (he : l.length = q.length) (hl : l.length ≤ 1000) (d : Nat) : ∀ (i : Nat), i + d = l.length →
    lp ET Y F53L0 (sp 26 [(13, vI i), (12, vI l.length), (1, w), (0, v)]) H = if l.drop i = q.drop i then some (.x 0, sp 26 [], H) else some (.r, sp 26 [(4, .bool false)], H) := by
  induction d with
  | zero =>
    intro i hi
    rw [un53_0, List.drop_eq_nil_of_le (by omega), List.drop_eq_nil_of_le (by omega), if_pos rfl]
    have : ¬ ((i : Int) < (l.length : Int)) := by omega
    simp only [F53L0b, SS, insA, wantedA, Opd.ev, putA, binA, eqbA, unA, fldA, partA, reduceIte, reduceCtorEq, Nat.reduceMod, Nat.reduceDiv, Nat.reduceBEq, resultA, resA, vI, Nat.reduceMul, Nat.reduceAdd, Nat.reduceSub, Nat.reduceEqDiff, Nat.reduceLT, Nat.reducePow, Nat.reduceLeDiff, st, Option.bind_eq_bind, Option.pure_def, List.length_nil, Int.cast_ofNat_Int, List.reverse_nil, UU, idxP, cellsAt, storeA, fillA, zerosA, putAll, optNat, sliceA, row, Int.reduceLT, Int.reduceLE, Int.reduceGT, Int.reduceGE, Int.reduceEq, Int.reduceNe, Int.reduceToNat, Int.reduceBEq, Int.reduceBNe, Nat.reduceLeDiff, Nat.reduceLT, Nat.reduceBNe, Nat.reduceGT, List.drop_nil, List.take_nil, Option.isSome_none, Int.ofNat_one, Int.ofNat_zero, hv.len, this]
  | succ d ih =>
    intro i hi
    have hlt : i < l.length := by omega
    have hc : (i : Int) < (l.length : Int) := by omega
    have hw1 := wrap_succ (n := i) (by omega)
    have ih := ih (i + 1) (by omega)
    have e1 : l.getD i 0 = l[i] := getD_get hlt
    have e2 : q.getD i 0 = q[i]'(by omega) := getD_get (by omega)
    rw [un53_0, List.drop_eq_getElem_cons hlt, List.drop_eq_getElem_cons (show i < q.length by omega), ← e1, ← e2]
    by_cases c : l.getD i 0 = q.getD i 0
    · have c1 : (l.getD i 0 != q.getD i 0) = false := by rw [c]; simp
      have ec : (l.getD i 0 :: List.drop (i + 1) l = q.getD i 0 :: List.drop (i + 1) q) = (List.drop (i + 1) l = List.drop (i + 1) q) := by
        apply propext
        constructor
        · intro h; exact (List.cons.inj h).2
        · intro h; rw [c, h]
      simp only [ec]
      simp only [SS, insA, wantedA, Opd.ev, putA, binA, eqbA, unA, fldA, partA, reduceIte, reduceCtorEq, Nat.reduceMod, Nat.reduceDiv, Nat.reduceBEq, resultA, resA, vI, Nat.reduceMul, Nat.reduceAdd, Nat.reduceSub, Nat.reduceEqDiff, Nat.reduceLT, Nat.reducePow, Nat.reduceLeDiff, st, Option.bind_eq_bind, Option.pure_def, List.length_nil, Int.cast_ofNat_Int, List.reverse_nil] at ih
      simp only [F53L0b, SS, insA, wantedA, Opd.ev, putA, binA, eqbA, unA, fldA, partA, reduceIte, reduceCtorEq, Nat.reduceMod, Nat.reduceDiv, Nat.reduceBEq, resultA, resA, vI, Nat.reduceMul, Nat.reduceAdd, Nat.reduceSub, Nat.reduceEqDiff, Nat.reduceLT, Nat.reducePow, Nat.reduceLeDiff, st, Option.bind_eq_bind, Option.pure_def, List.length_nil, Int.cast_ofNat_Int, List.reverse_nil, UU, idxP, cellsAt, storeA, fillA, zerosA, putAll, optNat, sliceA, row, Int.reduceLT, Int.reduceLE, Int.reduceGT, Int.reduceGE, Int.reduceEq, Int.reduceNe, Int.reduceToNat, Int.reduceBEq, Int.reduceBNe, Nat.reduceLeDiff, Nat.reduceLT, Nat.reduceBNe, Nat.reduceGT, List.drop_nil, List.take_nil, Option.isSome_none, Int.ofNat_one, Int.ofNat_zero, hv.len, hc, hv.idx hlt, hv.load hlt, hw.idx (show i < q.length by omega), hw.load (show i < q.length by omega), c1, hw1, ih]
    · have c1 : (l.getD i 0 != q.getD i 0) = true := bne_iff_ne.2 c
      rw [if_neg (fun h => c (List.cons.inj h).1)]
      simp only [F53L0b, SS, insA, wantedA, Opd.ev, putA, binA, eqbA, unA, fldA, partA, reduceIte, reduceCtorEq, Nat.reduceMod, Nat.reduceDiv, Nat.reduceBEq, resultA, resA, vI, Nat.reduceMul, Nat.reduceAdd, Nat.reduceSub, Nat.reduceEqDiff, Nat.reduceLT, Nat.reducePow, Nat.reduceLeDiff, st, Option.bind_eq_bind, Option.pure_def, List.length_nil, Int.cast_ofNat_Int, List.reverse_nil, UU, idxP, cellsAt, storeA, fillA, zerosA, putAll, optNat, sliceA, row, Int.reduceLT, Int.reduceLE, Int.reduceGT, Int.reduceGE, Int.reduceEq, Int.reduceNe, Int.reduceToNat, Int.reduceBEq, Int.reduceBNe, Nat.reduceLeDiff, Nat.reduceLT, Nat.reduceBNe, Nat.reduceGT, List.drop_nil, List.take_nil, Option.isSome_none, Int.ofNat_one, Int.ofNat_zero, hv.len, hc, hv.idx hlt, hv.load hlt, hw.idx (show i < q.length by omega), hw.load (show i < q.length by omega), c1]

theorem equal53 {v w : AV} {l q : List Int} {H : Heap} (hv : IsRow v l) (hw : IsRow w q) (hl : l.length ≤ 1000) : freeX H (callL ET Y 53 [v, w] []) = some (.bool (decide (l = q)), H) := by
  rw [call53 rfl]
  by_cases he : l.length = q.length
  · have c1 : ((l.length : Int) != (q.length : Int)) = false := by rw [he]; simp
    have h0 := L53 (Y := Y) (H := []) hv hw he hl l.length 0 (by omega)
    rw [List.drop_zero, List.drop_zero] at h0
    by_cases c : l = q
    · rw [if_pos c] at h0
      have c2 : decide (l = q) = true := decide_eq_true c
      clear c
      simp only [SS, insA, wantedA, Opd.ev, putA, binA, eqbA, unA, fldA, partA, reduceIte, reduceCtorEq, Nat.reduceMod, Nat.reduceDiv, Nat.reduceBEq, resultA, resA, vI, Nat.reduceMul, Nat.reduceAdd, Nat.reduceSub, Nat.reduceEqDiff, Nat.reduceLT, Nat.reducePow, Nat.reduceLeDiff, st, Option.bind_eq_bind, Option.pure_def, List.length_nil, Int.cast_ofNat_Int, List.reverse_nil, Int.ofNat_zero] at h0
      simp only [F53B, F53T0, in53_0, SS, insA, wantedA, Opd.ev, putA, binA, eqbA, unA, fldA, partA, reduceIte, reduceCtorEq, Nat.reduceMod, Nat.reduceDiv, Nat.reduceBEq, resultA, resA, vI, Nat.reduceMul, Nat.reduceAdd, Nat.reduceSub, Nat.reduceEqDiff, Nat.reduceLT, Nat.reducePow, Nat.reduceLeDiff, st, Option.bind_eq_bind, Option.pure_def, List.length_nil, Int.cast_ofNat_Int, List.reverse_nil, UU, idxP, cellsAt, storeA, fillA, zerosA, putAll, optNat, sliceA, row, Int.reduceLT, Int.reduceLE, Int.reduceGT, Int.reduceGE, Int.reduceEq, Int.reduceNe, Int.reduceToNat, Int.reduceBEq, Int.reduceBNe, Nat.reduceLeDiff, Nat.reduceLT, Nat.reduceBNe, Nat.reduceGT, List.drop_nil, List.take_nil, Option.isSome_none, Int.ofNat_one, Int.ofNat_zero, hv.len, hw.len, c1, h0, c2]
    · rw [if_neg c] at h0
      simp only [SS, insA, wantedA, Opd.ev, putA, binA, eqbA, unA, fldA, partA, reduceIte, reduceCtorEq, Nat.reduceMod, Nat.reduceDiv, Nat.reduceBEq, resultA, resA, vI, Nat.reduceMul, Nat.reduceAdd, Nat.reduceSub, Nat.reduceEqDiff, Nat.reduceLT, Nat.reducePow, Nat.reduceLeDiff, st, Option.bind_eq_bind, Option.pure_def, List.length_nil, Int.cast_ofNat_Int, List.reverse_nil, Int.ofNat_zero] at h0
      simp only [F53B, F53T0, in53_0, SS, insA, wantedA, Opd.ev, putA, binA, eqbA, unA, fldA, partA, reduceIte, reduceCtorEq, Nat.reduceMod, Nat.reduceDiv, Nat.reduceBEq, resultA, resA, vI, Nat.reduceMul, Nat.reduceAdd, Nat.reduceSub, Nat.reduceEqDiff, Nat.reduceLT, Nat.reducePow, Nat.reduceLeDiff, st, Option.bind_eq_bind, Option.pure_def, List.length_nil, Int.cast_ofNat_Int, List.reverse_nil, UU, idxP, cellsAt, storeA, fillA, zerosA, putAll, optNat, sliceA, row, Int.reduceLT, Int.reduceLE, Int.reduceGT, Int.reduceGE, Int.reduceEq, Int.reduceNe, Int.reduceToNat, Int.reduceBEq, Int.reduceBNe, Nat.reduceLeDiff, Nat.reduceLT, Nat.reduceBNe, Nat.reduceGT, List.drop_nil, List.take_nil, Option.isSome_none, Int.ofNat_one, Int.ofNat_zero, hv.len, hw.len, c1, h0, c]
  · have c1 : ((l.length : Int) != (q.length : Int)) = true := by simp; omega
    have c2 : decide (l = q) = false := decide_eq_false (fun e => he (by rw [e]))
    simp only [F53B, F53T0, in53_0, SS, insA, wantedA, Opd.ev, putA, binA, eqbA, unA, fldA, partA, reduceIte, reduceCtorEq, Nat.reduceMod, Nat.reduceDiv, Nat.reduceBEq, resultA, resA, vI, Nat.reduceMul, Nat.reduceAdd, Nat.reduceSub, Nat.reduceEqDiff, Nat.reduceLT, Nat.reducePow, Nat.reduceLeDiff, st, Option.bind_eq_bind, Option.pure_def, List.length_nil, Int.cast_ofNat_Int, List.reverse_nil, UU, idxP, cellsAt, storeA, fillA, zerosA, putAll, optNat, sliceA, row, Int.reduceLT, Int.reduceLE, Int.reduceGT, Int.reduceGE, Int.reduceEq, Int.reduceNe, Int.reduceToNat, Int.reduceBEq, Int.reduceBNe, Nat.reduceLeDiff, Nat.reduceLT, Nat.reduceBNe, Nat.reduceGT, List.drop_nil, List.take_nil, Option.isSome_none, Int.ofNat_one, Int.ofNat_zero, hv.len, hw.len, c1, c2]

theorem snap_box {H : Heap} {j n : Nat} {v : AV} (h : H[j]? = some ⟨0, [v]⟩) (hv : snapA H (n + 1) v = some v) : snapA H (n + 2) (.ptr j 0 0) = some (.cptr true [v]) := by
  have : snapA H (n + 2) (.ptr j 0 0) = ([v].mapM (snapA H (n + 1))).map (.cptr true) := by
    simp only [snapA, h]
    rw [if_pos ⟨trivial, Nat.zero_le _⟩]
    rfl
  rw [this, mapM_cons', hv]
  rfl

/-- The closure 'same'. -/
theorem same52 {b1 b2 : Bool} {fr gr : AV} {f g : List Nat} {w r : Nat} {H : Heap} (hF : Fr fr f) (hG : Fr gr g) (hw' : w = 139 ∨ w = 140 ∨ w = 141 ∨ w = 142 ∨ w = 143 ∨ w = 144) (hr' : r = 139 ∨ r = 140 ∨ r = 141 ∨ r = 142 ∨ r = 143 ∨ r = 144) :
    freeX H (callL ET Y 52 [.agg [.fn w [], .fn r []], .cptr b1 [fr], .cptr b2 [gr]] []) = some (.bool (decide ((polyL f (cm w) (cm r)).map wr = (polyL g (cm w) (cm r)).map wr)), H) := by
  have o1 := fun H => of54 (Y := Y) (H := H) hF hw' hr'
  have o2 := fun H => of54 (Y := Y) (H := H) hG hw' hr'
  have r1 : IsRow (.imm false (((polyL f (cm w) (cm r)).map wr).map vI) (f.length + 1)) ((polyL f (cm w) (cm r)).map wr) := by
    have := IsRow.imm false ((polyL f (cm w) (cm r)).map wr)
    rwa [List.length_map, polyL_len] at this
  have r2 : IsRow (.imm false (((polyL g (cm w) (cm r)).map wr).map vI) (g.length + 1)) ((polyL g (cm w) (cm r)).map wr) := by
    have := IsRow.imm false ((polyL g (cm w) (cm r)).map wr)
    rwa [List.length_map, polyL_len] at this
  have e := fun H => equal53 (Y := Y) (H := H) r1 r2 (by rw [List.length_map, polyL_len]; have := hF.n7; omega)
  have n1 := fun H n => r1.snap (H := H) (n := n)
  have n2 := fun H n => r2.snap (H := H) (n := n)
  have n3 := fun H n => hF.hv.snap (H := H) (n := n)
  have n4 := fun H n => hG.hv.snap (H := H) (n := n)
  clear r1 r2
  generalize AV.imm false (((polyL f (cm w) (cm r)).map wr).map vI) (f.length + 1) = p1 at *
  generalize AV.imm false (((polyL g (cm w) (cm r)).map wr).map vI) (g.length + 1) = p2 at *
  rw [call52 rfl]
  simp only [F52B, SS, insA, wantedA, Opd.ev, putA, binA, eqbA, unA, fldA, partA, reduceIte, reduceCtorEq, Nat.reduceMod, Nat.reduceDiv, Nat.reduceBEq, resultA, resA, vI, Nat.reduceMul, Nat.reduceAdd, Nat.reduceSub, Nat.reduceEqDiff, Nat.reduceLT, Nat.reducePow, Nat.reduceLeDiff, st, Option.bind_eq_bind, Option.pure_def, List.length_nil, Int.cast_ofNat_Int, List.reverse_nil, UU, idxP, cellsAt, storeA, fillA, zerosA, putAll, optNat, sliceA, row, Int.reduceLT, Int.reduceLE, Int.reduceGT, Int.reduceGE, Int.reduceEq, Int.reduceNe, Int.reduceToNat, Int.reduceBEq, Int.reduceBNe, Nat.reduceLeDiff, Nat.reduceLT, Nat.reduceBNe, Nat.reduceGT, List.drop_nil, List.take_nil, Option.isSome_none, Int.ofNat_one, Int.ofNat_zero, o1, o2, e, n1, n2, n3, n4]

theorem alike18 {v w : AV} {l q : List Int} (hv : IsRow v l) (hw : IsRow w q) (hl : l.length ≤ 1000) (hq : q.length ≤ 1000) {H : Heap} :
    freeX H (callL ET Y 18 [v, w] []) = some (if frameB l = true ∧ frameB q = true then
      .tup [.bool (decide ((polyL (l.map Int.toNat) (-1) (-2)).map wr = (polyL (q.map Int.toNat) (-1) (-2)).map wr)), .bool (decide ((polyL (l.map Int.toNat) (-1) 0).map wr = (polyL (q.map Int.toNat) (-1) 0).map wr)), vI 0]
      else .tup [.bool false, .bool false, vI 2], H) := by
  have r1 := fun H => read51 (Y := Y) (H := H) hv hl
  have r2 := fun H => read51 (Y := Y) (H := H) hw hq
  rw [call18 rfl]
  cases hf : frameB l with
  | false =>
    rw [hf, if_neg (by simp)] at r1
    cases hg : frameB q with
    | false =>
      rw [hg, if_neg (by simp)] at r2
      simp only [F18B, SS, insA, wantedA, Opd.ev, putA, binA, eqbA, unA, fldA, partA, reduceIte, reduceCtorEq, Nat.reduceMod, Nat.reduceDiv, Nat.reduceBEq, resultA, resA, vI, Nat.reduceMul, Nat.reduceAdd, Nat.reduceSub, Nat.reduceEqDiff, Nat.reduceLT, Nat.reducePow, Nat.reduceLeDiff, st, Option.bind_eq_bind, Option.pure_def, List.length_nil, Int.cast_ofNat_Int, List.reverse_nil, UU, idxP, cellsAt, storeA, fillA, zerosA, putAll, optNat, sliceA, row, Int.reduceLT, Int.reduceLE, Int.reduceGT, Int.reduceGE, Int.reduceEq, Int.reduceNe, Int.reduceToNat, Int.reduceBEq, Int.reduceBNe, Nat.reduceLeDiff, Nat.reduceLT, Nat.reduceBNe, Nat.reduceGT, List.drop_nil, List.take_nil, Option.isSome_none, Int.ofNat_one, Int.ofNat_zero, r1, r2, Bool.false_eq_true, false_and, if_false]
    | true =>
      rw [hg, if_pos rfl] at r2
      have one2 := hw.one
      simp only [F18B, SS, insA, wantedA, Opd.ev, putA, binA, eqbA, unA, fldA, partA, reduceIte, reduceCtorEq, Nat.reduceMod, Nat.reduceDiv, Nat.reduceBEq, resultA, resA, vI, Nat.reduceMul, Nat.reduceAdd, Nat.reduceSub, Nat.reduceEqDiff, Nat.reduceLT, Nat.reducePow, Nat.reduceLeDiff, st, Option.bind_eq_bind, Option.pure_def, List.length_nil, Int.cast_ofNat_Int, List.reverse_nil, UU, idxP, cellsAt, storeA, fillA, zerosA, putAll, optNat, sliceA, row, Int.reduceLT, Int.reduceLE, Int.reduceGT, Int.reduceGE, Int.reduceEq, Int.reduceNe, Int.reduceToNat, Int.reduceBEq, Int.reduceBNe, Nat.reduceLeDiff, Nat.reduceLT, Nat.reduceBNe, Nat.reduceGT, List.drop_nil, List.take_nil, Option.isSome_none, Int.ofNat_one, Int.ofNat_zero, r1, r2, one2, Bool.false_eq_true, false_and, if_false]
  | true =>
    rw [hf, if_pos rfl] at r1
    have one1 := hv.one
    cases hg : frameB q with
    | false =>
      rw [hg, if_neg (by simp)] at r2
      simp only [F18B, SS, insA, wantedA, Opd.ev, putA, binA, eqbA, unA, fldA, partA, reduceIte, reduceCtorEq, Nat.reduceMod, Nat.reduceDiv, Nat.reduceBEq, resultA, resA, vI, Nat.reduceMul, Nat.reduceAdd, Nat.reduceSub, Nat.reduceEqDiff, Nat.reduceLT, Nat.reducePow, Nat.reduceLeDiff, st, Option.bind_eq_bind, Option.pure_def, List.length_nil, Int.cast_ofNat_Int, List.reverse_nil, UU, idxP, cellsAt, storeA, fillA, zerosA, putAll, optNat, sliceA, row, Int.reduceLT, Int.reduceLE, Int.reduceGT, Int.reduceGE, Int.reduceEq, Int.reduceNe, Int.reduceToNat, Int.reduceBEq, Int.reduceBNe, Nat.reduceLeDiff, Nat.reduceLT, Nat.reduceBNe, Nat.reduceGT, List.drop_nil, List.take_nil, Option.isSome_none, Int.ofNat_one, Int.ofNat_zero, r1, r2, one1, Bool.false_eq_true, and_false, if_false]
    | true =>
      rw [hg, if_pos rfl] at r2
      have one2 := hw.one
      obtain ⟨hF, _⟩ := Fr.of hv hf
      obtain ⟨hG, _⟩ := Fr.of hw hg
      have s1 := fun H b1 b2 => same52 (Y := Y) (H := H) (b1 := b1) (b2 := b2) hF hG (w := 139) (r := 140) (by simp) (by simp)
      have s2 := fun H b1 b2 => same52 (Y := Y) (H := H) (b1 := b1) (b2 := b2) hF hG (w := 141) (r := 142) (by simp) (by simp)
      have e1 : cm 139 = -1 := by decide
      have e2 : cm 140 = -2 := by decide
      have e3 : cm 141 = -1 := by decide
      have e4 : cm 142 = 0 := by decide
      rw [e1, e2] at s1
      rw [e3, e4] at s2
      generalize decide ((polyL (l.map Int.toNat) (-1) (-2)).map wr = (polyL (q.map Int.toNat) (-1) (-2)).map wr) = d1 at *
      generalize decide ((polyL (l.map Int.toNat) (-1) 0).map wr = (polyL (q.map Int.toNat) (-1) 0).map wr) = d2 at *
      have b1 : snapA [⟨0, [v]⟩, ⟨0, [w]⟩] 6 (.ptr 0 0 0) = some (.cptr true [v]) := snap_box (n := 4) rfl hv.snap
      have b2 : snapA [⟨0, [v]⟩, ⟨0, [w]⟩] 6 (.ptr 1 0 0) = some (.cptr true [w]) := snap_box (n := 4) rfl hw.snap
      simp only [F18B, SS, insA, wantedA, Opd.ev, putA, binA, eqbA, unA, fldA, partA, reduceIte, reduceCtorEq, Nat.reduceMod, Nat.reduceDiv, Nat.reduceBEq, resultA, resA, vI, Nat.reduceMul, Nat.reduceAdd, Nat.reduceSub, Nat.reduceEqDiff, Nat.reduceLT, Nat.reducePow, Nat.reduceLeDiff, st, Option.bind_eq_bind, Option.pure_def, List.length_nil, Int.cast_ofNat_Int, List.reverse_nil, UU, idxP, cellsAt, storeA, fillA, zerosA, putAll, optNat, sliceA, row, Int.reduceLT, Int.reduceLE, Int.reduceGT, Int.reduceGE, Int.reduceEq, Int.reduceNe, Int.reduceToNat, Int.reduceBEq, Int.reduceBNe, Nat.reduceLeDiff, Nat.reduceLT, Nat.reduceBNe, Nat.reduceGT, List.drop_nil, List.take_nil, Option.isSome_none, Int.ofNat_one, Int.ofNat_zero, r1, r2, one1, one2, hv.snap, hw.snap, b1, b2, s1, s2, and_self, if_true]

end
end Go.X
