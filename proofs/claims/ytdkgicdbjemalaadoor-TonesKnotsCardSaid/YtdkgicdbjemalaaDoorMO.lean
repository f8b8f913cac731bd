import Derived.Test.YtdkgicdbjemalaaDoorMM
import Derived.Test.YtdkgicdbjemalaaDoorMN
import Derived.Test.YtdkgicdbjemalaaDoorMF
/-! Tones: the law of Sachs. -/
set_option linter.unusedSimpArgs false
set_option linter.unusedVariables false
set_option maxHeartbeats 2000000
set_option maxRecDepth 10000
namespace Go.X
open Go Go.RowKit

theorem ofL_get {n k : Nat} {ov : List Int} (h : k ≤ n) : (ofL n ov).getD (n - k) 0 = ov.getD k 0 := by
  unfold ofL
  rw [getD_get (by simp; omega), List.getElem_map, List.getElem_range, show n - (n - k) = k by omega]

theorem trimL_last {l : List Int} (h : l.getD (l.length - 1) 0 ≠ 0) : trimL l = l := by
  unfold trimL
  cases hl : l.length with
  | zero => rfl
  | succ d =>
    simp only [trimN]
    rw [hl] at h
    rw [if_neg (by simpa using h)]

theorem wr_id {x : Int} (h0 : 0 ≤ x) (h1 : x < 100000) : wr x = x := wrap_id (by omega) (by omega)

theorem poly_last {f : List Nat} {w r : Int} : (polyL f w r).getD f.length 0 = 1 := by
  unfold polyL
  have := ofL_get (n := f.length) (k := 0) (ov := ovL f w r 7 (2 ^ f.length - 1)) (Nat.zero_le _)
  rw [Nat.sub_zero] at this
  rw [this, ovL_get0]

theorem poly_trim {f : List Nat} {w r : Int} : trimL ((polyL f w r).map wr) = (polyL f w r).map wr := by
  apply trimL_last
  rw [List.length_map, polyL_len, Nat.add_sub_cancel]
  have h := poly_last (f := f) (w := w) (r := r)
  rw [List.getD_eq_getElem?_getD] at h ⊢
  rw [List.getElem?_map]
  cases hq : (polyL f w r)[f.length]? with
  | none => rw [hq] at h; simp at h
  | some x => rw [hq] at h; simp at h; subst h; decide

section
variable {Y : Run} {H : Heap}

theorem L4 {v w : AV} {l : List Int} (hv : IsRow v l) (hf : frameB l = true) (hw : IsRow w ((polyL (l.map Int.toNat) (-1) (-2)).map wr)) (d : Nat) : ∀ (k : Nat), k + d = l.length + 1 →
    lp ET Y F4L0 (sp 87 [(6, vI k), (4, w), (3, vI l.length), (0, v)]) H = some (.x 0, sp 87 [], H) := by
  have h7 : 1 ≤ l.length ∧ l.length ≤ 7 := by simp only [frameB, Bool.and_eq_true, decide_eq_true_eq] at hf; exact hf.1.1
  have hlen : (l.map Int.toNat).length = l.length := by simp
  induction d with
  | zero =>
    intro k hk
    rw [un4_0]
    have : ¬ ((k : Int) ≤ (l.length : Int)) := by omega
    simp only [F4L0b, SS, insA, wantedA, Opd.ev, putA, binA, eqbA, unA, fldA, partA, reduceIte, reduceCtorEq, Nat.reduceMod, Nat.reduceDiv, Nat.reduceBEq, resultA, resA, vI, Nat.reduceMul, Nat.reduceAdd, Nat.reduceSub, Nat.reduceEqDiff, Nat.reduceLT, Nat.reducePow, Nat.reduceLeDiff, st, Option.bind_eq_bind, Option.pure_def, List.length_nil, Int.cast_ofNat_Int, List.reverse_nil, UU, idxP, cellsAt, storeA, fillA, zerosA, putAll, optNat, sliceA, row, Int.reduceLT, Int.reduceLE, Int.reduceGT, Int.reduceGE, Int.reduceEq, Int.reduceNe, Int.reduceToNat, Int.reduceBEq, Int.reduceBNe, Nat.reduceLeDiff, Nat.reduceLT, Nat.reduceBNe, Nat.reduceGT, List.drop_nil, List.take_nil, Option.isSome_none, Int.ofNat_one, Int.ofNat_zero, this]
  | succ d ih =>
    intro k hk
    have hkn : k ≤ l.length := by omega
    have hc : (k : Int) ≤ (l.length : Int) := by omega
    have hww := wrap_succ (n := k) (by omega)
    have hfig := fun H => figs22 (Y := Y) (H := H) hv hf hkn
    have hsub : IntKind.wrap .i64 ((l.length : Int) - (k : Int)) = ((l.length - k : Nat) : Int) := by rw [wrap_id (by omega) (by omega)]; omega
    have hpl : l.length - k < ((polyL (l.map Int.toNat) (-1) (-2)).map wr).length := by rw [List.length_map, polyL_len, hlen]; omega
    have hix := hw.idx hpl
    have hld := hw.load (H := H) hpl
    have hgd : ((polyL (l.map Int.toNat) (-1) (-2)).map wr).getD (l.length - k) 0 = wr ((polyL (l.map Int.toNat) (-1) (-2)).getD (l.length - k) 0) := by
      rw [List.length_map] at hpl
      simp [List.getD_eq_getElem?_getD, hpl]
    rw [hgd] at hld
    have hsm := figs_small (f := l.map Int.toNat) (w := -1) (r := -2) (by omega) (by omega) k
    rw [hlen] at hsm
    have e1 : (polyL (l.map Int.toNat) (-1) (-2)).getD (l.length - k) 0 = (ovL (l.map Int.toNat) (-1) (-2) 7 (2 ^ l.length - 1)).getD k 0 := by unfold polyL; rw [hlen, ofL_get hkn]
    have e2 : (polyL (l.map Int.toNat) 1 1).getD (l.length - k) 0 = (ovL (l.map Int.toNat) 1 1 7 (2 ^ l.length - 1)).getD k 0 := by unfold polyL; rw [hlen, ofL_get hkn]
    have hk0 : k = 0 → (ovL (l.map Int.toNat) 1 1 7 (2 ^ l.length - 1)).getD k 0 = 1 := fun e => by subst e; exact ovL_get0 _ _
    rw [e1, e2] at hfig
    rw [e1] at hld
    generalize (ovL (l.map Int.toNat) (-1) (-2) 7 (2 ^ l.length - 1)).getD k 0 = s at *
    generalize (ovL (l.map Int.toNat) 1 1 7 (2 ^ l.length - 1)).getD k 0 = mm at *
    rw [wr_id hsm.1 hsm.2.1] at hfig
    have q1 : (wr s != wr s) = false := by simp
    have q2 : ¬ mm < 0 := by omega
    have ih := ih (k + 1) (by omega)
    rw [un4_0]
    simp only [wr, SS, insA, wantedA, Opd.ev, putA, binA, eqbA, unA, fldA, partA, reduceIte, reduceCtorEq, Nat.reduceMod, Nat.reduceDiv, Nat.reduceBEq, resultA, resA, vI, Nat.reduceMul, Nat.reduceAdd, Nat.reduceSub, Nat.reduceEqDiff, Nat.reduceLT, Nat.reducePow, Nat.reduceLeDiff, st, Option.bind_eq_bind, Option.pure_def, List.length_nil, Int.cast_ofNat_Int, List.reverse_nil] at hld ih q1 hfig
    by_cases ck : k = 0
    · have hm1 := hk0 ck
      have q3 : ((k : Int) == 0) = true := by simp [ck]
      have q4 : (mm != 1) = false := by rw [hm1]; rfl
      have q5 : (mm == 0) = false := by rw [hm1]; rfl
      simp only [F4L0b, SS, insA, wantedA, Opd.ev, putA, binA, eqbA, unA, fldA, partA, reduceIte, reduceCtorEq, Nat.reduceMod, Nat.reduceDiv, Nat.reduceBEq, resultA, resA, vI, Nat.reduceMul, Nat.reduceAdd, Nat.reduceSub, Nat.reduceEqDiff, Nat.reduceLT, Nat.reducePow, Nat.reduceLeDiff, st, Option.bind_eq_bind, Option.pure_def, List.length_nil, Int.cast_ofNat_Int, List.reverse_nil, UU, idxP, cellsAt, storeA, fillA, zerosA, putAll, optNat, sliceA, row, Int.reduceLT, Int.reduceLE, Int.reduceGT, Int.reduceGE, Int.reduceEq, Int.reduceNe, Int.reduceToNat, Int.reduceBEq, Int.reduceBNe, Nat.reduceLeDiff, Nat.reduceLT, Nat.reduceBNe, Nat.reduceGT, List.drop_nil, List.take_nil, Option.isSome_none, Int.ofNat_one, Int.ofNat_zero, hc, hww, hv.snap, hfig, hsub, hix, hld, q1, q2, q3, q4, q5, ih]
    · have q3 : ((k : Int) == 0) = false := by simp [ck]
      by_cases cm : mm = 0
      · have q5 : (mm == 0) = true := by rw [cm]; rfl
        have q6 : (IntKind.wrap .i64 s != 0) = false := by rw [hsm.2.2 cm]; decide
        simp only [F4L0b, SS, insA, wantedA, Opd.ev, putA, binA, eqbA, unA, fldA, partA, reduceIte, reduceCtorEq, Nat.reduceMod, Nat.reduceDiv, Nat.reduceBEq, resultA, resA, vI, Nat.reduceMul, Nat.reduceAdd, Nat.reduceSub, Nat.reduceEqDiff, Nat.reduceLT, Nat.reducePow, Nat.reduceLeDiff, st, Option.bind_eq_bind, Option.pure_def, List.length_nil, Int.cast_ofNat_Int, List.reverse_nil, UU, idxP, cellsAt, storeA, fillA, zerosA, putAll, optNat, sliceA, row, Int.reduceLT, Int.reduceLE, Int.reduceGT, Int.reduceGE, Int.reduceEq, Int.reduceNe, Int.reduceToNat, Int.reduceBEq, Int.reduceBNe, Nat.reduceLeDiff, Nat.reduceLT, Nat.reduceBNe, Nat.reduceGT, List.drop_nil, List.take_nil, Option.isSome_none, Int.ofNat_one, Int.ofNat_zero, hc, hww, hv.snap, hfig, hsub, hix, hld, q1, q2, q3, q5, q6, ih]
      · have q5 : (mm == 0) = false := by simp [cm]
        simp only [F4L0b, SS, insA, wantedA, Opd.ev, putA, binA, eqbA, unA, fldA, partA, reduceIte, reduceCtorEq, Nat.reduceMod, Nat.reduceDiv, Nat.reduceBEq, resultA, resA, vI, Nat.reduceMul, Nat.reduceAdd, Nat.reduceSub, Nat.reduceEqDiff, Nat.reduceLT, Nat.reducePow, Nat.reduceLeDiff, st, Option.bind_eq_bind, Option.pure_def, List.length_nil, Int.cast_ofNat_Int, List.reverse_nil, UU, idxP, cellsAt, storeA, fillA, zerosA, putAll, optNat, sliceA, row, Int.reduceLT, Int.reduceLE, Int.reduceGT, Int.reduceGE, Int.reduceEq, Int.reduceNe, Int.reduceToNat, Int.reduceBEq, Int.reduceBNe, Nat.reduceLeDiff, Nat.reduceLT, Nat.reduceBNe, Nat.reduceGT, List.drop_nil, List.take_nil, Option.isSome_none, Int.ofNat_one, Int.ofNat_zero, hc, hww, hv.snap, hfig, hsub, hix, hld, q1, q2, q3, q5, ih]

theorem law4 (hY : ∀ args H, Y 97 args H = yA 97 args H) {v : AV} {l : List Int} (hv : IsRow v l) : freeX [] (callL ET Y 4 [v] []) = some (.bool true, []) := by
  have hal := fun H => alive17 (Y := Y) (H := H) hY
  have hfew := fun H => few16 (Y := Y) (H := H) hv .nil
  simp only [List.length_nil, show (0 : Nat) ≤ 40 from by decide, decide_true, Bool.and_true] at hfew
  rw [call4 rfl]
  by_cases h40 : l.length ≤ 40
  · simp only [h40, decide_true] at hfew
    have hfr := fun H => frame20 (Y := Y) (H := H) hv (by omega)
    cases hf : frameB l with
    | false =>
      rw [hf] at hfr
      simp only [F4B, SS, insA, wantedA, Opd.ev, putA, binA, eqbA, unA, fldA, partA, reduceIte, reduceCtorEq, Nat.reduceMod, Nat.reduceDiv, Nat.reduceBEq, resultA, resA, vI, Nat.reduceMul, Nat.reduceAdd, Nat.reduceSub, Nat.reduceEqDiff, Nat.reduceLT, Nat.reducePow, Nat.reduceLeDiff, st, Option.bind_eq_bind, Option.pure_def, List.length_nil, Int.cast_ofNat_Int, List.reverse_nil, UU, idxP, cellsAt, storeA, fillA, zerosA, putAll, optNat, sliceA, row, Int.reduceLT, Int.reduceLE, Int.reduceGT, Int.reduceGE, Int.reduceEq, Int.reduceNe, Int.reduceToNat, Int.reduceBEq, Int.reduceBNe, Nat.reduceLeDiff, Nat.reduceLT, Nat.reduceBNe, Nat.reduceGT, List.drop_nil, List.take_nil, Option.isSome_none, Int.ofNat_one, Int.ofNat_zero, hv.snap, hfew, hfr, hal]
    | true =>
      rw [hf] at hfr
      have h7 : 1 ≤ l.length ∧ l.length ≤ 7 := by simp only [frameB, Bool.and_eq_true, decide_eq_true_eq] at hf; exact hf.1.1
      have hlen : (l.map Int.toNat).length = l.length := by simp
      obtain ⟨w, t1, t2⟩ := tones21 (Y := Y) hv (by omega)
      rw [if_pos hf] at t1 t2
      rw [poly_trim] at t2
      have hw := t2.row
      have hwl := hw.len
      rw [List.length_map, polyL_len, hlen] at hwl
      have hpl : l.length < ((polyL (l.map Int.toNat) (-1) (-2)).map wr).length := by rw [List.length_map, polyL_len, hlen]; omega
      have hix := hw.idx hpl
      have hld := fun H => hw.load (H := H) hpl
      have hgd : ((polyL (l.map Int.toNat) (-1) (-2)).map wr).getD l.length 0 = 1 := by
        have := poly_last (f := l.map Int.toNat) (w := -1) (r := -2)
        rw [hlen] at this
        rw [List.length_map] at hpl
        rw [List.getD_eq_getElem?_getD, List.getElem?_map, List.getElem?_eq_getElem hpl]
        rw [List.getD_eq_getElem?_getD, List.getElem?_eq_getElem hpl] at this
        simp at this
        simp [this]
        decide
      rw [hgd] at hld
      have hws := wrap_succ (n := l.length) (by omega)
      have q1 : (((l.length + 1 : Nat) : Int) != ((l.length + 1 : Nat) : Int)) = false := by simp
      have hL := L4 (Y := Y) (H := []) hv hf hw (l.length + 1) 0 (by omega)
      simp only [SS, insA, wantedA, Opd.ev, putA, binA, eqbA, unA, fldA, partA, reduceIte, reduceCtorEq, Nat.reduceMod, Nat.reduceDiv, Nat.reduceBEq, resultA, resA, vI, Nat.reduceMul, Nat.reduceAdd, Nat.reduceSub, Nat.reduceEqDiff, Nat.reduceLT, Nat.reducePow, Nat.reduceLeDiff, st, Option.bind_eq_bind, Option.pure_def, List.length_nil, Int.cast_ofNat_Int, List.reverse_nil, Int.ofNat_zero] at hL hld
      simp only [F4B, F4T0, in4_0, SS, insA, wantedA, Opd.ev, putA, binA, eqbA, unA, fldA, partA, reduceIte, reduceCtorEq, Nat.reduceMod, Nat.reduceDiv, Nat.reduceBEq, resultA, resA, vI, Nat.reduceMul, Nat.reduceAdd, Nat.reduceSub, Nat.reduceEqDiff, Nat.reduceLT, Nat.reducePow, Nat.reduceLeDiff, st, Option.bind_eq_bind, Option.pure_def, List.length_nil, Int.cast_ofNat_Int, List.reverse_nil, UU, idxP, cellsAt, storeA, fillA, zerosA, putAll, optNat, sliceA, row, Int.reduceLT, Int.reduceLE, Int.reduceGT, Int.reduceGE, Int.reduceEq, Int.reduceNe, Int.reduceToNat, Int.reduceBEq, Int.reduceBNe, Nat.reduceLeDiff, Nat.reduceLT, Nat.reduceBNe, Nat.reduceGT, List.drop_nil, List.take_nil, Option.isSome_none, Int.ofNat_one, Int.ofNat_zero, hv.snap, hv.len, hfew, hfr, t1, hwl, hws, q1, hix, hld, hL, hal]
  · simp only [h40, decide_false] at hfew
    simp only [F4B, SS, insA, wantedA, Opd.ev, putA, binA, eqbA, unA, fldA, partA, reduceIte, reduceCtorEq, Nat.reduceMod, Nat.reduceDiv, Nat.reduceBEq, resultA, resA, vI, Nat.reduceMul, Nat.reduceAdd, Nat.reduceSub, Nat.reduceEqDiff, Nat.reduceLT, Nat.reducePow, Nat.reduceLeDiff, st, Option.bind_eq_bind, Option.pure_def, List.length_nil, Int.cast_ofNat_Int, List.reverse_nil, UU, idxP, cellsAt, storeA, fillA, zerosA, putAll, optNat, sliceA, row, Int.reduceLT, Int.reduceLE, Int.reduceGT, Int.reduceGE, Int.reduceEq, Int.reduceNe, Int.reduceToNat, Int.reduceBEq, Int.reduceBNe, Nat.reduceLeDiff, Nat.reduceLT, Nat.reduceBNe, Nat.reduceGT, List.drop_nil, List.take_nil, Option.isSome_none, Int.ofNat_one, Int.ofNat_zero, hv.snap, hfew, hal]
end
end Go.X
