import Derived.Test.YtchgifdkhknppaaVZ6
/-! Veils: a triangle as a sheet. -/
set_option linter.unusedSimpArgs false
set_option linter.unusedVariables false
set_option maxHeartbeats 8000000
set_option maxRecDepth 10000
namespace Go.X
open Go Go.RowKit
section
variable {Y : Run} {H : Heap}

def cntLe (j : Int) : List Int → Nat
  | [] => 0
  | x :: r => if x ≤ j then cntLe j r + 1 else cntLe j r
theorem cntLe_le (j : Int) : ∀ r, cntLe j r ≤ r.length
  | [] => Nat.le_refl _
  | x :: r => by
    have := cntLe_le j r
    unfold cntLe
    rw [List.length_cons]
    split <;> omega
def sT (l : List (List Int)) (i j : Nat) : Int := if i = 0 then 0 else (cntLe j (l.getD (i - 1) []) : Nat)
def ofT (l : List (List Int)) (i j : Nat) : Int := sT l (i + 1) (j + 1) - sT l i (j + 1) - sT l (i + 1) j + sT l i j

theorem L117_0 {rv : AV} {r : List Int} {j : Int} (hr : IsRow rv r) (hm : r.length ≤ 20) (d : Nat) : ∀ (k c : Nat), k + d = r.length → c ≤ k →
    lp EV Y F117L0 (sp 29 [(18, vI k), (17, vI r.length), (16, rv), (7, vI c), (2, vI j)]) H = some (.x 0, sp 29 [(7, vI ((c + cntLe j (r.drop k) : Nat) : Int))], H) := by
  induction d with
  | zero =>
    intro k c hk hc
    have : ¬ ((k : Int) < (r.length : Int)) := by omega
    rw [un117_0, List.drop_eq_nil_of_le (by omega)]
    simp only [F117L0b, SS, insA, wantedA, Opd.ev, putA, binA, eqbA, unA, fldA, partA, reduceIte, reduceCtorEq, Nat.reduceMod, Nat.reduceDiv, Nat.reduceBEq, resultA, resA, vI, Nat.reduceMul, Nat.reduceAdd, Nat.reduceSub, Nat.reduceEqDiff, Nat.reduceLT, Nat.reducePow, Nat.reduceLeDiff, st, Option.bind_eq_bind, Option.pure_def, List.length_nil, Int.cast_ofNat_Int, List.reverse_nil, UU, idxP, cellsAt, storeA, fillA, zerosA, putAll, optNat, sliceA, row, Int.reduceLT, Int.reduceLE, Int.reduceGT, Int.reduceGE, Int.reduceEq, Int.reduceNe, Int.reduceToNat, Int.reduceBEq, Int.reduceBNe, Nat.reduceLeDiff, Nat.reduceLT, Nat.reduceBNe, Nat.reduceGT, List.drop_nil, List.take_nil, Option.isSome_none, Int.ofNat_one, Int.ofNat_zero, this, cntLe, Nat.add_zero]
  | succ d ih =>
    intro k c hk hc
    have k1 : k < r.length := by omega
    have hlt : (k : Int) < (r.length : Int) := by omega
    have hww := wrap_succ (n := k) (by omega)
    have hwc := wrap_succ (n := c) (by omega)
    have ih0 := ih (k + 1) c (by omega) (by omega)
    have ih1 := ih (k + 1) (c + 1) (by omega) (by omega)
    rw [un117_0, List.drop_eq_getElem_cons k1]
    have g : r.getD k 0 = r[k] := getD_get k1
    by_cases c1 : r[k] ≤ j
    · rw [cntLe, if_pos c1]
      rw [show c + 1 + cntLe j (r.drop (k + 1)) = c + (cntLe j (r.drop (k + 1)) + 1) from by omega] at ih1
      simp only [SS, insA, wantedA, Opd.ev, putA, binA, eqbA, unA, fldA, partA, reduceIte, reduceCtorEq, Nat.reduceMod, Nat.reduceDiv, Nat.reduceBEq, resultA, resA, vI, Nat.reduceMul, Nat.reduceAdd, Nat.reduceSub, Nat.reduceEqDiff, Nat.reduceLT, Nat.reducePow, Nat.reduceLeDiff, st, Option.bind_eq_bind, Option.pure_def, List.length_nil, Int.cast_ofNat_Int, List.reverse_nil] at ih1
      simp only [F117L0b, SS, insA, wantedA, Opd.ev, putA, binA, eqbA, unA, fldA, partA, reduceIte, reduceCtorEq, Nat.reduceMod, Nat.reduceDiv, Nat.reduceBEq, resultA, resA, vI, Nat.reduceMul, Nat.reduceAdd, Nat.reduceSub, Nat.reduceEqDiff, Nat.reduceLT, Nat.reducePow, Nat.reduceLeDiff, st, Option.bind_eq_bind, Option.pure_def, List.length_nil, Int.cast_ofNat_Int, List.reverse_nil, UU, idxP, cellsAt, storeA, fillA, zerosA, putAll, optNat, sliceA, row, Int.reduceLT, Int.reduceLE, Int.reduceGT, Int.reduceGE, Int.reduceEq, Int.reduceNe, Int.reduceToNat, Int.reduceBEq, Int.reduceBNe, Nat.reduceLeDiff, Nat.reduceLT, Nat.reduceBNe, Nat.reduceGT, List.drop_nil, List.take_nil, Option.isSome_none, Int.ofNat_one, Int.ofNat_zero, hlt, hr.idx k1, hr.load k1, g, c1, hww, hwc, ih1]
    · rw [cntLe, if_neg c1]
      simp only [SS, insA, wantedA, Opd.ev, putA, binA, eqbA, unA, fldA, partA, reduceIte, reduceCtorEq, Nat.reduceMod, Nat.reduceDiv, Nat.reduceBEq, resultA, resA, vI, Nat.reduceMul, Nat.reduceAdd, Nat.reduceSub, Nat.reduceEqDiff, Nat.reduceLT, Nat.reducePow, Nat.reduceLeDiff, st, Option.bind_eq_bind, Option.pure_def, List.length_nil, Int.cast_ofNat_Int, List.reverse_nil] at ih0
      simp only [F117L0b, SS, insA, wantedA, Opd.ev, putA, binA, eqbA, unA, fldA, partA, reduceIte, reduceCtorEq, Nat.reduceMod, Nat.reduceDiv, Nat.reduceBEq, resultA, resA, vI, Nat.reduceMul, Nat.reduceAdd, Nat.reduceSub, Nat.reduceEqDiff, Nat.reduceLT, Nat.reducePow, Nat.reduceLeDiff, st, Option.bind_eq_bind, Option.pure_def, List.length_nil, Int.cast_ofNat_Int, List.reverse_nil, UU, idxP, cellsAt, storeA, fillA, zerosA, putAll, optNat, sliceA, row, Int.reduceLT, Int.reduceLE, Int.reduceGT, Int.reduceGE, Int.reduceEq, Int.reduceNe, Int.reduceToNat, Int.reduceBEq, Int.reduceBNe, Nat.reduceLeDiff, Nat.reduceLT, Nat.reduceBNe, Nat.reduceGT, List.drop_nil, List.take_nil, Option.isSome_none, Int.ofNat_one, Int.ofNat_zero, hlt, hr.idx k1, hr.load k1, g, c1, hww, hwc, ih0]

structure Tri (n : Nat) (l : List (List Int)) : Prop where
  len : l.length = n
  n20 : n ≤ 19
  row : ∀ r ∈ l, r.length ≤ 20

theorem sum117 {lv : AV} {l : List (List Int)} {n i j : Nat} (ht : IsTab lv l) (T : Tri n l) (hi : i ≤ n) : freeX H (callL EV Y 117 [lv, vI i, vI j] []) = some (vI (sT l i j), H) := by
  rw [call117 rfl]
  by_cases c : i = 0
  · subst c
    have e : sT l 0 j = 0 := rfl
    simp only [F117B, SS, insA, wantedA, Opd.ev, putA, binA, eqbA, unA, fldA, partA, reduceIte, reduceCtorEq, Nat.reduceMod, Nat.reduceDiv, Nat.reduceBEq, resultA, resA, vI, Nat.reduceMul, Nat.reduceAdd, Nat.reduceSub, Nat.reduceEqDiff, Nat.reduceLT, Nat.reducePow, Nat.reduceLeDiff, st, Option.bind_eq_bind, Option.pure_def, List.length_nil, Int.cast_ofNat_Int, List.reverse_nil, UU, idxP, cellsAt, storeA, fillA, zerosA, putAll, optNat, sliceA, row, Int.reduceLT, Int.reduceLE, Int.reduceGT, Int.reduceGE, Int.reduceEq, Int.reduceNe, Int.reduceToNat, Int.reduceBEq, Int.reduceBNe, Nat.reduceLeDiff, Nat.reduceLT, Nat.reduceBNe, Nat.reduceGT, List.drop_nil, List.take_nil, Option.isSome_none, Int.ofNat_one, Int.ofNat_zero, e, Int.ofNat_zero, BEq.rfl]
  · have h1 : i - 1 < l.length := by rw [T.len]; omega
    have r1 := ht.row h1
    have hb : (l.getD (i - 1) []).length ≤ 20 := by rw [getD_get h1]; exact T.row _ (List.getElem_mem h1)
    have h0 := L117_0 (Y := Y) (H := []) (j := (j : Int)) r1 hb (l.getD (i - 1) []).length 0 0 (by omega) (by omega)
    have e : sT l i j = (cntLe j (l.getD (i - 1) []) : Nat) := if_neg c
    have c' : ((i : Int) == 0) = false := by simp; omega
    have wp : IntKind.wrap .i64 ((i : Int) - 1) = ((i - 1 : Nat) : Int) := wrap_pred (by have := T.n20; omega) (by have := T.n20; omega)
    have hlen : lenA (cellAt lv (i - 1)) = some (l.getD (i - 1) []).length := r1.len
    rw [List.drop_zero, Nat.zero_add] at h0
    simp only [SS, insA, wantedA, Opd.ev, putA, binA, eqbA, unA, fldA, partA, reduceIte, reduceCtorEq, Nat.reduceMod, Nat.reduceDiv, Nat.reduceBEq, resultA, resA, vI, Nat.reduceMul, Nat.reduceAdd, Nat.reduceSub, Nat.reduceEqDiff, Nat.reduceLT, Nat.reducePow, Nat.reduceLeDiff, st, Option.bind_eq_bind, Option.pure_def, List.length_nil, Int.cast_ofNat_Int, List.reverse_nil, Int.ofNat_zero] at h0
    simp only [F117B, F117T0, SS, insA, wantedA, Opd.ev, putA, binA, eqbA, unA, fldA, partA, reduceIte, reduceCtorEq, Nat.reduceMod, Nat.reduceDiv, Nat.reduceBEq, resultA, resA, vI, Nat.reduceMul, Nat.reduceAdd, Nat.reduceSub, Nat.reduceEqDiff, Nat.reduceLT, Nat.reducePow, Nat.reduceLeDiff, st, Option.bind_eq_bind, Option.pure_def, List.length_nil, Int.cast_ofNat_Int, List.reverse_nil, UU, idxP, cellsAt, storeA, fillA, zerosA, putAll, optNat, sliceA, row, Int.reduceLT, Int.reduceLE, Int.reduceGT, Int.reduceGE, Int.reduceEq, Int.reduceNe, Int.reduceToNat, Int.reduceBEq, Int.reduceBNe, Nat.reduceLeDiff, Nat.reduceLT, Nat.reduceBNe, Nat.reduceGT, List.drop_nil, List.take_nil, Option.isSome_none, Int.ofNat_one, Int.ofNat_zero, e, c', wp, ht.idx h1, ht.load h1, hlen, in117_0, h0]

theorem sT_b {l : List (List Int)} {n i j : Nat} (T : Tri n l) (hi : i ≤ n) : 0 ≤ sT l i j ∧ sT l i j ≤ 20 := by
  unfold sT
  by_cases c : i = 0
  · rw [if_pos c]; omega
  · rw [if_neg c]
    have h1 : i - 1 < l.length := by rw [T.len]; omega
    have hb : (l.getD (i - 1) []).length ≤ 20 := by rw [getD_get h1]; exact T.row _ (List.getElem_mem h1)
    have := cntLe_le j (l.getD (i - 1) [])
    omega

theorem of90t {hv : AV} {h : List (List Int)} {m i j : Nat} {s : Bool} {cs : List AV} (ht : IsTab hv h) (hh : Tri m h) (hi : i < m) (hj : j < m) :
    freeX H (callL EV Y 90 [vI i, vI j, .cptr s (.iface 69 hv :: cs)] []) = some (vI (ofT h i j), H) := by
  have hm := hh.n20
  have k1 := fun H => sum117 (Y := Y) (H := H) (i := i + 1) (j := j + 1) ht hh (by omega)
  have k2 := fun H => sum117 (Y := Y) (H := H) (i := i) (j := j + 1) ht hh (by omega)
  have k3 := fun H => sum117 (Y := Y) (H := H) (i := i + 1) (j := j) ht hh (by omega)
  have k4 := fun H => sum117 (Y := Y) (H := H) (i := i) (j := j) ht hh (by omega)
  have b1 := sT_b (i := i + 1) (j := j + 1) hh (by omega)
  have b2 := sT_b (i := i) (j := j + 1) hh (by omega)
  have b3 := sT_b (i := i + 1) (j := j) hh (by omega)
  have b4 := sT_b (i := i) (j := j) hh (by omega)
  have w1 := wrap_succ (n := i) (by omega)
  have w2 := wrap_succ (n := j) (by omega)
  have w3 : IntKind.wrap .i64 (sT h (i + 1) (j + 1) - sT h i (j + 1)) = sT h (i + 1) (j + 1) - sT h i (j + 1) := wrap_id (by omega) (by omega)
  have w4 : IntKind.wrap .i64 (sT h (i + 1) (j + 1) - sT h i (j + 1) - sT h (i + 1) j) = sT h (i + 1) (j + 1) - sT h i (j + 1) - sT h (i + 1) j := wrap_id (by omega) (by omega)
  have w5 : IntKind.wrap .i64 (sT h (i + 1) (j + 1) - sT h i (j + 1) - sT h (i + 1) j + sT h i j) = ofT h i j := wrap_id (by omega) (by omega)
  have e3 : ∀ (k : Nat), 1 ≤ k + 1 := fun k => by omega
  rw [call90 rfl]
  simp only [SS, insA, wantedA, Opd.ev, putA, binA, eqbA, unA, fldA, partA, reduceIte, reduceCtorEq, Nat.reduceMod, Nat.reduceDiv, Nat.reduceBEq, resultA, resA, vI, Nat.reduceMul, Nat.reduceAdd, Nat.reduceSub, Nat.reduceEqDiff, Nat.reduceLT, Nat.reducePow, Nat.reduceLeDiff, st, Option.bind_eq_bind, Option.pure_def, List.length_nil, Int.cast_ofNat_Int, List.reverse_nil] at k1 k2 k3 k4
  simp only [F90B, SS, insA, wantedA, Opd.ev, putA, binA, eqbA, unA, fldA, partA, reduceIte, reduceCtorEq, Nat.reduceMod, Nat.reduceDiv, Nat.reduceBEq, resultA, resA, vI, Nat.reduceMul, Nat.reduceAdd, Nat.reduceSub, Nat.reduceEqDiff, Nat.reduceLT, Nat.reducePow, Nat.reduceLeDiff, st, Option.bind_eq_bind, Option.pure_def, List.length_nil, Int.cast_ofNat_Int, List.reverse_nil, UU, idxP, cellsAt, storeA, fillA, zerosA, putAll, optNat, sliceA, row, Int.reduceLT, Int.reduceLE, Int.reduceGT, Int.reduceGE, Int.reduceEq, Int.reduceNe, Int.reduceToNat, Int.reduceBEq, Int.reduceBNe, Nat.reduceLeDiff, Nat.reduceLT, Nat.reduceBNe, Nat.reduceGT, List.drop_nil, List.take_nil, Option.isSome_none, Int.ofNat_one, Int.ofNat_zero, e3, lk69, ht.snap, w1, w2, k1, k2, k3, k4, w3, w4, w5]

theorem size116 {hv : AV} {h : List (List Int)} {m : Nat} (ht : IsTab hv h) (hl : h.length = m) : freeX H (callL EV Y 116 [hv] []) = some (vI m, H) := by
  have hl2 := ht.len
  rw [hl] at hl2
  rw [call116 rfl]
  simp only [F116B, SS, insA, wantedA, Opd.ev, putA, binA, eqbA, unA, fldA, partA, reduceIte, reduceCtorEq, Nat.reduceMod, Nat.reduceDiv, Nat.reduceBEq, resultA, resA, vI, Nat.reduceMul, Nat.reduceAdd, Nat.reduceSub, Nat.reduceEqDiff, Nat.reduceLT, Nat.reducePow, Nat.reduceLeDiff, st, Option.bind_eq_bind, Option.pure_def, List.length_nil, Int.cast_ofNat_Int, List.reverse_nil, UU, idxP, cellsAt, storeA, fillA, zerosA, putAll, optNat, sliceA, row, Int.reduceLT, Int.reduceLE, Int.reduceGT, Int.reduceGE, Int.reduceEq, Int.reduceNe, Int.reduceToNat, Int.reduceBEq, Int.reduceBNe, Nat.reduceLeDiff, Nat.reduceLT, Nat.reduceBNe, Nat.reduceGT, List.drop_nil, List.take_nil, Option.isSome_none, Int.ofNat_one, Int.ofNat_zero, hl2]

theorem of72t {hv : AV} {h : List (List Int)} {m : Nat} (ht : IsTab hv h) (hh : Tri m h) : Out Y 72 [.iface 69 hv] (tabF m (ofT h)) := by
  have hm := hh.n20
  have hsz := fun H => size116 (Y := Y) (H := H) ht hh.len
  have hc1 : ∀ H, [AV.cptr true [.iface 69 hv]].mapM (snapA H 6) = some [.cptr true [.iface 69 hv]] := fun H => rfl
  obtain ⟨v, R, cells, m1, m2⟩ := made69 (Y := Y) (n := m) (g := 90) (f := ofT h) (caps := [.cptr true [.iface 69 hv]]) (by omega) hc1
    (fun i j hi hj H => of90t ht hh hi hj)
  have hsi : ∀ H n, snapA H (n + 2) (.iface 69 hv) = some (.iface 69 hv) := fun H n => by rw [snap_ifc, ht.snap]; rfl
  have hsn : snapA [⟨0, [.iface 69 hv]⟩] 6 (.fn 90 [.ptr 0 0 0]) = some (.fn 90 [.cptr true [.iface 69 hv]]) := snap_fnptr (by simp) (hsi _ _)
  obtain ⟨v', H', cells', q1, q2, q3⟩ := call_tab (H := [⟨0, [.iface 69 hv]⟩]) (R := callL EV Y) (f := 69) (args := [vI (m : Int), .fn 90 [.ptr 0 0 0]]) (bs := [vI (m : Int), .fn 90 [.cptr true [.iface 69 hv]]]) (by
    rw [mapM_cons', mapM_cons', hsn]; rfl) m1 m2
  refine out_of (v := v') (R := H') ?_ q2
  rw [call72 rfl]
  simp only [SS, insA, wantedA, Opd.ev, putA, binA, eqbA, unA, fldA, partA, reduceIte, reduceCtorEq, Nat.reduceMod, Nat.reduceDiv, Nat.reduceBEq, resultA, resA, vI, Nat.reduceMul, Nat.reduceAdd, Nat.reduceSub, Nat.reduceEqDiff, Nat.reduceLT, Nat.reducePow, Nat.reduceLeDiff, st, Option.bind_eq_bind, Option.pure_def, List.length_nil, Int.cast_ofNat_Int, List.reverse_nil] at q1 hsz
  simp only [F72B, SS, insA, wantedA, Opd.ev, putA, binA, eqbA, unA, fldA, partA, reduceIte, reduceCtorEq, Nat.reduceMod, Nat.reduceDiv, Nat.reduceBEq, resultA, resA, vI, Nat.reduceMul, Nat.reduceAdd, Nat.reduceSub, Nat.reduceEqDiff, Nat.reduceLT, Nat.reducePow, Nat.reduceLeDiff, st, Option.bind_eq_bind, Option.pure_def, List.length_nil, Int.cast_ofNat_Int, List.reverse_nil, UU, idxP, cellsAt, fillA, zerosA, putAll, row, Int.reduceLT, Int.reduceLE, Int.reduceGT, Int.reduceGE, Int.reduceEq, Int.reduceNe, Int.reduceToNat, Int.reduceBEq, Int.reduceBNe, Nat.reduceLeDiff, Nat.reduceLT, Nat.reduceBNe, Nat.reduceGT, List.drop_nil, List.take_nil, Option.isSome_none, Int.ofNat_one, Int.ofNat_zero, lk69, hsi, ht.snap, hsz, q1, isU, cellsOf]
end
end Go.X
