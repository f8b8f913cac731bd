import Derived.Test.YtchgifdkhknppaaVL
/-! Veils: what heights are turned back into, both ways. -/
set_option linter.unusedSimpArgs false
set_option linter.unusedVariables false
set_option maxHeartbeats 4000000
set_option maxRecDepth 10000
namespace Go.X
open Go Go.RowKit
section
variable {Y : Run} {H : Heap}

/-- A square of m rows of numbers that are not great. -/
structure Hts (m : Nat) (h : List (List Int)) : Prop where
  len : h.length = m
  row : ∀ r ∈ h, r.length = m
  bd : ∀ r ∈ h, ∀ x ∈ r, -100 ≤ x ∧ x ≤ 100
theorem Hts.rl {m i : Nat} {h : List (List Int)} (H : Hts m h) (hi : i < h.length) : h[i].length = m := H.row _ (List.getElem_mem hi)
theorem Hts.at {m i j : Nat} {h : List (List Int)} (H : Hts m h) (hi : i < m) (hj : j < m) : -100 ≤ at2 h i j ∧ at2 h i j ≤ 100 := by
  have h1 : i < h.length := by rw [H.len]; exact hi
  have h2 : j < h[i].length := by rw [H.rl h1]; exact hj
  rw [at2_get h1 h2]
  exact H.bd _ (List.getElem_mem h1) _ (List.getElem_mem h2)

def sH (h : List (List Int)) (i j : Nat) : Int := ((i : Int) + j - at2 h i j).tdiv 2
def ofF (h : List (List Int)) (i j : Nat) : Int := sH h (i + 1) (j + 1) - sH h i (j + 1) - sH h (i + 1) j + sH h i j
def tabH (h : List (List Int)) (i j : Nat) : Int := (at2 h i (j + 1) + at2 h (i + 1) j - at2 h i j - at2 h (i + 1) (j + 1)).tdiv 2

theorem tdiv2_b {a B : Int} (h : -B ≤ a ∧ a ≤ B) : -B ≤ a.tdiv 2 ∧ a.tdiv 2 ≤ B := by
  have : (a.tdiv 2).natAbs ≤ a.natAbs := by rw [Int.natAbs_tdiv]; exact Nat.div_le_self _ _
  omega

theorem sum115 {hv : AV} {h : List (List Int)} {m i j : Nat} (ht : IsTab hv h) (hh : Hts m h) (hm : m ≤ 20) (hi : i < m) (hj : j < m) : freeX H (callL EV Y 115 [hv, vI i, vI j] []) = some (vI (sH h i j), H) := by
  have h1 : i < h.length := by rw [hh.len]; exact hi
  have h2 : j < h[i].length := by rw [hh.rl h1]; exact hj
  have r1 := ht.row h1
  rw [getD_get h1] at r1
  have g1 : h[i].getD j 0 = at2 h i j := by unfold at2; rw [getD_get h1]
  have hb := hh.at hi hj
  have w1 : IntKind.wrap .i64 ((i : Int) + j) = i + j := wrap_id (by omega) (by omega)
  have w2 : IntKind.wrap .i64 ((i : Int) + j - at2 h i j) = i + j - at2 h i j := wrap_id (by omega) (by omega)
  have hb2 := tdiv2_b (a := (i : Int) + j - at2 h i j) (B := 200) (by omega)
  have w3 : IntKind.wrap .i64 (((i : Int) + j - at2 h i j).tdiv 2) = sH h i j := wrap_id (by omega) (by omega)
  rw [call115 rfl]
  simp only [F115B, SS, insA, wantedA, Opd.ev, putA, binA, eqbA, unA, fldA, partA, reduceIte, reduceCtorEq, Nat.reduceMod, Nat.reduceDiv, Nat.reduceBEq, resultA, resA, vI, Nat.reduceMul, Nat.reduceAdd, Nat.reduceSub, Nat.reduceEqDiff, Nat.reduceLT, Nat.reducePow, Nat.reduceLeDiff, st, Option.bind_eq_bind, Option.pure_def, List.length_nil, Int.cast_ofNat_Int, List.reverse_nil, UU, idxP, cellsAt, storeA, fillA, zerosA, putAll, optNat, sliceA, row, Int.reduceLT, Int.reduceLE, Int.reduceGT, Int.reduceGE, Int.reduceEq, Int.reduceNe, Int.reduceToNat, Int.reduceBEq, Int.reduceBNe, Nat.reduceLeDiff, Nat.reduceLT, Nat.reduceBNe, Nat.reduceGT, List.drop_nil, List.take_nil, Option.isSome_none, Int.ofNat_one, Int.ofNat_zero, ht.idx h1, ht.load h1, r1.idx h2, r1.load h2, g1, w1, w2, w3, and_self, ne_eq, not_false_eq_true, Int.reduceEq]

theorem sH_b {h : List (List Int)} {m i j : Nat} (hh : Hts m h) (hm : m ≤ 20) (hi : i < m) (hj : j < m) : -200 ≤ sH h i j ∧ sH h i j ≤ 200 := by
  have hb := hh.at hi hj
  exact tdiv2_b (by omega)

theorem of90 {hv : AV} {h : List (List Int)} {m i j : Nat} {s : Bool} {cs : List AV} (ht : IsTab hv h) (hh : Hts (m + 1) h) (hm : m + 1 ≤ 20) (hi : i < m) (hj : j < m) :
    freeX H (callL EV Y 90 [vI i, vI j, .cptr s (.iface 59 hv :: cs)] []) = some (vI (ofF h i j), H) := by
  have k1 := fun H => sum115 (Y := Y) (H := H) (i := i + 1) (j := j + 1) ht hh hm (by omega) (by omega)
  have k2 := fun H => sum115 (Y := Y) (H := H) (i := i) (j := j + 1) ht hh hm (by omega) (by omega)
  have k3 := fun H => sum115 (Y := Y) (H := H) (i := i + 1) (j := j) ht hh hm (by omega) (by omega)
  have k4 := fun H => sum115 (Y := Y) (H := H) (i := i) (j := j) ht hh hm (by omega) (by omega)
  have b1 := sH_b (i := i + 1) (j := j + 1) hh hm (by omega) (by omega)
  have b2 := sH_b (i := i) (j := j + 1) hh hm (by omega) (by omega)
  have b3 := sH_b (i := i + 1) (j := j) hh hm (by omega) (by omega)
  have b4 := sH_b (i := i) (j := j) hh hm (by omega) (by omega)
  have w1 := wrap_succ (n := i) (by omega)
  have w2 := wrap_succ (n := j) (by omega)
  have w3 : IntKind.wrap .i64 (sH h (i + 1) (j + 1) - sH h i (j + 1)) = sH h (i + 1) (j + 1) - sH h i (j + 1) := wrap_id (by omega) (by omega)
  have w4 : IntKind.wrap .i64 (sH h (i + 1) (j + 1) - sH h i (j + 1) - sH h (i + 1) j) = sH h (i + 1) (j + 1) - sH h i (j + 1) - sH h (i + 1) j := wrap_id (by omega) (by omega)
  have w5 : IntKind.wrap .i64 (sH h (i + 1) (j + 1) - sH h i (j + 1) - sH h (i + 1) j + sH h i j) = ofF h i j := wrap_id (by omega) (by omega)
  have e3 : ∀ (k : Nat), 1 ≤ k + 1 := fun k => by omega
  rw [call90 rfl]
  simp only [SS, insA, wantedA, Opd.ev, putA, binA, eqbA, unA, fldA, partA, reduceIte, reduceCtorEq, Nat.reduceMod, Nat.reduceDiv, Nat.reduceBEq, resultA, resA, vI, Nat.reduceMul, Nat.reduceAdd, Nat.reduceSub, Nat.reduceEqDiff, Nat.reduceLT, Nat.reducePow, Nat.reduceLeDiff, st, Option.bind_eq_bind, Option.pure_def, List.length_nil, Int.cast_ofNat_Int, List.reverse_nil] at k1 k2 k3 k4
  simp only [F90B, SS, insA, wantedA, Opd.ev, putA, binA, eqbA, unA, fldA, partA, reduceIte, reduceCtorEq, Nat.reduceMod, Nat.reduceDiv, Nat.reduceBEq, resultA, resA, vI, Nat.reduceMul, Nat.reduceAdd, Nat.reduceSub, Nat.reduceEqDiff, Nat.reduceLT, Nat.reducePow, Nat.reduceLeDiff, st, Option.bind_eq_bind, Option.pure_def, List.length_nil, Int.cast_ofNat_Int, List.reverse_nil, UU, idxP, cellsAt, storeA, fillA, zerosA, putAll, optNat, sliceA, row, Int.reduceLT, Int.reduceLE, Int.reduceGT, Int.reduceGE, Int.reduceEq, Int.reduceNe, Int.reduceToNat, Int.reduceBEq, Int.reduceBNe, Nat.reduceLeDiff, Nat.reduceLT, Nat.reduceBNe, Nat.reduceGT, List.drop_nil, List.take_nil, Option.isSome_none, Int.ofNat_one, Int.ofNat_zero, e3, lk59, ht.snap, w1, w2, k1, k2, k3, k4, w3, w4, w5]

theorem size91 {hv : AV} {h : List (List Int)} {m : Nat} (ht : IsTab hv h) (hl : h.length = m + 1) (hm : m ≤ 20) : freeX H (callL EV Y 91 [hv] []) = some (vI m, H) := by
  have hl2 := ht.len
  rw [hl] at hl2
  have w1 : IntKind.wrap .i64 (((m + 1 : Nat) : Int) - 1) = m := by rw [wrap_id (by omega) (by omega)]; omega
  rw [call91 rfl]
  simp only [F91B, SS, insA, wantedA, Opd.ev, putA, binA, eqbA, unA, fldA, partA, reduceIte, reduceCtorEq, Nat.reduceMod, Nat.reduceDiv, Nat.reduceBEq, resultA, resA, vI, Nat.reduceMul, Nat.reduceAdd, Nat.reduceSub, Nat.reduceEqDiff, Nat.reduceLT, Nat.reducePow, Nat.reduceLeDiff, st, Option.bind_eq_bind, Option.pure_def, List.length_nil, Int.cast_ofNat_Int, List.reverse_nil, UU, idxP, cellsAt, storeA, fillA, zerosA, putAll, optNat, sliceA, row, Int.reduceLT, Int.reduceLE, Int.reduceGT, Int.reduceGE, Int.reduceEq, Int.reduceNe, Int.reduceToNat, Int.reduceBEq, Int.reduceBNe, Nat.reduceLeDiff, Nat.reduceLT, Nat.reduceBNe, Nat.reduceGT, List.drop_nil, List.take_nil, Option.isSome_none, Int.ofNat_one, Int.ofNat_zero, hl2, w1]

/-- A table that is handed out for good. -/
def Out (Y : Run) (f : Nat) (args : List AV) (t : List (List Int)) : Prop := ∃ w, IsTab w t ∧ (∀ H, freeX H (callL EV Y f args []) = some (w, H)) ∧ ∀ H n, freeA H (n + 1) w = some w

theorem out_of {Y : Run} {f k : Nat} {args : List AV} {t : List (List Int)} {v : AV} {R : Heap} {cells : List AV} (h : callL EV Y f args [] = some (v, R)) (hT : HTab k R v t cells) : Out Y f args t := by
  obtain ⟨⟨w, o1, o2⟩, _⟩ := hT.out (d := 3)
  refine ⟨w, o2, fun H => ?_, fun H n => hT.free_idem o1 H n⟩
  rw [h, freeX_some]
  rw [show (6 : Nat) = 3 + 3 from rfl, o1]; rfl

theorem of72 {hv : AV} {h : List (List Int)} {m : Nat} (ht : IsTab hv h) (hh : Hts (m + 1) h) (hm : m + 1 ≤ 20) : Out Y 72 [.iface 59 hv] (tabF m (ofF h)) := by
  have hsz := fun H => size91 (Y := Y) (H := H) ht hh.len (by omega)
  have hc1 : ∀ H, [AV.cptr true [.iface 59 hv]].mapM (snapA H 6) = some [.cptr true [.iface 59 hv]] := fun H => rfl
  obtain ⟨v, R, cells, m1, m2⟩ := made69 (Y := Y) (n := m) (g := 90) (f := ofF h) (caps := [.cptr true [.iface 59 hv]]) (by omega) hc1
    (fun i j hi hj H => of90 ht hh hm hi hj)
  have hsi : ∀ H n, snapA H (n + 2) (.iface 59 hv) = some (.iface 59 hv) := fun H n => by rw [snap_ifc, ht.snap]; rfl
  have hsn : snapA [⟨0, [.iface 59 hv]⟩] 6 (.fn 90 [.ptr 0 0 0]) = some (.fn 90 [.cptr true [.iface 59 hv]]) := snap_fnptr (by simp) (hsi _ _)
  obtain ⟨v', H', cells', q1, q2, q3⟩ := call_tab (H := [⟨0, [.iface 59 hv]⟩]) (R := callL EV Y) (f := 69) (args := [vI (m : Int), .fn 90 [.ptr 0 0 0]]) (bs := [vI (m : Int), .fn 90 [.cptr true [.iface 59 hv]]]) (by
    rw [mapM_cons', mapM_cons', hsn]; rfl) m1 m2
  refine out_of (v := v') (R := H') ?_ q2
  rw [call72 rfl]
  simp only [SS, insA, wantedA, Opd.ev, putA, binA, eqbA, unA, fldA, partA, reduceIte, reduceCtorEq, Nat.reduceMod, Nat.reduceDiv, Nat.reduceBEq, resultA, resA, vI, Nat.reduceMul, Nat.reduceAdd, Nat.reduceSub, Nat.reduceEqDiff, Nat.reduceLT, Nat.reducePow, Nat.reduceLeDiff, st, Option.bind_eq_bind, Option.pure_def, List.length_nil, Int.cast_ofNat_Int, List.reverse_nil] at q1 hsz
  simp only [F72B, SS, insA, wantedA, Opd.ev, putA, binA, eqbA, unA, fldA, partA, reduceIte, reduceCtorEq, Nat.reduceMod, Nat.reduceDiv, Nat.reduceBEq, resultA, resA, vI, Nat.reduceMul, Nat.reduceAdd, Nat.reduceSub, Nat.reduceEqDiff, Nat.reduceLT, Nat.reducePow, Nat.reduceLeDiff, st, Option.bind_eq_bind, Option.pure_def, List.length_nil, Int.cast_ofNat_Int, List.reverse_nil, UU, idxP, cellsAt, fillA, zerosA, putAll, row, Int.reduceLT, Int.reduceLE, Int.reduceGT, Int.reduceGE, Int.reduceEq, Int.reduceNe, Int.reduceToNat, Int.reduceBEq, Int.reduceBNe, Nat.reduceLeDiff, Nat.reduceLT, Nat.reduceBNe, Nat.reduceGT, List.drop_nil, List.take_nil, Option.isSome_none, Int.ofNat_one, Int.ofNat_zero, lk59, hsi, ht.snap, hsz, q1, isU, cellsOf]

/-! ### The specification's table -/
theorem tabH_b {h : List (List Int)} {m i j : Nat} (hh : Hts (m + 1) h) (hi : i < m) (hj : j < m) : -400 ≤ at2 h i (j + 1) + at2 h (i + 1) j - at2 h i j - at2 h (i + 1) (j + 1) ∧ at2 h i (j + 1) + at2 h (i + 1) j - at2 h i j - at2 h (i + 1) (j + 1) ≤ 400 := by
  have b1 := hh.at (i := i) (j := j + 1) (by omega) (by omega)
  have b2 := hh.at (i := i + 1) (j := j) (by omega) (by omega)
  have b3 := hh.at (i := i) (j := j) (by omega) (by omega)
  have b4 := hh.at (i := i + 1) (j := j + 1) (by omega) (by omega)
  omega

theorem L73_0 {hv v : AV} {h : List (List Int)} {m i : Nat} (ht : IsTab hv h) (hh : Hts (m + 1) h) (hm : m ≤ 19) (hi : i < m) (d : Nat) : ∀ (j : Nat) (R : Heap) (q : List (List Int)) (cells : List AV), j + d = m →
    HTab 0 R v q cells → Fill m (tabH h) q i j →
    ∃ R' q', lp EV Y F73L0 (sp 65 [(6, vI j), (5, vI i), (4, v), (3, vI m), (0, hv)]) R = some (.x 2, sp 65 [(5, vI i), (4, v), (3, vI m), (0, hv)], R') ∧ HTab 0 R' v q' cells ∧ Fill m (tabH h) q' i m := by
  induction d with
  | zero =>
    intro j R q cells hj hT hF
    have : ¬ ((j : Int) < (m : Int)) := by omega
    refine ⟨R, q, ?_, hT, by rwa [show j = m by omega] at hF⟩
    rw [un73_0]
    simp only [F73L0b, SS, insA, wantedA, Opd.ev, putA, binA, eqbA, unA, fldA, partA, reduceIte, reduceCtorEq, Nat.reduceMod, Nat.reduceDiv, Nat.reduceBEq, resultA, resA, vI, Nat.reduceMul, Nat.reduceAdd, Nat.reduceSub, Nat.reduceEqDiff, Nat.reduceLT, Nat.reducePow, Nat.reduceLeDiff, st, Option.bind_eq_bind, Option.pure_def, List.length_nil, Int.cast_ofNat_Int, List.reverse_nil, UU, idxP, cellsAt, storeA, fillA, zerosA, putAll, optNat, sliceA, row, Int.reduceLT, Int.reduceLE, Int.reduceGT, Int.reduceGE, Int.reduceEq, Int.reduceNe, Int.reduceToNat, Int.reduceBEq, Int.reduceBNe, Nat.reduceLeDiff, Nat.reduceLT, Nat.reduceBNe, Nat.reduceGT, List.drop_nil, List.take_nil, Option.isSome_none, Int.ofNat_one, Int.ofNat_zero, this]
  | succ d ih =>
    intro j R q cells hj hT hF
    have hc : (j : Int) < (m : Int) := by omega
    have hww := wrap_succ (n := j) (by omega)
    have hwi := wrap_succ (n := i) (by omega)
    have i0 : i < h.length := by rw [hh.len]; omega
    have i1 : i + 1 < h.length := by rw [hh.len]; omega
    have j00 : j < h[i].length := by rw [hh.rl i0]; omega
    have j01 : j + 1 < h[i].length := by rw [hh.rl i0]; omega
    have j10 : j < h[i + 1].length := by rw [hh.rl i1]; omega
    have j11 : j + 1 < h[i + 1].length := by rw [hh.rl i1]; omega
    have r0 := ht.row i0
    have r1 := ht.row i1
    rw [getD_get i0] at r0
    rw [getD_get i1] at r1
    have g1 : h[i].getD (j + 1) 0 = at2 h i (j + 1) := by unfold at2; rw [getD_get i0]
    have g2 : h[i + 1].getD j 0 = at2 h (i + 1) j := by unfold at2; rw [getD_get i1]
    have g3 : h[i].getD j 0 = at2 h i j := by unfold at2; rw [getD_get i0]
    have g4 : h[i + 1].getD (j + 1) 0 = at2 h (i + 1) (j + 1) := by unfold at2; rw [getD_get i1]
    have b1 := hh.at (i := i) (j := j + 1) (by omega) (by omega)
    have b2 := hh.at (i := i + 1) (j := j) (by omega) (by omega)
    have b3 := hh.at (i := i) (j := j) (by omega) (by omega)
    have b4 := hh.at (i := i + 1) (j := j + 1) (by omega) (by omega)
    have hb2 := tdiv2_b (tabH_b hh hi (show j < m by omega))
    have w1 : IntKind.wrap .i64 (at2 h i (j + 1) + at2 h (i + 1) j) = at2 h i (j + 1) + at2 h (i + 1) j := wrap_id (by omega) (by omega)
    have w2 : IntKind.wrap .i64 (at2 h i (j + 1) + at2 h (i + 1) j - at2 h i j) = at2 h i (j + 1) + at2 h (i + 1) j - at2 h i j := wrap_id (by omega) (by omega)
    have w3 : IntKind.wrap .i64 (at2 h i (j + 1) + at2 h (i + 1) j - at2 h i j - at2 h (i + 1) (j + 1)) = at2 h i (j + 1) + at2 h (i + 1) j - at2 h i j - at2 h (i + 1) (j + 1) := wrap_id (by omega) (by omega)
    have w4 : IntKind.wrap .i64 ((at2 h i (j + 1) + at2 h (i + 1) j - at2 h i j - at2 h (i + 1) (j + 1)).tdiv 2) = tabH h i j := wrap_id (by omega) (by omega)
    have hiq : i < q.length := by rw [hF.len]; omega
    have hkq : j < q[i].length := by rw [hF.rlen hiq]; omega
    obtain ⟨id, o, s1, s2, s3⟩ := hT.store (x := tabH h i j) hiq hkq
    obtain ⟨R', q', p1, p2, p3⟩ := ih (j + 1) _ _ cells (by omega) s2 (hF.put hiq hkq)
    refine ⟨R', q', ?_, p2, p3⟩
    rw [un73_0]
    simp only [SS, insA, wantedA, Opd.ev, putA, binA, eqbA, unA, fldA, partA, reduceIte, reduceCtorEq, Nat.reduceMod, Nat.reduceDiv, Nat.reduceBEq, resultA, resA, vI, Nat.reduceMul, Nat.reduceAdd, Nat.reduceSub, Nat.reduceEqDiff, Nat.reduceLT, Nat.reducePow, Nat.reduceLeDiff, st, Option.bind_eq_bind, Option.pure_def, List.length_nil, Int.cast_ofNat_Int, List.reverse_nil] at p1 s1
    simp only [F73L0b, SS, insA, wantedA, Opd.ev, putA, binA, eqbA, unA, fldA, partA, reduceIte, reduceCtorEq, Nat.reduceMod, Nat.reduceDiv, Nat.reduceBEq, resultA, resA, vI, Nat.reduceMul, Nat.reduceAdd, Nat.reduceSub, Nat.reduceEqDiff, Nat.reduceLT, Nat.reducePow, Nat.reduceLeDiff, st, Option.bind_eq_bind, Option.pure_def, List.length_nil, Int.cast_ofNat_Int, List.reverse_nil, UU, idxP, cellsAt, fillA, zerosA, putAll, row, Int.reduceLT, Int.reduceLE, Int.reduceGT, Int.reduceGE, Int.reduceEq, Int.reduceNe, Int.reduceToNat, Int.reduceBEq, Int.reduceBNe, Nat.reduceLeDiff, Nat.reduceLT, Nat.reduceBNe, Nat.reduceGT, List.drop_nil, List.take_nil, Option.isSome_none, Int.ofNat_one, Int.ofNat_zero, hc, hww, hwi, hT.idx hiq, hT.load hiq, hT.idx2 hiq hkq, ht.idx i0, ht.load i0, ht.idx i1, ht.load i1, r0.idx j00, r0.load j00, r0.idx j01, r0.load j01, r1.idx j10, r1.load j10, r1.idx j11, r1.load j11, g1, g2, g3, g4, w1, w2, w3, w4, s1, p1, and_self, ne_eq, not_false_eq_true, Int.reduceEq]

theorem L73_1 {hv v : AV} {h : List (List Int)} {m : Nat} (ht : IsTab hv h) (hh : Hts (m + 1) h) (hm : m ≤ 19) (d : Nat) : ∀ (i : Nat) (R : Heap) (q : List (List Int)) (cells : List AV), i + d = m →
    HTab 0 R v q cells → Fill m (tabH h) q i 0 →
    ∃ R', lp EV Y F73L1 (sp 65 [(5, vI i), (4, v), (3, vI m), (0, hv)]) R = some (.x 0, sp 65 [(4, v)], R') ∧ HTab 0 R' v (tabF m (tabH h)) cells := by
  induction d with
  | zero =>
    intro i R q cells hi hT hF
    have : ¬ ((i : Int) < (m : Int)) := by omega
    have e : q = tabF m (tabH h) := Fill.done (by rwa [show i = m by omega] at hF)
    refine ⟨R, ?_, by rw [← e]; exact hT⟩
    rw [un73_1]
    simp only [F73L1b, SS, insA, wantedA, Opd.ev, putA, binA, eqbA, unA, fldA, partA, reduceIte, reduceCtorEq, Nat.reduceMod, Nat.reduceDiv, Nat.reduceBEq, resultA, resA, vI, Nat.reduceMul, Nat.reduceAdd, Nat.reduceSub, Nat.reduceEqDiff, Nat.reduceLT, Nat.reducePow, Nat.reduceLeDiff, st, Option.bind_eq_bind, Option.pure_def, List.length_nil, Int.cast_ofNat_Int, List.reverse_nil, UU, idxP, cellsAt, storeA, fillA, zerosA, putAll, optNat, sliceA, row, Int.reduceLT, Int.reduceLE, Int.reduceGT, Int.reduceGE, Int.reduceEq, Int.reduceNe, Int.reduceToNat, Int.reduceBEq, Int.reduceBNe, Nat.reduceLeDiff, Nat.reduceLT, Nat.reduceBNe, Nat.reduceGT, List.drop_nil, List.take_nil, Option.isSome_none, Int.ofNat_one, Int.ofNat_zero, this]
  | succ d ih =>
    intro i R q cells hi hT hF
    have hc : (i : Int) < (m : Int) := by omega
    have hww := wrap_succ (n := i) (by omega)
    obtain ⟨R1, q1, a1, a2, a3⟩ := L73_0 (Y := Y) (v := v) ht hh hm (show i < m by omega) m 0 R q cells (by omega) hT hF
    obtain ⟨R', p1, p2⟩ := ih (i + 1) R1 q1 cells (by omega) a2 a3.next
    refine ⟨R', ?_, p2⟩
    rw [un73_1]
    simp only [SS, insA, wantedA, Opd.ev, putA, binA, eqbA, unA, fldA, partA, reduceIte, reduceCtorEq, Nat.reduceMod, Nat.reduceDiv, Nat.reduceBEq, resultA, resA, vI, Nat.reduceMul, Nat.reduceAdd, Nat.reduceSub, Nat.reduceEqDiff, Nat.reduceLT, Nat.reducePow, Nat.reduceLeDiff, st, Option.bind_eq_bind, Option.pure_def, List.length_nil, Int.cast_ofNat_Int, List.reverse_nil, Int.ofNat_zero] at a1 p1
    simp only [F73L1b, F73T0, in73_0, SS, insA, wantedA, Opd.ev, putA, binA, eqbA, unA, fldA, partA, reduceIte, reduceCtorEq, Nat.reduceMod, Nat.reduceDiv, Nat.reduceBEq, resultA, resA, vI, Nat.reduceMul, Nat.reduceAdd, Nat.reduceSub, Nat.reduceEqDiff, Nat.reduceLT, Nat.reducePow, Nat.reduceLeDiff, st, Option.bind_eq_bind, Option.pure_def, List.length_nil, Int.cast_ofNat_Int, List.reverse_nil, UU, idxP, cellsAt, storeA, fillA, zerosA, putAll, optNat, sliceA, row, Int.reduceLT, Int.reduceLE, Int.reduceGT, Int.reduceGE, Int.reduceEq, Int.reduceNe, Int.reduceToNat, Int.reduceBEq, Int.reduceBNe, Nat.reduceLeDiff, Nat.reduceLT, Nat.reduceBNe, Nat.reduceGT, List.drop_nil, List.take_nil, Option.isSome_none, Int.ofNat_one, Int.ofNat_zero, hc, a1, hww, p1]

theorem table73 {hv : AV} {h : List (List Int)} {m : Nat} (ht : IsTab hv h) (hh : Hts (m + 1) h) (hm : m ≤ 19) : Out Y 73 [hv] (tabF m (tabH h)) := by
  obtain ⟨v0, R0, c0, z1, z2⟩ := zeros54 (Y := Y) (n := m) (by omega)
  obtain ⟨v, R, cells, q1, q2, q3⟩ := call_tab (H := []) (R := callL EV Y) (f := 54) (args := [vI (m : Int)]) (bs := [vI (m : Int)]) rfl z1 z2
  obtain ⟨R', p1, p2⟩ := L73_1 (Y := Y) ht hh hm m 0 R _ cells (by omega) q2 Fill.zero
  refine out_of (v := v) (R := R') ?_ p2
  have hl := ht.len
  rw [hh.len] at hl
  have w1 : IntKind.wrap .i64 (((m + 1 : Nat) : Int) - 1) = m := by rw [wrap_id (by omega) (by omega)]; omega
  rw [call73 rfl]
  simp only [SS, insA, wantedA, Opd.ev, putA, binA, eqbA, unA, fldA, partA, reduceIte, reduceCtorEq, Nat.reduceMod, Nat.reduceDiv, Nat.reduceBEq, resultA, resA, vI, Nat.reduceMul, Nat.reduceAdd, Nat.reduceSub, Nat.reduceEqDiff, Nat.reduceLT, Nat.reducePow, Nat.reduceLeDiff, st, Option.bind_eq_bind, Option.pure_def, List.length_nil, Int.cast_ofNat_Int, List.reverse_nil, Int.ofNat_zero] at q1 p1
  simp only [F73B, F73T1, in73_1, SS, insA, wantedA, Opd.ev, putA, binA, eqbA, unA, fldA, partA, reduceIte, reduceCtorEq, Nat.reduceMod, Nat.reduceDiv, Nat.reduceBEq, resultA, resA, vI, Nat.reduceMul, Nat.reduceAdd, Nat.reduceSub, Nat.reduceEqDiff, Nat.reduceLT, Nat.reducePow, Nat.reduceLeDiff, st, Option.bind_eq_bind, Option.pure_def, List.length_nil, Int.cast_ofNat_Int, List.reverse_nil, UU, idxP, cellsAt, storeA, fillA, zerosA, putAll, optNat, sliceA, row, Int.reduceLT, Int.reduceLE, Int.reduceGT, Int.reduceGE, Int.reduceEq, Int.reduceNe, Int.reduceToNat, Int.reduceBEq, Int.reduceBNe, Nat.reduceLeDiff, Nat.reduceLT, Nat.reduceBNe, Nat.reduceGT, List.drop_nil, List.take_nil, Option.isSome_none, Int.ofNat_one, Int.ofNat_zero, hl, w1, q1, p1]

/-! ### Both are the same where the numbers are even -/
def Even2 (m : Nat) (h : List (List Int)) : Prop := ∀ i j, i < m → j < m → ∃ s : Int, (i : Int) + j - at2 h i j = 2 * s
theorem sH_even {h : List (List Int)} {m i j : Nat} {s : Int} (e : (i : Int) + j - at2 h i j = 2 * s) : sH h i j = s := by
  unfold sH; rw [e, Int.mul_tdiv_cancel_left _ (by decide)]
theorem of_same {h : List (List Int)} {m : Nat} (he : Even2 (m + 1) h) : tabF m (ofF h) = tabF m (tabH h) := by
  unfold tabF
  refine List.map_congr_left fun i hi => List.map_congr_left fun j hj => ?_
  rw [List.mem_range] at hi hj
  obtain ⟨a, ha⟩ := he (i + 1) (j + 1) (by omega) (by omega)
  obtain ⟨b, hb⟩ := he i (j + 1) (by omega) (by omega)
  obtain ⟨c, hc⟩ := he (i + 1) j (by omega) (by omega)
  obtain ⟨d, hd⟩ := he i j (by omega) (by omega)
  unfold ofF tabH
  rw [sH_even (m := m) ha, sH_even (m := m) hb, sH_even (m := m) hc, sH_even (m := m) hd]
  have : at2 h i (j + 1) + at2 h (i + 1) j - at2 h i j - at2 h (i + 1) (j + 1) = 2 * (a - b - c + d) := by omega
  rw [this, Int.mul_tdiv_cancel_left _ (by decide)]

theorem at2_tabF {m i j : Nat} {f : Nat → Nat → Int} (hi : i < m) (hj : j < m) : at2 (tabF m f) i j = f i j := by
  have h1 : i < (tabF m f).length := by rw [tabF_len]; exact hi
  unfold at2
  rw [getD_get h1, tabF_row h1, getD_get (by simpa using hj)]
  simp
theorem hgt_hts {t : List (List Int)} (hv : Veil t) : Hts (t.length + 1) (tabF (t.length + 1) (hgt t)) := by
  refine ⟨tabF_len, tabF_mem, fun r hr x hx => ?_⟩
  have h5 := hv.n5
  simp only [tabF, List.mem_map, List.mem_range] at hr
  obtain ⟨i, hi, rfl⟩ := hr
  simp only [List.mem_map, List.mem_range] at hx
  obtain ⟨j, hj, rfl⟩ := hx
  have h1 := sumF_bound (f := fun a => rowS t a j) (B := 5) (fun a => by
    unfold rowS
    by_cases ha : a < t.length
    · rw [getD_get ha]
      have := sumI_bound ((hv.unit _ (List.getElem_mem ha)).take j)
      have h2 : (t[a].take j).length ≤ 5 := by have := hv.row _ (List.getElem_mem ha); simp; omega
      omega
    · rw [List.getD_eq_getElem?_getD, List.getElem?_eq_none (by omega)]; simp [sumI]) i 0
  rw [← sumV_F (by omega)] at h1
  have h3 : (i : Int) ≤ 5 := by omega
  unfold hgt
  omega
theorem hgt_even {t : List (List Int)} : Even2 (t.length + 1) (tabF (t.length + 1) (hgt t)) := fun i j hi hj => ⟨sumV t i j, by rw [at2_tabF hi hj]; unfold hgt; omega⟩
end
end Go.X
