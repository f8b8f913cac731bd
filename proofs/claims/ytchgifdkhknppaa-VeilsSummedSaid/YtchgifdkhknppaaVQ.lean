import Derived.Test.YtchgifdkhknppaaVP
/-! Veils: Turn and Gyrate, both ways. -/
set_option linter.unusedSimpArgs false
set_option linter.unusedVariables false
set_option maxHeartbeats 4000000
set_option maxRecDepth 10000
namespace Go.X
open Go Go.RowKit
section
variable {Y : Run} {H : Heap}

theorem wrap_pred {i : Nat} (h1 : 1 ≤ i) (h2 : i < 4611686018427387904) : IntKind.wrap .i64 ((i : Int) - 1) = ((i - 1 : Nat) : Int) := by
  rw [wrap_id (by omega) (by omega)]; omega

theorem HTab.setT {k a b : Nat} {R : Heap} {v : AV} {h : List (List Int)} {cells : List AV} {x : Int} (hT : HTab k R v h cells) (b1 : a < h.length) (b2 : b < h[a].length) :
    ∃ id o, storeA R 1 (gptr 1 (cells.getD a .undef) b) (vI x) = some (R.set id o) ∧ HTab k (R.set id o) v (Go.X.setT h a b x) cells ∧ k ≤ id := by
  obtain ⟨id, o, s1, s2, s3⟩ := hT.store (x := x) b1 b2
  exact ⟨id, o, s1, by unfold Go.X.setT; rw [getD_get b1]; exact s2, s3⟩

/-- A number of a table that does not change. -/
structure Cell (hv : AV) (h : List (List Int)) (i j : Nat) : Prop where
  i1 : i < h.length
  j1 : j < h[i].length
theorem Cell.idx {hv : AV} {h : List (List Int)} {i j : Nat} (c : Cell hv h i j) (ht : IsTab hv h) : idxA 1 hv (.int .i64 (i : Int)) = some (ptrAt hv i) := ht.idx c.i1
theorem Cell.load {hv : AV} {h : List (List Int)} {i j : Nat} (c : Cell hv h i j) (ht : IsTab hv h) : loadA H none (ptrAt hv i) = some (cellAt hv i) := ht.load c.i1
theorem Cell.idx2 {hv : AV} {h : List (List Int)} {i j : Nat} (c : Cell hv h i j) (ht : IsTab hv h) : idxA 1 (cellAt hv i) (.int .i64 (j : Int)) = some (ptrAt (cellAt hv i) j) := by
  have r := ht.row c.i1
  rw [getD_get c.i1] at r
  exact r.idx c.j1
theorem Cell.load2 {hv : AV} {h : List (List Int)} {i j : Nat} (c : Cell hv h i j) (ht : IsTab hv h) : loadA H none (ptrAt (cellAt hv i) j) = some (vI (at2 h i j)) := by
  have r := ht.row c.i1
  rw [getD_get c.i1] at r
  rw [r.load c.j1]
  unfold at2; rw [getD_get c.i1]
theorem Steep.cel {n : Nat} {h : List (List Int)} (S : Steep n h) (hv : AV) {i j : Nat} (hi : i ≤ n) (hj : j ≤ n) : Cell hv h i j := by
  obtain ⟨a, b⟩ := S.in hi hj; exact ⟨a, b⟩

theorem free74 {hv : AV} {h : List (List Int)} {n i j : Nat} (ht : IsTab hv h) (S : Steep n h) (hi : 1 ≤ i ∧ i < n) (hj : 1 ≤ j ∧ j < n) :
    freeX H (callL EV Y 74 [hv, vI i, vI j] []) = some (if fridB h i j = true then .tup [vI (turnV h i j), .bool true] else .tup [vI 0, .bool false], H) := by
  have h5 := S.n5
  have c0 := S.cel hv (i := i - 1) (j := j) (by omega) (by omega)
  have c1 := S.cel hv (i := i + 1) (j := j) (by omega) (by omega)
  have c2 := S.cel hv (i := i) (j := j - 1) (by omega) (by omega)
  have c3 := S.cel hv (i := i) (j := j + 1) (by omega) (by omega)
  have c4 := S.cel hv (i := i) (j := j) (by omega) (by omega)
  have w1 := wrap_pred (i := i) hi.1 (by omega)
  have w2 := wrap_pred (i := j) hj.1 (by omega)
  have w3 := wrap_succ (n := i) (by omega)
  have w4 := wrap_succ (n := j) (by omega)
  have b0 := S.hts.at (i := i - 1) (j := j) (by omega) (by omega)
  have b4 := S.hts.at (i := i) (j := j) (by omega) (by omega)
  have w5 : IntKind.wrap .i64 (2 * at2 h (i - 1) j) = 2 * at2 h (i - 1) j := wrap_id (by omega) (by omega)
  have w6 : IntKind.wrap .i64 (2 * at2 h (i - 1) j - at2 h i j) = turnV h i j := wrap_id (by omega) (by omega)
  rw [call74 rfl]
  unfold fridB
  by_cases d1 : at2 h (i + 1) j = at2 h (i - 1) j
  · have d1' : (at2 h (i + 1) j != at2 h (i - 1) j) = false := by simp [d1]
    by_cases d2 : at2 h i (j - 1) = at2 h (i - 1) j
    · have d2' : (at2 h i (j - 1) != at2 h (i - 1) j) = false := by simp [d2]
      by_cases d3 : at2 h i (j + 1) = at2 h (i - 1) j
      · have d3' : (at2 h i (j + 1) != at2 h (i - 1) j) = false := by simp [d3]
        rw [decide_eq_true d1, decide_eq_true d2, decide_eq_true d3]
        simp only [F74B, SS, insA, wantedA, Opd.ev, putA, binA, eqbA, unA, fldA, partA, reduceIte, reduceCtorEq, Nat.reduceMod, Nat.reduceDiv, Nat.reduceBEq, resultA, resA, vI, Nat.reduceMul, Nat.reduceAdd, Nat.reduceSub, Nat.reduceEqDiff, Nat.reduceLT, Nat.reducePow, Nat.reduceLeDiff, st, Option.bind_eq_bind, Option.pure_def, List.length_nil, Int.cast_ofNat_Int, List.reverse_nil, UU, idxP, cellsAt, storeA, fillA, zerosA, putAll, optNat, sliceA, row, Int.reduceLT, Int.reduceLE, Int.reduceGT, Int.reduceGE, Int.reduceEq, Int.reduceNe, Int.reduceToNat, Int.reduceBEq, Int.reduceBNe, Nat.reduceLeDiff, Nat.reduceLT, Nat.reduceBNe, Nat.reduceGT, List.drop_nil, List.take_nil, Option.isSome_none, Int.ofNat_one, Int.ofNat_zero, c0.idx ht, c0.load ht, c0.idx2 ht, c0.load2 ht, c1.idx ht, c1.load ht, c1.idx2 ht, c1.load2 ht, c2.idx ht, c2.load ht, c2.idx2 ht, c2.load2 ht, c3.idx2 ht, c3.load2 ht, c4.idx2 ht, c4.load2 ht, w1, w2, w3, w4, w5, w6, d1', d2', d3', Bool.and_self]
      · have d3' : (at2 h i (j + 1) != at2 h (i - 1) j) = true := by simp [d3]
        rw [decide_eq_true d1, decide_eq_true d2, decide_eq_false d3]
        simp only [F74B, SS, insA, wantedA, Opd.ev, putA, binA, eqbA, unA, fldA, partA, reduceIte, reduceCtorEq, Nat.reduceMod, Nat.reduceDiv, Nat.reduceBEq, resultA, resA, vI, Nat.reduceMul, Nat.reduceAdd, Nat.reduceSub, Nat.reduceEqDiff, Nat.reduceLT, Nat.reducePow, Nat.reduceLeDiff, st, Option.bind_eq_bind, Option.pure_def, List.length_nil, Int.cast_ofNat_Int, List.reverse_nil, UU, idxP, cellsAt, storeA, fillA, zerosA, putAll, optNat, sliceA, row, Int.reduceLT, Int.reduceLE, Int.reduceGT, Int.reduceGE, Int.reduceEq, Int.reduceNe, Int.reduceToNat, Int.reduceBEq, Int.reduceBNe, Nat.reduceLeDiff, Nat.reduceLT, Nat.reduceBNe, Nat.reduceGT, List.drop_nil, List.take_nil, Option.isSome_none, Int.ofNat_one, Int.ofNat_zero, c0.idx ht, c0.load ht, c0.idx2 ht, c0.load2 ht, c1.idx ht, c1.load ht, c1.idx2 ht, c1.load2 ht, c2.idx ht, c2.load ht, c2.idx2 ht, c2.load2 ht, c3.idx2 ht, c3.load2 ht, w1, w2, w3, w4, d1', d2', d3', Bool.and_false, Bool.false_eq_true]
    · have d2' : (at2 h i (j - 1) != at2 h (i - 1) j) = true := by simp [d2]
      rw [decide_eq_true d1, decide_eq_false d2]
      simp only [F74B, SS, insA, wantedA, Opd.ev, putA, binA, eqbA, unA, fldA, partA, reduceIte, reduceCtorEq, Nat.reduceMod, Nat.reduceDiv, Nat.reduceBEq, resultA, resA, vI, Nat.reduceMul, Nat.reduceAdd, Nat.reduceSub, Nat.reduceEqDiff, Nat.reduceLT, Nat.reducePow, Nat.reduceLeDiff, st, Option.bind_eq_bind, Option.pure_def, List.length_nil, Int.cast_ofNat_Int, List.reverse_nil, UU, idxP, cellsAt, storeA, fillA, zerosA, putAll, optNat, sliceA, row, Int.reduceLT, Int.reduceLE, Int.reduceGT, Int.reduceGE, Int.reduceEq, Int.reduceNe, Int.reduceToNat, Int.reduceBEq, Int.reduceBNe, Nat.reduceLeDiff, Nat.reduceLT, Nat.reduceBNe, Nat.reduceGT, List.drop_nil, List.take_nil, Option.isSome_none, Int.ofNat_one, Int.ofNat_zero, c0.idx ht, c0.load ht, c0.idx2 ht, c0.load2 ht, c1.idx ht, c1.load ht, c1.idx2 ht, c1.load2 ht, c2.idx ht, c2.load ht, c2.idx2 ht, c2.load2 ht, w1, w2, w3, w4, d1', d2', Bool.and_false, Bool.false_and, Bool.false_eq_true]
  · have d1' : (at2 h (i + 1) j != at2 h (i - 1) j) = true := by simp [d1]
    rw [decide_eq_false d1]
    simp only [F74B, SS, insA, wantedA, Opd.ev, putA, binA, eqbA, unA, fldA, partA, reduceIte, reduceCtorEq, Nat.reduceMod, Nat.reduceDiv, Nat.reduceBEq, resultA, resA, vI, Nat.reduceMul, Nat.reduceAdd, Nat.reduceSub, Nat.reduceEqDiff, Nat.reduceLT, Nat.reducePow, Nat.reduceLeDiff, st, Option.bind_eq_bind, Option.pure_def, List.length_nil, Int.cast_ofNat_Int, List.reverse_nil, UU, idxP, cellsAt, storeA, fillA, zerosA, putAll, optNat, sliceA, row, Int.reduceLT, Int.reduceLE, Int.reduceGT, Int.reduceGE, Int.reduceEq, Int.reduceNe, Int.reduceToNat, Int.reduceBEq, Int.reduceBNe, Nat.reduceLeDiff, Nat.reduceLT, Nat.reduceBNe, Nat.reduceGT, List.drop_nil, List.take_nil, Option.isSome_none, Int.ofNat_one, Int.ofNat_zero, c0.idx ht, c0.load ht, c0.idx2 ht, c0.load2 ht, c1.idx ht, c1.load ht, c1.idx2 ht, c1.load2 ht, w1, w3, d1', Bool.false_and, Bool.false_eq_true]

theorem free76 {hv : AV} {h : List (List Int)} {n i j : Nat} (ht : IsTab hv h) (S : Steep n h) (hi : 1 ≤ i ∧ i < n) (hj : 1 ≤ j ∧ j < n) :
    freeX H (callL EV Y 76 [hv, vI i, vI j] []) = some (.tup [vI (turnV h i j), .bool (fridB h i j)], H) := by
  have h5 := S.n5
  have c0 := S.cel hv (i := i - 1) (j := j) (by omega) (by omega)
  have c1 := S.cel hv (i := i + 1) (j := j) (by omega) (by omega)
  have c2 := S.cel hv (i := i) (j := j - 1) (by omega) (by omega)
  have c3 := S.cel hv (i := i) (j := j + 1) (by omega) (by omega)
  have c4 := S.cel hv (i := i) (j := j) (by omega) (by omega)
  have w1 := wrap_pred (i := i) hi.1 (by omega)
  have w2 := wrap_pred (i := j) hj.1 (by omega)
  have w3 := wrap_succ (n := i) (by omega)
  have w4 := wrap_succ (n := j) (by omega)
  have b0 := S.hts.at (i := i - 1) (j := j) (by omega) (by omega)
  have b4 := S.hts.at (i := i) (j := j) (by omega) (by omega)
  have w5 : IntKind.wrap .i64 (2 * at2 h (i - 1) j) = 2 * at2 h (i - 1) j := wrap_id (by omega) (by omega)
  have w6 : IntKind.wrap .i64 (2 * at2 h (i - 1) j - at2 h i j) = turnV h i j := wrap_id (by omega) (by omega)
  rw [call76 rfl]
  unfold fridB
  by_cases d1 : at2 h (i + 1) j = at2 h (i - 1) j
  · have d1' : (at2 h (i + 1) j == at2 h (i - 1) j) = true := by simp [d1]
    by_cases d2 : at2 h i (j - 1) = at2 h (i - 1) j
    · have d2' : (at2 h i (j - 1) == at2 h (i - 1) j) = true := by simp [d2]
      by_cases d3 : at2 h i (j + 1) = at2 h (i - 1) j
      · have d3' : (at2 h i (j + 1) == at2 h (i - 1) j) = true := by simp [d3]
        rw [decide_eq_true d1, decide_eq_true d2, decide_eq_true d3]
        simp only [F76B, SS, insA, wantedA, Opd.ev, putA, binA, eqbA, unA, fldA, partA, reduceIte, reduceCtorEq, Nat.reduceMod, Nat.reduceDiv, Nat.reduceBEq, resultA, resA, vI, Nat.reduceMul, Nat.reduceAdd, Nat.reduceSub, Nat.reduceEqDiff, Nat.reduceLT, Nat.reducePow, Nat.reduceLeDiff, st, Option.bind_eq_bind, Option.pure_def, List.length_nil, Int.cast_ofNat_Int, List.reverse_nil, UU, idxP, cellsAt, storeA, fillA, zerosA, putAll, optNat, sliceA, row, Int.reduceLT, Int.reduceLE, Int.reduceGT, Int.reduceGE, Int.reduceEq, Int.reduceNe, Int.reduceToNat, Int.reduceBEq, Int.reduceBNe, Nat.reduceLeDiff, Nat.reduceLT, Nat.reduceBNe, Nat.reduceGT, List.drop_nil, List.take_nil, Option.isSome_none, Int.ofNat_one, Int.ofNat_zero, c0.idx ht, c0.load ht, c0.idx2 ht, c0.load2 ht, c1.idx ht, c1.load ht, c1.idx2 ht, c1.load2 ht, c2.idx ht, c2.load ht, c2.idx2 ht, c2.load2 ht, c3.idx2 ht, c3.load2 ht, c4.idx2 ht, c4.load2 ht, w1, w2, w3, w4, w5, w6, d1', d2', d3', Bool.and_self]
      · have d3' : (at2 h i (j + 1) == at2 h (i - 1) j) = false := by simp [d3]
        rw [decide_eq_true d1, decide_eq_true d2, decide_eq_false d3]
        simp only [F76B, SS, insA, wantedA, Opd.ev, putA, binA, eqbA, unA, fldA, partA, reduceIte, reduceCtorEq, Nat.reduceMod, Nat.reduceDiv, Nat.reduceBEq, resultA, resA, vI, Nat.reduceMul, Nat.reduceAdd, Nat.reduceSub, Nat.reduceEqDiff, Nat.reduceLT, Nat.reducePow, Nat.reduceLeDiff, st, Option.bind_eq_bind, Option.pure_def, List.length_nil, Int.cast_ofNat_Int, List.reverse_nil, UU, idxP, cellsAt, storeA, fillA, zerosA, putAll, optNat, sliceA, row, Int.reduceLT, Int.reduceLE, Int.reduceGT, Int.reduceGE, Int.reduceEq, Int.reduceNe, Int.reduceToNat, Int.reduceBEq, Int.reduceBNe, Nat.reduceLeDiff, Nat.reduceLT, Nat.reduceBNe, Nat.reduceGT, List.drop_nil, List.take_nil, Option.isSome_none, Int.ofNat_one, Int.ofNat_zero, c0.idx ht, c0.load ht, c0.idx2 ht, c0.load2 ht, c1.idx ht, c1.load ht, c1.idx2 ht, c1.load2 ht, c2.idx ht, c2.load ht, c2.idx2 ht, c2.load2 ht, c3.idx2 ht, c3.load2 ht, c4.idx2 ht, c4.load2 ht, w1, w2, w3, w4, w5, w6, d1', d2', d3', Bool.and_false]
    · have d2' : (at2 h i (j - 1) == at2 h (i - 1) j) = false := by simp [d2]
      rw [decide_eq_true d1, decide_eq_false d2]
      simp only [F76B, SS, insA, wantedA, Opd.ev, putA, binA, eqbA, unA, fldA, partA, reduceIte, reduceCtorEq, Nat.reduceMod, Nat.reduceDiv, Nat.reduceBEq, resultA, resA, vI, Nat.reduceMul, Nat.reduceAdd, Nat.reduceSub, Nat.reduceEqDiff, Nat.reduceLT, Nat.reducePow, Nat.reduceLeDiff, st, Option.bind_eq_bind, Option.pure_def, List.length_nil, Int.cast_ofNat_Int, List.reverse_nil, UU, idxP, cellsAt, storeA, fillA, zerosA, putAll, optNat, sliceA, row, Int.reduceLT, Int.reduceLE, Int.reduceGT, Int.reduceGE, Int.reduceEq, Int.reduceNe, Int.reduceToNat, Int.reduceBEq, Int.reduceBNe, Nat.reduceLeDiff, Nat.reduceLT, Nat.reduceBNe, Nat.reduceGT, List.drop_nil, List.take_nil, Option.isSome_none, Int.ofNat_one, Int.ofNat_zero, c0.idx ht, c0.load ht, c0.idx2 ht, c0.load2 ht, c1.idx ht, c1.load ht, c1.idx2 ht, c1.load2 ht, c2.idx ht, c2.load ht, c2.idx2 ht, c2.load2 ht, c4.idx2 ht, c4.load2 ht, w1, w2, w3, w4, w5, w6, d1', d2', Bool.and_false, Bool.false_and]
  · have d1' : (at2 h (i + 1) j == at2 h (i - 1) j) = false := by simp [d1]
    rw [decide_eq_false d1]
    simp only [F76B, SS, insA, wantedA, Opd.ev, putA, binA, eqbA, unA, fldA, partA, reduceIte, reduceCtorEq, Nat.reduceMod, Nat.reduceDiv, Nat.reduceBEq, resultA, resA, vI, Nat.reduceMul, Nat.reduceAdd, Nat.reduceSub, Nat.reduceEqDiff, Nat.reduceLT, Nat.reducePow, Nat.reduceLeDiff, st, Option.bind_eq_bind, Option.pure_def, List.length_nil, Int.cast_ofNat_Int, List.reverse_nil, UU, idxP, cellsAt, storeA, fillA, zerosA, putAll, optNat, sliceA, row, Int.reduceLT, Int.reduceLE, Int.reduceGT, Int.reduceGE, Int.reduceEq, Int.reduceNe, Int.reduceToNat, Int.reduceBEq, Int.reduceBNe, Nat.reduceLeDiff, Nat.reduceLT, Nat.reduceBNe, Nat.reduceGT, List.drop_nil, List.take_nil, Option.isSome_none, Int.ofNat_one, Int.ofNat_zero, c0.idx ht, c0.load ht, c0.idx2 ht, c0.load2 ht, c1.idx ht, c1.load ht, c1.idx2 ht, c1.load2 ht, c4.idx ht, c4.load ht, c4.idx2 ht, c4.load2 ht, w1, w3, w5, w6, d1', Bool.false_and]

/-! ### Turn -/
theorem raised_tab {vt : AV} {t : List (List Int)} (ht : IsTab vt t) (hv : Veil t) (H0 : Heap) : ∃ v R cells, callA (callL EV Y) 2 62 [.iface 56 vt] H0 = some (v, R) ∧ HTab H0.length R v (hgtT t) cells := by
  obtain ⟨v0, R0, c0, z1, z2⟩ := raised62 (Y := Y) ht hv.unit (by have := hv.n5; omega) hv.row
  have hsi : ∀ H n, snapA H (n + 2) (.iface 56 vt) = some (.iface 56 vt) := fun H n => by rw [snap_ifc, ht.snap]; rfl
  obtain ⟨v, R, cells, q1, q2, q3⟩ := call_tab (H := H0) (R := callL EV Y) (f := 62) (args := [.iface 56 vt]) (bs := [.iface 56 vt]) (by rw [mapM_cons', hsi]; rfl) z1 z2
  exact ⟨v, R, cells, q1, q2⟩
theorem heights_tab {vt : AV} {t : List (List Int)} (ht : IsTab vt t) (hv : Veil t) (H0 : Heap) : ∃ v R cells, callA (callL EV Y) 2 65 [vt] H0 = some (v, R) ∧ HTab H0.length R v (hgtT t) cells ∧ ∀ a, a < H0.length → R[a]? = H0[a]? := by
  obtain ⟨v0, R0, c0, z1, z2⟩ := heights65 (Y := Y) ht hv
  obtain ⟨v, R, cells, q1, q2, q3⟩ := call_tab (H := H0) (R := callL EV Y) (f := 65) (args := [vt]) (bs := [vt]) (by rw [mapM_cons', ht.snap]; rfl) z1 z2
  exact ⟨v, R, cells, q1, q2, q3⟩
theorem snap_if {k b : Nat} {R : Heap} {v : AV} {h : List (List Int)} {cells : List AV} (hT : HTab k R v h cells) : ∃ w, IsTab w h ∧ snapA R 6 v = some w ∧ ∃ w2, IsTab w2 h ∧ snapA R 6 (.iface b v) = some (.iface b w2) := by
  obtain ⟨_, w, a1, a2⟩ := hT.out (d := 3)
  obtain ⟨_, w2, b1, b2⟩ := hT.out (d := 2)
  exact ⟨w, a2, a1, w2, b2, by rw [show (6 : Nat) = 5 + 1 from rfl, snap_ifc, b1]; rfl⟩

theorem of_steep {hv : AV} {h : List (List Int)} {n : Nat} (ht : IsTab hv h) (S : Steep n h) : Out Y 72 [.iface 59 hv] (vOf n h) := by
  have := of72 (Y := Y) ht S.hts (by have := S.n5; omega)
  rw [of_same S.even] at this
  exact this
theorem table_steep {hv : AV} {h : List (List Int)} {n : Nat} (ht : IsTab hv h) (S : Steep n h) : Out Y 73 [hv] (vOf n h) := table73 ht S.hts (by have := S.n5; omega)

theorem turn46_ok {vt : AV} {t : List (List Int)} (ht : IsTab vt t) (hs : Small t) (hv : Veil t) {i j : Nat} (hi : 1 ≤ i ∧ i < t.length) (hj : 1 ≤ j ∧ j < t.length) :
    (fridB (hgtT t) i j = true → ∃ w, IsTab w (vOf t.length (turnT (hgtT t) i j)) ∧ ∀ H, freeX H (callL EV Y 46 [vt, vI i, vI j] []) = some (.tup [w, vI 0], H)) ∧
    (fridB (hgtT t) i j = false → ∀ H, freeX H (callL EV Y 46 [vt, vI i, vI j] []) = some (.tup [.nils, vI 9], H)) := by
  have S := hv.steep
  obtain ⟨H1, q, _⟩ := read64 (Y := Y) ht hs []
  have ho := veil_iff.2 hv
  rw [ho, if_pos rfl] at q
  obtain ⟨v, R, cells, q1, q2⟩ := raised_tab (Y := Y) ht hv H1
  obtain ⟨w, a1, a2, _⟩ := snap_if (b := 59) q2
  have kf := fun H => free74 (Y := Y) (H := H) a1 S hi hj
  have hmin : ¬ (min (i : Int) (j : Int) < 1) := by omega
  have hmax : ¬ (max (i : Int) (j : Int) ≥ (t.length : Int)) := by omega
  constructor
  · intro hf
    rw [hf, if_pos rfl] at kf
    obtain ⟨b1, b2⟩ := S.in (i := i) (j := j) (by omega) (by omega)
    obtain ⟨id, o, s1, s2, s3⟩ := q2.setT (x := turnV (hgtT t) i j) b1 b2
    have S2 := S.turn hi hj hf
    obtain ⟨_, _, _, w2, d1, d2⟩ := snap_if (b := 59) s2
    obtain ⟨w3, e1, e2, e3⟩ := of_steep (Y := Y) d1 S2
    refine ⟨w3, e1, fun H => ?_⟩
    rw [call46 rfl]
    simp only [SS, insA, wantedA, Opd.ev, putA, binA, eqbA, unA, fldA, partA, reduceIte, reduceCtorEq, Nat.reduceMod, Nat.reduceDiv, Nat.reduceBEq, resultA, resA, vI, Nat.reduceMul, Nat.reduceAdd, Nat.reduceSub, Nat.reduceEqDiff, Nat.reduceLT, Nat.reducePow, Nat.reduceLeDiff, st, Option.bind_eq_bind, Option.pure_def, List.length_nil, Int.cast_ofNat_Int, List.reverse_nil] at kf s1
    simp only [F46B, SS, insA, wantedA, Opd.ev, putA, binA, eqbA, unA, fldA, partA, reduceIte, reduceCtorEq, Nat.reduceMod, Nat.reduceDiv, Nat.reduceBEq, resultA, resA, vI, Nat.reduceMul, Nat.reduceAdd, Nat.reduceSub, Nat.reduceEqDiff, Nat.reduceLT, Nat.reducePow, Nat.reduceLeDiff, st, Option.bind_eq_bind, Option.pure_def, List.length_nil, Int.cast_ofNat_Int, List.reverse_nil, UU, idxP, cellsAt, fillA, zerosA, putAll, row, Int.reduceLT, Int.reduceLE, Int.reduceGT, Int.reduceGE, Int.reduceEq, Int.reduceNe, Int.reduceToNat, Int.reduceBEq, Int.reduceBNe, Nat.reduceLeDiff, Nat.reduceLT, Nat.reduceBNe, Nat.reduceGT, List.drop_nil, List.take_nil, Option.isSome_none, Int.ofNat_one, Int.ofNat_zero, q, mnx_min, mnx_max, hmin, hmax, ht.len, q1, a2, kf, q2.idx b1, q2.load b1, q2.idx2 b1 b2, s1, d2, e2, e3]
  · intro hf H
    rw [hf] at kf
    simp only [Bool.false_eq_true, if_false] at kf
    rw [call46 rfl]
    simp only [SS, insA, wantedA, Opd.ev, putA, binA, eqbA, unA, fldA, partA, reduceIte, reduceCtorEq, Nat.reduceMod, Nat.reduceDiv, Nat.reduceBEq, resultA, resA, vI, Nat.reduceMul, Nat.reduceAdd, Nat.reduceSub, Nat.reduceEqDiff, Nat.reduceLT, Nat.reducePow, Nat.reduceLeDiff, st, Option.bind_eq_bind, Option.pure_def, List.length_nil, Int.cast_ofNat_Int, List.reverse_nil] at kf
    simp only [F46B, SS, insA, wantedA, Opd.ev, putA, binA, eqbA, unA, fldA, partA, reduceIte, reduceCtorEq, Nat.reduceMod, Nat.reduceDiv, Nat.reduceBEq, resultA, resA, vI, Nat.reduceMul, Nat.reduceAdd, Nat.reduceSub, Nat.reduceEqDiff, Nat.reduceLT, Nat.reducePow, Nat.reduceLeDiff, st, Option.bind_eq_bind, Option.pure_def, List.length_nil, Int.cast_ofNat_Int, List.reverse_nil, UU, idxP, cellsAt, fillA, zerosA, putAll, row, Int.reduceLT, Int.reduceLE, Int.reduceGT, Int.reduceGE, Int.reduceEq, Int.reduceNe, Int.reduceToNat, Int.reduceBEq, Int.reduceBNe, Nat.reduceLeDiff, Nat.reduceLT, Nat.reduceBNe, Nat.reduceGT, List.drop_nil, List.take_nil, Option.isSome_none, Int.ofNat_one, Int.ofNat_zero, q, mnx_min, mnx_max, hmin, hmax, ht.len, q1, a2, kf]

theorem turn46_no {vt : AV} {t : List (List Int)} {i j : Int} (ht : IsTab vt t) (hs : Small t) (hn : ¬ (readOk t = true ∧ (1 ≤ i ∧ i < t.length) ∧ 1 ≤ j ∧ j < t.length)) : freeX H (callL EV Y 46 [vt, vI i, vI j] []) = some (.tup [.nils, vI 2], H) := by
  obtain ⟨H1, q, _⟩ := read64 (Y := Y) ht hs []
  rw [call46 rfl]
  cases ho : readOk t
  · rw [ho] at q
    simp only [Bool.false_eq_true, if_false] at q
    simp only [F46B, SS, insA, wantedA, Opd.ev, putA, binA, eqbA, unA, fldA, partA, reduceIte, reduceCtorEq, Nat.reduceMod, Nat.reduceDiv, Nat.reduceBEq, resultA, resA, vI, Nat.reduceMul, Nat.reduceAdd, Nat.reduceSub, Nat.reduceEqDiff, Nat.reduceLT, Nat.reducePow, Nat.reduceLeDiff, st, Option.bind_eq_bind, Option.pure_def, List.length_nil, Int.cast_ofNat_Int, List.reverse_nil, UU, idxP, cellsAt, fillA, zerosA, putAll, row, Int.reduceLT, Int.reduceLE, Int.reduceGT, Int.reduceGE, Int.reduceEq, Int.reduceNe, Int.reduceToNat, Int.reduceBEq, Int.reduceBNe, Nat.reduceLeDiff, Nat.reduceLT, Nat.reduceBNe, Nat.reduceGT, List.drop_nil, List.take_nil, Option.isSome_none, Int.ofNat_one, Int.ofNat_zero, q]
  · rw [ho, if_pos rfl] at q
    by_cases c1 : min i j < 1
    · simp only [F46B, SS, insA, wantedA, Opd.ev, putA, binA, eqbA, unA, fldA, partA, reduceIte, reduceCtorEq, Nat.reduceMod, Nat.reduceDiv, Nat.reduceBEq, resultA, resA, vI, Nat.reduceMul, Nat.reduceAdd, Nat.reduceSub, Nat.reduceEqDiff, Nat.reduceLT, Nat.reducePow, Nat.reduceLeDiff, st, Option.bind_eq_bind, Option.pure_def, List.length_nil, Int.cast_ofNat_Int, List.reverse_nil, UU, idxP, cellsAt, fillA, zerosA, putAll, row, Int.reduceLT, Int.reduceLE, Int.reduceGT, Int.reduceGE, Int.reduceEq, Int.reduceNe, Int.reduceToNat, Int.reduceBEq, Int.reduceBNe, Nat.reduceLeDiff, Nat.reduceLT, Nat.reduceBNe, Nat.reduceGT, List.drop_nil, List.take_nil, Option.isSome_none, Int.ofNat_one, Int.ofNat_zero, q, mnx_min, mnx_max, c1]
    · have c2 : max i j ≥ (t.length : Int) := by
        refine Classical.byContradiction fun h => hn ⟨ho, by omega, by omega⟩
      simp only [F46B, SS, insA, wantedA, Opd.ev, putA, binA, eqbA, unA, fldA, partA, reduceIte, reduceCtorEq, Nat.reduceMod, Nat.reduceDiv, Nat.reduceBEq, resultA, resA, vI, Nat.reduceMul, Nat.reduceAdd, Nat.reduceSub, Nat.reduceEqDiff, Nat.reduceLT, Nat.reducePow, Nat.reduceLeDiff, st, Option.bind_eq_bind, Option.pure_def, List.length_nil, Int.cast_ofNat_Int, List.reverse_nil, UU, idxP, cellsAt, fillA, zerosA, putAll, row, Int.reduceLT, Int.reduceLE, Int.reduceGT, Int.reduceGE, Int.reduceEq, Int.reduceNe, Int.reduceToNat, Int.reduceBEq, Int.reduceBNe, Nat.reduceLeDiff, Nat.reduceLT, Nat.reduceBNe, Nat.reduceGT, List.drop_nil, List.take_nil, Option.isSome_none, Int.ofNat_one, Int.ofNat_zero, q, mnx_min, mnx_max, c1, c2, ht.len]

theorem turn51_ok {vt : AV} {t : List (List Int)} (ht : IsTab vt t) (hs : Small t) (hv : Veil t) {i j : Nat} (hi : 1 ≤ i ∧ i < t.length) (hj : 1 ≤ j ∧ j < t.length) :
    (fridB (hgtT t) i j = true → ∃ w, IsTab w (vOf t.length (turnT (hgtT t) i j)) ∧ ∀ H, freeX H (callL EV Y 51 [vt, vI i, vI j] []) = some (.tup [w, vI 0], H)) ∧
    (fridB (hgtT t) i j = false → ∀ H, freeX H (callL EV Y 51 [vt, vI i, vI j] []) = some (.tup [.nils, vI 9], H)) := by
  have S := hv.steep
  have k := fun H => isveil26 (Y := Y) (H := H) ht hs
  rw [ref_read, veil_iff.2 hv] at k
  obtain ⟨v, R, cells, q1, q2, _⟩ := heights_tab (Y := Y) ht hv []
  obtain ⟨w, a1, a2, _⟩ := snap_if (b := 59) q2
  have kf := fun H => free76 (Y := Y) (H := H) a1 S hi hj
  have c1 : ¬ ((i : Int) < 1) := by omega
  have c2 : ¬ ((i : Int) ≥ (t.length : Int)) := by omega
  have c3 : ¬ ((j : Int) < 1) := by omega
  have c4 : ¬ ((j : Int) ≥ (t.length : Int)) := by omega
  constructor
  · intro hf
    rw [hf] at kf
    obtain ⟨b1, b2⟩ := S.in (i := i) (j := j) (by omega) (by omega)
    obtain ⟨id, o, s1, s2, s3⟩ := q2.setT (x := turnV (hgtT t) i j) b1 b2
    have S2 := S.turn hi hj hf
    obtain ⟨w2, d1, d2, _⟩ := snap_if (b := 59) s2
    obtain ⟨w3, e1, e2, e3⟩ := table_steep (Y := Y) d1 S2
    refine ⟨w3, e1, fun H => ?_⟩
    rw [call51 rfl]
    simp only [SS, insA, wantedA, Opd.ev, putA, binA, eqbA, unA, fldA, partA, reduceIte, reduceCtorEq, Nat.reduceMod, Nat.reduceDiv, Nat.reduceBEq, resultA, resA, vI, Nat.reduceMul, Nat.reduceAdd, Nat.reduceSub, Nat.reduceEqDiff, Nat.reduceLT, Nat.reducePow, Nat.reduceLeDiff, st, Option.bind_eq_bind, Option.pure_def, List.length_nil, Int.cast_ofNat_Int, List.reverse_nil] at kf s1
    simp only [F51B, SS, insA, wantedA, Opd.ev, putA, binA, eqbA, unA, fldA, partA, reduceIte, reduceCtorEq, Nat.reduceMod, Nat.reduceDiv, Nat.reduceBEq, resultA, resA, vI, Nat.reduceMul, Nat.reduceAdd, Nat.reduceSub, Nat.reduceEqDiff, Nat.reduceLT, Nat.reducePow, Nat.reduceLeDiff, st, Option.bind_eq_bind, Option.pure_def, List.length_nil, Int.cast_ofNat_Int, List.reverse_nil, UU, idxP, cellsAt, fillA, zerosA, putAll, row, Int.reduceLT, Int.reduceLE, Int.reduceGT, Int.reduceGE, Int.reduceEq, Int.reduceNe, Int.reduceToNat, Int.reduceBEq, Int.reduceBNe, Nat.reduceLeDiff, Nat.reduceLT, Nat.reduceBNe, Nat.reduceGT, List.drop_nil, List.take_nil, Option.isSome_none, Int.ofNat_one, Int.ofNat_zero, ht.snap, k, c1, c2, c3, c4, ht.len, q1, a2, kf, q2.idx b1, q2.load b1, q2.idx2 b1 b2, s1, d2, e2, e3]
  · intro hf H
    rw [hf] at kf
    rw [call51 rfl]
    simp only [SS, insA, wantedA, Opd.ev, putA, binA, eqbA, unA, fldA, partA, reduceIte, reduceCtorEq, Nat.reduceMod, Nat.reduceDiv, Nat.reduceBEq, resultA, resA, vI, Nat.reduceMul, Nat.reduceAdd, Nat.reduceSub, Nat.reduceEqDiff, Nat.reduceLT, Nat.reducePow, Nat.reduceLeDiff, st, Option.bind_eq_bind, Option.pure_def, List.length_nil, Int.cast_ofNat_Int, List.reverse_nil] at kf
    simp only [F51B, SS, insA, wantedA, Opd.ev, putA, binA, eqbA, unA, fldA, partA, reduceIte, reduceCtorEq, Nat.reduceMod, Nat.reduceDiv, Nat.reduceBEq, resultA, resA, vI, Nat.reduceMul, Nat.reduceAdd, Nat.reduceSub, Nat.reduceEqDiff, Nat.reduceLT, Nat.reducePow, Nat.reduceLeDiff, st, Option.bind_eq_bind, Option.pure_def, List.length_nil, Int.cast_ofNat_Int, List.reverse_nil, UU, idxP, cellsAt, fillA, zerosA, putAll, row, Int.reduceLT, Int.reduceLE, Int.reduceGT, Int.reduceGE, Int.reduceEq, Int.reduceNe, Int.reduceToNat, Int.reduceBEq, Int.reduceBNe, Nat.reduceLeDiff, Nat.reduceLT, Nat.reduceBNe, Nat.reduceGT, List.drop_nil, List.take_nil, Option.isSome_none, Int.ofNat_one, Int.ofNat_zero, ht.snap, k, c1, c2, c3, c4, ht.len, q1, a2, kf]

theorem turn51_no {vt : AV} {t : List (List Int)} {i j : Int} (ht : IsTab vt t) (hs : Small t) (hn : ¬ (readOk t = true ∧ (1 ≤ i ∧ i < t.length) ∧ 1 ≤ j ∧ j < t.length)) : freeX H (callL EV Y 51 [vt, vI i, vI j] []) = some (.tup [.nils, vI 2], H) := by
  have k := fun H => isveil26 (Y := Y) (H := H) ht hs
  rw [ref_read] at k
  rw [call51 rfl]
  cases ho : readOk t
  · rw [ho] at k
    simp only [F51B, SS, insA, wantedA, Opd.ev, putA, binA, eqbA, unA, fldA, partA, reduceIte, reduceCtorEq, Nat.reduceMod, Nat.reduceDiv, Nat.reduceBEq, resultA, resA, vI, Nat.reduceMul, Nat.reduceAdd, Nat.reduceSub, Nat.reduceEqDiff, Nat.reduceLT, Nat.reducePow, Nat.reduceLeDiff, st, Option.bind_eq_bind, Option.pure_def, List.length_nil, Int.cast_ofNat_Int, List.reverse_nil, UU, idxP, cellsAt, fillA, zerosA, putAll, row, Int.reduceLT, Int.reduceLE, Int.reduceGT, Int.reduceGE, Int.reduceEq, Int.reduceNe, Int.reduceToNat, Int.reduceBEq, Int.reduceBNe, Nat.reduceLeDiff, Nat.reduceLT, Nat.reduceBNe, Nat.reduceGT, List.drop_nil, List.take_nil, Option.isSome_none, Int.ofNat_one, Int.ofNat_zero, ht.snap, k]
  · rw [ho] at k
    by_cases c1 : i < 1
    · simp only [F51B, SS, insA, wantedA, Opd.ev, putA, binA, eqbA, unA, fldA, partA, reduceIte, reduceCtorEq, Nat.reduceMod, Nat.reduceDiv, Nat.reduceBEq, resultA, resA, vI, Nat.reduceMul, Nat.reduceAdd, Nat.reduceSub, Nat.reduceEqDiff, Nat.reduceLT, Nat.reducePow, Nat.reduceLeDiff, st, Option.bind_eq_bind, Option.pure_def, List.length_nil, Int.cast_ofNat_Int, List.reverse_nil, UU, idxP, cellsAt, fillA, zerosA, putAll, row, Int.reduceLT, Int.reduceLE, Int.reduceGT, Int.reduceGE, Int.reduceEq, Int.reduceNe, Int.reduceToNat, Int.reduceBEq, Int.reduceBNe, Nat.reduceLeDiff, Nat.reduceLT, Nat.reduceBNe, Nat.reduceGT, List.drop_nil, List.take_nil, Option.isSome_none, Int.ofNat_one, Int.ofNat_zero, ht.snap, k, c1]
    · by_cases c2 : i ≥ (t.length : Int)
      · simp only [F51B, SS, insA, wantedA, Opd.ev, putA, binA, eqbA, unA, fldA, partA, reduceIte, reduceCtorEq, Nat.reduceMod, Nat.reduceDiv, Nat.reduceBEq, resultA, resA, vI, Nat.reduceMul, Nat.reduceAdd, Nat.reduceSub, Nat.reduceEqDiff, Nat.reduceLT, Nat.reducePow, Nat.reduceLeDiff, st, Option.bind_eq_bind, Option.pure_def, List.length_nil, Int.cast_ofNat_Int, List.reverse_nil, UU, idxP, cellsAt, fillA, zerosA, putAll, row, Int.reduceLT, Int.reduceLE, Int.reduceGT, Int.reduceGE, Int.reduceEq, Int.reduceNe, Int.reduceToNat, Int.reduceBEq, Int.reduceBNe, Nat.reduceLeDiff, Nat.reduceLT, Nat.reduceBNe, Nat.reduceGT, List.drop_nil, List.take_nil, Option.isSome_none, Int.ofNat_one, Int.ofNat_zero, ht.snap, k, c1, c2, ht.len]
      · by_cases c3 : j < 1
        · simp only [F51B, SS, insA, wantedA, Opd.ev, putA, binA, eqbA, unA, fldA, partA, reduceIte, reduceCtorEq, Nat.reduceMod, Nat.reduceDiv, Nat.reduceBEq, resultA, resA, vI, Nat.reduceMul, Nat.reduceAdd, Nat.reduceSub, Nat.reduceEqDiff, Nat.reduceLT, Nat.reducePow, Nat.reduceLeDiff, st, Option.bind_eq_bind, Option.pure_def, List.length_nil, Int.cast_ofNat_Int, List.reverse_nil, UU, idxP, cellsAt, fillA, zerosA, putAll, row, Int.reduceLT, Int.reduceLE, Int.reduceGT, Int.reduceGE, Int.reduceEq, Int.reduceNe, Int.reduceToNat, Int.reduceBEq, Int.reduceBNe, Nat.reduceLeDiff, Nat.reduceLT, Nat.reduceBNe, Nat.reduceGT, List.drop_nil, List.take_nil, Option.isSome_none, Int.ofNat_one, Int.ofNat_zero, ht.snap, k, c1, c2, c3, ht.len]
        · have c4 : j ≥ (t.length : Int) := by
            refine Classical.byContradiction fun h => hn ⟨ho, by omega, by omega⟩
          simp only [F51B, SS, insA, wantedA, Opd.ev, putA, binA, eqbA, unA, fldA, partA, reduceIte, reduceCtorEq, Nat.reduceMod, Nat.reduceDiv, Nat.reduceBEq, resultA, resA, vI, Nat.reduceMul, Nat.reduceAdd, Nat.reduceSub, Nat.reduceEqDiff, Nat.reduceLT, Nat.reducePow, Nat.reduceLeDiff, st, Option.bind_eq_bind, Option.pure_def, List.length_nil, Int.cast_ofNat_Int, List.reverse_nil, UU, idxP, cellsAt, fillA, zerosA, putAll, row, Int.reduceLT, Int.reduceLE, Int.reduceGT, Int.reduceGE, Int.reduceEq, Int.reduceNe, Int.reduceToNat, Int.reduceBEq, Int.reduceBNe, Nat.reduceLeDiff, Nat.reduceLT, Nat.reduceBNe, Nat.reduceGT, List.drop_nil, List.take_nil, Option.isSome_none, Int.ofNat_one, Int.ofNat_zero, ht.snap, k, c1, c2, c3, c4, ht.len]
end
end Go.X
