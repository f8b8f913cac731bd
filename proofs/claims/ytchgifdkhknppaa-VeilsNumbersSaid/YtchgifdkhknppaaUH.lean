import Derived.Test.YtchgifdkhknppaaUE
import Derived.Test.YtchgifdkhknppaaUI
import Derived.Test.YtchgifdkhknppaaVA
/-! Veils: the law on All. -/
set_option linter.unusedSimpArgs false
set_option linter.unusedVariables false
set_option maxHeartbeats 8000000
set_option maxRecDepth 10000
namespace Go.X
open Go Go.RowKit
section
variable {Y : Run} {H : Heap}

theorem HTab.shiftUp {k : Nat} {R L : Heap} {v : AV} {t : List (List Int)} {cells : List AV} (h : HTab k R v t cells) : shiftA L.length 6 v = some (upV L.length v) := h.gro.shift

theorem Lst.shift {K : Nat} {R L : Heap} {o : AV} {oc : List AV} {ts : List (List (List Int))} {b e : Nat → Nat} {cs : Nat → List AV} (h : Lst K 0 R o oc ts b e cs) :
    Lst L.length 0 (L ++ R.map (shO L.length)) (upV L.length o) (oc.map (upV L.length)) ts (fun j => b j + L.length) (fun j => e j + L.length) (fun j => (cs j).map (upV L.length)) := by
  have hol : oc.length = ts.length := by have := h.out.1; omega
  have g : ∀ j, j < ts.length → (oc.map (upV L.length)).getD j .undef = upV L.length (oc.getD j .undef) := fun j hj => by
    rw [getD_get (by simp; omega), getD_get (by omega)]; simp
  have gc : ∀ (cl : List AV) j, idOf ((cl.map (upV L.length)).getD j .undef) = idOf (upV L.length (cl.getD j .undef)) := fun cl j => by
    rw [List.getD_eq_getElem?_getD, List.getElem?_map, List.getD_eq_getElem?_getD]
    cases cl[j]? <;> rfl
  refine ⟨⟨by simp; omega, ?_⟩, fun j hj _ => ?_, fun j hj => ?_, fun j hj => ?_, fun j l hjl hl => ?_, fun j i hj hi => ?_⟩
  · obtain ⟨h1, ⟨h0, rfl⟩ | ⟨id, ver, _, rfl, hH⟩⟩ := h.out
    · exact .inl ⟨h0, rfl⟩
    · refine .inr ⟨id + L.length, ver, by omega, rfl, ?_⟩
      rw [shift_get hH]
      unfold shO
      simp only
      have hm : oc.mapM (shiftA L.length depth) = some ((List.range oc.length).map fun j => upV L.length (oc.getD j .undef)) := mapM_rng _ _ fun j hj => by
        rw [show depth = 5 + 1 from rfl]; exact (h.tab j (by omega) (Nat.zero_le _)).gro.shift
      rw [hm]
      simp only [Option.some.injEq, Ob.mk.injEq, true_and]
      refine List.ext_getElem (by simp) fun j h1 h2 => ?_
      have hj : j < oc.length := by simpa using h1
      simp [List.getD_eq_getElem?_getD, hj]
  · rw [g j hj]
    exact ((h.tab j hj (Nat.zero_le _)).shift).mono (Nat.zero_le _)
  · rw [g j hj]
    have r := h.rng j hj
    refine ⟨fun i hi => ?_, fun m i hm hi => ?_⟩
    · obtain ⟨a, a1, rfl⟩ := idOf_up.1 hi
      have := r.1 a a1; omega
    · rw [gc] at hi
      obtain ⟨a, a1, rfl⟩ := idOf_up.1 hi
      have := r.2 m a hm a1; omega
  · have := h.lo j hj
    rw [List.length_append, List.length_map]; omega
  · have := h.ord j l hjl hl; omega
  · obtain ⟨a, a1, rfl⟩ := idOf_up.1 hi
    have := h.sep j a hj a1; omega

/-- All, called for what lies in new memory. -/
theorem all18_2 {n : Nat} (h1 : 1 ≤ n) (h5 : n ≤ 5) (hB : (allL n).length ≤ 1000000) : ∃ o H' oc b e cs, callA (callL EV Y) 2 18 [vI n] H = some (.tup [o, vI 0], H') ∧ Lst H.length 0 H' o oc (allL n) b e cs := by
  obtain ⟨o, R, oc, b, e, cs, q1, q2⟩ := all18 (Y := Y) h1 h5 hB
  refine ⟨upV H.length o, H ++ R.map (shO H.length), _, _, _, _, ?_, q2.shift⟩
  have hs : [vI (n : Int)].mapM (snapA H 6) = some [vI (n : Int)] := rfl
  simp only [callA, show depth = 6 from rfl, hs, q1, mapM_shO]
  have : shiftA H.length 6 (.tup [o, vI 0]) = some (.tup [upV H.length o, vI 0]) := by
    have e : shiftA H.length 6 (.tup [o, vI 0]) = ([o, vI 0].mapM (shiftA H.length 5)).map .tup := rfl
    rw [e, mapM_cons', mapM_cons', q2.out.shift]
    rfl
  rw [this]
theorem all18_no2 {n : Int} (h : ¬ (1 ≤ n ∧ n ≤ 5)) : callA (callL EV Y) 2 18 [vI n] H = some (.tup [.nils, vI 2], H) := by
  have hs : [vI n].mapM (snapA H 6) = some [vI n] := rfl
  simp only [callA, show depth = 6 from rfl, hs, all18_no h, mapM_shO]
  have : shiftA H.length 6 (.tup [.nils, vI 2]) = some (.tup [.nils, vI 2]) := rfl
  rw [this]
  simp

theorem Lst.up {K f : Nat} {R : Heap} {o : AV} {oc : List AV} {ts : List (List (List Int))} {b e : Nat → Nat} {cs : Nat → List AV} (h : Lst K f R o oc ts b e cs) {x : Int} (hf : f < ts.length) (h0 : 0 < ts[f].length) (h1 : 0 < ts[f][0].length) :
    ∃ R', storeA R 1 (gptr 1 ((cs f).getD 0 .undef) 0) (vI x) = some R' ∧ Lst K (f + 1) R' o oc ts b e cs := by
  have T := h.tab f hf (Nat.le_refl _)
  obtain ⟨id, o2, s1, s2, _⟩ := T.store3 (x := x) h0 h1
  have r := (h.rng f hf).2 0 id h0 s1
  refine ⟨_, s2, ⟨h.out.keep fun i hi => ?_, fun j hj hfj => (h.tab j hj (by omega)).keepR (h.rng j hj) rfl fun i a1 a2 => ?_, h.rng, fun j hj => by have := h.lo j hj; rw [List.length_set]; omega, h.ord, h.sep⟩⟩
  · have : id ≠ i := fun e => h.sep f i hf hi (by omega)
    rw [List.getElem?_set_ne this]
  · have := h.ord f j (by omega) hj
    have : id ≠ i := by omega
    rw [List.getElem?_set_ne this]

theorem L3_0 {n a4 a5 o w : AV} {ts : List (List (List Int))} {oc : List AV} {b e : Nat → Nat} {cs : Nat → List AV} {K : Nat} (hw : IsTabs w ts) (hv : ∀ u ∈ ts, Veil u) (hl : ts.length ≤ 1000000) (d : Nat) : ∀ (i : Nat) (R : Heap), i + d = ts.length →
    Lst K i R o oc ts b e cs → ∃ R', lp EV Y F3L0 (sp 57 [(8, vI i), (6, o), (5, a5), (4, a4), (3, w), (0, n)]) R = some (.x 2, sp 57 [(5, a5), (4, a4), (3, w), (0, n)], R') := by
  induction d with
  | zero =>
    intro i R hi h
    have : ¬ ((i : Int) < (ts.length : Int)) := by omega
    refine ⟨R, ?_⟩
    rw [un3_0]
    simp only [F3L0b, SS, insA, wantedA, Opd.ev, putA, binA, eqbA, unA, fldA, partA, reduceIte, reduceCtorEq, Nat.reduceMod, Nat.reduceDiv, Nat.reduceBEq, resultA, resA, vI, Nat.reduceMul, Nat.reduceAdd, Nat.reduceSub, Nat.reduceEqDiff, Nat.reduceLT, Nat.reducePow, Nat.reduceLeDiff, st, Option.bind_eq_bind, Option.pure_def, List.length_nil, Int.cast_ofNat_Int, List.reverse_nil, UU, idxP, cellsAt, storeA, fillA, zerosA, putAll, optNat, sliceA, row, Int.reduceLT, Int.reduceLE, Int.reduceGT, Int.reduceGE, Int.reduceEq, Int.reduceNe, Int.reduceToNat, Int.reduceBEq, Int.reduceBNe, Nat.reduceLeDiff, Nat.reduceLT, Nat.reduceBNe, Nat.reduceGT, List.drop_nil, List.take_nil, Option.isSome_none, Int.ofNat_one, Int.ofNat_zero, h.out.len, this]
  | succ d ih =>
    intro i R hi h
    have hc : (i : Int) < (ts.length : Int) := by omega
    have k1 : i < ts.length := by omega
    have hww := wrap_succ (n := i) (by omega)
    have V := hv _ (List.getElem_mem k1)
    have v1 := V.n1
    have v5 := V.n5
    have hr0 : ts[i][0].length = ts[i].length := V.row _ (List.getElem_mem _)
    have T := h.tab i k1 (Nat.le_refl _)
    obtain ⟨_, w', o3, o4⟩ := T.out (d := 3)
    have o3 : snapA R 6 (oc.getD i .undef) = some w' := o3
    have sm := fun H => same19 (Y := Y) (H := H) o4 (hw.tab k1) (by omega) (fun r hr => by have := V.row r hr; omega)
    rw [decide_eq_true rfl] at sm
    obtain ⟨R', s1, s2⟩ := h.up (x := 7) k1 (by omega) (by omega)
    obtain ⟨R2, q1⟩ := ih (i + 1) R' (by omega) s2
    refine ⟨R2, ?_⟩
    have i0 := T.idx (i := 0) (by omega)
    have l0 := T.load (i := 0) (by omega)
    have i1 := T.idx2 (i := 0) (j := 0) (by omega) (by omega)
    rw [un3_0]
    simp only [SS, insA, wantedA, Opd.ev, putA, binA, eqbA, unA, fldA, partA, reduceIte, reduceCtorEq, Nat.reduceMod, Nat.reduceDiv, Nat.reduceBEq, resultA, resA, vI, Nat.reduceMul, Nat.reduceAdd, Nat.reduceSub, Nat.reduceEqDiff, Nat.reduceLT, Nat.reducePow, Nat.reduceLeDiff, st, Option.bind_eq_bind, Option.pure_def, List.length_nil, Int.cast_ofNat_Int, List.reverse_nil, Int.ofNat_zero] at q1 s1 sm i0 l0 i1
    simp only [F3L0b, SS, insA, wantedA, Opd.ev, putA, binA, eqbA, unA, fldA, partA, reduceIte, reduceCtorEq, Nat.reduceMod, Nat.reduceDiv, Nat.reduceBEq, resultA, resA, vI, Nat.reduceMul, Nat.reduceAdd, Nat.reduceSub, Nat.reduceEqDiff, Nat.reduceLT, Nat.reducePow, Nat.reduceLeDiff, st, Option.bind_eq_bind, Option.pure_def, List.length_nil, Int.cast_ofNat_Int, List.reverse_nil, UU, idxP, cellsAt, fillA, zerosA, putAll, row, Int.reduceLT, Int.reduceLE, Int.reduceGT, Int.reduceGE, Int.reduceEq, Int.reduceNe, Int.reduceToNat, Int.reduceBEq, Int.reduceBNe, Nat.reduceLeDiff, Nat.reduceLT, Nat.reduceBNe, Nat.reduceGT, List.drop_nil, List.take_nil, Option.isSome_none, Int.ofNat_one, Int.ofNat_zero, h.out.len, hc, h.out.idx k1, h.out.load k1, hw.idx k1, hw.load k1, o3, (hw.tab k1).snap, sm, i0, l0, i1, s1, hww, q1]

/-- One round. -/
theorem iter3 {m : Nat} {w : AV} (h1 : 1 ≤ m) (h5 : m ≤ 5) (hw : IsTabs w (allL m)) {k : Nat} (hk : k < 2) : ∃ R', lp EV Y F3L1 (sp 57 [(5, vI k), (4, vI 0), (3, w), (0, vI m)]) H = lp EV Y F3L1 (sp 57 [(5, vI (k + 1 : Nat)), (4, vI 0), (3, w), (0, vI m)]) R' := by
  obtain ⟨o, H', oc, b, e, cs, q1, q2⟩ := all18_2 (Y := Y) (H := H) h1 h5 (all_len h1 h5)
  obtain ⟨R', p1⟩ := L3_0 (Y := Y) (n := vI m) (a4 := vI 0) (a5 := vI k) hw (fun u hu => (allL_veil h1 h5 hu).1) (all_len h1 h5) (allL m).length 0 H' (by omega) q2
  have hc : (k : Int) < 2 := by omega
  have hww := wrap_succ (n := k) (by omega)
  refine ⟨R', ?_⟩
  rw [un3_1]
  simp only [SS, insA, wantedA, Opd.ev, putA, binA, eqbA, unA, fldA, partA, reduceIte, reduceCtorEq, Nat.reduceMod, Nat.reduceDiv, Nat.reduceBEq, resultA, resA, vI, Nat.reduceMul, Nat.reduceAdd, Nat.reduceSub, Nat.reduceEqDiff, Nat.reduceLT, Nat.reducePow, Nat.reduceLeDiff, st, Option.bind_eq_bind, Option.pure_def, List.length_nil, Int.cast_ofNat_Int, List.reverse_nil, Int.ofNat_zero] at q1 p1
  simp only [F3L1b, F3T0, in3_0, SS, insA, wantedA, Opd.ev, putA, binA, eqbA, unA, fldA, partA, reduceIte, reduceCtorEq, Nat.reduceMod, Nat.reduceDiv, Nat.reduceBEq, resultA, resA, vI, Nat.reduceMul, Nat.reduceAdd, Nat.reduceSub, Nat.reduceEqDiff, Nat.reduceLT, Nat.reducePow, Nat.reduceLeDiff, st, Option.bind_eq_bind, Option.pure_def, List.length_nil, Int.cast_ofNat_Int, List.reverse_nil, UU, idxP, cellsAt, fillA, zerosA, putAll, row, Int.reduceLT, Int.reduceLE, Int.reduceGT, Int.reduceGE, Int.reduceEq, Int.reduceNe, Int.reduceToNat, Int.reduceBEq, Int.reduceBNe, Nat.reduceLeDiff, Nat.reduceLT, Nat.reduceBNe, Nat.reduceGT, List.drop_nil, List.take_nil, Option.isSome_none, Int.ofNat_one, Int.ofNat_zero, hc, q1, q2.out.len, hw.len, bne_self_eq_false, p1, hww]
theorem iter3_no {n : Int} (h : ¬ (1 ≤ n ∧ n ≤ 5)) {k : Nat} (hk : k < 2) : lp EV Y F3L1 (sp 57 [(5, vI k), (4, vI 2), (3, .nils), (0, vI n)]) H = lp EV Y F3L1 (sp 57 [(5, vI (k + 1 : Nat)), (4, vI 2), (3, .nils), (0, vI n)]) H := by
  have q1 := all18_no2 (Y := Y) (H := H) h
  have hc : (k : Int) < 2 := by omega
  have hww := wrap_succ (n := k) (by omega)
  have hlen : lenA .nils = some 0 := rfl
  have p1 : lp EV Y F3L0 (sp 57 [(8, .int .i64 0), (6, .nils), (5, .int .i64 k), (4, .int .i64 2), (3, .nils), (0, .int .i64 n)]) H = some (.x 2, sp 57 [(5, .int .i64 k), (4, .int .i64 2), (3, .nils), (0, .int .i64 n)], H) := by
    rw [un3_0]
    simp only [F3L0b, SS, insA, wantedA, Opd.ev, putA, binA, eqbA, unA, fldA, partA, reduceIte, reduceCtorEq, Nat.reduceMod, Nat.reduceDiv, Nat.reduceBEq, resultA, resA, vI, Nat.reduceMul, Nat.reduceAdd, Nat.reduceSub, Nat.reduceEqDiff, Nat.reduceLT, Nat.reducePow, Nat.reduceLeDiff, st, Option.bind_eq_bind, Option.pure_def, List.length_nil, Int.cast_ofNat_Int, List.reverse_nil, UU, idxP, cellsAt, storeA, fillA, zerosA, putAll, optNat, sliceA, row, Int.reduceLT, Int.reduceLE, Int.reduceGT, Int.reduceGE, Int.reduceEq, Int.reduceNe, Int.reduceToNat, Int.reduceBEq, Int.reduceBNe, Nat.reduceLeDiff, Nat.reduceLT, Nat.reduceBNe, Nat.reduceGT, List.drop_nil, List.take_nil, Option.isSome_none, Int.ofNat_one, Int.ofNat_zero, hlen]
  rw [un3_1]
  simp only [SS, insA, wantedA, Opd.ev, putA, binA, eqbA, unA, fldA, partA, reduceIte, reduceCtorEq, Nat.reduceMod, Nat.reduceDiv, Nat.reduceBEq, resultA, resA, vI, Nat.reduceMul, Nat.reduceAdd, Nat.reduceSub, Nat.reduceEqDiff, Nat.reduceLT, Nat.reducePow, Nat.reduceLeDiff, st, Option.bind_eq_bind, Option.pure_def, List.length_nil, Int.cast_ofNat_Int, List.reverse_nil] at q1
  simp only [F3L1b, F3T0, in3_0, SS, insA, wantedA, Opd.ev, putA, binA, eqbA, unA, fldA, partA, reduceIte, reduceCtorEq, Nat.reduceMod, Nat.reduceDiv, Nat.reduceBEq, resultA, resA, vI, Nat.reduceMul, Nat.reduceAdd, Nat.reduceSub, Nat.reduceEqDiff, Nat.reduceLT, Nat.reducePow, Nat.reduceLeDiff, st, Option.bind_eq_bind, Option.pure_def, List.length_nil, Int.cast_ofNat_Int, List.reverse_nil, UU, idxP, cellsAt, fillA, zerosA, putAll, row, Int.reduceLT, Int.reduceLE, Int.reduceGT, Int.reduceGE, Int.reduceEq, Int.reduceNe, Int.reduceToNat, Int.reduceBEq, Int.reduceBNe, Nat.reduceLeDiff, Nat.reduceLT, Nat.reduceBNe, Nat.reduceGT, List.drop_nil, List.take_nil, Option.isSome_none, Int.ofNat_one, Int.ofNat_zero, hc, q1, hlen, bne_self_eq_false, p1, hww]
theorem end3 {x y z : AV} : lp EV Y F3L1 (sp 57 [(5, vI (2 : Nat)), (4, x), (3, y), (0, z)]) H = some (.x 0, sp 57 [], H) := by
  rw [un3_1]
  simp only [F3L1b, SS, insA, wantedA, Opd.ev, putA, binA, eqbA, unA, fldA, partA, reduceIte, reduceCtorEq, Nat.reduceMod, Nat.reduceDiv, Nat.reduceBEq, resultA, resA, vI, Nat.reduceMul, Nat.reduceAdd, Nat.reduceSub, Nat.reduceEqDiff, Nat.reduceLT, Nat.reducePow, Nat.reduceLeDiff, st, Option.bind_eq_bind, Option.pure_def, List.length_nil, Int.cast_ofNat_Int, List.reverse_nil, UU, idxP, cellsAt, storeA, fillA, zerosA, putAll, optNat, sliceA, row, Int.reduceLT, Int.reduceLE, Int.reduceGT, Int.reduceGE, Int.reduceEq, Int.reduceNe, Int.reduceToNat, Int.reduceBEq, Int.reduceBNe, Nat.reduceLeDiff, Nat.reduceLT, Nat.reduceBNe, Nat.reduceGT, List.drop_nil, List.take_nil, Option.isSome_none, Int.ofNat_one, Int.ofNat_zero, Int.cast_ofNat_Int]

theorem law3 {n : Int} : freeX [] (callL EV Y 3 [vI n] []) = some (.bool true, []) := by
  have ha := fun H => alive20 (Y := Y) (H := H)
  obtain ⟨y, no⟩ := all17 (Y := Y) (n := n) fun m h1 h5 => fill_len h1 h5
  rw [call3 rfl]
  by_cases c : 1 ≤ n ∧ n ≤ 5
  · obtain ⟨w, oc, w1, w2, w3, w4⟩ := y c
    obtain ⟨m, rfl⟩ : ∃ m : Nat, n = m := ⟨n.toNat, by omega⟩
    have e : (m : Int).toNat = m := rfl
    rw [e, ← all_fill (by omega) (by omega)] at w1 w2
    have w3 : ∀ (j : Nat) (h : j < (allL m).length), IsTab (oc.getD j .undef) (allL m)[j] := by
      have := w3
      rw [e, ← all_fill (by omega) (by omega)] at this
      exact this
    have hpos : 0 < (allL m).length := by
      rw [all_codes (by omega) (by omega), List.length_map]
      have h1 : 1 ≤ m := by omega
      have h5 : m ≤ 5 := by omega
      match m, h1, h5 with
      | 1, _, _ => decide
      | 2, _, _ => decide
      | 3, _, _ => decide
      | 4, _, _ => decide
      | 5, _, _ => exact Nat.lt_of_lt_of_le (by decide) (Nat.le_of_ble_eq_true (show Nat.ble 100 codes5.length = true by kernel_rfl))
    have hw : IsTabs w (allL m) := by
      rcases w1 with ⟨a, _⟩ | ⟨s, a⟩
      · omega
      · exact ⟨s, oc, a, w2, w3⟩
    obtain ⟨R1, e1⟩ := iter3 (Y := Y) (H := []) (by omega) (by omega) hw (k := 0) (by omega)
    obtain ⟨R2, e2⟩ := iter3 (Y := Y) (H := R1) (by omega) (by omega) hw (k := 1) (by omega)
    have e3 := e1.trans (e2.trans (end3 (Y := Y) (H := R2)))
    simp only [SS, insA, wantedA, Opd.ev, putA, binA, eqbA, unA, fldA, partA, reduceIte, reduceCtorEq, Nat.reduceMod, Nat.reduceDiv, Nat.reduceBEq, resultA, resA, vI, Nat.reduceMul, Nat.reduceAdd, Nat.reduceSub, Nat.reduceEqDiff, Nat.reduceLT, Nat.reducePow, Nat.reduceLeDiff, st, Option.bind_eq_bind, Option.pure_def, List.length_nil, Int.cast_ofNat_Int, List.reverse_nil, Int.ofNat_zero] at e3 w4
    simp only [F3B, F3T1, in3_1, SS, insA, wantedA, Opd.ev, putA, binA, eqbA, unA, fldA, partA, reduceIte, reduceCtorEq, Nat.reduceMod, Nat.reduceDiv, Nat.reduceBEq, resultA, resA, vI, Nat.reduceMul, Nat.reduceAdd, Nat.reduceSub, Nat.reduceEqDiff, Nat.reduceLT, Nat.reducePow, Nat.reduceLeDiff, st, Option.bind_eq_bind, Option.pure_def, List.length_nil, Int.cast_ofNat_Int, List.reverse_nil, UU, idxP, cellsAt, storeA, fillA, zerosA, putAll, optNat, sliceA, row, Int.reduceLT, Int.reduceLE, Int.reduceGT, Int.reduceGE, Int.reduceEq, Int.reduceNe, Int.reduceToNat, Int.reduceBEq, Int.reduceBNe, Nat.reduceLeDiff, Nat.reduceLT, Nat.reduceBNe, Nat.reduceGT, List.drop_nil, List.take_nil, Option.isSome_none, Int.ofNat_one, Int.ofNat_zero, w4, e3, ha]
  · have w4 := no c
    have e3 := (iter3_no (Y := Y) (H := []) c (k := 0) (by omega)).trans ((iter3_no (Y := Y) (H := []) c (k := 1) (by omega)).trans (end3 (Y := Y) (H := [])))
    simp only [SS, insA, wantedA, Opd.ev, putA, binA, eqbA, unA, fldA, partA, reduceIte, reduceCtorEq, Nat.reduceMod, Nat.reduceDiv, Nat.reduceBEq, resultA, resA, vI, Nat.reduceMul, Nat.reduceAdd, Nat.reduceSub, Nat.reduceEqDiff, Nat.reduceLT, Nat.reducePow, Nat.reduceLeDiff, st, Option.bind_eq_bind, Option.pure_def, List.length_nil, Int.cast_ofNat_Int, List.reverse_nil, Int.ofNat_zero] at e3 w4
    simp only [F3B, F3T1, in3_1, SS, insA, wantedA, Opd.ev, putA, binA, eqbA, unA, fldA, partA, reduceIte, reduceCtorEq, Nat.reduceMod, Nat.reduceDiv, Nat.reduceBEq, resultA, resA, vI, Nat.reduceMul, Nat.reduceAdd, Nat.reduceSub, Nat.reduceEqDiff, Nat.reduceLT, Nat.reducePow, Nat.reduceLeDiff, st, Option.bind_eq_bind, Option.pure_def, List.length_nil, Int.cast_ofNat_Int, List.reverse_nil, UU, idxP, cellsAt, storeA, fillA, zerosA, putAll, optNat, sliceA, row, Int.reduceLT, Int.reduceLE, Int.reduceGT, Int.reduceGE, Int.reduceEq, Int.reduceNe, Int.reduceToNat, Int.reduceBEq, Int.reduceBNe, Nat.reduceLeDiff, Nat.reduceLT, Nat.reduceBNe, Nat.reduceGT, List.drop_nil, List.take_nil, Option.isSome_none, Int.ofNat_one, Int.ofNat_zero, w4, e3, ha]
end
end Go.X
