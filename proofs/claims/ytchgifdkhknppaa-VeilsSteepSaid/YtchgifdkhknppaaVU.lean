import Derived.Test.YtchgifdkhknppaaVT
/-! Veils: two tables beside each other; turned tables. -/
set_option linter.unusedSimpArgs false
set_option linter.unusedVariables false
set_option maxHeartbeats 4000000
set_option maxRecDepth 10000
namespace Go.X
open Go Go.RowKit
section
variable {Y : Run} {H : Heap}

/-- All that a table lies in is below m. -/
structure Low (m : Nat) (v : AV) (cells : List AV) (n : Nat) : Prop where
  v : ∀ i, idOf v = some i → i < m
  c : ∀ j i, j < n → idOf (cells.getD j .undef) = some i → i < m
theorem HTab.low {k : Nat} {R : Heap} {v : AV} {t : List (List Int)} {cells : List AV} (h : HTab k R v t cells) : Low R.length v cells t.length :=
  ⟨fun i hi => h.gro.id_lt hi, fun j i hj hi => (h.row j hj).id_lt hi⟩
theorem HTab.other {k m id : Nat} {R : Heap} {o : Ob} {v : AV} {t : List (List Int)} {cells : List AV} (h : HTab k R v t cells) (hl : Low m v cells t.length) (hid : id < k ∨ m ≤ id) : HTab k (R.set id o) v t cells :=
  h.keep (fun i hi => by
    have h1 := h.gro.ge hi; have h2 := hl.v i hi
    rw [List.getElem?_set_ne (by omega)]) fun j i hj hi => by
    have h1 := (h.row j hj).ge hi; have h2 := hl.c j i hj hi
    rw [List.getElem?_set_ne (by omega)]
theorem HTab.grow {k : Nat} {R R' : Heap} {v : AV} {t : List (List Int)} {cells : List AV} (h : HTab k R v t cells) (hR : ∀ i, i < R.length → R'[i]? = R[i]?) : HTab k R' v t cells :=
  h.keep (fun i hi => hR i (h.gro.id_lt hi)) fun j i hj hi => hR i ((h.row j hj).id_lt hi)
/-- A number in a table; where it lies. -/
theorem HTab.store2 {k i j m : Nat} {R : Heap} {v : AV} {t : List (List Int)} {cells : List AV} {x : Int} (h : HTab k R v t cells) (hl : Low m v cells t.length) (hi : i < t.length) (hj : j < t[i].length) :
    ∃ id o, storeA R 1 (gptr 1 (cells.getD i .undef) j) (vI x) = some (R.set id o) ∧ HTab k (R.set id o) v (t.set i (t[i].set j x)) cells ∧ k ≤ id ∧ id < m := by
  obtain ⟨id, o, s1, s2, s3⟩ := h.store (x := x) hi hj
  obtain ⟨id2, ver, g1, g2, g3, g4⟩ := (h.row i hi).store (x := x) hj
  rw [g3] at s1
  obtain ⟨id3, ver3, e1, e2, e3, e4⟩ := (h.row i hi).store (x := x) hj
  refine ⟨id2, _, g3, ?_, (h.row i hi).ge g1, hl.c i id2 hi g1⟩
  have : R.set id2 ⟨ver, (t[i].set j x).map vI⟩ = R.set id o := by simpa using s1
  rw [this]; exact s2

theorem copy_raw {vt : AV} {t : List (List Int)} (ht : IsTab vt t) (hs : Small t) (H0 : Heap) : ∃ v R cells, callA (callL EV Y) 2 24 [vt] H0 = some (v, R) ∧ HTab H0.length R v t cells ∧ ∀ a, a < H0.length → R[a]? = H0[a]? := by
  obtain ⟨R', v', cells', q1, q2⟩ := L24 (Y := Y) ht hs t.length 0 [] .nils [] (by omega) (HTab.nil _ _)
  have hr : callL EV Y 24 [vt] [] = some (v', R') := by
    rw [call24 rfl]
    simp only [SS, insA, wantedA, Opd.ev, putA, binA, eqbA, unA, fldA, partA, reduceIte, reduceCtorEq, Nat.reduceMod, Nat.reduceDiv, Nat.reduceBEq, resultA, resA, vI, Nat.reduceMul, Nat.reduceAdd, Nat.reduceSub, Nat.reduceEqDiff, Nat.reduceLT, Nat.reducePow, Nat.reduceLeDiff, st, Option.bind_eq_bind, Option.pure_def, List.length_nil, Int.cast_ofNat_Int, List.reverse_nil, Int.ofNat_zero] at q1
    simp only [F24B, F24T0, in24_0, SS, insA, wantedA, Opd.ev, putA, binA, eqbA, unA, fldA, partA, reduceIte, reduceCtorEq, Nat.reduceMod, Nat.reduceDiv, Nat.reduceBEq, resultA, resA, vI, Nat.reduceMul, Nat.reduceAdd, Nat.reduceSub, Nat.reduceEqDiff, Nat.reduceLT, Nat.reducePow, Nat.reduceLeDiff, st, Option.bind_eq_bind, Option.pure_def, List.length_nil, Int.cast_ofNat_Int, List.reverse_nil, UU, idxP, cellsAt, storeA, fillA, zerosA, putAll, optNat, sliceA, row, Int.reduceLT, Int.reduceLE, Int.reduceGT, Int.reduceGE, Int.reduceEq, Int.reduceNe, Int.reduceToNat, Int.reduceBEq, Int.reduceBNe, Nat.reduceLeDiff, Nat.reduceLT, Nat.reduceBNe, Nat.reduceGT, List.drop_nil, List.take_nil, Option.isSome_none, Int.ofNat_one, Int.ofNat_zero, q1]
  obtain ⟨v, R, cells, p1, p2, p3⟩ := call_tab (H := H0) (R := callL EV Y) (f := 24) (args := [vt]) (bs := [vt]) (by rw [mapM_cons', ht.snap]; rfl) hr q2
  exact ⟨v, R, cells, p1, p2, p3⟩

/-! ### Read backwards, and by columns -/
theorem sumI_app : ∀ (a b : List Int), sumI (a ++ b) = sumI a + sumI b
  | [], b => by simp [sumI]
  | x :: a, b => by simp only [List.cons_append, sumI, sumI_app a b]; omega
theorem sumI_rev : ∀ (a : List Int), sumI a.reverse = sumI a
  | [] => rfl
  | x :: a => by rw [List.reverse_cons, sumI_app, sumI_rev a]; simp only [sumI]; omega
theorem altB_facts {l : List Int} (h : altB l = true) : (∀ m, 0 ≤ sumI (l.take m) ∧ sumI (l.take m) ≤ 1) ∧ sumI l = 1 := by
  unfold altB at h
  have h1 := eq_of_beq h
  refine ⟨fun m => ?_, ?_⟩
  · have := runS_pre m (by omega) h1; omega
  · have := runS_all h1; omega
theorem altB_rev {l : List Int} (h : altB l = true) : altB l.reverse = true := by
  obtain ⟨h1, h2⟩ := altB_facts h
  refine altB_of (fun m hm => ?_) (by rw [sumI_rev, h2])
  rw [List.take_reverse, sumI_rev]
  have := sumI_app (l.take (l.length - m)) (l.drop (l.length - m))
  rw [List.take_append_drop, h2] at this
  have := h1 (l.length - m)
  omega

def revT (t : List (List Int)) (a b : Nat) : Int := at2 t a (t.length - 1 - b)
def trT (t : List (List Int)) (a b : Nat) : Int := at2 t b a
theorem colD_tabF {n j : Nat} {f : Nat → Nat → Int} (hj : j < n) : colD (tabF n f) j = (List.range n).map fun i => f i j := by
  unfold colD tabF
  rw [List.map_map]
  refine List.map_congr_left fun i hi => ?_
  simp [List.getD_eq_getElem?_getD, hj]
theorem row_at2 {t : List (List Int)} {i : Nat} (hi : i < t.length) : t[i] = (List.range t[i].length).map (at2 t i) :=
  List.ext_getElem (by simp) fun j h1 h2 => by rw [List.getElem_map, List.getElem_range, at2_get hi h1]
theorem col_at2 {t : List (List Int)} {j : Nat} : colD t j = (List.range t.length).map fun i => at2 t i j :=
  List.ext_getElem (by simp [colD]) fun i h1 h2 => by
    have hi : i < t.length := by simpa [colD] using h1
    rw [List.getElem_map, List.getElem_range]
    simp only [colD, List.getElem_map, at2, getD_get hi]
theorem Veil.rev {t : List (List Int)} (h : Veil t) : Veil (tabF t.length (revT t)) := by
  refine ⟨by rw [tabF_len]; exact h.n1, by rw [tabF_len]; exact h.n5, fun r hr => by rw [tabF_len]; exact tabF_mem r hr, fun r hr => ?_, fun j hj => ?_⟩
  · obtain ⟨i, hi, rfl⟩ := List.getElem_of_mem hr
    have hit : i < t.length := by rw [tabF_len] at hi; exact hi
    have hl := h.row _ (List.getElem_mem hit)
    have e : (tabF t.length (revT t))[i] = t[i].reverse := by
      rw [tabF_row]
      refine List.ext_getElem (by simp [hl]) fun j h1 h2 => ?_
      have hj : j < t.length := by simpa using h1
      rw [List.getElem_map, List.getElem_range, List.getElem_reverse]
      unfold revT
      rw [at2_get hit (by omega)]
      simp only [hl]
    rw [e]
    exact altB_rev (h.alt _ (List.getElem_mem hit))
  · rw [tabF_len] at hj
    rw [colD_tabF hj]
    have := h.col (t.length - 1 - j) (by omega)
    rw [col_at2] at this
    exact this
theorem Veil.tr {t : List (List Int)} (h : Veil t) : Veil (tabF t.length (trT t)) := by
  refine ⟨by rw [tabF_len]; exact h.n1, by rw [tabF_len]; exact h.n5, fun r hr => by rw [tabF_len]; exact tabF_mem r hr, fun r hr => ?_, fun j hj => ?_⟩
  · obtain ⟨i, hi, rfl⟩ := List.getElem_of_mem hr
    have hit : i < t.length := by rw [tabF_len] at hi; exact hi
    rw [tabF_row]
    have := h.col i hit
    rw [col_at2] at this
    exact this
  · rw [tabF_len] at hj
    rw [colD_tabF hj]
    have := h.alt _ (List.getElem_mem hj)
    rw [row_at2 hj, h.row _ (List.getElem_mem hj)] at this
    exact this

/-! ### Turning twice -/
section
variable {n : Nat} {h : List (List Int)} (S : Steep n h) {i j : Nat} (hi : 1 ≤ i ∧ i < n) (hj : 1 ≤ j ∧ j < n)
include S hi hj
theorem Steep.turn_at (a b : Nat) : at2 (turnT h i j) a b = if a = i ∧ b = j then turnV h i j else at2 h a b := by
  obtain ⟨b1, b2⟩ := S.in (i := i) (j := j) (by omega) (by omega)
  exact at2_setT b1 b2
theorem Steep.turn_free : fridB (turnT h i j) i j = fridB h i j := by
  unfold fridB
  simp only [S.turn_at hi hj]
  rw [if_neg (by omega), if_neg (by omega), if_neg (by omega), if_neg (by omega)]
theorem Steep.turn_back (hf : fridB h i j = true) : turnT (turnT h i j) i j = h := by
  have S2 := S.turn hi hj hf
  have hf2 : fridB (turnT h i j) i j = true := by rw [S.turn_free hi hj, hf]
  have S3 := S2.turn hi hj hf2
  refine sq_ext S3.len S3.row S.len S.row fun a b ha hb => ?_
  rw [S2.turn_at hi hj]
  split
  · rename_i e
    obtain ⟨rfl, rfl⟩ := e
    unfold turnV
    rw [S.turn_at hi hj, S.turn_at hi hj, if_neg (by omega), if_pos ⟨rfl, rfl⟩]
    unfold turnV
    omega
  · rename_i e
    rw [S.turn_at hi hj, if_neg e]
theorem Steep.turn_ne : turnT h i j ≠ h := by
  intro e
  have h1 := S.turn_at hi hj i j
  rw [e, if_pos ⟨rfl, rfl⟩] at h1
  have g1 := S.ver (i - 1) j (by omega) (by omega)
  rw [show i - 1 + 1 = i by omega] at g1
  unfold turnV at h1
  unfold pm at g1
  omega
end

theorem L13_0 {vt v1 v2 x1 x2 : AV} {t : List (List Int)} {n a k m : Nat} {c1 c2 : List AV} (ht : IsTab vt t) (hn : t.length = n) (h5 : n ≤ 5) (hr : ∀ r ∈ t, r.length = n) (ha : a < n) (hkm : k ≤ m) (d : Nat) : ∀ (b : Nat) (R : Heap) (q1 q2 : List (List Int)), b + d = n →
    HTab k R v1 q1 c1 → Low m v1 c1 n → HTab m R v2 q2 c2 → Fill n (revT t) q1 a b → Fill n (trT t) q2 a b →
    ∃ R' q1' q2', lp EV Y F13L0 (sp 148 [(11, vI b), (10, vI a), (9, v2), (8, v1), (7, vI n), (2, x2), (1, x1), (0, vt)]) R = some (.x 2, sp 148 [(10, vI a), (9, v2), (8, v1), (7, vI n), (2, x2), (1, x1), (0, vt)], R') ∧ HTab k R' v1 q1' c1 ∧ HTab m R' v2 q2' c2 ∧ Fill n (revT t) q1' a n ∧ Fill n (trT t) q2' a n := by
  induction d with
  | zero =>
    intro b R q1 q2 hb T1 L1 T2 F1 F2
    have : ¬ ((b : Int) < (n : Int)) := by omega
    refine ⟨R, q1, q2, ?_, T1, T2, by rwa [show b = n by omega] at F1, by rwa [show b = n by omega] at F2⟩
    rw [un13_0]
    simp only [F13L0b, SS, insA, wantedA, Opd.ev, putA, binA, eqbA, unA, fldA, partA, reduceIte, reduceCtorEq, Nat.reduceMod, Nat.reduceDiv, Nat.reduceBEq, resultA, resA, vI, Nat.reduceMul, Nat.reduceAdd, Nat.reduceSub, Nat.reduceEqDiff, Nat.reduceLT, Nat.reducePow, Nat.reduceLeDiff, st, Option.bind_eq_bind, Option.pure_def, List.length_nil, Int.cast_ofNat_Int, List.reverse_nil, UU, idxP, cellsAt, storeA, fillA, zerosA, putAll, optNat, sliceA, row, Int.reduceLT, Int.reduceLE, Int.reduceGT, Int.reduceGE, Int.reduceEq, Int.reduceNe, Int.reduceToNat, Int.reduceBEq, Int.reduceBNe, Nat.reduceLeDiff, Nat.reduceLT, Nat.reduceBNe, Nat.reduceGT, List.drop_nil, List.take_nil, Option.isSome_none, Int.ofNat_one, Int.ofNat_zero, this]
  | succ d ih =>
    intro b R q1 q2 hb T1 L1 T2 F1 F2
    have hc : (b : Int) < (n : Int) := by omega
    have hww := wrap_succ (n := b) (by omega)
    have w1 := wrap_pred (i := n) (by omega) (by omega)
    have w2 : IntKind.wrap .i64 (((n - 1 : Nat) : Int) - (b : Int)) = ((n - 1 - b : Nat) : Int) := by rw [wrap_id (by omega) (by omega)]; omega
    have at1 : a < t.length := by omega
    have bt1 : b < t.length := by omega
    have ra := hr _ (List.getElem_mem at1)
    have rb := hr _ (List.getElem_mem bt1)
    have cA : Cell vt t a (n - 1 - b) := ⟨at1, by omega⟩
    have cB : Cell vt t b a := ⟨bt1, by omega⟩
    have e1 : at2 t a (n - 1 - b) = revT t a b := by unfold revT; rw [hn]
    have e2 : at2 t b a = trT t a b := rfl
    have i1 : a < q1.length := by rw [F1.len]; exact ha
    have j1 : b < q1[a].length := by rw [F1.rlen i1]; omega
    obtain ⟨id, o, s1, s2, s3, s4⟩ := T1.store2 (x := revT t a b) (by rw [F1.len]; exact L1) i1 j1
    have T2' : HTab m (R.set id o) v2 q2 c2 := T2.other T2.low (.inl s4)
    have i2 : a < q2.length := by rw [F2.len]; exact ha
    have j2 : b < q2[a].length := by rw [F2.rlen i2]; omega
    obtain ⟨id2, o2, u1, u2, u3, u4⟩ := T2'.store2 (x := trT t a b) T2'.low i2 j2
    have F1' := F1.put i1 j1
    have T1' : HTab k ((R.set id o).set id2 o2) v1 (q1.set a (q1[a].set b (revT t a b))) c1 := s2.other (by rw [F1'.len]; exact L1) (.inr u3)
    obtain ⟨R', q1', q2', p1, p2, p3, p4, p5⟩ := ih (b + 1) _ _ _ (by omega) T1' L1 u2 F1' (F2.put i2 j2)
    refine ⟨R', q1', q2', ?_, p2, p3, p4, p5⟩
    rw [un13_0]
    simp only [SS, insA, wantedA, Opd.ev, putA, binA, eqbA, unA, fldA, partA, reduceIte, reduceCtorEq, Nat.reduceMod, Nat.reduceDiv, Nat.reduceBEq, resultA, resA, vI, Nat.reduceMul, Nat.reduceAdd, Nat.reduceSub, Nat.reduceEqDiff, Nat.reduceLT, Nat.reducePow, Nat.reduceLeDiff, st, Option.bind_eq_bind, Option.pure_def, List.length_nil, Int.cast_ofNat_Int, List.reverse_nil] at p1 s1 u1
    simp only [F13L0b, SS, insA, wantedA, Opd.ev, putA, binA, eqbA, unA, fldA, partA, reduceIte, reduceCtorEq, Nat.reduceMod, Nat.reduceDiv, Nat.reduceBEq, resultA, resA, vI, Nat.reduceMul, Nat.reduceAdd, Nat.reduceSub, Nat.reduceEqDiff, Nat.reduceLT, Nat.reducePow, Nat.reduceLeDiff, st, Option.bind_eq_bind, Option.pure_def, List.length_nil, Int.cast_ofNat_Int, List.reverse_nil, UU, idxP, cellsAt, fillA, zerosA, putAll, row, Int.reduceLT, Int.reduceLE, Int.reduceGT, Int.reduceGE, Int.reduceEq, Int.reduceNe, Int.reduceToNat, Int.reduceBEq, Int.reduceBNe, Nat.reduceLeDiff, Nat.reduceLT, Nat.reduceBNe, Nat.reduceGT, List.drop_nil, List.take_nil, Option.isSome_none, Int.ofNat_one, Int.ofNat_zero, hc, hww, w1, w2, T1.idx i1, T1.load i1, T1.idx2 i1 j1, cA.idx ht, cA.load ht, cA.idx2 ht, cA.load2 ht, e1, s1, T2'.idx i2, T2'.load i2, T2'.idx2 i2 j2, cB.idx ht, cB.load ht, cB.idx2 ht, cB.load2 ht, e2, u1, p1]

theorem L13_1 {vt v1 v2 x1 x2 : AV} {t : List (List Int)} {n k m : Nat} {c1 c2 : List AV} (ht : IsTab vt t) (hn : t.length = n) (h5 : n ≤ 5) (hr : ∀ r ∈ t, r.length = n) (hkm : k ≤ m) (d : Nat) : ∀ (a : Nat) (R : Heap) (q1 q2 : List (List Int)), a + d = n →
    HTab k R v1 q1 c1 → Low m v1 c1 n → HTab m R v2 q2 c2 → Fill n (revT t) q1 a 0 → Fill n (trT t) q2 a 0 →
    ∃ R', lp EV Y F13L1 (sp 148 [(10, vI a), (9, v2), (8, v1), (7, vI n), (2, x2), (1, x1), (0, vt)]) R = some (.x 0, sp 148 [(9, v2), (8, v1), (7, vI n), (2, x2), (1, x1), (0, vt)], R') ∧ HTab k R' v1 (tabF n (revT t)) c1 ∧ HTab m R' v2 (tabF n (trT t)) c2 := by
  induction d with
  | zero =>
    intro a R q1 q2 ha T1 L1 T2 F1 F2
    have : ¬ ((a : Int) < (n : Int)) := by omega
    have e1 : q1 = _ := Fill.done (by rwa [show a = n by omega] at F1)
    have e2 : q2 = _ := Fill.done (by rwa [show a = n by omega] at F2)
    refine ⟨R, ?_, by rw [← e1]; exact T1, by rw [← e2]; exact T2⟩
    rw [un13_1]
    simp only [F13L1b, SS, insA, wantedA, Opd.ev, putA, binA, eqbA, unA, fldA, partA, reduceIte, reduceCtorEq, Nat.reduceMod, Nat.reduceDiv, Nat.reduceBEq, resultA, resA, vI, Nat.reduceMul, Nat.reduceAdd, Nat.reduceSub, Nat.reduceEqDiff, Nat.reduceLT, Nat.reducePow, Nat.reduceLeDiff, st, Option.bind_eq_bind, Option.pure_def, List.length_nil, Int.cast_ofNat_Int, List.reverse_nil, UU, idxP, cellsAt, storeA, fillA, zerosA, putAll, optNat, sliceA, row, Int.reduceLT, Int.reduceLE, Int.reduceGT, Int.reduceGE, Int.reduceEq, Int.reduceNe, Int.reduceToNat, Int.reduceBEq, Int.reduceBNe, Nat.reduceLeDiff, Nat.reduceLT, Nat.reduceBNe, Nat.reduceGT, List.drop_nil, List.take_nil, Option.isSome_none, Int.ofNat_one, Int.ofNat_zero, this]
  | succ d ih =>
    intro a R q1 q2 ha T1 L1 T2 F1 F2
    have hc : (a : Int) < (n : Int) := by omega
    have hww := wrap_succ (n := a) (by omega)
    obtain ⟨R1, q1', q2', a1, a2, a3, a4, a5⟩ := L13_0 (Y := Y) (x1 := x1) (x2 := x2) ht hn h5 hr (show a < n by omega) hkm n 0 R q1 q2 (by omega) T1 L1 T2 F1 F2
    obtain ⟨R', p1, p2, p3⟩ := ih (a + 1) R1 q1' q2' (by omega) a2 L1 a3 a4.next a5.next
    refine ⟨R', ?_, p2, p3⟩
    rw [un13_1]
    simp only [SS, insA, wantedA, Opd.ev, putA, binA, eqbA, unA, fldA, partA, reduceIte, reduceCtorEq, Nat.reduceMod, Nat.reduceDiv, Nat.reduceBEq, resultA, resA, vI, Nat.reduceMul, Nat.reduceAdd, Nat.reduceSub, Nat.reduceEqDiff, Nat.reduceLT, Nat.reducePow, Nat.reduceLeDiff, st, Option.bind_eq_bind, Option.pure_def, List.length_nil, Int.cast_ofNat_Int, List.reverse_nil, Int.ofNat_zero] at a1 p1
    simp only [F13L1b, F13T0, in13_0, SS, insA, wantedA, Opd.ev, putA, binA, eqbA, unA, fldA, partA, reduceIte, reduceCtorEq, Nat.reduceMod, Nat.reduceDiv, Nat.reduceBEq, resultA, resA, vI, Nat.reduceMul, Nat.reduceAdd, Nat.reduceSub, Nat.reduceEqDiff, Nat.reduceLT, Nat.reducePow, Nat.reduceLeDiff, st, Option.bind_eq_bind, Option.pure_def, List.length_nil, Int.cast_ofNat_Int, List.reverse_nil, UU, idxP, cellsAt, storeA, fillA, zerosA, putAll, optNat, sliceA, row, Int.reduceLT, Int.reduceLE, Int.reduceGT, Int.reduceGE, Int.reduceEq, Int.reduceNe, Int.reduceToNat, Int.reduceBEq, Int.reduceBNe, Nat.reduceLeDiff, Nat.reduceLT, Nat.reduceBNe, Nat.reduceGT, List.drop_nil, List.take_nil, Option.isSome_none, Int.ofNat_one, Int.ofNat_zero, hc, a1, hww, p1]

theorem law13 {vt : AV} {t : List (List Int)} {i j : Int} (ht : IsTab vt t) (hi : 0 ≤ i ∧ i < 256) (hj : 0 ≤ j ∧ j < 256) : freeX [] (callL EV Y 13 [vt, .int .u8 i, .int .u8 j] []) = some (.bool true, []) := by
  obtain ⟨o1, o2, o3⟩ := ht.one
  have f := fun H => few23 (Y := Y) (H := H) (tabs1 (s := true) ht) (by simp)
  have ha := fun H => alive20 (Y := Y) (H := H)
  rw [call13 rfl]
  by_cases hs : Small t
  · rw [decide_eq_true (few1.2 hs)] at f
    have k26 := fun H => isveil26 (Y := Y) (H := H) ht hs
    rw [ref_read] at k26
    cases ho : readOk t
    · rw [ho] at k26
      simp only [F13B, SS, insA, wantedA, Opd.ev, putA, binA, eqbA, unA, fldA, partA, reduceIte, reduceCtorEq, Nat.reduceMod, Nat.reduceDiv, Nat.reduceBEq, resultA, resA, vI, Nat.reduceMul, Nat.reduceAdd, Nat.reduceSub, Nat.reduceEqDiff, Nat.reduceLT, Nat.reducePow, Nat.reduceLeDiff, st, Option.bind_eq_bind, Option.pure_def, List.length_nil, Int.cast_ofNat_Int, List.reverse_nil, UU, idxP, cellsAt, storeA, fillA, zerosA, putAll, optNat, sliceA, row, Int.reduceLT, Int.reduceLE, Int.reduceGT, Int.reduceGE, Int.reduceEq, Int.reduceNe, Int.reduceToNat, Int.reduceBEq, Int.reduceBNe, Nat.reduceLeDiff, Nat.reduceLT, Nat.reduceBNe, Nat.reduceGT, List.drop_nil, List.take_nil, Option.isSome_none, Int.ofNat_one, Int.ofNat_zero, o1, o2, o3, ht.snap, f, k26, ha]
    · have hv := veil_iff.1 ho
      have h1 := hv.n1
      have h5 := hv.n5
      have S := hv.steep
      rw [ho] at k26
      obtain ⟨v1, R1, c1, a1, a2, a3⟩ := copy_raw (Y := Y) ht hs [⟨0, [vt]⟩]
      obtain ⟨v2, R2, c2, b1, b2, b3⟩ := copy_raw (Y := Y) ht hs R1
      have L1 := a2.low
      have hle : 1 ≤ R1.length := by
        rcases Nat.eq_zero_or_pos R1.length with h0 | h0
        · have := a3 0 (by simp)
          rw [List.getElem?_eq_none (by omega)] at this
          simp at this
        · exact h0
      have F0 : ∀ f, Fill t.length f t 0 0 := fun f => ⟨rfl, hv.row, fun a b _ _ h => by omega⟩
      obtain ⟨R3, p1, p2, p3⟩ := L13_1 (Y := Y) (x1 := .int .u8 i) (x2 := .int .u8 j) (k := 1) ht rfl h5 hv.row hle t.length 0 R2 t t (by omega) (a2.grow b3) L1 b2 (F0 _) (F0 _)
      obtain ⟨w1, e1, e2, _⟩ := snap_if (b := 59) p2
      obtain ⟨w2, g1, g2, _⟩ := snap_if (b := 59) p3
      have kt := fun H => isveil25 (Y := Y) (H := H) ht hs
      have k1 := fun H => isveil25 (Y := Y) (H := H) e1 hv.rev.small
      have k2 := fun H => isveil25 (Y := Y) (H := H) g1 hv.tr.small
      rw [ho] at kt
      rw [veil_iff.2 hv.rev] at k1
      rw [veil_iff.2 hv.tr] at k2
      have wi : IntKind.wrap .i64 i = i := wrap_id (by omega) (by omega)
      have wj : IntKind.wrap .i64 j = j := wrap_id (by omega) (by omega)
      have hn0 : ¬ ((t.length : Int) = 0) := by omega
      obtain ⟨a, ea⟩ : ∃ a : Nat, i.tmod (t.length : Int) = a ∧ a < t.length := ⟨(i.tmod t.length).toNat, by
        have h1 := Int.tmod_nonneg (t.length : Int) hi.1
        have h2 := Int.tmod_lt_of_pos i (show 0 < (t.length : Int) by omega)
        omega⟩
      obtain ⟨b, eb⟩ : ∃ b : Nat, j.tmod (t.length : Int) = b ∧ b < t.length := ⟨(j.tmod t.length).toNat, by
        have h1 := Int.tmod_nonneg (t.length : Int) hj.1
        have h2 := Int.tmod_lt_of_pos j (show 0 < (t.length : Int) by omega)
        omega⟩
      obtain ⟨ea, al⟩ := ea
      obtain ⟨eb, bl⟩ := eb
      simp only [SS, insA, wantedA, Opd.ev, putA, binA, eqbA, unA, fldA, partA, reduceIte, reduceCtorEq, Nat.reduceMod, Nat.reduceDiv, Nat.reduceBEq, resultA, resA, vI, Nat.reduceMul, Nat.reduceAdd, Nat.reduceSub, Nat.reduceEqDiff, Nat.reduceLT, Nat.reducePow, Nat.reduceLeDiff, st, Option.bind_eq_bind, Option.pure_def, List.length_nil, Int.cast_ofNat_Int, List.reverse_nil, Int.ofNat_zero] at p1
      simp only [F13B, in13_1, SS, insA, wantedA, Opd.ev, putA, binA, eqbA, unA, fldA, partA, reduceIte, reduceCtorEq, Nat.reduceMod, Nat.reduceDiv, Nat.reduceBEq, resultA, resA, vI, Nat.reduceMul, Nat.reduceAdd, Nat.reduceSub, Nat.reduceEqDiff, Nat.reduceLT, Nat.reducePow, Nat.reduceLeDiff, st, Option.bind_eq_bind, Option.pure_def, List.length_nil, Int.cast_ofNat_Int, List.reverse_nil, UU, idxP, cellsAt, storeA, fillA, zerosA, putAll, optNat, sliceA, row, Int.reduceLT, Int.reduceLE, Int.reduceGT, Int.reduceGE, Int.reduceEq, Int.reduceNe, Int.reduceToNat, Int.reduceBEq, Int.reduceBNe, Nat.reduceLeDiff, Nat.reduceLT, Nat.reduceBNe, Nat.reduceGT, List.drop_nil, List.take_nil, Option.isSome_none, Int.ofNat_one, Int.ofNat_zero, o1, o2, o3, ht.snap, ht.len, f, k26, a1, b1, p1]
      simp only [F13T1, SS, insA, wantedA, Opd.ev, putA, binA, eqbA, unA, fldA, partA, reduceIte, reduceCtorEq, Nat.reduceMod, Nat.reduceDiv, Nat.reduceBEq, resultA, resA, vI, Nat.reduceMul, Nat.reduceAdd, Nat.reduceSub, Nat.reduceEqDiff, Nat.reduceLT, Nat.reducePow, Nat.reduceLeDiff, st, Option.bind_eq_bind, Option.pure_def, List.length_nil, Int.cast_ofNat_Int, List.reverse_nil, UU, idxP, cellsAt, storeA, fillA, zerosA, putAll, optNat, sliceA, row, Int.reduceLT, Int.reduceLE, Int.reduceGT, Int.reduceGE, Int.reduceEq, Int.reduceNe, Int.reduceToNat, Int.reduceBEq, Int.reduceBNe, Nat.reduceLeDiff, Nat.reduceLT, Nat.reduceBNe, Nat.reduceGT, List.drop_nil, List.take_nil, Option.isSome_none, Int.ofNat_one, Int.ofNat_zero, ht.snap, e2, g2, kt, k1, k2, wi, wj, hn0, ea, eb, and_self, ne_eq, not_false_eq_true]
      by_cases c : 1 ≤ a ∧ 1 ≤ b
      · have z1 : ((a : Int) == 0) = false := by simp; omega
        have z2 : ((b : Int) == 0) = false := by simp; omega
        have t1 := turn46_ok (Y := Y) ht hs hv (i := a) (j := b) (by omega) (by omega)
        cases hf : fridB (hgtT t) a b
        · have t2 := t1.2 hf
          simp only [SS, insA, wantedA, Opd.ev, putA, binA, eqbA, unA, fldA, partA, reduceIte, reduceCtorEq, Nat.reduceMod, Nat.reduceDiv, Nat.reduceBEq, resultA, resA, vI, Nat.reduceMul, Nat.reduceAdd, Nat.reduceSub, Nat.reduceEqDiff, Nat.reduceLT, Nat.reducePow, Nat.reduceLeDiff, st, Option.bind_eq_bind, Option.pure_def, List.length_nil, Int.cast_ofNat_Int, List.reverse_nil] at t2
          simp only [SS, insA, wantedA, Opd.ev, putA, binA, eqbA, unA, fldA, partA, reduceIte, reduceCtorEq, Nat.reduceMod, Nat.reduceDiv, Nat.reduceBEq, resultA, resA, vI, Nat.reduceMul, Nat.reduceAdd, Nat.reduceSub, Nat.reduceEqDiff, Nat.reduceLT, Nat.reducePow, Nat.reduceLeDiff, st, Option.bind_eq_bind, Option.pure_def, List.length_nil, Int.cast_ofNat_Int, List.reverse_nil, UU, idxP, cellsAt, storeA, fillA, zerosA, putAll, optNat, sliceA, row, Int.reduceLT, Int.reduceLE, Int.reduceGT, Int.reduceGE, Int.reduceEq, Int.reduceNe, Int.reduceToNat, Int.reduceBEq, Int.reduceBNe, Nat.reduceLeDiff, Nat.reduceLT, Nat.reduceBNe, Nat.reduceGT, List.drop_nil, List.take_nil, Option.isSome_none, Int.ofNat_one, Int.ofNat_zero, t2, z1, z2, ha]
        · obtain ⟨x, x1, x2⟩ := t1.1 hf
          have S2 := S.turn (i := a) (j := b) (by omega) (by omega) hf
          have V2 := S2.veil
          have hx := S2.hgts
          have xl : (vOf t.length (turnT (hgtT t) a b)).length = t.length := tabF_len
          have kx := fun H => isveil26 (Y := Y) (H := H) x1 V2.small
          rw [ref_read, veil_iff.2 V2] at kx
          have hne : ¬ vOf t.length (turnT (hgtT t) a b) = t := fun e => by
            rw [e] at hx
            exact S.turn_ne (i := a) (j := b) (by omega) (by omega) hx.symm
          have sx := fun H => same19 (Y := Y) (H := H) x1 ht (by rw [xl]; omega) (fun r hr => by rw [tabF_mem r hr]; omega)
          rw [decide_eq_false hne] at sx
          have t3 := turn46_ok (Y := Y) x1 V2.small V2 (i := a) (j := b) (by rw [xl]; omega) (by rw [xl]; omega)
          rw [hx, xl] at t3
          obtain ⟨y, y1, y2⟩ := t3.1 (by rw [S.turn_free (by omega) (by omega), hf])
          rw [S.turn_back (by omega) (by omega) hf, hv.back] at y1
          have sy := fun H => same19 (Y := Y) (H := H) y1 ht (by omega) (fun r hr => by rw [hv.row r hr]; omega)
          rw [decide_eq_true rfl] at sy
          simp only [SS, insA, wantedA, Opd.ev, putA, binA, eqbA, unA, fldA, partA, reduceIte, reduceCtorEq, Nat.reduceMod, Nat.reduceDiv, Nat.reduceBEq, resultA, resA, vI, Nat.reduceMul, Nat.reduceAdd, Nat.reduceSub, Nat.reduceEqDiff, Nat.reduceLT, Nat.reducePow, Nat.reduceLeDiff, st, Option.bind_eq_bind, Option.pure_def, List.length_nil, Int.cast_ofNat_Int, List.reverse_nil] at x2 y2
          simp only [SS, insA, wantedA, Opd.ev, putA, binA, eqbA, unA, fldA, partA, reduceIte, reduceCtorEq, Nat.reduceMod, Nat.reduceDiv, Nat.reduceBEq, resultA, resA, vI, Nat.reduceMul, Nat.reduceAdd, Nat.reduceSub, Nat.reduceEqDiff, Nat.reduceLT, Nat.reducePow, Nat.reduceLeDiff, st, Option.bind_eq_bind, Option.pure_def, List.length_nil, Int.cast_ofNat_Int, List.reverse_nil, UU, idxP, cellsAt, storeA, fillA, zerosA, putAll, optNat, sliceA, row, Int.reduceLT, Int.reduceLE, Int.reduceGT, Int.reduceGE, Int.reduceEq, Int.reduceNe, Int.reduceToNat, Int.reduceBEq, Int.reduceBNe, Nat.reduceLeDiff, Nat.reduceLT, Nat.reduceBNe, Nat.reduceGT, List.drop_nil, List.take_nil, Option.isSome_none, Int.ofNat_one, Int.ofNat_zero, x2, z1, z2, x1.snap, y1.snap, ht.snap, kx, sx, y2, sy, ha, bne_self_eq_false, BEq.rfl]
      · have tn := fun H => turn46_no (Y := Y) (H := H) (i := (a : Int)) (j := (b : Int)) ht hs (fun h => c (by omega))
        by_cases ca : a = 0
        · subst ca
          simp only [SS, insA, wantedA, Opd.ev, putA, binA, eqbA, unA, fldA, partA, reduceIte, reduceCtorEq, Nat.reduceMod, Nat.reduceDiv, Nat.reduceBEq, resultA, resA, vI, Nat.reduceMul, Nat.reduceAdd, Nat.reduceSub, Nat.reduceEqDiff, Nat.reduceLT, Nat.reducePow, Nat.reduceLeDiff, st, Option.bind_eq_bind, Option.pure_def, List.length_nil, Int.cast_ofNat_Int, List.reverse_nil, Int.ofNat_zero] at tn
          simp only [SS, insA, wantedA, Opd.ev, putA, binA, eqbA, unA, fldA, partA, reduceIte, reduceCtorEq, Nat.reduceMod, Nat.reduceDiv, Nat.reduceBEq, resultA, resA, vI, Nat.reduceMul, Nat.reduceAdd, Nat.reduceSub, Nat.reduceEqDiff, Nat.reduceLT, Nat.reducePow, Nat.reduceLeDiff, st, Option.bind_eq_bind, Option.pure_def, List.length_nil, Int.cast_ofNat_Int, List.reverse_nil, UU, idxP, cellsAt, storeA, fillA, zerosA, putAll, optNat, sliceA, row, Int.reduceLT, Int.reduceLE, Int.reduceGT, Int.reduceGE, Int.reduceEq, Int.reduceNe, Int.reduceToNat, Int.reduceBEq, Int.reduceBNe, Nat.reduceLeDiff, Nat.reduceLT, Nat.reduceBNe, Nat.reduceGT, List.drop_nil, List.take_nil, Option.isSome_none, Int.ofNat_one, Int.ofNat_zero, tn, ha, Int.ofNat_zero, BEq.rfl]
        · have cb : b = 0 := by omega
          subst cb
          simp only [SS, insA, wantedA, Opd.ev, putA, binA, eqbA, unA, fldA, partA, reduceIte, reduceCtorEq, Nat.reduceMod, Nat.reduceDiv, Nat.reduceBEq, resultA, resA, vI, Nat.reduceMul, Nat.reduceAdd, Nat.reduceSub, Nat.reduceEqDiff, Nat.reduceLT, Nat.reducePow, Nat.reduceLeDiff, st, Option.bind_eq_bind, Option.pure_def, List.length_nil, Int.cast_ofNat_Int, List.reverse_nil, Int.ofNat_zero] at tn
          have z1 : ((a : Int) == 0) = false := by simp; omega
          simp only [SS, insA, wantedA, Opd.ev, putA, binA, eqbA, unA, fldA, partA, reduceIte, reduceCtorEq, Nat.reduceMod, Nat.reduceDiv, Nat.reduceBEq, resultA, resA, vI, Nat.reduceMul, Nat.reduceAdd, Nat.reduceSub, Nat.reduceEqDiff, Nat.reduceLT, Nat.reducePow, Nat.reduceLeDiff, st, Option.bind_eq_bind, Option.pure_def, List.length_nil, Int.cast_ofNat_Int, List.reverse_nil, UU, idxP, cellsAt, storeA, fillA, zerosA, putAll, optNat, sliceA, row, Int.reduceLT, Int.reduceLE, Int.reduceGT, Int.reduceGE, Int.reduceEq, Int.reduceNe, Int.reduceToNat, Int.reduceBEq, Int.reduceBNe, Nat.reduceLeDiff, Nat.reduceLT, Nat.reduceBNe, Nat.reduceGT, List.drop_nil, List.take_nil, Option.isSome_none, Int.ofNat_one, Int.ofNat_zero, tn, ha, z1, Int.ofNat_zero, BEq.rfl]
  · rw [decide_eq_false (fun h => hs (few1.1 h))] at f
    simp only [F13B, SS, insA, wantedA, Opd.ev, putA, binA, eqbA, unA, fldA, partA, reduceIte, reduceCtorEq, Nat.reduceMod, Nat.reduceDiv, Nat.reduceBEq, resultA, resA, vI, Nat.reduceMul, Nat.reduceAdd, Nat.reduceSub, Nat.reduceEqDiff, Nat.reduceLT, Nat.reducePow, Nat.reduceLeDiff, st, Option.bind_eq_bind, Option.pure_def, List.length_nil, Int.cast_ofNat_Int, List.reverse_nil, UU, idxP, cellsAt, storeA, fillA, zerosA, putAll, optNat, sliceA, row, Int.reduceLT, Int.reduceLE, Int.reduceGT, Int.reduceGE, Int.reduceEq, Int.reduceNe, Int.reduceToNat, Int.reduceBEq, Int.reduceBNe, Nat.reduceLeDiff, Nat.reduceLT, Nat.reduceBNe, Nat.reduceGT, List.drop_nil, List.take_nil, Option.isSome_none, Int.ofNat_one, Int.ofNat_zero, o1, o2, o3, ht.snap, f, ha]
end
end Go.X
