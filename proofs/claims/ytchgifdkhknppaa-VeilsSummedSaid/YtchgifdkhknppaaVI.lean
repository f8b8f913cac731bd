import Derived.Test.YtchgifdkhknppaaVH
/-! Veils: sums, squares that are made, heights. -/
set_option linter.unusedSimpArgs false
set_option linter.unusedVariables false
set_option maxHeartbeats 4000000
set_option maxRecDepth 10000
namespace Go.X
open Go Go.RowKit
section
variable {Y : Run} {H : Heap}

def sumI : List Int → Int
  | [] => 0
  | x :: l => x + sumI l
def sumV (t : List (List Int)) (i j : Nat) : Int := sumI ((t.take i).map fun r => sumI (r.take j))
def unitR (l : List Int) : Prop := ∀ x ∈ l, -1 ≤ x ∧ x ≤ 1
def unitT (t : List (List Int)) : Prop := ∀ r ∈ t, unitR r

theorem sumI_bound : ∀ {l : List Int}, unitR l → -(l.length : Int) ≤ sumI l ∧ sumI l ≤ l.length
  | [], _ => by simp [sumI]
  | x :: l, h => by
    have h1 := sumI_bound (l := l) fun y hy => h y (List.mem_cons_of_mem _ hy)
    have h2 := h x (by simp)
    simp only [sumI, List.length_cons]
    omega
theorem unitR.take {l : List Int} (h : unitR l) (j : Nat) : unitR (l.take j) := fun x hx => h x (List.mem_of_mem_take hx)
theorem unitR.drop {l : List Int} (h : unitR l) (j : Nat) : unitR (l.drop j) := fun x hx => h x (List.mem_of_mem_drop hx)
theorem sumV_bound {t : List (List Int)} (hu : unitT t) {i j : Nat} (hi : i ≤ 20) (hj : j ≤ 20) : -400 ≤ sumV t i j ∧ sumV t i j ≤ 400 := by
  have key : ∀ (q : List (List Int)), (∀ r ∈ q, unitR r) → -(20 * q.length : Int) ≤ sumI (q.map fun r => sumI (r.take j)) ∧ sumI (q.map fun r => sumI (r.take j)) ≤ 20 * q.length := by
    intro q
    induction q with
    | nil => intro _; simp [sumI]
    | cons r q ih =>
      intro h
      have h1 := ih fun y hy => h y (List.mem_cons_of_mem _ hy)
      have h2 := sumI_bound ((h r (by simp)).take j)
      have h3 : (r.take j).length ≤ 20 := by simp; omega
      simp only [List.map_cons, sumI, List.length_cons]
      omega
  have h1 := key (t.take i) fun r hr => hu r (List.mem_of_mem_take hr)
  have h2 : (t.take i).length ≤ 20 := by simp; omega
  unfold sumV
  omega

/-! ### The sum of a veil -/
theorem L66_0 {w v2 : AV} {l : List Int} {n i j : AV} (hw : IsRow w l) (hu : unitR l) (hl : l.length ≤ 20) {e c f : AV} (d : Nat) : ∀ (k : Nat) (s : Int), k + d = l.length → -1000 - k ≤ s ∧ s ≤ 1000 + k →
    lp EV Y F66L0 (sp 34 [(24, vI k), (23, vI l.length), (22, w), (16, i), (15, n), (14, v2), (7, vI s), (2, j)]) H = some (.x 2, sp 34 [(16, i), (15, n), (14, v2), (7, vI (s + sumI (l.drop k))), (2, j)], H) := by
  induction d with
  | zero =>
    intro k s hk hs
    rw [un66_0, List.drop_eq_nil_of_le (by omega)]
    have : ¬ ((k : Int) < (l.length : Int)) := by omega
    simp only [F66L0b, SS, insA, wantedA, Opd.ev, putA, binA, eqbA, unA, fldA, partA, reduceIte, reduceCtorEq, Nat.reduceMod, Nat.reduceDiv, Nat.reduceBEq, resultA, resA, vI, Nat.reduceMul, Nat.reduceAdd, Nat.reduceSub, Nat.reduceEqDiff, Nat.reduceLT, Nat.reducePow, Nat.reduceLeDiff, st, Option.bind_eq_bind, Option.pure_def, List.length_nil, Int.cast_ofNat_Int, List.reverse_nil, UU, idxP, cellsAt, fillA, zerosA, putAll, row, Int.reduceLT, Int.reduceLE, Int.reduceGT, Int.reduceGE, Int.reduceEq, Int.reduceNe, Int.reduceToNat, Int.reduceBEq, Int.reduceBNe, Nat.reduceLeDiff, Nat.reduceLT, Nat.reduceBNe, Nat.reduceGT, List.drop_nil, List.take_nil, Option.isSome_none, Int.ofNat_one, Int.ofNat_zero, this, sumI, Int.add_zero]
  | succ d ih =>
    intro k s hk hs
    have k1 : k < l.length := by omega
    have hc : (k : Int) < (l.length : Int) := by omega
    have hww := wrap_succ (n := k) (by omega)
    have hx := hu l[k] (by simp)
    have g1 : l.getD k 0 = l[k] := getD_get k1
    have w1 : IntKind.wrap .i64 (s + l[k]) = s + l[k] := wrap_id (by omega) (by omega)
    have ih := ih (k + 1) (s + l[k]) (by omega) (by omega)
    rw [un66_0, List.drop_eq_getElem_cons k1]
    simp only [SS, insA, wantedA, Opd.ev, putA, binA, eqbA, unA, fldA, partA, reduceIte, reduceCtorEq, Nat.reduceMod, Nat.reduceDiv, Nat.reduceBEq, resultA, resA, vI, Nat.reduceMul, Nat.reduceAdd, Nat.reduceSub, Nat.reduceEqDiff, Nat.reduceLT, Nat.reducePow, Nat.reduceLeDiff, st, Option.bind_eq_bind, Option.pure_def, List.length_nil, Int.cast_ofNat_Int, List.reverse_nil] at ih
    simp only [F66L0b, SS, insA, wantedA, Opd.ev, putA, binA, eqbA, unA, fldA, partA, reduceIte, reduceCtorEq, Nat.reduceMod, Nat.reduceDiv, Nat.reduceBEq, resultA, resA, vI, Nat.reduceMul, Nat.reduceAdd, Nat.reduceSub, Nat.reduceEqDiff, Nat.reduceLT, Nat.reducePow, Nat.reduceLeDiff, st, Option.bind_eq_bind, Option.pure_def, List.length_nil, Int.cast_ofNat_Int, List.reverse_nil, UU, idxP, cellsAt, fillA, zerosA, putAll, row, Int.reduceLT, Int.reduceLE, Int.reduceGT, Int.reduceGE, Int.reduceEq, Int.reduceNe, Int.reduceToNat, Int.reduceBEq, Int.reduceBNe, Nat.reduceLeDiff, Nat.reduceLT, Nat.reduceBNe, Nat.reduceGT, List.drop_nil, List.take_nil, Option.isSome_none, Int.ofNat_one, Int.ofNat_zero, hc, hw.idx k1, hw.load k1, g1, w1, hww, ih, sumI, Int.add_assoc]

theorem L66_1 {w : AV} {t : List (List Int)} {j : Nat} (hw : IsTab w t) (hu : unitT t) (hl : t.length ≤ 20) (hj : ∀ r ∈ t, j ≤ r.length) (hj2 : j ≤ 20) (d : Nat) : ∀ (k : Nat) (s : Int), k + d = t.length → -20 * k ≤ s ∧ s ≤ 20 * k →
    lp EV Y F66L1 (sp 34 [(16, vI k), (15, vI t.length), (14, w), (7, vI s), (2, vI j)]) H = some (.x 0, sp 34 [(7, vI (s + sumI ((t.drop k).map fun r => sumI (r.take j))))], H) := by
  induction d with
  | zero =>
    intro k s hk hs
    rw [un66_1, List.drop_eq_nil_of_le (by omega)]
    have : ¬ ((k : Int) < (t.length : Int)) := by omega
    simp only [F66L1b, SS, insA, wantedA, Opd.ev, putA, binA, eqbA, unA, fldA, partA, reduceIte, reduceCtorEq, Nat.reduceMod, Nat.reduceDiv, Nat.reduceBEq, resultA, resA, vI, Nat.reduceMul, Nat.reduceAdd, Nat.reduceSub, Nat.reduceEqDiff, Nat.reduceLT, Nat.reducePow, Nat.reduceLeDiff, st, Option.bind_eq_bind, Option.pure_def, List.length_nil, Int.cast_ofNat_Int, List.reverse_nil, UU, idxP, cellsAt, fillA, zerosA, putAll, row, Int.reduceLT, Int.reduceLE, Int.reduceGT, Int.reduceGE, Int.reduceEq, Int.reduceNe, Int.reduceToNat, Int.reduceBEq, Int.reduceBNe, Nat.reduceLeDiff, Nat.reduceLT, Nat.reduceBNe, Nat.reduceGT, List.drop_nil, List.take_nil, Option.isSome_none, Int.ofNat_one, Int.ofNat_zero, this, sumI, Int.add_zero, List.map_nil]
  | succ d ih =>
    intro k s hk hs
    have k1 : k < t.length := by omega
    have hc : (k : Int) < (t.length : Int) := by omega
    have hww := wrap_succ (n := k) (by omega)
    have r1 := hw.row k1
    rw [getD_get k1] at r1
    have hr : t[k] ∈ t := by simp
    obtain ⟨w2, s1, s2⟩ := r1.slice (hj _ hr)
    have hlen : (t[k].take j).length = j := by have := hj _ hr; simp; omega
    have hb := sumI_bound ((hu _ hr).take j)
    have h0 := L66_0 (Y := Y) (H := H) (n := vI t.length) (i := vI k) (j := vI j) (v2 := w) (e := w) (c := w) (f := w) s2 ((hu _ hr).take j) (by omega) j 0 s (by omega) (by omega)
    rw [List.drop_zero, hlen] at h0
    have ih := ih (k + 1) (s + sumI (t[k].take j)) (by omega) (by omega)
    have hl2 := s2.len
    rw [hlen] at hl2
    rw [un66_1, List.drop_eq_getElem_cons k1]
    simp only [SS, insA, wantedA, Opd.ev, putA, binA, eqbA, unA, fldA, partA, reduceIte, reduceCtorEq, Nat.reduceMod, Nat.reduceDiv, Nat.reduceBEq, resultA, resA, vI, Nat.reduceMul, Nat.reduceAdd, Nat.reduceSub, Nat.reduceEqDiff, Nat.reduceLT, Nat.reducePow, Nat.reduceLeDiff, st, Option.bind_eq_bind, Option.pure_def, List.length_nil, Int.cast_ofNat_Int, List.reverse_nil, Int.ofNat_zero] at ih h0 s1
    simp only [F66L1b, F66T0, in66_0, SS, insA, wantedA, Opd.ev, putA, binA, eqbA, unA, fldA, partA, reduceIte, reduceCtorEq, Nat.reduceMod, Nat.reduceDiv, Nat.reduceBEq, resultA, resA, vI, Nat.reduceMul, Nat.reduceAdd, Nat.reduceSub, Nat.reduceEqDiff, Nat.reduceLT, Nat.reducePow, Nat.reduceLeDiff, st, Option.bind_eq_bind, Option.pure_def, List.length_nil, Int.cast_ofNat_Int, List.reverse_nil, UU, idxP, cellsAt, fillA, zerosA, putAll, row, Int.reduceLT, Int.reduceLE, Int.reduceGT, Int.reduceGE, Int.reduceEq, Int.reduceNe, Int.reduceToNat, Int.reduceBEq, Int.reduceBNe, Nat.reduceLeDiff, Nat.reduceLT, Nat.reduceBNe, Nat.reduceGT, List.drop_nil, List.take_nil, Option.isSome_none, Int.ofNat_one, Int.ofNat_zero, hc, hw.idx k1, hw.load k1, s1, hl2, h0, hww, ih, sumI, Int.add_assoc, List.map_cons]

theorem sum66 {vt : AV} {t : List (List Int)} {i j : Nat} (ht : IsTab vt t) (hu : unitT t) (hl : t.length ≤ 20) (hi : i ≤ t.length) (hj : ∀ r ∈ t, j ≤ r.length) (hj2 : j ≤ 20) : freeX H (callL EV Y 66 [vt, vI i, vI j] []) = some (vI (sumV t i j), H) := by
  obtain ⟨w, s1, s2⟩ := ht.slice hi
  have hlen : (t.take i).length = i := by simp; omega
  have h1 := L66_1 (Y := Y) (H := []) (j := j) s2 (fun r hr => hu r (List.mem_of_mem_take hr)) (by omega) (fun r hr => hj r (List.mem_of_mem_take hr)) hj2 i 0 0 (by omega) (by omega)
  rw [List.drop_zero, hlen, Int.zero_add] at h1
  have hl2 := s2.len
  rw [hlen] at hl2
  rw [call66 rfl]
  simp only [SS, insA, wantedA, Opd.ev, putA, binA, eqbA, unA, fldA, partA, reduceIte, reduceCtorEq, Nat.reduceMod, Nat.reduceDiv, Nat.reduceBEq, resultA, resA, vI, Nat.reduceMul, Nat.reduceAdd, Nat.reduceSub, Nat.reduceEqDiff, Nat.reduceLT, Nat.reducePow, Nat.reduceLeDiff, st, Option.bind_eq_bind, Option.pure_def, List.length_nil, Int.cast_ofNat_Int, List.reverse_nil, Int.ofNat_zero] at h1 s1
  simp only [F66B, F66T1, in66_1, SS, insA, wantedA, Opd.ev, putA, binA, eqbA, unA, fldA, partA, reduceIte, reduceCtorEq, Nat.reduceMod, Nat.reduceDiv, Nat.reduceBEq, resultA, resA, vI, Nat.reduceMul, Nat.reduceAdd, Nat.reduceSub, Nat.reduceEqDiff, Nat.reduceLT, Nat.reducePow, Nat.reduceLeDiff, st, Option.bind_eq_bind, Option.pure_def, List.length_nil, Int.cast_ofNat_Int, List.reverse_nil, UU, idxP, cellsAt, fillA, zerosA, putAll, row, Int.reduceLT, Int.reduceLE, Int.reduceGT, Int.reduceGE, Int.reduceEq, Int.reduceNe, Int.reduceToNat, Int.reduceBEq, Int.reduceBNe, Nat.reduceLeDiff, Nat.reduceLT, Nat.reduceBNe, Nat.reduceGT, List.drop_nil, List.take_nil, Option.isSome_none, Int.ofNat_one, Int.ofNat_zero, s1, hl2, h1, sumV]

/-! ### Heights -/
def hgt (t : List (List Int)) (i j : Nat) : Int := i + j - 2 * sumV t i j
def tabF (n : Nat) (f : Nat → Nat → Int) : List (List Int) := (List.range n).map fun i => (List.range n).map (f i)
theorem tabF_len {n : Nat} {f : Nat → Nat → Int} : (tabF n f).length = n := by simp [tabF]
theorem tabF_row {n i : Nat} {f : Nat → Nat → Int} (h : i < (tabF n f).length) : (tabF n f)[i] = (List.range n).map (f i) := by simp [tabF]
theorem tabF_mem {n : Nat} {f : Nat → Nat → Int} : ∀ r ∈ tabF n f, r.length = n := by
  intro r hr; simp only [tabF, List.mem_map, List.mem_range] at hr; obtain ⟨i, _, rfl⟩ := hr; simp

theorem lk56 {α : Type} {a b c : α} : List.lookup 56 [(56, a), (59, b), (69, c)] = some a := rfl
theorem lk59 {α : Type} {a b c : α} : List.lookup 59 [(56, a), (59, b), (69, c)] = some b := rfl
theorem lk69 {α : Type} {a b c : α} : List.lookup 69 [(56, a), (59, b), (69, c)] = some c := rfl
theorem snap_ifc {n k : Nat} {v : AV} : snapA H (n + 1) (.iface k v) = (snapA H n v).map (.iface k) := rfl

theorem size114 {vt : AV} {t : List (List Int)} (ht : IsTab vt t) : freeX H (callL EV Y 114 [vt] []) = some (vI t.length, H) := by
  rw [call114 rfl]
  simp only [F114B, SS, insA, wantedA, Opd.ev, putA, binA, eqbA, unA, fldA, partA, reduceIte, reduceCtorEq, Nat.reduceMod, Nat.reduceDiv, Nat.reduceBEq, resultA, resA, vI, Nat.reduceMul, Nat.reduceAdd, Nat.reduceSub, Nat.reduceEqDiff, Nat.reduceLT, Nat.reducePow, Nat.reduceLeDiff, st, Option.bind_eq_bind, Option.pure_def, List.length_nil, Int.cast_ofNat_Int, List.reverse_nil, UU, idxP, cellsAt, fillA, zerosA, putAll, row, Int.reduceLT, Int.reduceLE, Int.reduceGT, Int.reduceGE, Int.reduceEq, Int.reduceNe, Int.reduceToNat, Int.reduceBEq, Int.reduceBNe, Nat.reduceLeDiff, Nat.reduceLT, Nat.reduceBNe, Nat.reduceGT, List.drop_nil, List.take_nil, Option.isSome_none, Int.ofNat_one, Int.ofNat_zero, ht.len]

theorem hgt81 {vt : AV} {t : List (List Int)} {i j : Nat} {s : Bool} {cs : List AV} (ht : IsTab vt t) (hu : unitT t) (hl : t.length ≤ 20) (hi : i ≤ t.length) (hj : ∀ r ∈ t, j ≤ r.length) (hj2 : j ≤ 20) :
    freeX H (callL EV Y 81 [vI i, vI j, .cptr s (.iface 56 vt :: cs)] []) = some (vI (hgt t i j), H) := by
  have h1 := fun H => sum66 (Y := Y) (H := H) ht hu hl hi hj hj2
  have hb := sumV_bound hu (i := i) (j := j) (by omega) hj2
  have w1 : IntKind.wrap .i64 ((i : Int) + j) = i + j := wrap_id (by omega) (by omega)
  have w2 : IntKind.wrap .i64 (2 * sumV t i j) = 2 * sumV t i j := wrap_id (by omega) (by omega)
  have w3 : IntKind.wrap .i64 ((i : Int) + j - 2 * sumV t i j) = hgt t i j := wrap_id (by omega) (by omega)
  have e3 : ∀ (k : Nat), 1 ≤ k + 1 := fun k => by omega
  rw [call81 rfl]
  simp only [SS, insA, wantedA, Opd.ev, putA, binA, eqbA, unA, fldA, partA, reduceIte, reduceCtorEq, Nat.reduceMod, Nat.reduceDiv, Nat.reduceBEq, resultA, resA, vI, Nat.reduceMul, Nat.reduceAdd, Nat.reduceSub, Nat.reduceEqDiff, Nat.reduceLT, Nat.reducePow, Nat.reduceLeDiff, st, Option.bind_eq_bind, Option.pure_def, List.length_nil, Int.cast_ofNat_Int, List.reverse_nil] at h1
  simp only [F81B, SS, insA, wantedA, Opd.ev, putA, binA, eqbA, unA, fldA, partA, reduceIte, reduceCtorEq, Nat.reduceMod, Nat.reduceDiv, Nat.reduceBEq, resultA, resA, vI, Nat.reduceMul, Nat.reduceAdd, Nat.reduceSub, Nat.reduceEqDiff, Nat.reduceLT, Nat.reducePow, Nat.reduceLeDiff, st, Option.bind_eq_bind, Option.pure_def, List.length_nil, Int.cast_ofNat_Int, List.reverse_nil, UU, idxP, cellsAt, fillA, zerosA, putAll, row, Int.reduceLT, Int.reduceLE, Int.reduceGT, Int.reduceGE, Int.reduceEq, Int.reduceNe, Int.reduceToNat, Int.reduceBEq, Int.reduceBNe, Nat.reduceLeDiff, Nat.reduceLT, Nat.reduceBNe, Nat.reduceGT, List.drop_nil, List.take_nil, Option.isSome_none, Int.ofNat_one, Int.ofNat_zero, e3, lk56, ht.snap, h1, w1, w2, w3]

/-! ### Squares that are made -/
theorem L69_0 {n i g k : Nat} {f : Nat → Nat → Int} {caps : List AV} {v q1 q2 : AV} (hi : i < n) (hn : n ≤ 20) (hcaps : ∀ H, caps.mapM (snapA H 6) = some caps)
    (hg : ∀ j, j < n → ∀ H, freeX H (callL EV Y g (vI i :: vI j :: caps) []) = some (vI (f i j), H)) (d : Nat) : ∀ (j : Nat) (R : Heap) (t : List (List Int)) (cells : List AV), j + d = n → k ≤ R.length → HTab k R v t cells → t.length = n →
    (∀ h : i < t.length, t[i] = (List.range j).map (f i)) →
    ∃ R' cells' t', lp EV Y F69L0 (sp 35 [(16, vI j), (15, vI n), (12, q1), (11, q2), (6, vI i), (5, v), (1, .fn g caps), (0, vI n)]) R = some (.x 2, sp 35 [(12, q1), (11, q2), (5, v), (1, .fn g caps), (0, vI n)], R') ∧
      HTab k R' v (t.set i ((List.range n).map (f i))) cells' ∧ (∀ a, a < k → R'[a]? = R[a]?) ∧ R.length ≤ R'.length ∧ t' = t := by
  induction d with
  | zero =>
    intro j R t cells hj hk hT ht hti
    have : ¬ ((j : Int) < (n : Int)) := by omega
    refine ⟨R, cells, t, ?_, ?_, fun _ _ => rfl, Nat.le_refl _, rfl⟩
    · rw [un69_0]
      simp only [F69L0b, SS, insA, wantedA, Opd.ev, putA, binA, eqbA, unA, fldA, partA, reduceIte, reduceCtorEq, Nat.reduceMod, Nat.reduceDiv, Nat.reduceBEq, resultA, resA, vI, Nat.reduceMul, Nat.reduceAdd, Nat.reduceSub, Nat.reduceEqDiff, Nat.reduceLT, Nat.reducePow, Nat.reduceLeDiff, st, Option.bind_eq_bind, Option.pure_def, List.length_nil, Int.cast_ofNat_Int, List.reverse_nil, UU, idxP, cellsAt, fillA, zerosA, putAll, row, Int.reduceLT, Int.reduceLE, Int.reduceGT, Int.reduceGE, Int.reduceEq, Int.reduceNe, Int.reduceToNat, Int.reduceBEq, Int.reduceBNe, Nat.reduceLeDiff, Nat.reduceLT, Nat.reduceBNe, Nat.reduceGT, List.drop_nil, List.take_nil, Option.isSome_none, Int.ofNat_one, Int.ofNat_zero, this]
    · have hit : i < t.length := by omega
      have h1 : t[i] = (List.range n).map (f i) := by rw [hti hit, show j = n by omega]
      have e := List.set_getElem_self hit
      rw [h1] at e
      rw [e]; exact hT
  | succ d ih =>
    intro j R t cells hj hk hT ht hti
    have hc : (j : Int) < (n : Int) := by omega
    have hww := wrap_succ (n := j) (by omega)
    have hit : i < t.length := by omega
    have hgj := hg j (by omega)
    obtain ⟨c', R1, R2, a1, a2, a3, a4, a5⟩ := hT.push (x := f i j) hk hit (by rw [hti hit]; simp; omega)
    have e1 : t[i] ++ [f i j] = (List.range (j + 1)).map (f i) := by rw [hti hit, List.range_succ, List.map_append]; rfl
    rw [e1] at a3
    obtain ⟨R', cells', t', p1, p2, p3, p4, p5⟩ := ih (j + 1) R2 _ _ (by omega) (by omega) a3 (by simpa using ht) (fun h => by simp)
    rw [List.set_set] at p2
    refine ⟨R', cells', t, ?_, p2, fun a ha => by rw [p3 a ha, a4 a ha], by omega, rfl⟩
    rw [un69_0]
    simp only [SS, insA, wantedA, Opd.ev, putA, binA, eqbA, unA, fldA, partA, reduceIte, reduceCtorEq, Nat.reduceMod, Nat.reduceDiv, Nat.reduceBEq, resultA, resA, vI, Nat.reduceMul, Nat.reduceAdd, Nat.reduceSub, Nat.reduceEqDiff, Nat.reduceLT, Nat.reducePow, Nat.reduceLeDiff, st, Option.bind_eq_bind, Option.pure_def, List.length_nil, Int.cast_ofNat_Int, List.reverse_nil] at p1 a1 hgj
    simp only [F69L0b, SS, insA, wantedA, Opd.ev, putA, binA, eqbA, unA, fldA, partA, reduceIte, reduceCtorEq, Nat.reduceMod, Nat.reduceDiv, Nat.reduceBEq, resultA, resA, vI, Nat.reduceMul, Nat.reduceAdd, Nat.reduceSub, Nat.reduceEqDiff, Nat.reduceLT, Nat.reducePow, Nat.reduceLeDiff, st, Option.bind_eq_bind, Option.pure_def, List.length_nil, Int.cast_ofNat_Int, List.reverse_nil, UU, idxP, cellsAt, fillA, zerosA, putAll, row, Int.reduceLT, Int.reduceLE, Int.reduceGT, Int.reduceGE, Int.reduceEq, Int.reduceNe, Int.reduceToNat, Int.reduceBEq, Int.reduceBNe, Nat.reduceLeDiff, Nat.reduceLT, Nat.reduceBNe, Nat.reduceGT, List.drop_nil, List.take_nil, Option.isSome_none, Int.ofNat_one, Int.ofNat_zero, hc, hT.idx hit, hT.load hit, hcaps, hgj, a1, a2, hww, p1, List.cons_append, List.nil_append]

theorem L69_1 {n g k : Nat} {f : Nat → Nat → Int} {caps : List AV} {v : AV} (hn : n ≤ 20) (hcaps : ∀ H, caps.mapM (snapA H 6) = some caps)
    (hg : ∀ i j, i < n → j < n → ∀ H, freeX H (callL EV Y g (vI i :: vI j :: caps) []) = some (vI (f i j), H)) (d : Nat) : ∀ (i : Nat) (R : Heap) (t : List (List Int)) (cells : List AV), i + d = n → k ≤ R.length → HTab k R v t cells → t.length = n →
    (∀ m (h : m < t.length), t[m] = if m < i then (List.range n).map (f m) else []) →
    ∃ R' cells', lp EV Y F69L1 (sp 35 [(12, vI i), (11, vI n), (5, v), (1, .fn g caps), (0, vI n)]) R = some (.x 0, sp 35 [(5, v)], R') ∧ HTab k R' v (tabF n f) cells' ∧ (∀ a, a < k → R'[a]? = R[a]?) := by
  induction d with
  | zero =>
    intro i R t cells hi hk hT ht hti
    have : ¬ ((i : Int) < (n : Int)) := by omega
    refine ⟨R, cells, ?_, ?_, fun _ _ => rfl⟩
    · rw [un69_1]
      simp only [F69L1b, SS, insA, wantedA, Opd.ev, putA, binA, eqbA, unA, fldA, partA, reduceIte, reduceCtorEq, Nat.reduceMod, Nat.reduceDiv, Nat.reduceBEq, resultA, resA, vI, Nat.reduceMul, Nat.reduceAdd, Nat.reduceSub, Nat.reduceEqDiff, Nat.reduceLT, Nat.reducePow, Nat.reduceLeDiff, st, Option.bind_eq_bind, Option.pure_def, List.length_nil, Int.cast_ofNat_Int, List.reverse_nil, UU, idxP, cellsAt, fillA, zerosA, putAll, row, Int.reduceLT, Int.reduceLE, Int.reduceGT, Int.reduceGE, Int.reduceEq, Int.reduceNe, Int.reduceToNat, Int.reduceBEq, Int.reduceBNe, Nat.reduceLeDiff, Nat.reduceLT, Nat.reduceBNe, Nat.reduceGT, List.drop_nil, List.take_nil, Option.isSome_none, Int.ofNat_one, Int.ofNat_zero, this]
    · have : t = tabF n f := List.ext_getElem (by rw [tabF_len, ht]) fun m h1 h2 => by rw [hti m h1, if_pos (by omega), tabF_row]
      rw [← this]; exact hT
  | succ d ih =>
    intro i R t cells hi hk hT ht hti
    have hc : (i : Int) < (n : Int) := by omega
    have hww := wrap_succ (n := i) (by omega)
    obtain ⟨R1, c1, t1, a1, a2, a3, a4, a5⟩ := L69_0 (Y := Y) (q1 := vI i) (q2 := vI n) (show i < n by omega) hn hcaps (fun j hj => hg i j (by omega) hj) n 0 R t cells (by omega) hk hT ht (fun h => by rw [hti i h, if_neg (by omega)]; rfl)
    obtain ⟨R2, c2, p1, p2, p3⟩ := ih (i + 1) R1 _ _ (by omega) (by omega) a2 (by simpa using ht) (fun m h => by
      have hm : m < t.length := by simpa using h
      by_cases e : i = m
      · subst e; rw [if_pos (by omega)]; simp
      · rw [List.getElem_set_ne e, hti m hm]
        by_cases e2 : m < i
        · rw [if_pos e2, if_pos (by omega)]
        · rw [if_neg e2, if_neg (by omega)])
    refine ⟨R2, c2, ?_, p2, fun a ha => by rw [p3 a ha, a3 a ha]⟩
    rw [un69_1]
    simp only [SS, insA, wantedA, Opd.ev, putA, binA, eqbA, unA, fldA, partA, reduceIte, reduceCtorEq, Nat.reduceMod, Nat.reduceDiv, Nat.reduceBEq, resultA, resA, vI, Nat.reduceMul, Nat.reduceAdd, Nat.reduceSub, Nat.reduceEqDiff, Nat.reduceLT, Nat.reducePow, Nat.reduceLeDiff, st, Option.bind_eq_bind, Option.pure_def, List.length_nil, Int.cast_ofNat_Int, List.reverse_nil, Int.ofNat_zero] at a1 p1
    simp only [F69L1b, F69T0, in69_0, SS, insA, wantedA, Opd.ev, putA, binA, eqbA, unA, fldA, partA, reduceIte, reduceCtorEq, Nat.reduceMod, Nat.reduceDiv, Nat.reduceBEq, resultA, resA, vI, Nat.reduceMul, Nat.reduceAdd, Nat.reduceSub, Nat.reduceEqDiff, Nat.reduceLT, Nat.reducePow, Nat.reduceLeDiff, st, Option.bind_eq_bind, Option.pure_def, List.length_nil, Int.cast_ofNat_Int, List.reverse_nil, UU, idxP, cellsAt, fillA, zerosA, putAll, row, Int.reduceLT, Int.reduceLE, Int.reduceGT, Int.reduceGE, Int.reduceEq, Int.reduceNe, Int.reduceToNat, Int.reduceBEq, Int.reduceBNe, Nat.reduceLeDiff, Nat.reduceLT, Nat.reduceBNe, Nat.reduceGT, List.drop_nil, List.take_nil, Option.isSome_none, Int.ofNat_one, Int.ofNat_zero, hc, a1, hww, p1]

theorem made69 {n g : Nat} {f : Nat → Nat → Int} {caps : List AV} (hn : n ≤ 20) (hcaps : ∀ H, caps.mapM (snapA H 6) = some caps)
    (hg : ∀ i j, i < n → j < n → ∀ H, freeX H (callL EV Y g (vI i :: vI j :: caps) []) = some (vI (f i j), H)) :
    ∃ v R cells, callL EV Y 69 [vI n, .fn g caps] [] = some (v, R) ∧ HTab 0 R v (tabF n f) cells := by
  obtain ⟨R1, c1, a1, a2, a3⟩ := L69_1 (Y := Y) (k := 0) (v := .sl 0 0 1 0 n none) hn hcaps hg n 0 [⟨0, List.replicate n .nils⟩] (List.replicate n []) _ (by omega) (by simp) (HTab.start (by simp)) (by simp) (fun m h => by simp)
  refine ⟨_, R1, c1, ?_, a2⟩
  have hki : 0 ≤ (n : Int) ∧ (n : Int) * 24 ≤ 140737488355328 ∧ (n : Int) ≤ 9223372036854775807 := by omega
  rw [call69 rfl]
  simp only [SS, insA, wantedA, Opd.ev, putA, binA, eqbA, unA, fldA, partA, reduceIte, reduceCtorEq, Nat.reduceMod, Nat.reduceDiv, Nat.reduceBEq, resultA, resA, vI, Nat.reduceMul, Nat.reduceAdd, Nat.reduceSub, Nat.reduceEqDiff, Nat.reduceLT, Nat.reducePow, Nat.reduceLeDiff, st, Option.bind_eq_bind, Option.pure_def, List.length_nil, Int.cast_ofNat_Int, List.reverse_nil, Int.ofNat_zero] at a1
  simp only [F69B, F69T1, in69_1, SS, insA, wantedA, Opd.ev, putA, binA, eqbA, unA, fldA, partA, reduceIte, reduceCtorEq, Nat.reduceMod, Nat.reduceDiv, Nat.reduceBEq, resultA, resA, vI, Nat.reduceMul, Nat.reduceAdd, Nat.reduceSub, Nat.reduceEqDiff, Nat.reduceLT, Nat.reducePow, Nat.reduceLeDiff, st, Option.bind_eq_bind, Option.pure_def, List.length_nil, Int.cast_ofNat_Int, List.reverse_nil, UU, idxP, cellsAt, storeA, fillA, putAll, optNat, sliceA, row, Int.reduceLT, Int.reduceLE, Int.reduceGT, Int.reduceGE, Int.reduceEq, Int.reduceNe, Int.reduceToNat, Int.reduceBEq, Int.reduceBNe, Nat.reduceLeDiff, Nat.reduceLT, Nat.reduceBNe, Nat.reduceGT, List.drop_nil, List.take_nil, Option.isSome_none, Int.ofNat_one, Int.ofNat_zero, hki, Int.toNat_natCast, Int.natCast_nonneg, zeros_nils, Nat.mul_one, a1]

theorem raised62 {vt : AV} {t : List (List Int)} (ht : IsTab vt t) (hu : unitT t) (hl : t.length ≤ 19) (hr : ∀ r ∈ t, r.length = t.length) : ∃ v R cells, callL EV Y 62 [.iface 56 vt] [] = some (v, R) ∧ HTab 1 R v (tabF (t.length + 1) (hgt t)) cells := by
  have hsz := fun H => size114 (Y := Y) (H := H) ht
  have hww := wrap_succ (n := t.length) (by omega)
  have hc1 : ∀ H, [AV.cptr true [.iface 56 vt]].mapM (snapA H 6) = some [.cptr true [.iface 56 vt]] := fun H => rfl
  obtain ⟨v, R, cells, m1, m2⟩ := made69 (Y := Y) (n := t.length + 1) (g := 81) (f := hgt t) (caps := [.cptr true [.iface 56 vt]]) (by omega) hc1
    (fun i j hi hj H => hgt81 ht hu (by omega) (by omega) (fun r hr' => by rw [hr r hr']; omega) (by omega))
  have hsi : ∀ H n, snapA H (n + 2) (.iface 56 vt) = some (.iface 56 vt) := fun H n => by rw [snap_ifc, ht.snap]; rfl
  have hsn : snapA [⟨0, [.iface 56 vt]⟩] 6 (.fn 81 [.ptr 0 0 0]) = some (.fn 81 [.cptr true [.iface 56 vt]]) := snap_fnptr (by simp) (hsi _ _)
  obtain ⟨v', H', cells', q1, q2, q3⟩ := call_tab (H := [⟨0, [.iface 56 vt]⟩]) (R := callL EV Y) (f := 69) (args := [vI ((t.length + 1 : Nat) : Int), .fn 81 [.ptr 0 0 0]]) (bs := [vI ((t.length + 1 : Nat) : Int), .fn 81 [.cptr true [.iface 56 vt]]]) (by
    rw [mapM_cons', mapM_cons', hsn]; rfl) m1 m2
  refine ⟨v', H', cells', ?_, q2⟩
  rw [call62 rfl]
  simp only [SS, insA, wantedA, Opd.ev, putA, binA, eqbA, unA, fldA, partA, reduceIte, reduceCtorEq, Nat.reduceMod, Nat.reduceDiv, Nat.reduceBEq, resultA, resA, vI, Nat.reduceMul, Nat.reduceAdd, Nat.reduceSub, Nat.reduceEqDiff, Nat.reduceLT, Nat.reducePow, Nat.reduceLeDiff, st, Option.bind_eq_bind, Option.pure_def, List.length_nil, Int.cast_ofNat_Int, List.reverse_nil] at q1 hsz
  simp only [F62B, SS, insA, wantedA, Opd.ev, putA, binA, eqbA, unA, fldA, partA, reduceIte, reduceCtorEq, Nat.reduceMod, Nat.reduceDiv, Nat.reduceBEq, resultA, resA, vI, Nat.reduceMul, Nat.reduceAdd, Nat.reduceSub, Nat.reduceEqDiff, Nat.reduceLT, Nat.reducePow, Nat.reduceLeDiff, st, Option.bind_eq_bind, Option.pure_def, List.length_nil, Int.cast_ofNat_Int, List.reverse_nil, UU, idxP, cellsAt, fillA, zerosA, putAll, row, Int.reduceLT, Int.reduceLE, Int.reduceGT, Int.reduceGE, Int.reduceEq, Int.reduceNe, Int.reduceToNat, Int.reduceBEq, Int.reduceBNe, Nat.reduceLeDiff, Nat.reduceLT, Nat.reduceBNe, Nat.reduceGT, List.drop_nil, List.take_nil, Option.isSome_none, Int.ofNat_one, Int.ofNat_zero, lk56, hsi, ht.snap, hsz, hww, q1, isU, cellsOf]
end
end Go.X
