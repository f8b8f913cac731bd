import Derived.Test.YtchgifdkhknppaaVJ
/-! Veils: Heights, both ways. -/
set_option linter.unusedSimpArgs false
set_option linter.unusedVariables false
set_option maxHeartbeats 4000000
set_option maxRecDepth 10000
namespace Go.X
open Go Go.RowKit
section
variable {Y : Run} {H : Heap}

/-! ### Sums over places -/
def sumF (f : Nat → Int) (a d : Nat) : Int := sumI ((List.range' a d).map f)
theorem sumF_0 {f : Nat → Int} {a : Nat} : sumF f a 0 = 0 := rfl
theorem sumF_s {f : Nat → Int} {a d : Nat} : sumF f a (d + 1) = f a + sumF f (a + 1) d := by simp only [sumF, List.range'_succ, List.map_cons, sumI]
theorem sumF_add {f : Nat → Int} : ∀ (d a e : Nat), sumF f a (d + e) = sumF f a d + sumF f (a + d) e
  | 0, a, e => by simp [sumF_0]
  | d + 1, a, e => by
    rw [show d + 1 + e = (d + e) + 1 by omega, sumF_s, sumF_s, sumF_add d (a + 1) e, show a + 1 + d = a + (d + 1) by omega]; omega
theorem sumF_bound {f : Nat → Int} {B : Int} (h : ∀ a, -B ≤ f a ∧ f a ≤ B) : ∀ (d a : Nat), -(B * d) ≤ sumF f a d ∧ sumF f a d ≤ B * d
  | 0, a => by simp [sumF_0]
  | d + 1, a => by
    have h1 := sumF_bound h d (a + 1)
    have h2 := h a
    rw [sumF_s, show ((d + 1 : Nat) : Int) = (d : Int) + 1 by omega, Int.mul_add, Int.mul_one]
    omega
theorem sumF_congr {f g : Nat → Int} : ∀ (d a : Nat), (∀ i, a ≤ i → i < a + d → f i = g i) → sumF f a d = sumF g a d
  | 0, a, _ => rfl
  | d + 1, a, h => by rw [sumF_s, sumF_s, h a (Nat.le_refl _) (by omega), sumF_congr d (a + 1) fun i h1 h2 => h i (by omega) (by omega)]

/-- The sum of the first k numbers of row a. -/
def rowS (t : List (List Int)) (a k : Nat) : Int := sumI ((t.getD a []).take k)
theorem rowS_bound {t : List (List Int)} (hu : unitT t) {k : Nat} (hk : k ≤ 20) (a : Nat) : -20 ≤ rowS t a k ∧ rowS t a k ≤ 20 := by
  unfold rowS
  by_cases h : a < t.length
  · rw [getD_get h]
    have := sumI_bound ((hu _ (List.getElem_mem h)).take k)
    have h2 : (t[a].take k).length ≤ 20 := by simp; omega
    omega
  · rw [List.getD_eq_getElem?_getD, List.getElem?_eq_none (by omega)]; simp [sumI]
theorem sumI_map_range {f : Nat → Int} : ∀ (l : List (List Int)) (k a : Nat), (∀ i (h : i < l.length), f (a + i) = sumI (l[i].take k)) → sumI (l.map fun r => sumI (r.take k)) = sumF f a l.length
  | [], k, a, _ => rfl
  | r :: l, k, a, h => by
    rw [List.map_cons, List.length_cons, sumF_s]
    simp only [sumI]
    rw [sumI_map_range (f := f) l k (a + 1) fun i hi => by
      have := h (i + 1) (by simpa using hi)
      rw [show a + 1 + i = a + (i + 1) by omega, this]; rfl]
    have := h 0 (by simp)
    rw [Nat.add_zero] at this
    rw [this]; rfl
theorem sumV_F {t : List (List Int)} {m k : Nat} (hm : m ≤ t.length) : sumV t m k = sumF (fun a => rowS t a k) 0 m := by
  unfold sumV
  have hl : (t.take m).length = m := by simp; omega
  rw [sumI_map_range (f := fun a => rowS t a k) (t.take m) k 0 fun i hi => by
    have h2 : i < t.length := by omega
    rw [Nat.zero_add, List.getElem_take, rowS, getD_get h2], hl]

/-! ### Tables that are filled -/
def at2 (t : List (List Int)) (i j : Nat) : Int := (t.getD i []).getD j 0
theorem at2_get {t : List (List Int)} {i j : Nat} (hi : i < t.length) (hj : j < t[i].length) : at2 t i j = t[i][j] := by unfold at2; rw [getD_get hi, getD_get hj]
theorem at2_set {t : List (List Int)} {i j a b : Nat} {x : Int} (hi : i < t.length) (hj : j < t[i].length) : at2 (t.set i (t[i].set j x)) a b = if a = i ∧ b = j then x else at2 t a b := by
  unfold at2
  by_cases h1 : a = i
  · subst h1
    have e1 : (t.set a (t[a].set j x)).getD a [] = t[a].set j x := by rw [getD_get (by simpa using hi)]; simp
    rw [e1, getD_get hi]
    by_cases h2 : b = j
    · subst h2
      rw [if_pos ⟨rfl, rfl⟩, getD_get (by simpa using hj)]; simp
    · rw [if_neg (fun h => h2 h.2), List.getD_eq_getElem?_getD, List.getElem?_set_ne (Ne.symm h2), ← List.getD_eq_getElem?_getD]
  · rw [if_neg (fun h => h1 h.1)]
    congr 1
    rw [List.getD_eq_getElem?_getD, List.getElem?_set_ne (Ne.symm h1), ← List.getD_eq_getElem?_getD]

/-- A square of m rows of which the places before i, j are filled. -/
structure Fill (m : Nat) (f : Nat → Nat → Int) (t : List (List Int)) (i j : Nat) : Prop where
  len : t.length = m
  row : ∀ r ∈ t, r.length = m
  eq : ∀ a b, a < m → b < m → (a < i ∨ a = i ∧ b < j) → at2 t a b = f a b
theorem Fill.zero {m : Nat} {f : Nat → Nat → Int} : Fill m f (zeroT m) 0 0 := ⟨by simp [zeroT], fun r hr => by rw [zeroT] at hr; rw [(List.mem_replicate.1 hr).2]; simp, fun a b _ _ h => by omega⟩
theorem Fill.next {m : Nat} {f : Nat → Nat → Int} {t : List (List Int)} {i : Nat} (h : Fill m f t i m) : Fill m f t (i + 1) 0 := ⟨h.len, h.row, fun a b ha hb hab => h.eq a b ha hb (by omega)⟩
theorem Fill.put {m : Nat} {f : Nat → Nat → Int} {t : List (List Int)} {i j : Nat} (h : Fill m f t i j) (hi : i < t.length) (hj : j < t[i].length) : Fill m f (t.set i (t[i].set j (f i j))) i (j + 1) := by
  have hl := h.len
  have hr := h.row t[i] (List.getElem_mem hi)
  refine ⟨by simpa using hl, fun r hr' => ?_, fun a b ha hb hab => ?_⟩
  · rcases List.mem_or_eq_of_mem_set hr' with h1 | h1
    · exact h.row r h1
    · rw [h1]; simpa using hr
  · rw [at2_set hi hj]
    split
    · rename_i e; rw [e.1, e.2]
    · rename_i e; exact h.eq a b ha hb (by omega)
theorem Fill.rlen {m : Nat} {f : Nat → Nat → Int} {t : List (List Int)} {i j : Nat} (h : Fill m f t i j) {a : Nat} (ha : a < t.length) : t[a].length = m := h.row _ (List.getElem_mem ha)
theorem Fill.done {m : Nat} {f : Nat → Nat → Int} {t : List (List Int)} (h : Fill m f t m 0) : t = tabF m f := by
  refine List.ext_getElem (by rw [tabF_len, h.len]) fun a h1 h2 => ?_
  rw [tabF_row]
  have hl := h.rlen h1
  have hm := h.len
  refine List.ext_getElem (by simp [hl]) fun b h3 h4 => ?_
  have := h.eq a b (by omega) (by omega) (.inl (by omega))
  rw [at2_get h1 h3] at this
  rw [this]; simp

/-! ### heights of the specification -/
theorem L65_0 {vt v a2 : AV} {t : List (List Int)} {n a k i : Nat} (ht : IsTab vt t) (hu : unitT t) (hn : t.length = n) (h5 : n ≤ 5) (hr : ∀ r ∈ t, r.length = n) (ha : a < n) (hk : k ≤ n) (d : Nat) : ∀ (b : Nat) (s : Int), b + d = k → -1000 - b ≤ s ∧ s ≤ 1000 + b →
    lp EV Y F65L0 (sp 57 [(9, vI b), (8, vI a), (7, vI s), (6, vI k), (5, vI i), (4, v), (3, vI n), (0, vt)]) H = some (.x 6, sp 57 [(8, vI a), (7, vI (s + sumI ((t.getD a []).take k |>.drop b))), (6, vI k), (5, vI i), (4, v), (3, vI n), (0, vt)], H) := by
  have hat : a < t.length := by omega
  have r1 := ht.row hat
  rw [getD_get hat] at r1 ⊢
  have hl : t[a].length = n := hr _ (by simp)
  induction d with
  | zero =>
    intro b s hb hs
    have : ¬ ((b : Int) < (k : Int)) := by omega
    rw [un65_0, List.drop_eq_nil_of_le (by simp; omega)]
    simp only [F65L0b, SS, insA, wantedA, Opd.ev, putA, binA, eqbA, unA, fldA, partA, reduceIte, reduceCtorEq, Nat.reduceMod, Nat.reduceDiv, Nat.reduceBEq, resultA, resA, vI, Nat.reduceMul, Nat.reduceAdd, Nat.reduceSub, Nat.reduceEqDiff, Nat.reduceLT, Nat.reducePow, Nat.reduceLeDiff, st, Option.bind_eq_bind, Option.pure_def, List.length_nil, Int.cast_ofNat_Int, List.reverse_nil, UU, idxP, cellsAt, storeA, fillA, zerosA, putAll, optNat, sliceA, row, Int.reduceLT, Int.reduceLE, Int.reduceGT, Int.reduceGE, Int.reduceEq, Int.reduceNe, Int.reduceToNat, Int.reduceBEq, Int.reduceBNe, Nat.reduceLeDiff, Nat.reduceLT, Nat.reduceBNe, Nat.reduceGT, List.drop_nil, List.take_nil, Option.isSome_none, Int.ofNat_one, Int.ofNat_zero, this, sumI, Int.add_zero]
  | succ d ih =>
    intro b s hb hs
    have hc : (b : Int) < (k : Int) := by omega
    have hww := wrap_succ (n := b) (by omega)
    have k1 : b < t[a].length := by omega
    have k2 : b < (t[a].take k).length := by simp; omega
    have hx := hu t[a] (by simp) t[a][b] (by simp)
    have g1 : t[a].getD b 0 = t[a][b] := getD_get k1
    have w1 : IntKind.wrap .i64 (s + t[a][b]) = s + t[a][b] := wrap_id (by omega) (by omega)
    have ih := ih (b + 1) (s + t[a][b]) (by omega) (by omega)
    rw [un65_0, List.drop_eq_getElem_cons k2, List.getElem_take]
    simp only [SS, insA, wantedA, Opd.ev, putA, binA, eqbA, unA, fldA, partA, reduceIte, reduceCtorEq, Nat.reduceMod, Nat.reduceDiv, Nat.reduceBEq, resultA, resA, vI, Nat.reduceMul, Nat.reduceAdd, Nat.reduceSub, Nat.reduceEqDiff, Nat.reduceLT, Nat.reducePow, Nat.reduceLeDiff, st, Option.bind_eq_bind, Option.pure_def, List.length_nil, Int.cast_ofNat_Int, List.reverse_nil] at ih
    simp only [F65L0b, SS, insA, wantedA, Opd.ev, putA, binA, eqbA, unA, fldA, partA, reduceIte, reduceCtorEq, Nat.reduceMod, Nat.reduceDiv, Nat.reduceBEq, resultA, resA, vI, Nat.reduceMul, Nat.reduceAdd, Nat.reduceSub, Nat.reduceEqDiff, Nat.reduceLT, Nat.reducePow, Nat.reduceLeDiff, st, Option.bind_eq_bind, Option.pure_def, List.length_nil, Int.cast_ofNat_Int, List.reverse_nil, UU, idxP, cellsAt, storeA, fillA, zerosA, putAll, optNat, sliceA, row, Int.reduceLT, Int.reduceLE, Int.reduceGT, Int.reduceGE, Int.reduceEq, Int.reduceNe, Int.reduceToNat, Int.reduceBEq, Int.reduceBNe, Nat.reduceLeDiff, Nat.reduceLT, Nat.reduceBNe, Nat.reduceGT, List.drop_nil, List.take_nil, Option.isSome_none, Int.ofNat_one, Int.ofNat_zero, hc, ht.idx hat, ht.load hat, r1.idx k1, r1.load k1, g1, w1, hww, ih, sumI, Int.add_assoc]

theorem L65_1 {vt v : AV} {t : List (List Int)} {n k i : Nat} (ht : IsTab vt t) (hu : unitT t) (hn : t.length = n) (h5 : n ≤ 5) (hr : ∀ r ∈ t, r.length = n) (hi : i ≤ n) (hk : k ≤ n) (d : Nat) : ∀ (a : Nat) (s : Int), a + d = i → -20 * a ≤ s ∧ s ≤ 20 * a →
    lp EV Y F65L1 (sp 57 [(8, vI a), (7, vI s), (6, vI k), (5, vI i), (4, v), (3, vI n), (0, vt)]) H = some (.x 4, sp 57 [(7, vI (s + sumF (fun a => rowS t a k) a d)), (6, vI k), (5, vI i), (4, v), (3, vI n), (0, vt)], H) := by
  induction d with
  | zero =>
    intro a s ha hs
    have : ¬ ((a : Int) < (i : Int)) := by omega
    rw [un65_1]
    simp only [F65L1b, SS, insA, wantedA, Opd.ev, putA, binA, eqbA, unA, fldA, partA, reduceIte, reduceCtorEq, Nat.reduceMod, Nat.reduceDiv, Nat.reduceBEq, resultA, resA, vI, Nat.reduceMul, Nat.reduceAdd, Nat.reduceSub, Nat.reduceEqDiff, Nat.reduceLT, Nat.reducePow, Nat.reduceLeDiff, st, Option.bind_eq_bind, Option.pure_def, List.length_nil, Int.cast_ofNat_Int, List.reverse_nil, UU, idxP, cellsAt, storeA, fillA, zerosA, putAll, optNat, sliceA, row, Int.reduceLT, Int.reduceLE, Int.reduceGT, Int.reduceGE, Int.reduceEq, Int.reduceNe, Int.reduceToNat, Int.reduceBEq, Int.reduceBNe, Nat.reduceLeDiff, Nat.reduceLT, Nat.reduceBNe, Nat.reduceGT, List.drop_nil, List.take_nil, Option.isSome_none, Int.ofNat_one, Int.ofNat_zero, this, sumF_0, Int.add_zero]
  | succ d ih =>
    intro a s ha hs
    have hc : (a : Int) < (i : Int) := by omega
    have hww := wrap_succ (n := a) (by omega)
    have hb := rowS_bound hu (k := k) (by omega) a
    have h0 := L65_0 (Y := Y) (H := H) (v := v) (a2 := v) (i := i) ht hu hn h5 hr (show a < n by omega) hk k 0 s (by omega) (by omega)
    rw [List.drop_zero] at h0
    change lp EV Y F65L0 _ H = some (.x 6, sp 57 [(8, vI a), (7, vI (s + rowS t a k)), _, _, _, _, _], H) at h0
    have ih := ih (a + 1) (s + rowS t a k) (by omega) (by omega)
    rw [un65_1, sumF_s]
    simp only [SS, insA, wantedA, Opd.ev, putA, binA, eqbA, unA, fldA, partA, reduceIte, reduceCtorEq, Nat.reduceMod, Nat.reduceDiv, Nat.reduceBEq, resultA, resA, vI, Nat.reduceMul, Nat.reduceAdd, Nat.reduceSub, Nat.reduceEqDiff, Nat.reduceLT, Nat.reducePow, Nat.reduceLeDiff, st, Option.bind_eq_bind, Option.pure_def, List.length_nil, Int.cast_ofNat_Int, List.reverse_nil, Int.ofNat_zero] at ih h0
    simp only [F65L1b, F65T0, in65_0, SS, insA, wantedA, Opd.ev, putA, binA, eqbA, unA, fldA, partA, reduceIte, reduceCtorEq, Nat.reduceMod, Nat.reduceDiv, Nat.reduceBEq, resultA, resA, vI, Nat.reduceMul, Nat.reduceAdd, Nat.reduceSub, Nat.reduceEqDiff, Nat.reduceLT, Nat.reducePow, Nat.reduceLeDiff, st, Option.bind_eq_bind, Option.pure_def, List.length_nil, Int.cast_ofNat_Int, List.reverse_nil, UU, idxP, cellsAt, storeA, fillA, zerosA, putAll, optNat, sliceA, row, Int.reduceLT, Int.reduceLE, Int.reduceGT, Int.reduceGE, Int.reduceEq, Int.reduceNe, Int.reduceToNat, Int.reduceBEq, Int.reduceBNe, Nat.reduceLeDiff, Nat.reduceLT, Nat.reduceBNe, Nat.reduceGT, List.drop_nil, List.take_nil, Option.isSome_none, Int.ofNat_one, Int.ofNat_zero, hc, h0, hww, ih, Int.add_assoc]

theorem L65_2 {vt v : AV} {t : List (List Int)} {n i : Nat} (ht : IsTab vt t) (hu : unitT t) (hn : t.length = n) (h5 : n ≤ 5) (hr : ∀ r ∈ t, r.length = n) (hi : i ≤ n) (d : Nat) : ∀ (k : Nat) (R : Heap) (q : List (List Int)) (cells : List AV), k + d = n + 1 →
    HTab 0 R v q cells → Fill (n + 1) (hgt t) q i k →
    ∃ R' q', lp EV Y F65L2 (sp 57 [(6, vI k), (5, vI i), (4, v), (3, vI n), (0, vt)]) R = some (.x 2, sp 57 [(5, vI i), (4, v), (3, vI n), (0, vt)], R') ∧ HTab 0 R' v q' cells ∧ Fill (n + 1) (hgt t) q' i (n + 1) := by
  induction d with
  | zero =>
    intro k R q cells hk hT hF
    have : ¬ ((k : Int) ≤ (n : Int)) := by omega
    refine ⟨R, q, ?_, hT, by rw [show n + 1 = k by omega]; rwa [show n + 1 = k by omega] at hF⟩
    rw [un65_2]
    simp only [F65L2b, SS, insA, wantedA, Opd.ev, putA, binA, eqbA, unA, fldA, partA, reduceIte, reduceCtorEq, Nat.reduceMod, Nat.reduceDiv, Nat.reduceBEq, resultA, resA, vI, Nat.reduceMul, Nat.reduceAdd, Nat.reduceSub, Nat.reduceEqDiff, Nat.reduceLT, Nat.reducePow, Nat.reduceLeDiff, st, Option.bind_eq_bind, Option.pure_def, List.length_nil, Int.cast_ofNat_Int, List.reverse_nil, UU, idxP, cellsAt, storeA, fillA, zerosA, putAll, optNat, sliceA, row, Int.reduceLT, Int.reduceLE, Int.reduceGT, Int.reduceGE, Int.reduceEq, Int.reduceNe, Int.reduceToNat, Int.reduceBEq, Int.reduceBNe, Nat.reduceLeDiff, Nat.reduceLT, Nat.reduceBNe, Nat.reduceGT, List.drop_nil, List.take_nil, Option.isSome_none, Int.ofNat_one, Int.ofNat_zero, this]
  | succ d ih =>
    intro k R q cells hk hT hF
    have hc : (k : Int) ≤ (n : Int) := by omega
    have hww := wrap_succ (n := k) (by omega)
    have hiq : i < q.length := by rw [hF.len]; omega
    have hkq : k < q[i].length := by rw [hF.rlen hiq]; omega
    have h0 := fun H => L65_1 (Y := Y) (H := H) (v := v) (k := k) ht hu hn h5 hr hi (by omega) i 0 0 (by omega) (by omega)
    have hs := sumV_F (t := t) (m := i) (k := k) (by omega)
    have hb := sumV_bound hu (i := i) (j := k) (by omega) (by omega)
    rw [← hs, Int.zero_add] at h0
    have w1 : IntKind.wrap .i64 ((i : Int) + k) = i + k := wrap_id (by omega) (by omega)
    have w2 : IntKind.wrap .i64 (2 * sumV t i k) = 2 * sumV t i k := wrap_id (by omega) (by omega)
    have w3 : IntKind.wrap .i64 ((i : Int) + k - 2 * sumV t i k) = hgt t i k := wrap_id (by omega) (by omega)
    obtain ⟨id, o, s1, s2, s3⟩ := hT.store (x := hgt t i k) hiq hkq
    obtain ⟨R', q', p1, p2, p3⟩ := ih (k + 1) _ _ cells (by omega) s2 (hF.put hiq hkq)
    refine ⟨R', q', ?_, p2, p3⟩
    rw [un65_2]
    simp only [SS, insA, wantedA, Opd.ev, putA, binA, eqbA, unA, fldA, partA, reduceIte, reduceCtorEq, Nat.reduceMod, Nat.reduceDiv, Nat.reduceBEq, resultA, resA, vI, Nat.reduceMul, Nat.reduceAdd, Nat.reduceSub, Nat.reduceEqDiff, Nat.reduceLT, Nat.reducePow, Nat.reduceLeDiff, st, Option.bind_eq_bind, Option.pure_def, List.length_nil, Int.cast_ofNat_Int, List.reverse_nil, Int.ofNat_zero] at h0 p1 s1
    simp only [F65L2b, F65T1, F65T2, in65_1, SS, insA, wantedA, Opd.ev, putA, binA, eqbA, unA, fldA, partA, reduceIte, reduceCtorEq, Nat.reduceMod, Nat.reduceDiv, Nat.reduceBEq, resultA, resA, vI, Nat.reduceMul, Nat.reduceAdd, Nat.reduceSub, Nat.reduceEqDiff, Nat.reduceLT, Nat.reducePow, Nat.reduceLeDiff, st, Option.bind_eq_bind, Option.pure_def, List.length_nil, Int.cast_ofNat_Int, List.reverse_nil, UU, idxP, cellsAt, fillA, zerosA, putAll, row, Int.reduceLT, Int.reduceLE, Int.reduceGT, Int.reduceGE, Int.reduceEq, Int.reduceNe, Int.reduceToNat, Int.reduceBEq, Int.reduceBNe, Nat.reduceLeDiff, Nat.reduceLT, Nat.reduceBNe, Nat.reduceGT, List.drop_nil, List.take_nil, Option.isSome_none, Int.ofNat_one, Int.ofNat_zero, hc, h0, hT.idx hiq, hT.load hiq, hT.idx2 hiq hkq, w1, w2, w3, s1, hww, p1]

theorem L65_3 {vt v : AV} {t : List (List Int)} {n : Nat} (ht : IsTab vt t) (hu : unitT t) (hn : t.length = n) (h5 : n ≤ 5) (hr : ∀ r ∈ t, r.length = n) (d : Nat) : ∀ (i : Nat) (R : Heap) (q : List (List Int)) (cells : List AV), i + d = n + 1 →
    HTab 0 R v q cells → Fill (n + 1) (hgt t) q i 0 →
    ∃ R', lp EV Y F65L3 (sp 57 [(5, vI i), (4, v), (3, vI n), (0, vt)]) R = some (.x 0, sp 57 [(4, v)], R') ∧ HTab 0 R' v (tabF (n + 1) (hgt t)) cells := by
  induction d with
  | zero =>
    intro i R q cells hi hT hF
    have : ¬ ((i : Int) ≤ (n : Int)) := by omega
    have e : q = tabF (n + 1) (hgt t) := Fill.done (by rwa [show i = n + 1 by omega] at hF)
    refine ⟨R, ?_, by rw [← e]; exact hT⟩
    rw [un65_3]
    simp only [F65L3b, SS, insA, wantedA, Opd.ev, putA, binA, eqbA, unA, fldA, partA, reduceIte, reduceCtorEq, Nat.reduceMod, Nat.reduceDiv, Nat.reduceBEq, resultA, resA, vI, Nat.reduceMul, Nat.reduceAdd, Nat.reduceSub, Nat.reduceEqDiff, Nat.reduceLT, Nat.reducePow, Nat.reduceLeDiff, st, Option.bind_eq_bind, Option.pure_def, List.length_nil, Int.cast_ofNat_Int, List.reverse_nil, UU, idxP, cellsAt, storeA, fillA, zerosA, putAll, optNat, sliceA, row, Int.reduceLT, Int.reduceLE, Int.reduceGT, Int.reduceGE, Int.reduceEq, Int.reduceNe, Int.reduceToNat, Int.reduceBEq, Int.reduceBNe, Nat.reduceLeDiff, Nat.reduceLT, Nat.reduceBNe, Nat.reduceGT, List.drop_nil, List.take_nil, Option.isSome_none, Int.ofNat_one, Int.ofNat_zero, this]
  | succ d ih =>
    intro i R q cells hi hT hF
    have hc : (i : Int) ≤ (n : Int) := by omega
    have hww := wrap_succ (n := i) (by omega)
    obtain ⟨R1, q1, a1, a2, a3⟩ := L65_2 (Y := Y) (v := v) ht hu hn h5 hr (show i ≤ n by omega) (n + 1) 0 R q cells (by omega) hT hF
    obtain ⟨R', p1, p2⟩ := ih (i + 1) R1 q1 cells (by omega) a2 a3.next
    refine ⟨R', ?_, p2⟩
    rw [un65_3]
    simp only [SS, insA, wantedA, Opd.ev, putA, binA, eqbA, unA, fldA, partA, reduceIte, reduceCtorEq, Nat.reduceMod, Nat.reduceDiv, Nat.reduceBEq, resultA, resA, vI, Nat.reduceMul, Nat.reduceAdd, Nat.reduceSub, Nat.reduceEqDiff, Nat.reduceLT, Nat.reducePow, Nat.reduceLeDiff, st, Option.bind_eq_bind, Option.pure_def, List.length_nil, Int.cast_ofNat_Int, List.reverse_nil, Int.ofNat_zero] at a1 p1
    simp only [F65L3b, F65T3, in65_2, SS, insA, wantedA, Opd.ev, putA, binA, eqbA, unA, fldA, partA, reduceIte, reduceCtorEq, Nat.reduceMod, Nat.reduceDiv, Nat.reduceBEq, resultA, resA, vI, Nat.reduceMul, Nat.reduceAdd, Nat.reduceSub, Nat.reduceEqDiff, Nat.reduceLT, Nat.reducePow, Nat.reduceLeDiff, st, Option.bind_eq_bind, Option.pure_def, List.length_nil, Int.cast_ofNat_Int, List.reverse_nil, UU, idxP, cellsAt, storeA, fillA, zerosA, putAll, optNat, sliceA, row, Int.reduceLT, Int.reduceLE, Int.reduceGT, Int.reduceGE, Int.reduceEq, Int.reduceNe, Int.reduceToNat, Int.reduceBEq, Int.reduceBNe, Nat.reduceLeDiff, Nat.reduceLT, Nat.reduceBNe, Nat.reduceGT, List.drop_nil, List.take_nil, Option.isSome_none, Int.ofNat_one, Int.ofNat_zero, hc, a1, hww, p1]

theorem heights65 {vt : AV} {t : List (List Int)} (ht : IsTab vt t) (hv : Veil t) : ∃ v R cells, callL EV Y 65 [vt] [] = some (v, R) ∧ HTab 0 R v (tabF (t.length + 1) (hgt t)) cells := by
  have h5 := hv.n5
  have hww := wrap_succ (n := t.length) (by omega)
  obtain ⟨v0, R0, c0, z1, z2⟩ := zeros54 (Y := Y) (n := t.length + 1) (by omega)
  obtain ⟨v, R, cells, q1, q2, q3⟩ := call_tab (H := []) (R := callL EV Y) (f := 54) (args := [vI ((t.length + 1 : Nat) : Int)]) (bs := [vI ((t.length + 1 : Nat) : Int)]) rfl z1 z2
  obtain ⟨R', p1, p2⟩ := L65_3 (Y := Y) ht hv.unit rfl h5 hv.row (t.length + 1) 0 R _ cells (by omega) q2 Fill.zero
  refine ⟨v, R', cells, ?_, p2⟩
  rw [call65 rfl]
  simp only [SS, insA, wantedA, Opd.ev, putA, binA, eqbA, unA, fldA, partA, reduceIte, reduceCtorEq, Nat.reduceMod, Nat.reduceDiv, Nat.reduceBEq, resultA, resA, vI, Nat.reduceMul, Nat.reduceAdd, Nat.reduceSub, Nat.reduceEqDiff, Nat.reduceLT, Nat.reducePow, Nat.reduceLeDiff, st, Option.bind_eq_bind, Option.pure_def, List.length_nil, Int.cast_ofNat_Int, List.reverse_nil, Int.ofNat_zero] at q1 p1
  simp only [F65B, F65T4, in65_3, SS, insA, wantedA, Opd.ev, putA, binA, eqbA, unA, fldA, partA, reduceIte, reduceCtorEq, Nat.reduceMod, Nat.reduceDiv, Nat.reduceBEq, resultA, resA, vI, Nat.reduceMul, Nat.reduceAdd, Nat.reduceSub, Nat.reduceEqDiff, Nat.reduceLT, Nat.reducePow, Nat.reduceLeDiff, st, Option.bind_eq_bind, Option.pure_def, List.length_nil, Int.cast_ofNat_Int, List.reverse_nil, UU, idxP, cellsAt, storeA, fillA, zerosA, putAll, optNat, sliceA, row, Int.reduceLT, Int.reduceLE, Int.reduceGT, Int.reduceGE, Int.reduceEq, Int.reduceNe, Int.reduceToNat, Int.reduceBEq, Int.reduceBNe, Nat.reduceLeDiff, Nat.reduceLT, Nat.reduceBNe, Nat.reduceGT, List.drop_nil, List.take_nil, Option.isSome_none, Int.ofNat_one, Int.ofNat_zero, ht.len, hww, q1, p1]

/-! ### Heights -/
theorem heights27 {vt : AV} {t : List (List Int)} (ht : IsTab vt t) (hs : Small t) :
    (readOk t = true → ∃ w, IsTab w (tabF (t.length + 1) (hgt t)) ∧ ∀ H, freeX H (callL EV Y 27 [vt] []) = some (.tup [w, vI 0], H)) ∧ (readOk t = false → ∀ H, freeX H (callL EV Y 27 [vt] []) = some (.tup [.nils, vI 2], H)) := by
  obtain ⟨H1, q, _⟩ := read64 (Y := Y) ht hs []
  constructor
  · intro ho
    have hv := veil_iff.1 ho
    rw [ho, if_pos rfl] at q
    obtain ⟨v0, R0, c0, z1, z2⟩ := raised62 (Y := Y) ht hv.unit (by have := hv.n5; omega) hv.row
    have hsi : ∀ H n, snapA H (n + 2) (.iface 56 vt) = some (.iface 56 vt) := fun H n => by rw [snap_ifc, ht.snap]; rfl
    obtain ⟨v, R, cells, q1, q2, q3⟩ := call_tab (H := H1) (R := callL EV Y) (f := 62) (args := [.iface 56 vt]) (bs := [.iface 56 vt]) (by rw [mapM_cons', hsi]; rfl) z1 z2
    obtain ⟨⟨w, o1, o2⟩, _⟩ := q2.out (d := 2)
    refine ⟨w, o2, fun H => ?_⟩
    rw [call27 rfl]
    simp only [F27B, SS, insA, wantedA, Opd.ev, putA, binA, eqbA, unA, fldA, partA, reduceIte, reduceCtorEq, Nat.reduceMod, Nat.reduceDiv, Nat.reduceBEq, resultA, resA, vI, Nat.reduceMul, Nat.reduceAdd, Nat.reduceSub, Nat.reduceEqDiff, Nat.reduceLT, Nat.reducePow, Nat.reduceLeDiff, st, Option.bind_eq_bind, Option.pure_def, List.length_nil, Int.cast_ofNat_Int, List.reverse_nil, UU, idxP, cellsAt, storeA, fillA, zerosA, putAll, optNat, sliceA, row, Int.reduceLT, Int.reduceLE, Int.reduceGT, Int.reduceGE, Int.reduceEq, Int.reduceNe, Int.reduceToNat, Int.reduceBEq, Int.reduceBNe, Nat.reduceLeDiff, Nat.reduceLT, Nat.reduceBNe, Nat.reduceGT, List.drop_nil, List.take_nil, Option.isSome_none, Int.ofNat_one, Int.ofNat_zero, q, q1, o1]
  · intro ho H
    rw [ho] at q
    simp only [Bool.false_eq_true, if_false] at q
    rw [call27 rfl]
    simp only [F27B, SS, insA, wantedA, Opd.ev, putA, binA, eqbA, unA, fldA, partA, reduceIte, reduceCtorEq, Nat.reduceMod, Nat.reduceDiv, Nat.reduceBEq, resultA, resA, vI, Nat.reduceMul, Nat.reduceAdd, Nat.reduceSub, Nat.reduceEqDiff, Nat.reduceLT, Nat.reducePow, Nat.reduceLeDiff, st, Option.bind_eq_bind, Option.pure_def, List.length_nil, Int.cast_ofNat_Int, List.reverse_nil, UU, idxP, cellsAt, storeA, fillA, zerosA, putAll, optNat, sliceA, row, Int.reduceLT, Int.reduceLE, Int.reduceGT, Int.reduceGE, Int.reduceEq, Int.reduceNe, Int.reduceToNat, Int.reduceBEq, Int.reduceBNe, Nat.reduceLeDiff, Nat.reduceLT, Nat.reduceBNe, Nat.reduceGT, List.drop_nil, List.take_nil, Option.isSome_none, Int.ofNat_one, Int.ofNat_zero, q]

theorem heights28 {vt : AV} {t : List (List Int)} (ht : IsTab vt t) (hs : Small t) :
    (readOk t = true → ∃ w, IsTab w (tabF (t.length + 1) (hgt t)) ∧ ∀ H, freeX H (callL EV Y 28 [vt] []) = some (.tup [w, vI 0], H)) ∧ (readOk t = false → ∀ H, freeX H (callL EV Y 28 [vt] []) = some (.tup [.nils, vI 2], H)) := by
  have k := fun H => isveil26 (Y := Y) (H := H) ht hs
  rw [ref_read] at k
  constructor
  · intro ho
    have hv := veil_iff.1 ho
    rw [ho] at k
    obtain ⟨v0, R0, c0, z1, z2⟩ := heights65 (Y := Y) ht hv
    obtain ⟨v, R, cells, q1, q2, q3⟩ := call_tab (H := []) (R := callL EV Y) (f := 65) (args := [vt]) (bs := [vt]) (by rw [mapM_cons', ht.snap]; rfl) z1 z2
    obtain ⟨⟨w, o1, o2⟩, _⟩ := q2.out (d := 2)
    refine ⟨w, o2, fun H => ?_⟩
    rw [call28 rfl]
    simp only [F28B, SS, insA, wantedA, Opd.ev, putA, binA, eqbA, unA, fldA, partA, reduceIte, reduceCtorEq, Nat.reduceMod, Nat.reduceDiv, Nat.reduceBEq, resultA, resA, vI, Nat.reduceMul, Nat.reduceAdd, Nat.reduceSub, Nat.reduceEqDiff, Nat.reduceLT, Nat.reducePow, Nat.reduceLeDiff, st, Option.bind_eq_bind, Option.pure_def, List.length_nil, Int.cast_ofNat_Int, List.reverse_nil, UU, idxP, cellsAt, storeA, fillA, zerosA, putAll, optNat, sliceA, row, Int.reduceLT, Int.reduceLE, Int.reduceGT, Int.reduceGE, Int.reduceEq, Int.reduceNe, Int.reduceToNat, Int.reduceBEq, Int.reduceBNe, Nat.reduceLeDiff, Nat.reduceLT, Nat.reduceBNe, Nat.reduceGT, List.drop_nil, List.take_nil, Option.isSome_none, Int.ofNat_one, Int.ofNat_zero, ht.snap, k, q1, o1]
  · intro ho H
    rw [ho] at k
    rw [call28 rfl]
    simp only [F28B, SS, insA, wantedA, Opd.ev, putA, binA, eqbA, unA, fldA, partA, reduceIte, reduceCtorEq, Nat.reduceMod, Nat.reduceDiv, Nat.reduceBEq, resultA, resA, vI, Nat.reduceMul, Nat.reduceAdd, Nat.reduceSub, Nat.reduceEqDiff, Nat.reduceLT, Nat.reducePow, Nat.reduceLeDiff, st, Option.bind_eq_bind, Option.pure_def, List.length_nil, Int.cast_ofNat_Int, List.reverse_nil, UU, idxP, cellsAt, storeA, fillA, zerosA, putAll, optNat, sliceA, row, Int.reduceLT, Int.reduceLE, Int.reduceGT, Int.reduceGE, Int.reduceEq, Int.reduceNe, Int.reduceToNat, Int.reduceBEq, Int.reduceBNe, Nat.reduceLeDiff, Nat.reduceLT, Nat.reduceBNe, Nat.reduceGT, List.drop_nil, List.take_nil, Option.isSome_none, Int.ofNat_one, Int.ofNat_zero, ht.snap, k]
end
end Go.X
