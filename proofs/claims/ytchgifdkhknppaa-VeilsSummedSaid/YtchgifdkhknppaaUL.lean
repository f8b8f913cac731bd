import Derived.Test.YtchgifdkhknppaaUK
/-! Veils: a thread is followed, in the program. -/
set_option linter.unusedSimpArgs false
set_option linter.unusedVariables false
set_option maxHeartbeats 8000000
set_option maxRecDepth 10000
namespace Go.X
open Go Go.RowKit
section
variable {Y : Run} {H : Heap}

/-- The other direction in which a thread leaves a knot (the same if there is none). -/
def wayF (h : List (List Int)) (i j w x : Nat) : Nat → Nat
  | 0 => w
  | d + 1 => if (x != w) && thrP h i j x then x else wayF h i j w (x + 1) d
theorem wayF_lt {h : List (List Int)} {i j w : Nat} (hw : w < 4) : ∀ (d x : Nat), x + d ≤ 4 → wayF h i j w x d < 4
  | 0, x, _ => hw
  | d + 1, x, hx => by
    unfold wayF
    split
    · omega
    · exact wayF_lt hw d (x + 1) (by omega)

abbrev RK (i j w : Nat) (T : Heap) : Heap := ⟨0, [vI i, vI j, vI w]⟩ :: ⟨0, [vI 0, vI 0, vI 0]⟩ :: T

theorem L84_0 {hv : AV} {h : List (List Int)} {n i j w : Nat} (ht : IsTab hv h) (S : Steep n h) (hi : 1 ≤ i ∧ i ≤ n) (hj : 1 ≤ j ∧ j ≤ n) (hw : w < 4) {T : Heap} (d : Nat) : ∀ (x : Nat), x + d = 4 →
    lp EV Y F84L0 (sp 51 [(13, vI x), (6, vI w), (5, vI n), (4, .ptr 1 0 0), (3, .ptr 0 0 0), (0, hv)]) (RK i j w T) = some (.x 2, sp 51 [(5, vI n), (4, .ptr 1 0 0), (3, .ptr 0 0 0), (0, hv)], RK i j (wayF h i j w x d) T) := by
  induction d with
  | zero =>
    intro x hx
    have : ¬ ((x : Int) < 4) := by omega
    rw [un84_0]
    simp only [F84L0b, wayF, RK, SS, insA, wantedA, Opd.ev, putA, binA, eqbA, unA, fldA, partA, reduceIte, reduceCtorEq, Nat.reduceMod, Nat.reduceDiv, Nat.reduceBEq, resultA, resA, vI, Nat.reduceMul, Nat.reduceAdd, Nat.reduceSub, Nat.reduceEqDiff, Nat.reduceLT, Nat.reducePow, Nat.reduceLeDiff, st, Option.bind_eq_bind, Option.pure_def, List.length_nil, Int.cast_ofNat_Int, List.reverse_nil, UU, idxP, cellsAt, storeA, fillA, zerosA, putAll, optNat, sliceA, row, Int.reduceLT, Int.reduceLE, Int.reduceGT, Int.reduceGE, Int.reduceEq, Int.reduceNe, Int.reduceToNat, Int.reduceBEq, Int.reduceBNe, Nat.reduceLeDiff, Nat.reduceLT, Nat.reduceBNe, Nat.reduceGT, List.drop_nil, List.take_nil, Option.isSome_none, Int.ofNat_one, Int.ofNat_zero, this]
  | succ d ih =>
    intro x hx
    have hc : (x : Int) < 4 := by omega
    have hww := wrap_succ (n := x) (by omega)
    have th := fun H => thread93 (Y := Y) (H := H) (w := x) ht S hi hj (by omega)
    have ih := ih (x + 1) (by omega)
    rw [un84_0]
    unfold wayF
    by_cases c1 : x = w
    · have e1 : (x != w) = false := by simp [c1]
      have e2 : ((x : Int) != (w : Int)) = false := by simp [c1]
      rw [e1, Bool.false_and, if_neg (by decide)]
      simp only [RK, SS, insA, wantedA, Opd.ev, putA, binA, eqbA, unA, fldA, partA, reduceIte, reduceCtorEq, Nat.reduceMod, Nat.reduceDiv, Nat.reduceBEq, resultA, resA, vI, Nat.reduceMul, Nat.reduceAdd, Nat.reduceSub, Nat.reduceEqDiff, Nat.reduceLT, Nat.reducePow, Nat.reduceLeDiff, st, Option.bind_eq_bind, Option.pure_def, List.length_nil, Int.cast_ofNat_Int, List.reverse_nil] at ih
      simp only [F84L0b, RK, SS, insA, wantedA, Opd.ev, putA, binA, eqbA, unA, fldA, partA, reduceIte, reduceCtorEq, Nat.reduceMod, Nat.reduceDiv, Nat.reduceBEq, resultA, resA, vI, Nat.reduceMul, Nat.reduceAdd, Nat.reduceSub, Nat.reduceEqDiff, Nat.reduceLT, Nat.reducePow, Nat.reduceLeDiff, st, Option.bind_eq_bind, Option.pure_def, List.length_nil, Int.cast_ofNat_Int, List.reverse_nil, UU, idxP, cellsAt, storeA, fillA, zerosA, putAll, optNat, sliceA, row, Int.reduceLT, Int.reduceLE, Int.reduceGT, Int.reduceGE, Int.reduceEq, Int.reduceNe, Int.reduceToNat, Int.reduceBEq, Int.reduceBNe, Nat.reduceLeDiff, Nat.reduceLT, Nat.reduceBNe, Nat.reduceGT, List.drop_nil, List.take_nil, Option.isSome_none, Int.ofNat_one, Int.ofNat_zero, hc, e2, hww, ih]
    · have e1 : (x != w) = true := by simp [c1]
      have e2 : ((x : Int) != (w : Int)) = true := by rw [bne_iff_ne]; omega
      rw [e1, Bool.true_and]
      cases c2 : thrP h i j x
      · rw [if_neg (by decide)]
        rw [c2] at th
        simp only [RK, SS, insA, wantedA, Opd.ev, putA, binA, eqbA, unA, fldA, partA, reduceIte, reduceCtorEq, Nat.reduceMod, Nat.reduceDiv, Nat.reduceBEq, resultA, resA, vI, Nat.reduceMul, Nat.reduceAdd, Nat.reduceSub, Nat.reduceEqDiff, Nat.reduceLT, Nat.reducePow, Nat.reduceLeDiff, st, Option.bind_eq_bind, Option.pure_def, List.length_nil, Int.cast_ofNat_Int, List.reverse_nil] at ih th
        simp only [F84L0b, RK, SS, insA, wantedA, Opd.ev, putA, binA, eqbA, unA, fldA, partA, reduceIte, reduceCtorEq, Nat.reduceMod, Nat.reduceDiv, Nat.reduceBEq, resultA, resA, vI, Nat.reduceMul, Nat.reduceAdd, Nat.reduceSub, Nat.reduceEqDiff, Nat.reduceLT, Nat.reducePow, Nat.reduceLeDiff, st, Option.bind_eq_bind, Option.pure_def, List.length_nil, Int.cast_ofNat_Int, List.reverse_nil, UU, idxP, cellsAt, storeA, fillA, zerosA, putAll, optNat, sliceA, row, Int.reduceLT, Int.reduceLE, Int.reduceGT, Int.reduceGE, Int.reduceEq, Int.reduceNe, Int.reduceToNat, Int.reduceBEq, Int.reduceBNe, Nat.reduceLeDiff, Nat.reduceLT, Nat.reduceBNe, Nat.reduceGT, List.drop_nil, List.take_nil, Option.isSome_none, Int.ofNat_one, Int.ofNat_zero, hc, e2, ht.snap, th, hww, ih]
      · rw [if_pos rfl]
        rw [c2] at th
        simp only [SS, insA, wantedA, Opd.ev, putA, binA, eqbA, unA, fldA, partA, reduceIte, reduceCtorEq, Nat.reduceMod, Nat.reduceDiv, Nat.reduceBEq, resultA, resA, vI, Nat.reduceMul, Nat.reduceAdd, Nat.reduceSub, Nat.reduceEqDiff, Nat.reduceLT, Nat.reducePow, Nat.reduceLeDiff, st, Option.bind_eq_bind, Option.pure_def, List.length_nil, Int.cast_ofNat_Int, List.reverse_nil] at th
        simp only [F84L0b, RK, SS, insA, wantedA, Opd.ev, putA, binA, eqbA, unA, fldA, partA, reduceIte, reduceCtorEq, Nat.reduceMod, Nat.reduceDiv, Nat.reduceBEq, resultA, resA, vI, Nat.reduceMul, Nat.reduceAdd, Nat.reduceSub, Nat.reduceEqDiff, Nat.reduceLT, Nat.reducePow, Nat.reduceLeDiff, st, Option.bind_eq_bind, Option.pure_def, List.length_nil, Int.cast_ofNat_Int, List.reverse_nil, UU, idxP, cellsAt, storeA, fillA, zerosA, putAll, optNat, sliceA, row, Int.reduceLT, Int.reduceLE, Int.reduceGT, Int.reduceGE, Int.reduceEq, Int.reduceNe, Int.reduceToNat, Int.reduceBEq, Int.reduceBNe, Nat.reduceLeDiff, Nat.reduceLT, Nat.reduceBNe, Nat.reduceGT, List.drop_nil, List.take_nil, Option.isSome_none, Int.ofNat_one, Int.ofNat_zero, hc, e2, ht.snap, th, hww]

/-- The end at which one comes out. -/
def folP (h : List (List Int)) (n : Nat) : Nat → Nat → Nat → Nat → Option (Nat × Nat × Nat)
  | 0, _, _, _ => none
  | f + 1, i, j, w =>
    let w' := wayF h i j w 0 4
    let k := stepP i j w'
    if 1 ≤ k.1 ∧ k.1 ≤ n ∧ 1 ≤ k.2.1 ∧ k.2.1 ≤ n then folP h n f k.1 k.2.1 k.2.2 else some (i, j, w')

theorem stepP_lt {i j w : Nat} : (stepP i j w).2.2 < 4 := by
  match w with
  | 0 => simp [stepP]
  | 1 => simp [stepP]
  | 2 => simp [stepP]
  | w + 3 => simp [stepP]
theorem stepP_b {n i j w : Nat} (hi : 1 ≤ i ∧ i ≤ n) (hj : 1 ≤ j ∧ j ≤ n) : (stepP i j w).1 ≤ n + 1 ∧ (stepP i j w).2.1 ≤ n + 1 := by
  match w with
  | 0 => simp only [stepP]; omega
  | 1 => simp only [stepP]; omega
  | 2 => simp only [stepP]; omega
  | w + 3 => simp only [stepP]; omega

theorem L84_1 {hv : AV} {h : List (List Int)} {n : Nat} (ht : IsTab hv h) (S : Steep n h) : ∀ (f i j w : Nat) {r : Nat × Nat × Nat} {T : Heap}, 1 ≤ i ∧ i ≤ n → 1 ≤ j ∧ j ≤ n → w < 4 → folP h n f i j w = some r →
    ∃ T', lp EV Y F84L1 (sp 51 [(5, vI n), (4, .ptr 1 0 0), (3, .ptr 0 0 0), (0, hv)]) (RK i j w T) = some (.r, sp 51 [(4, .ptr 1 0 0)], ⟨0, kn r⟩ :: ⟨0, kn r⟩ :: T') ∧ ((1 ≤ r.1 ∧ r.1 ≤ n) ∧ (1 ≤ r.2.1 ∧ r.2.1 ≤ n) ∧ r.2.2 < 4)
  | 0, i, j, w, r, T, hi, hj, hw, hr => by cases hr
  | f + 1, i, j, w, r, T, hi, hj, hw, hr => by
    have h5 := S.n5
    have h0 := L84_0 (Y := Y) ht S hi hj hw (T := T) 4 0 (by omega)
    have lw := wayF_lt (h := h) (i := i) (j := j) hw 4 0 (by omega)
    have hst := fun H => step94 (Y := Y) (H := H) h5 hi hj lw
    unfold folP at hr
    simp only at hr
    generalize hw' : wayF h i j w 0 4 = w' at *
    have sb := stepP_b (w := w') hi hj
    have sl := stepP_lt (i := i) (j := j) (w := w')
    generalize hk : stepP i j w' = k at *
    obtain ⟨a, b, c⟩ := k
    simp only [kn] at hst sb sl hr
    rw [un84_1]
    by_cases q : 1 ≤ a ∧ a ≤ n ∧ 1 ≤ b ∧ b ≤ n
    · rw [if_pos q] at hr
      obtain ⟨T', p1, p2⟩ := L84_1 ht S f a b c (T := T ++ [⟨0, [vI a, vI b, vI c]⟩]) ⟨q.1, q.2.1⟩ q.2.2 sl hr
      refine ⟨T', ?_, p2⟩
      have g1 : ¬ min (a : Int) b < 1 := by omega
      have g2 : ¬ max (a : Int) b > n := by omega
      simp only [RK, SS, insA, wantedA, Opd.ev, putA, binA, eqbA, unA, fldA, partA, reduceIte, reduceCtorEq, Nat.reduceMod, Nat.reduceDiv, Nat.reduceBEq, resultA, resA, vI, Nat.reduceMul, Nat.reduceAdd, Nat.reduceSub, Nat.reduceEqDiff, Nat.reduceLT, Nat.reducePow, Nat.reduceLeDiff, st, Option.bind_eq_bind, Option.pure_def, List.length_nil, Int.cast_ofNat_Int, List.reverse_nil, Int.ofNat_zero] at h0 hst p1
      simp only [F84L1b, F84T0, in84_0, RK, SS, insA, wantedA, Opd.ev, putA, binA, eqbA, unA, fldA, partA, reduceIte, reduceCtorEq, Nat.reduceMod, Nat.reduceDiv, Nat.reduceBEq, resultA, resA, vI, Nat.reduceMul, Nat.reduceAdd, Nat.reduceSub, Nat.reduceEqDiff, Nat.reduceLT, Nat.reducePow, Nat.reduceLeDiff, st, Option.bind_eq_bind, Option.pure_def, List.length_nil, Int.cast_ofNat_Int, List.reverse_nil, UU, idxP, cellsAt, storeA, fillA, zerosA, putAll, optNat, sliceA, row, Int.reduceLT, Int.reduceLE, Int.reduceGT, Int.reduceGE, Int.reduceEq, Int.reduceNe, Int.reduceToNat, Int.reduceBEq, Int.reduceBNe, Nat.reduceLeDiff, Nat.reduceLT, Nat.reduceBNe, Nat.reduceGT, List.drop_nil, List.take_nil, Option.isSome_none, Int.ofNat_one, Int.ofNat_zero, h0, hst, get_last, set_last, g1, g2, p1, Nat.reduceLeDiff, List.getElem?_append_right, Nat.le_refl, Nat.sub_self]
    · rw [if_neg q] at hr
      cases hr
      refine ⟨T ++ [⟨0, [vI a, vI b, vI c]⟩], ?_, hi, hj, lw⟩
      by_cases g1 : min (a : Int) b < 1
      · simp only [RK, SS, insA, wantedA, Opd.ev, putA, binA, eqbA, unA, fldA, partA, reduceIte, reduceCtorEq, Nat.reduceMod, Nat.reduceDiv, Nat.reduceBEq, resultA, resA, vI, Nat.reduceMul, Nat.reduceAdd, Nat.reduceSub, Nat.reduceEqDiff, Nat.reduceLT, Nat.reducePow, Nat.reduceLeDiff, st, Option.bind_eq_bind, Option.pure_def, List.length_nil, Int.cast_ofNat_Int, List.reverse_nil, Int.ofNat_zero] at h0 hst
        simp only [F84L1b, F84T0, in84_0, RK, kn, SS, insA, wantedA, Opd.ev, putA, binA, eqbA, unA, fldA, partA, reduceIte, reduceCtorEq, Nat.reduceMod, Nat.reduceDiv, Nat.reduceBEq, resultA, resA, vI, Nat.reduceMul, Nat.reduceAdd, Nat.reduceSub, Nat.reduceEqDiff, Nat.reduceLT, Nat.reducePow, Nat.reduceLeDiff, st, Option.bind_eq_bind, Option.pure_def, List.length_nil, Int.cast_ofNat_Int, List.reverse_nil, UU, idxP, cellsAt, storeA, fillA, zerosA, putAll, optNat, sliceA, row, Int.reduceLT, Int.reduceLE, Int.reduceGT, Int.reduceGE, Int.reduceEq, Int.reduceNe, Int.reduceToNat, Int.reduceBEq, Int.reduceBNe, Nat.reduceLeDiff, Nat.reduceLT, Nat.reduceBNe, Nat.reduceGT, List.drop_nil, List.take_nil, Option.isSome_none, Int.ofNat_one, Int.ofNat_zero, h0, hst, get_last, set_last, g1]
      · have g2 : max (a : Int) b > n := by omega
        simp only [RK, SS, insA, wantedA, Opd.ev, putA, binA, eqbA, unA, fldA, partA, reduceIte, reduceCtorEq, Nat.reduceMod, Nat.reduceDiv, Nat.reduceBEq, resultA, resA, vI, Nat.reduceMul, Nat.reduceAdd, Nat.reduceSub, Nat.reduceEqDiff, Nat.reduceLT, Nat.reducePow, Nat.reduceLeDiff, st, Option.bind_eq_bind, Option.pure_def, List.length_nil, Int.cast_ofNat_Int, List.reverse_nil, Int.ofNat_zero] at h0 hst
        simp only [F84L1b, F84T0, in84_0, RK, kn, SS, insA, wantedA, Opd.ev, putA, binA, eqbA, unA, fldA, partA, reduceIte, reduceCtorEq, Nat.reduceMod, Nat.reduceDiv, Nat.reduceBEq, resultA, resA, vI, Nat.reduceMul, Nat.reduceAdd, Nat.reduceSub, Nat.reduceEqDiff, Nat.reduceLT, Nat.reducePow, Nat.reduceLeDiff, st, Option.bind_eq_bind, Option.pure_def, List.length_nil, Int.cast_ofNat_Int, List.reverse_nil, UU, idxP, cellsAt, storeA, fillA, zerosA, putAll, optNat, sliceA, row, Int.reduceLT, Int.reduceLE, Int.reduceGT, Int.reduceGE, Int.reduceEq, Int.reduceNe, Int.reduceToNat, Int.reduceBEq, Int.reduceBNe, Nat.reduceLeDiff, Nat.reduceLT, Nat.reduceBNe, Nat.reduceGT, List.drop_nil, List.take_nil, Option.isSome_none, Int.ofNat_one, Int.ofNat_zero, h0, hst, get_last, set_last, g1, g2]

theorem follow84 {hv : AV} {h : List (List Int)} {n i j w f : Nat} {r : Nat × Nat × Nat} (ht : IsTab hv h) (S : Steep n h) (hi : 1 ≤ i ∧ i ≤ n) (hj : 1 ≤ j ∧ j ≤ n) (hw : w < 4) (hr : folP h n f i j w = some r) :
    freeX H (callL EV Y 84 [hv, .agg [vI i, vI j, vI w]] []) = some (.agg (kn r), H) ∧ ((1 ≤ r.1 ∧ r.1 ≤ n) ∧ (1 ≤ r.2.1 ∧ r.2.1 ≤ n) ∧ r.2.2 < 4) := by
  obtain ⟨T', p1, p2⟩ := L84_1 (Y := Y) (T := []) ht S f i j w hi hj hw hr
  refine ⟨?_, p2⟩
  have sz := fun H => size91 (Y := Y) (H := H) ht S.len (by have := S.n5; omega)
  rw [call84 rfl]
  simp only [RK, kn, SS, insA, wantedA, Opd.ev, putA, binA, eqbA, unA, fldA, partA, reduceIte, reduceCtorEq, Nat.reduceMod, Nat.reduceDiv, Nat.reduceBEq, resultA, resA, vI, Nat.reduceMul, Nat.reduceAdd, Nat.reduceSub, Nat.reduceEqDiff, Nat.reduceLT, Nat.reducePow, Nat.reduceLeDiff, st, Option.bind_eq_bind, Option.pure_def, List.length_nil, Int.cast_ofNat_Int, List.reverse_nil, Int.ofNat_zero] at p1 sz
  simp only [F84B, in84_1, kn, SS, insA, wantedA, Opd.ev, putA, binA, eqbA, unA, fldA, partA, reduceIte, reduceCtorEq, Nat.reduceMod, Nat.reduceDiv, Nat.reduceBEq, resultA, resA, vI, Nat.reduceMul, Nat.reduceAdd, Nat.reduceSub, Nat.reduceEqDiff, Nat.reduceLT, Nat.reducePow, Nat.reduceLeDiff, st, Option.bind_eq_bind, Option.pure_def, List.length_nil, Int.cast_ofNat_Int, List.reverse_nil, UU, idxP, cellsAt, storeA, fillA, zerosA, putAll, optNat, sliceA, row, Int.reduceLT, Int.reduceLE, Int.reduceGT, Int.reduceGE, Int.reduceEq, Int.reduceNe, Int.reduceToNat, Int.reduceBEq, Int.reduceBNe, Nat.reduceLeDiff, Nat.reduceLT, Nat.reduceBNe, Nat.reduceGT, List.drop_nil, List.take_nil, Option.isSome_none, Int.ofNat_one, Int.ofNat_zero, ht.snap, sz, p1]
end
end Go.X
