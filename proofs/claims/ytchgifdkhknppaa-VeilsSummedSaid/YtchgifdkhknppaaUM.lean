import Derived.Test.YtchgifdkhknppaaUL
/-! Veils: ends and pairings, in the program. -/
set_option linter.unusedSimpArgs false
set_option linter.unusedVariables false
set_option maxHeartbeats 8000000
set_option maxRecDepth 10000
namespace Go.X
open Go Go.RowKit
section
variable {Y : Run} {H : Heap}

/-! ### lists of knots -/
def flat (ks : List (Nat × Nat × Nat)) : List AV := ks.flatMap kn
theorem flat_len : ∀ (ks : List (Nat × Nat × Nat)), (flat ks).length = ks.length * 3
  | [] => rfl
  | k :: ks => by
    have := flat_len ks
    unfold flat at this ⊢
    rw [List.flatMap_cons, List.length_append, this, List.length_cons, show (kn k).length = 3 from rfl]; omega
theorem flat_drop : ∀ (ks : List (Nat × Nat × Nat)) (i : Nat) (h : i < ks.length), (flat ks).drop (i * 3) = kn ks[i] ++ flat (ks.drop (i + 1))
  | k :: ks, 0, _ => by simp [flat]
  | k :: ks, i + 1, h => by
    have h' : i < ks.length := by simpa using h
    have e : flat (k :: ks) = vI k.1 :: vI k.2.1 :: vI k.2.2 :: flat ks := rfl
    rw [e, show (i + 1) * 3 = i * 3 + 1 + 1 + 1 by omega, List.drop_succ_cons, List.drop_succ_cons, List.drop_succ_cons, flat_drop ks i h']
    rfl
theorem flat_add {ks : List (Nat × Nat × Nat)} {k : Nat × Nat × Nat} : flat (ks ++ [k]) = flat ks ++ kn k := by simp [flat]
def IsKn (w : AV) (ks : List (Nat × Nat × Nat)) : Prop := IsLst w ks.length (flat ks)
theorem IsKn.len {w : AV} {ks : List (Nat × Nat × Nat)} (h : IsKn w ks) : lenA w = some ks.length := by
  rcases h with ⟨h, rfl⟩ | ⟨s, rfl⟩
  · rw [h]; rfl
  · rfl
theorem IsKn.idx {w : AV} {ks : List (Nat × Nat × Nat)} (h : IsKn w ks) {i : Nat} (hi : i < ks.length) : ∃ s rest, idxA 3 w (.int .i64 (i : Int)) = some (.cptr s (.int .i64 ks[i].1 :: .int .i64 ks[i].2.1 :: .int .i64 ks[i].2.2 :: rest)) := by
  rcases h with ⟨h, rfl⟩ | ⟨s, rfl⟩
  · omega
  · refine ⟨s, flat (ks.drop (i + 1)), ?_⟩
    simp only [idxA, natOf_nat]
    rw [if_pos hi, flat_drop ks i hi]; rfl
theorem IsKn.snap {w : AV} {ks : List (Nat × Nat × Nat)} (h : IsKn w ks) {n : Nat} : snapA H (n + 1) w = some w := by
  rcases h with ⟨_, rfl⟩ | ⟨s, rfl⟩ <;> rfl

theorem eqs_kn {k x : Nat × Nat × Nat} : eqsA false [true, true, true] (.agg (kn k)) (.agg (kn x)) = some (.bool (decide (k = x))) := by
  obtain ⟨a, b, c⟩ := k
  obtain ⟨d, e, f⟩ := x
  simp only [eqsA, kn, eqCells, vI, if_true, Option.map_some, Bool.and_true, Bool.bne_false]
  congr 2
  rw [Bool.eq_iff_iff]
  simp
  omega

def idxK (k : Nat × Nat × Nat) : List (Nat × Nat × Nat) → Nat → Int
  | [], _ => -1
  | x :: l, i => if k = x then (i : Int) else idxK k l (i + 1)

theorem L83_0 {w : AV} {ks : List (Nat × Nat × Nat)} (hw : IsKn w ks) (hl : ks.length ≤ 100) {k : Nat × Nat × Nat} (d : Nat) : ∀ (i : Nat), i + d = ks.length →
    ∃ L, lp EV Y F83L0 (sp 19 [(8, vI i), (7, vI ks.length), (3, .ptr 0 0 0), (0, w)]) [⟨0, kn k⟩] = some L ∧ (L = (.x 0, sp 19 [], [⟨0, kn k⟩]) ∧ idxK k (ks.drop i) i = -1 ∨ L = (.r, sp 19 [(4, vI (idxK k (ks.drop i) i))], [⟨0, kn k⟩])) := by
  induction d with
  | zero =>
    intro i hi
    have : ¬ ((i : Int) < (ks.length : Int)) := by omega
    refine ⟨_, ?_, .inl ⟨rfl, by rw [List.drop_eq_nil_of_le (by omega)]; rfl⟩⟩
    rw [un83_0]
    simp only [F83L0b, kn, SS, insA, wantedA, Opd.ev, putA, binA, eqbA, unA, fldA, partA, reduceIte, reduceCtorEq, Nat.reduceMod, Nat.reduceDiv, Nat.reduceBEq, resultA, resA, vI, Nat.reduceMul, Nat.reduceAdd, Nat.reduceSub, Nat.reduceEqDiff, Nat.reduceLT, Nat.reducePow, Nat.reduceLeDiff, st, Option.bind_eq_bind, Option.pure_def, List.length_nil, Int.cast_ofNat_Int, List.reverse_nil, UU, idxP, cellsAt, storeA, fillA, zerosA, putAll, optNat, sliceA, row, Int.reduceLT, Int.reduceLE, Int.reduceGT, Int.reduceGE, Int.reduceEq, Int.reduceNe, Int.reduceToNat, Int.reduceBEq, Int.reduceBNe, Nat.reduceLeDiff, Nat.reduceLT, Nat.reduceBNe, Nat.reduceGT, List.drop_nil, List.take_nil, Option.isSome_none, Int.ofNat_one, Int.ofNat_zero, this]
  | succ d ih =>
    intro i hi
    have hc : (i : Int) < (ks.length : Int) := by omega
    have k1 : i < ks.length := by omega
    have hww := wrap_succ (n := i) (by omega)
    obtain ⟨s, rest, e1⟩ := hw.idx k1
    have e2 := eqs_kn (k := k) (x := ks[i])
    rw [List.drop_eq_getElem_cons k1]
    unfold idxK
    by_cases c : k = ks[i]
    · rw [if_pos c]
      rw [decide_eq_true c] at e2
      refine ⟨_, ?_, .inr rfl⟩
      rw [un83_0]
      simp only [kn, SS, insA, wantedA, Opd.ev, putA, binA, eqbA, unA, fldA, partA, reduceIte, reduceCtorEq, Nat.reduceMod, Nat.reduceDiv, Nat.reduceBEq, resultA, resA, vI, Nat.reduceMul, Nat.reduceAdd, Nat.reduceSub, Nat.reduceEqDiff, Nat.reduceLT, Nat.reducePow, Nat.reduceLeDiff, st, Option.bind_eq_bind, Option.pure_def, List.length_nil, Int.cast_ofNat_Int, List.reverse_nil] at e2
      simp only [F83L0b, kn, SS, insA, wantedA, Opd.ev, putA, binA, eqbA, unA, fldA, partA, reduceIte, reduceCtorEq, Nat.reduceMod, Nat.reduceDiv, Nat.reduceBEq, resultA, resA, vI, Nat.reduceMul, Nat.reduceAdd, Nat.reduceSub, Nat.reduceEqDiff, Nat.reduceLT, Nat.reducePow, Nat.reduceLeDiff, st, Option.bind_eq_bind, Option.pure_def, List.length_nil, Int.cast_ofNat_Int, List.reverse_nil, UU, idxP, cellsAt, storeA, fillA, zerosA, putAll, optNat, sliceA, row, Int.reduceLT, Int.reduceLE, Int.reduceGT, Int.reduceGE, Int.reduceEq, Int.reduceNe, Int.reduceToNat, Int.reduceBEq, Int.reduceBNe, Nat.reduceLeDiff, Nat.reduceLT, Nat.reduceBNe, Nat.reduceGT, List.drop_nil, List.take_nil, Option.isSome_none, Int.ofNat_one, Int.ofNat_zero, hc, e1, e2]
    · rw [if_neg c]
      rw [decide_eq_false c] at e2
      obtain ⟨L, q1, q2⟩ := ih (i + 1) (by omega)
      refine ⟨L, ?_, q2⟩
      rw [un83_0]
      simp only [kn, SS, insA, wantedA, Opd.ev, putA, binA, eqbA, unA, fldA, partA, reduceIte, reduceCtorEq, Nat.reduceMod, Nat.reduceDiv, Nat.reduceBEq, resultA, resA, vI, Nat.reduceMul, Nat.reduceAdd, Nat.reduceSub, Nat.reduceEqDiff, Nat.reduceLT, Nat.reducePow, Nat.reduceLeDiff, st, Option.bind_eq_bind, Option.pure_def, List.length_nil, Int.cast_ofNat_Int, List.reverse_nil] at e2 q1
      simp only [F83L0b, kn, SS, insA, wantedA, Opd.ev, putA, binA, eqbA, unA, fldA, partA, reduceIte, reduceCtorEq, Nat.reduceMod, Nat.reduceDiv, Nat.reduceBEq, resultA, resA, vI, Nat.reduceMul, Nat.reduceAdd, Nat.reduceSub, Nat.reduceEqDiff, Nat.reduceLT, Nat.reducePow, Nat.reduceLeDiff, st, Option.bind_eq_bind, Option.pure_def, List.length_nil, Int.cast_ofNat_Int, List.reverse_nil, UU, idxP, cellsAt, storeA, fillA, zerosA, putAll, optNat, sliceA, row, Int.reduceLT, Int.reduceLE, Int.reduceGT, Int.reduceGE, Int.reduceEq, Int.reduceNe, Int.reduceToNat, Int.reduceBEq, Int.reduceBNe, Nat.reduceLeDiff, Nat.reduceLT, Nat.reduceBNe, Nat.reduceGT, List.drop_nil, List.take_nil, Option.isSome_none, Int.ofNat_one, Int.ofNat_zero, hc, e1, e2, hww, q1]

theorem index83 {w : AV} {ks : List (Nat × Nat × Nat)} (hw : IsKn w ks) (hl : ks.length ≤ 100) {k : Nat × Nat × Nat} : freeX H (callL EV Y 83 [w, .agg (kn k)] []) = some (vI (idxK k ks 0), H) := by
  obtain ⟨L, q1, q2⟩ := L83_0 (Y := Y) hw hl (k := k) ks.length 0 (by omega)
  rw [call83 rfl]
  rw [List.drop_zero] at q2
  rcases q2 with ⟨rfl, e⟩ | rfl
  · rw [e]
    simp only [kn, SS, insA, wantedA, Opd.ev, putA, binA, eqbA, unA, fldA, partA, reduceIte, reduceCtorEq, Nat.reduceMod, Nat.reduceDiv, Nat.reduceBEq, resultA, resA, vI, Nat.reduceMul, Nat.reduceAdd, Nat.reduceSub, Nat.reduceEqDiff, Nat.reduceLT, Nat.reducePow, Nat.reduceLeDiff, st, Option.bind_eq_bind, Option.pure_def, List.length_nil, Int.cast_ofNat_Int, List.reverse_nil, Int.ofNat_zero] at q1
    simp only [F83B, F83T0, in83_0, kn, SS, insA, wantedA, Opd.ev, putA, binA, eqbA, unA, fldA, partA, reduceIte, reduceCtorEq, Nat.reduceMod, Nat.reduceDiv, Nat.reduceBEq, resultA, resA, vI, Nat.reduceMul, Nat.reduceAdd, Nat.reduceSub, Nat.reduceEqDiff, Nat.reduceLT, Nat.reducePow, Nat.reduceLeDiff, st, Option.bind_eq_bind, Option.pure_def, List.length_nil, Int.cast_ofNat_Int, List.reverse_nil, UU, idxP, cellsAt, storeA, fillA, zerosA, putAll, optNat, sliceA, row, Int.reduceLT, Int.reduceLE, Int.reduceGT, Int.reduceGE, Int.reduceEq, Int.reduceNe, Int.reduceToNat, Int.reduceBEq, Int.reduceBNe, Nat.reduceLeDiff, Nat.reduceLT, Nat.reduceBNe, Nat.reduceGT, List.drop_nil, List.take_nil, Option.isSome_none, Int.ofNat_one, Int.ofNat_zero, hw.len, q1]
  · simp only [kn, SS, insA, wantedA, Opd.ev, putA, binA, eqbA, unA, fldA, partA, reduceIte, reduceCtorEq, Nat.reduceMod, Nat.reduceDiv, Nat.reduceBEq, resultA, resA, vI, Nat.reduceMul, Nat.reduceAdd, Nat.reduceSub, Nat.reduceEqDiff, Nat.reduceLT, Nat.reducePow, Nat.reduceLeDiff, st, Option.bind_eq_bind, Option.pure_def, List.length_nil, Int.cast_ofNat_Int, List.reverse_nil, Int.ofNat_zero] at q1
    simp only [F83B, F83T0, in83_0, kn, SS, insA, wantedA, Opd.ev, putA, binA, eqbA, unA, fldA, partA, reduceIte, reduceCtorEq, Nat.reduceMod, Nat.reduceDiv, Nat.reduceBEq, resultA, resA, vI, Nat.reduceMul, Nat.reduceAdd, Nat.reduceSub, Nat.reduceEqDiff, Nat.reduceLT, Nat.reducePow, Nat.reduceLeDiff, st, Option.bind_eq_bind, Option.pure_def, List.length_nil, Int.cast_ofNat_Int, List.reverse_nil, UU, idxP, cellsAt, storeA, fillA, zerosA, putAll, optNat, sliceA, row, Int.reduceLT, Int.reduceLE, Int.reduceGT, Int.reduceGE, Int.reduceEq, Int.reduceNe, Int.reduceToNat, Int.reduceBEq, Int.reduceBNe, Nat.reduceLeDiff, Nat.reduceLT, Nat.reduceBNe, Nat.reduceGT, List.drop_nil, List.take_nil, Option.isSome_none, Int.ofNat_one, Int.ofNat_zero, hw.len, q1]

/-! ### ends -/
def selK (h : List (List Int)) (k : Nat × Nat × Nat) : List (Nat × Nat × Nat) := if thrP h k.1 k.2.1 k.2.2 then [k] else []
def upK (h : List (List Int)) (f : Nat → Nat × Nat × Nat) : Nat → Nat → List (Nat × Nat × Nat)
  | _, 0 => []
  | j, d + 1 => selK h (f j) ++ upK h f (j + 1) d
def dnK (h : List (List Int)) (f : Nat → Nat × Nat × Nat) : Nat → List (Nat × Nat × Nat)
  | 0 => []
  | j + 1 => selK h (f (j + 1)) ++ dnK h f j
theorem selK_len {h : List (List Int)} {k : Nat × Nat × Nat} : (selK h k).length ≤ 1 := by unfold selK; split <;> simp
theorem upK_len {h : List (List Int)} {f : Nat → Nat × Nat × Nat} : ∀ (d j : Nat), (upK h f j d).length ≤ d
  | 0, _ => Nat.le_refl _
  | d + 1, j => by
    have := upK_len (h := h) (f := f) d (j + 1)
    have := selK_len (h := h) (k := f j)
    unfold upK; rw [List.length_append]; omega
theorem dnK_len {h : List (List Int)} {f : Nat → Nat × Nat × Nat} : ∀ (j : Nat), (dnK h f j).length ≤ j
  | 0 => Nat.le_refl _
  | j + 1 => by
    have := dnK_len (h := h) (f := f) j
    have := selK_len (h := h) (k := f (j + 1))
    unfold dnK; rw [List.length_append]; omega

structure EndS (R : Heap) (hv : AV) (ks : List (Nat × Nat × Nat)) : Prop where
  h0 : R[0]? = some ⟨0, [hv]⟩
  o1 : ∃ o, R[1]? = some ⟨0, [o]⟩ ∧ Gro 2 3 R o ks.length (flat ks)

theorem add92 {R : Heap} {hv : AV} {h : List (List Int)} {n i j w : Nat} {ks : List (Nat × Nat × Nat)} (E : EndS R hv ks) (hk : ks.length ≤ 1000) (ht : IsTab hv h) (S : Steep n h) (hi : 1 ≤ i ∧ i ≤ n) (hj : 1 ≤ j ∧ j ≤ n) (hw : w < 4) :
    ∃ R', callL EV Y 92 [vI i, vI j, vI w, .ptr 0 0 0, .ptr 1 0 0] R = some (.tup [], R') ∧ EndS R' hv (ks ++ selK h (i, j, w)) := by
  obtain ⟨h0, o, h1, G⟩ := E
  have th := fun H => thread93 (Y := Y) (H := H) ht S hi hj hw
  have l0 := hlt_of h0
  have l1 := hlt_of h1
  have g0 : ∀ T, (R ++ T)[0]? = some ⟨0, [hv]⟩ := fun T => by rw [List.getElem?_append_left l0, h0]
  have g1 : ∀ T, (R ++ T)[1]? = some ⟨0, [o]⟩ := fun T => by rw [List.getElem?_append_left l1, h1]
  unfold selK
  cases c : thrP h i j w
  · rw [if_neg (by simp), List.append_nil]
    rw [c] at th
    refine ⟨R ++ [⟨0, kn (i, j, w)⟩], ?_, ⟨g0 _, o, g1 _, G.mores _⟩⟩
    rw [call92 rfl]
    simp only [SS, insA, wantedA, Opd.ev, putA, binA, eqbA, unA, fldA, partA, reduceIte, reduceCtorEq, Nat.reduceMod, Nat.reduceDiv, Nat.reduceBEq, resultA, resA, vI, Nat.reduceMul, Nat.reduceAdd, Nat.reduceSub, Nat.reduceEqDiff, Nat.reduceLT, Nat.reducePow, Nat.reduceLeDiff, st, Option.bind_eq_bind, Option.pure_def, List.length_nil, Int.cast_ofNat_Int, List.reverse_nil] at th
    simp only [F92B, kn, SS, insA, wantedA, Opd.ev, putA, binA, eqbA, unA, fldA, partA, reduceIte, reduceCtorEq, Nat.reduceMod, Nat.reduceDiv, Nat.reduceBEq, resultA, resA, vI, Nat.reduceMul, Nat.reduceAdd, Nat.reduceSub, Nat.reduceEqDiff, Nat.reduceLT, Nat.reducePow, Nat.reduceLeDiff, st, Option.bind_eq_bind, Option.pure_def, List.length_nil, Int.cast_ofNat_Int, List.reverse_nil, UU, idxP, cellsAt, storeA, fillA, zerosA, putAll, optNat, sliceA, row, Int.reduceLT, Int.reduceLE, Int.reduceGT, Int.reduceGE, Int.reduceEq, Int.reduceNe, Int.reduceToNat, Int.reduceBEq, Int.reduceBNe, Nat.reduceLeDiff, Nat.reduceLT, Nat.reduceBNe, Nat.reduceGT, List.drop_nil, List.take_nil, Option.isSome_none, Int.ofNat_one, Int.ofNat_zero, get_last, set_last, g0, g1, ht.snap, th]
  · rw [if_pos rfl]
    rw [c] at th
    have G2 := G.mores [⟨0, kn (i, j, w)⟩]
    obtain ⟨o', R', a1, a2, a3, a4, a5⟩ := G2.app2 (bytes := 24) (ys := kn (i, j, w)) (by simp; omega) rfl rfl (by omega) (by omega)
    have z0 : R'[0]? = some ⟨0, [hv]⟩ := by rw [a3 0 (by rw [List.length_append]; omega) (fun e => by have := G2.ge e; omega), g0]
    have z1 : R'[1]? = some ⟨0, [o]⟩ := by rw [a3 1 (by rw [List.length_append]; omega) (fun e => by have := G2.ge e; omega), g1]
    obtain ⟨x1, x2, x3⟩ := a2.one
    have hst : storeA R' 1 (.ptr 1 0 0) o' = some (R'.set 1 ⟨0, [o']⟩) := by
      simp only [storeA, z1, x3]
      rw [if_pos (by simp [x1])]
      rfl
    have z2 := hlt_of z1
    refine ⟨R'.set 1 ⟨0, [o']⟩, ?_, ⟨by rw [List.getElem?_set_ne (by omega)]; exact z0, o', by rw [List.getElem?_set_self z2], ?_⟩⟩
    · have hlen : (R ++ [(⟨0, kn (i, j, w)⟩ : Ob)]).length = R.length + 1 := by simp
      rw [hlen, List.append_assoc] at a1
      have st0 : storeA (R ++ [⟨0, [vI 0, vI 0, vI 0]⟩]) 3 (.ptr R.length 0 0) (.agg [vI i, vI j, vI w]) = some (R ++ [⟨0, [vI i, vI j, vI w]⟩]) := by
        simp only [storeA, get_last, cellsOf]
        rw [if_pos ⟨trivial, rfl, Nat.le_refl _, rfl⟩, set_last]; rfl
      rw [call92 rfl]
      simp only [kn, SS, insA, wantedA, Opd.ev, putA, binA, eqbA, unA, fldA, partA, reduceIte, reduceCtorEq, Nat.reduceMod, Nat.reduceDiv, Nat.reduceBEq, resultA, resA, vI, Nat.reduceMul, Nat.reduceAdd, Nat.reduceSub, Nat.reduceEqDiff, Nat.reduceLT, Nat.reducePow, Nat.reduceLeDiff, st, Option.bind_eq_bind, Option.pure_def, List.length_nil, Int.cast_ofNat_Int, List.reverse_nil] at th a1 st0
      simp only [F92B, kn, SS, insA, wantedA, Opd.ev, putA, binA, eqbA, unA, fldA, partA, reduceIte, reduceCtorEq, Nat.reduceMod, Nat.reduceDiv, Nat.reduceBEq, resultA, resA, vI, Nat.reduceMul, Nat.reduceAdd, Nat.reduceSub, Nat.reduceEqDiff, Nat.reduceLT, Nat.reducePow, Nat.reduceLeDiff, st, Option.bind_eq_bind, Option.pure_def, List.length_nil, Int.cast_ofNat_Int, List.reverse_nil, UU, idxP, cellsAt, fillA, zerosA, putAll, row, Int.reduceLT, Int.reduceLE, Int.reduceGT, Int.reduceGE, Int.reduceEq, Int.reduceNe, Int.reduceToNat, Int.reduceBEq, Int.reduceBNe, Nat.reduceLeDiff, Nat.reduceLT, Nat.reduceBNe, Nat.reduceGT, List.drop_nil, List.take_nil, Option.isSome_none, Int.ofNat_one, Int.ofNat_zero, get_last, g0, g1, ht.snap, st0, th, a1, hst]
    · rw [List.length_append, flat_add]
      exact a2.keep fun a ha => by
        have := a2.ge ha
        rw [List.getElem?_set_ne (by omega)]

/-- A list of knots that grows by one direction of ends. -/
theorem EndS.len {R : Heap} {hv : AV} {ks : List (Nat × Nat × Nat)} (E : EndS R hv ks) : 2 ≤ R.length := by
  obtain ⟨_, o, h1, _⟩ := E
  exact hlt_of h1

section
variable {hv : AV} {h : List (List Int)} {n : Nat} (ht : IsTab hv h) (S : Steep n h)
include ht S

theorem L82_0 (d : Nat) : ∀ (j : Nat) (R : Heap) (ks : List (Nat × Nat × Nat)), j + d = n + 1 → 1 ≤ j → ks.length + d ≤ 1000 → EndS R hv ks →
    ∃ R', lp EV Y F82L0 (sp 48 [(6, vI j), (5, .fn 92 [.ptr 0 0 0, .ptr 1 0 0]), (4, .ptr 1 0 0), (3, vI n)]) R = some (.x 0, sp 48 [(5, .fn 92 [.ptr 0 0 0, .ptr 1 0 0]), (4, .ptr 1 0 0), (3, vI n)], R') ∧ EndS R' hv (ks ++ upK h (fun j => (1, j, 0)) j d) := by
  induction d with
  | zero =>
    intro j R ks hj h1 hk E
    have : ¬ ((j : Int) ≤ (n : Int)) := by omega
    refine ⟨R, ?_, by rw [upK, List.append_nil]; exact E⟩
    rw [un82_0]
    simp only [F82L0b, SS, insA, wantedA, Opd.ev, putA, binA, eqbA, unA, fldA, partA, reduceIte, reduceCtorEq, Nat.reduceMod, Nat.reduceDiv, Nat.reduceBEq, resultA, resA, vI, Nat.reduceMul, Nat.reduceAdd, Nat.reduceSub, Nat.reduceEqDiff, Nat.reduceLT, Nat.reducePow, Nat.reduceLeDiff, st, Option.bind_eq_bind, Option.pure_def, List.length_nil, Int.cast_ofNat_Int, List.reverse_nil, UU, idxP, cellsAt, storeA, fillA, zerosA, putAll, optNat, sliceA, row, Int.reduceLT, Int.reduceLE, Int.reduceGT, Int.reduceGE, Int.reduceEq, Int.reduceNe, Int.reduceToNat, Int.reduceBEq, Int.reduceBNe, Nat.reduceLeDiff, Nat.reduceLT, Nat.reduceBNe, Nat.reduceGT, List.drop_nil, List.take_nil, Option.isSome_none, Int.ofNat_one, Int.ofNat_zero, this]
  | succ d ih =>
    intro j R ks hj h1 hk E
    have hc : (j : Int) ≤ (n : Int) := by omega
    have hww := wrap_succ (n := j) (by have := S.n5; omega)
    obtain ⟨R1, a1, a2⟩ := add92 (Y := Y) (i := 1) (j := j) (w := 0) E (by omega) ht S ⟨by omega, S.n1⟩ ⟨by omega, by omega⟩ (by omega)
    have sl := selK_len (h := h) (k := (1, j, 0))
    obtain ⟨R2, b1, b2⟩ := ih (j + 1) R1 _ (by omega) (by omega) (by rw [List.length_append]; omega) a2
    refine ⟨R2, ?_, by rw [upK, ← List.append_assoc]; exact b2⟩
    rw [un82_0]
    simp only [SS, insA, wantedA, Opd.ev, putA, binA, eqbA, unA, fldA, partA, reduceIte, reduceCtorEq, Nat.reduceMod, Nat.reduceDiv, Nat.reduceBEq, resultA, resA, vI, Nat.reduceMul, Nat.reduceAdd, Nat.reduceSub, Nat.reduceEqDiff, Nat.reduceLT, Nat.reducePow, Nat.reduceLeDiff, st, Option.bind_eq_bind, Option.pure_def, List.length_nil, Int.cast_ofNat_Int, List.reverse_nil, Int.ofNat_zero, Int.ofNat_one] at a1 b1
    simp only [F82L0b, SS, insA, wantedA, Opd.ev, putA, binA, eqbA, unA, fldA, partA, reduceIte, reduceCtorEq, Nat.reduceMod, Nat.reduceDiv, Nat.reduceBEq, resultA, resA, vI, Nat.reduceMul, Nat.reduceAdd, Nat.reduceSub, Nat.reduceEqDiff, Nat.reduceLT, Nat.reducePow, Nat.reduceLeDiff, st, Option.bind_eq_bind, Option.pure_def, List.length_nil, Int.cast_ofNat_Int, List.reverse_nil, UU, idxP, cellsAt, storeA, fillA, zerosA, putAll, optNat, sliceA, row, Int.reduceLT, Int.reduceLE, Int.reduceGT, Int.reduceGE, Int.reduceEq, Int.reduceNe, Int.reduceToNat, Int.reduceBEq, Int.reduceBNe, Nat.reduceLeDiff, Nat.reduceLT, Nat.reduceBNe, Nat.reduceGT, List.drop_nil, List.take_nil, Option.isSome_none, Int.ofNat_one, Int.ofNat_zero, hc, a1, hww, b1]

theorem L82_1 (d : Nat) : ∀ (j : Nat) (R : Heap) (ks : List (Nat × Nat × Nat)), j + d = n + 1 → 1 ≤ j → ks.length + d ≤ 1000 → EndS R hv ks →
    ∃ R', lp EV Y F82L1 (sp 48 [(7, vI j), (5, .fn 92 [.ptr 0 0 0, .ptr 1 0 0]), (4, .ptr 1 0 0), (3, vI n)]) R = some (.x 2, sp 48 [(5, .fn 92 [.ptr 0 0 0, .ptr 1 0 0]), (4, .ptr 1 0 0), (3, vI n)], R') ∧ EndS R' hv (ks ++ upK h (fun j => (j, n, 1)) j d) := by
  induction d with
  | zero =>
    intro j R ks hj h1 hk E
    have : ¬ ((j : Int) ≤ (n : Int)) := by omega
    refine ⟨R, ?_, by rw [upK, List.append_nil]; exact E⟩
    rw [un82_1]
    simp only [F82L1b, SS, insA, wantedA, Opd.ev, putA, binA, eqbA, unA, fldA, partA, reduceIte, reduceCtorEq, Nat.reduceMod, Nat.reduceDiv, Nat.reduceBEq, resultA, resA, vI, Nat.reduceMul, Nat.reduceAdd, Nat.reduceSub, Nat.reduceEqDiff, Nat.reduceLT, Nat.reducePow, Nat.reduceLeDiff, st, Option.bind_eq_bind, Option.pure_def, List.length_nil, Int.cast_ofNat_Int, List.reverse_nil, UU, idxP, cellsAt, storeA, fillA, zerosA, putAll, optNat, sliceA, row, Int.reduceLT, Int.reduceLE, Int.reduceGT, Int.reduceGE, Int.reduceEq, Int.reduceNe, Int.reduceToNat, Int.reduceBEq, Int.reduceBNe, Nat.reduceLeDiff, Nat.reduceLT, Nat.reduceBNe, Nat.reduceGT, List.drop_nil, List.take_nil, Option.isSome_none, Int.ofNat_one, Int.ofNat_zero, this]
  | succ d ih =>
    intro j R ks hj h1 hk E
    have hc : (j : Int) ≤ (n : Int) := by omega
    have hww := wrap_succ (n := j) (by have := S.n5; omega)
    obtain ⟨R1, a1, a2⟩ := add92 (Y := Y) (i := j) (j := n) (w := 1) E (by omega) ht S ⟨by omega, by omega⟩ ⟨S.n1, by omega⟩ (by omega)
    have sl := selK_len (h := h) (k := (j, n, 1))
    obtain ⟨R2, b1, b2⟩ := ih (j + 1) R1 _ (by omega) (by omega) (by rw [List.length_append]; omega) a2
    refine ⟨R2, ?_, by rw [upK, ← List.append_assoc]; exact b2⟩
    rw [un82_1]
    simp only [SS, insA, wantedA, Opd.ev, putA, binA, eqbA, unA, fldA, partA, reduceIte, reduceCtorEq, Nat.reduceMod, Nat.reduceDiv, Nat.reduceBEq, resultA, resA, vI, Nat.reduceMul, Nat.reduceAdd, Nat.reduceSub, Nat.reduceEqDiff, Nat.reduceLT, Nat.reducePow, Nat.reduceLeDiff, st, Option.bind_eq_bind, Option.pure_def, List.length_nil, Int.cast_ofNat_Int, List.reverse_nil, Int.ofNat_zero, Int.ofNat_one] at a1 b1
    simp only [F82L1b, SS, insA, wantedA, Opd.ev, putA, binA, eqbA, unA, fldA, partA, reduceIte, reduceCtorEq, Nat.reduceMod, Nat.reduceDiv, Nat.reduceBEq, resultA, resA, vI, Nat.reduceMul, Nat.reduceAdd, Nat.reduceSub, Nat.reduceEqDiff, Nat.reduceLT, Nat.reducePow, Nat.reduceLeDiff, st, Option.bind_eq_bind, Option.pure_def, List.length_nil, Int.cast_ofNat_Int, List.reverse_nil, UU, idxP, cellsAt, storeA, fillA, zerosA, putAll, optNat, sliceA, row, Int.reduceLT, Int.reduceLE, Int.reduceGT, Int.reduceGE, Int.reduceEq, Int.reduceNe, Int.reduceToNat, Int.reduceBEq, Int.reduceBNe, Nat.reduceLeDiff, Nat.reduceLT, Nat.reduceBNe, Nat.reduceGT, List.drop_nil, List.take_nil, Option.isSome_none, Int.ofNat_one, Int.ofNat_zero, hc, a1, hww, b1]

theorem L82_2 : ∀ (j : Nat) (R : Heap) (ks : List (Nat × Nat × Nat)), j ≤ n → ks.length + j ≤ 1000 → EndS R hv ks →
    ∃ R', lp EV Y F82L2 (sp 48 [(8, vI j), (5, .fn 92 [.ptr 0 0 0, .ptr 1 0 0]), (4, .ptr 1 0 0), (3, vI n)]) R = some (.x 4, sp 48 [(5, .fn 92 [.ptr 0 0 0, .ptr 1 0 0]), (4, .ptr 1 0 0), (3, vI n)], R') ∧ EndS R' hv (ks ++ dnK h (fun j => (n, j, 2)) j) := by
  intro j
  induction j with
  | zero =>
    intro R ks hj hk E
    have : ¬ (((0 : Nat) : Int) ≥ 1) := by omega
    refine ⟨R, ?_, by rw [dnK, List.append_nil]; exact E⟩
    rw [un82_2]
    simp only [F82L2b, SS, insA, wantedA, Opd.ev, putA, binA, eqbA, unA, fldA, partA, reduceIte, reduceCtorEq, Nat.reduceMod, Nat.reduceDiv, Nat.reduceBEq, resultA, resA, vI, Nat.reduceMul, Nat.reduceAdd, Nat.reduceSub, Nat.reduceEqDiff, Nat.reduceLT, Nat.reducePow, Nat.reduceLeDiff, st, Option.bind_eq_bind, Option.pure_def, List.length_nil, Int.cast_ofNat_Int, List.reverse_nil, UU, idxP, cellsAt, storeA, fillA, zerosA, putAll, optNat, sliceA, row, Int.reduceLT, Int.reduceLE, Int.reduceGT, Int.reduceGE, Int.reduceEq, Int.reduceNe, Int.reduceToNat, Int.reduceBEq, Int.reduceBNe, Nat.reduceLeDiff, Nat.reduceLT, Nat.reduceBNe, Nat.reduceGT, List.drop_nil, List.take_nil, Option.isSome_none, Int.ofNat_one, Int.ofNat_zero, this]
  | succ j ih =>
    intro R ks hj hk E
    have hc : ((j + 1 : Nat) : Int) ≥ 1 := by omega
    have hww : IntKind.wrap .i64 (((j + 1 : Nat) : Int) - 1) = (j : Int) := by rw [wrap_id (by have := S.n5; omega) (by have := S.n5; omega)]; omega
    obtain ⟨R1, a1, a2⟩ := add92 (Y := Y) (i := n) (j := j + 1) (w := 2) E (by omega) ht S ⟨S.n1, by omega⟩ ⟨by omega, by omega⟩ (by omega)
    have sl := selK_len (h := h) (k := (n, j + 1, 2))
    obtain ⟨R2, b1, b2⟩ := ih R1 _ (by omega) (by rw [List.length_append]; omega) a2
    refine ⟨R2, ?_, by rw [dnK, ← List.append_assoc]; exact b2⟩
    rw [un82_2]
    simp only [SS, insA, wantedA, Opd.ev, putA, binA, eqbA, unA, fldA, partA, reduceIte, reduceCtorEq, Nat.reduceMod, Nat.reduceDiv, Nat.reduceBEq, resultA, resA, vI, Nat.reduceMul, Nat.reduceAdd, Nat.reduceSub, Nat.reduceEqDiff, Nat.reduceLT, Nat.reducePow, Nat.reduceLeDiff, st, Option.bind_eq_bind, Option.pure_def, List.length_nil, Int.cast_ofNat_Int, List.reverse_nil, Int.ofNat_zero, Int.ofNat_one, Int.cast_ofNat_Int] at a1 b1
    simp only [F82L2b, SS, insA, wantedA, Opd.ev, putA, binA, eqbA, unA, fldA, partA, reduceIte, reduceCtorEq, Nat.reduceMod, Nat.reduceDiv, Nat.reduceBEq, resultA, resA, vI, Nat.reduceMul, Nat.reduceAdd, Nat.reduceSub, Nat.reduceEqDiff, Nat.reduceLT, Nat.reducePow, Nat.reduceLeDiff, st, Option.bind_eq_bind, Option.pure_def, List.length_nil, Int.cast_ofNat_Int, List.reverse_nil, UU, idxP, cellsAt, storeA, fillA, zerosA, putAll, optNat, sliceA, row, Int.reduceLT, Int.reduceLE, Int.reduceGT, Int.reduceGE, Int.reduceEq, Int.reduceNe, Int.reduceToNat, Int.reduceBEq, Int.reduceBNe, Nat.reduceLeDiff, Nat.reduceLT, Nat.reduceBNe, Nat.reduceGT, List.drop_nil, List.take_nil, Option.isSome_none, Int.ofNat_one, Int.ofNat_zero, hc, a1, hww, b1]

theorem L82_3 : ∀ (j : Nat) (R : Heap) (ks : List (Nat × Nat × Nat)), j ≤ n → ks.length + j ≤ 1000 → EndS R hv ks →
    ∃ R', lp EV Y F82L3 (sp 48 [(9, vI j), (5, .fn 92 [.ptr 0 0 0, .ptr 1 0 0]), (4, .ptr 1 0 0)]) R = some (.x 6, sp 48 [(4, .ptr 1 0 0)], R') ∧ EndS R' hv (ks ++ dnK h (fun j => (j, 1, 3)) j) := by
  intro j
  induction j with
  | zero =>
    intro R ks hj hk E
    have : ¬ (((0 : Nat) : Int) ≥ 1) := by omega
    refine ⟨R, ?_, by rw [dnK, List.append_nil]; exact E⟩
    rw [un82_3]
    simp only [F82L3b, SS, insA, wantedA, Opd.ev, putA, binA, eqbA, unA, fldA, partA, reduceIte, reduceCtorEq, Nat.reduceMod, Nat.reduceDiv, Nat.reduceBEq, resultA, resA, vI, Nat.reduceMul, Nat.reduceAdd, Nat.reduceSub, Nat.reduceEqDiff, Nat.reduceLT, Nat.reducePow, Nat.reduceLeDiff, st, Option.bind_eq_bind, Option.pure_def, List.length_nil, Int.cast_ofNat_Int, List.reverse_nil, UU, idxP, cellsAt, storeA, fillA, zerosA, putAll, optNat, sliceA, row, Int.reduceLT, Int.reduceLE, Int.reduceGT, Int.reduceGE, Int.reduceEq, Int.reduceNe, Int.reduceToNat, Int.reduceBEq, Int.reduceBNe, Nat.reduceLeDiff, Nat.reduceLT, Nat.reduceBNe, Nat.reduceGT, List.drop_nil, List.take_nil, Option.isSome_none, Int.ofNat_one, Int.ofNat_zero, this]
  | succ j ih =>
    intro R ks hj hk E
    have hc : ((j + 1 : Nat) : Int) ≥ 1 := by omega
    have hww : IntKind.wrap .i64 (((j + 1 : Nat) : Int) - 1) = (j : Int) := by rw [wrap_id (by have := S.n5; omega) (by have := S.n5; omega)]; omega
    obtain ⟨R1, a1, a2⟩ := add92 (Y := Y) (i := j + 1) (j := 1) (w := 3) E (by omega) ht S ⟨by omega, by omega⟩ ⟨by omega, S.n1⟩ (by omega)
    have sl := selK_len (h := h) (k := (j + 1, 1, 3))
    obtain ⟨R2, b1, b2⟩ := ih R1 _ (by omega) (by rw [List.length_append]; omega) a2
    refine ⟨R2, ?_, by rw [dnK, ← List.append_assoc]; exact b2⟩
    rw [un82_3]
    simp only [SS, insA, wantedA, Opd.ev, putA, binA, eqbA, unA, fldA, partA, reduceIte, reduceCtorEq, Nat.reduceMod, Nat.reduceDiv, Nat.reduceBEq, resultA, resA, vI, Nat.reduceMul, Nat.reduceAdd, Nat.reduceSub, Nat.reduceEqDiff, Nat.reduceLT, Nat.reducePow, Nat.reduceLeDiff, st, Option.bind_eq_bind, Option.pure_def, List.length_nil, Int.cast_ofNat_Int, List.reverse_nil, Int.ofNat_zero, Int.ofNat_one, Int.cast_ofNat_Int] at a1 b1
    simp only [F82L3b, SS, insA, wantedA, Opd.ev, putA, binA, eqbA, unA, fldA, partA, reduceIte, reduceCtorEq, Nat.reduceMod, Nat.reduceDiv, Nat.reduceBEq, resultA, resA, vI, Nat.reduceMul, Nat.reduceAdd, Nat.reduceSub, Nat.reduceEqDiff, Nat.reduceLT, Nat.reducePow, Nat.reduceLeDiff, st, Option.bind_eq_bind, Option.pure_def, List.length_nil, Int.cast_ofNat_Int, List.reverse_nil, UU, idxP, cellsAt, storeA, fillA, zerosA, putAll, optNat, sliceA, row, Int.reduceLT, Int.reduceLE, Int.reduceGT, Int.reduceGE, Int.reduceEq, Int.reduceNe, Int.reduceToNat, Int.reduceBEq, Int.reduceBNe, Nat.reduceLeDiff, Nat.reduceLT, Nat.reduceBNe, Nat.reduceGT, List.drop_nil, List.take_nil, Option.isSome_none, Int.ofNat_one, Int.ofNat_zero, hc, a1, hww, b1]
end

def endsP (h : List (List Int)) (n : Nat) : List (Nat × Nat × Nat) := upK h (fun j => (1, j, 0)) 1 n ++ (upK h (fun j => (j, n, 1)) 1 n ++ (dnK h (fun j => (n, j, 2)) n ++ dnK h (fun j => (j, 1, 3)) n))
theorem endsP_len {h : List (List Int)} {n : Nat} : (endsP h n).length ≤ 4 * n := by
  unfold endsP
  rw [List.length_append, List.length_append, List.length_append]
  have a := upK_len (h := h) (f := fun j => (1, j, 0)) n 1
  have b := upK_len (h := h) (f := fun j => (j, n, 1)) n 1
  have c := dnK_len (h := h) (f := fun j => (n, j, 2)) n
  have d := dnK_len (h := h) (f := fun j => (j, 1, 3)) n
  omega

theorem ends82 {hv : AV} {h : List (List Int)} {n : Nat} (ht : IsTab hv h) (S : Steep n h) : ∃ w, IsKn w (endsP h n) ∧ ∀ H, freeX H (callL EV Y 82 [hv] []) = some (w, H) := by
  have h1 := S.n1
  have h5 := S.n5
  obtain ⟨o1, o2, o3⟩ := ht.one
  have E0 : EndS [⟨0, [hv]⟩, ⟨0, [.nils]⟩] hv [] := ⟨rfl, .nils, rfl, Gro.nil _ _ _⟩
  obtain ⟨R1, a1, e1⟩ := L82_0 (Y := Y) ht S n 1 _ _ (by omega) (by omega) (by simp; omega) E0
  have n1 := upK_len (h := h) (f := fun j => (1, j, 0)) n 1
  rw [List.nil_append] at e1
  obtain ⟨R2, a2, e2⟩ := L82_1 (Y := Y) ht S n 1 _ _ (by omega) (by omega) (by omega) e1
  have n2 := upK_len (h := h) (f := fun j => (j, n, 1)) n 1
  obtain ⟨R3, a3, e3⟩ := L82_2 (Y := Y) ht S n _ _ (by omega) (by rw [List.length_append]; omega) e2
  have n3 := dnK_len (h := h) (f := fun j => (n, j, 2)) n
  obtain ⟨R4, a4, e4⟩ := L82_3 (Y := Y) ht S n _ _ (by omega) (by rw [List.length_append, List.length_append]; omega) e3
  rw [List.append_assoc, List.append_assoc] at e4
  obtain ⟨_, o, g1, G⟩ := e4
  have hfree : ∀ c ∈ flat (endsP h n), freeA R4 5 c = some c := fun c hc => by
    unfold flat kn at hc
    rw [List.mem_flatMap] at hc
    obtain ⟨k, _, hk⟩ := hc
    simp only [List.mem_cons, List.not_mem_nil, or_false] at hk
    rcases hk with rfl | rfl | rfl <;> rfl
  obtain ⟨w, f1, f2⟩ := G.freeL (d := 4) hfree
  have f1 : freeA R4 6 o = some w := f1
  refine ⟨w, f2, fun H => ?_⟩
  have sz := fun H => size91 (Y := Y) (H := H) ht S.len (by omega)
  rw [call82 rfl]
  simp only [SS, insA, wantedA, Opd.ev, putA, binA, eqbA, unA, fldA, partA, reduceIte, reduceCtorEq, Nat.reduceMod, Nat.reduceDiv, Nat.reduceBEq, resultA, resA, vI, Nat.reduceMul, Nat.reduceAdd, Nat.reduceSub, Nat.reduceEqDiff, Nat.reduceLT, Nat.reducePow, Nat.reduceLeDiff, st, Option.bind_eq_bind, Option.pure_def, List.length_nil, Int.cast_ofNat_Int, List.reverse_nil, Int.ofNat_one] at a1 a2 a3 a4 sz
  simp only [F82B, F82T3, F82T2, F82T1, F82T0, in82_0, in82_1, in82_2, in82_3, SS, insA, wantedA, Opd.ev, putA, binA, eqbA, unA, fldA, partA, reduceIte, reduceCtorEq, Nat.reduceMod, Nat.reduceDiv, Nat.reduceBEq, resultA, resA, vI, Nat.reduceMul, Nat.reduceAdd, Nat.reduceSub, Nat.reduceEqDiff, Nat.reduceLT, Nat.reducePow, Nat.reduceLeDiff, st, Option.bind_eq_bind, Option.pure_def, List.length_nil, Int.cast_ofNat_Int, List.reverse_nil, UU, idxP, cellsAt, storeA, fillA, zerosA, putAll, optNat, sliceA, row, Int.reduceLT, Int.reduceLE, Int.reduceGT, Int.reduceGE, Int.reduceEq, Int.reduceNe, Int.reduceToNat, Int.reduceBEq, Int.reduceBNe, Nat.reduceLeDiff, Nat.reduceLT, Nat.reduceBNe, Nat.reduceGT, List.drop_nil, List.take_nil, Option.isSome_none, Int.ofNat_one, Int.ofNat_zero, o1, o2, o3, ht.snap, sz, a1, a2, a3, a4, g1, f1]
end
end Go.X
