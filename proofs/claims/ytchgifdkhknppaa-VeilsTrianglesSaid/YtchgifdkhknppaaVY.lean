import Derived.Test.YtchgifdkhknppaaVX
/-! Veils: Of. -/
set_option linter.unusedSimpArgs false
set_option linter.unusedVariables false
set_option maxHeartbeats 8000000
set_option maxRecDepth 10000
namespace Go.X
open Go Go.RowKit
section
variable {E : Nat → Option XF} {Y : Run} {H : Heap}

theorem opsL_app : ∀ (a b : List Op1) (fr : List AV) (H : Heap), opsL E Y (a ++ b) fr H = thenX (opsL E Y a fr H) (opsL E Y b)
  | [], b, fr, H => by rw [List.nil_append, opsL_nil, thenX_n]
  | o :: a, b, fr, H => by
    rw [List.cons_append, opsL_cons, opsL_cons]
    cases stepA (callL E Y) o fr H with
    | none => rfl
    | some q => obtain ⟨fr', H'⟩ := q; rw [contX_some, contX_some]; exact opsL_app a b fr' H'

theorem fget_map {L : List (Nat × AV)} {t : Nat} : ∀ (ks : List Nat), fget (ks.map fun k => (k, fget L k)) t = if ks.contains t = true then fget L t else .undef
  | [] => rfl
  | k :: ks => by
    rw [List.map_cons, fget_cons, List.contains_cons]
    by_cases h : t = k
    · subst h; simp
    · rw [if_neg h, fget_map ks]
      have : (t == k) = false := by simpa using h
      rw [this, Bool.false_or]

/-- A frame of which only some places are kept. -/
theorem keepL {n mask : Nat} {L : List (Nat × AV)} (ks : List Nat) (h : (List.range n).all (fun t => (mask / 2 ^ t % 2 == 1) == ks.contains t) = true) : sp n (fkeep mask L) = sp n (ks.map fun k => (k, fget L k)) := by
  unfold sp
  refine List.map_congr_left fun t ht => ?_
  have := List.all_eq_true.1 h t ht
  rw [fget_fkeep, fget_map]
  rw [beq_iff_eq] at this
  by_cases c : mask / 2 ^ t % 2 = 1
  · have c' : (mask / 2 ^ t % 2 == 1) = true := by simpa using c
    rw [c'] at this
    rw [if_pos c, if_pos this.symm]
  · have c' : (mask / 2 ^ t % 2 == 1) = false := by simpa using c
    rw [c'] at this
    rw [if_neg c, if_neg (by rw [← this]; decide)]

/-! ### What Of asks -/
def cellOk (n : Nat) (h : List (List Int)) (i j : Nat) : Prop :=
  (i = 0 → at2 h i j = j) ∧ (j = 0 → at2 h i j = i) ∧ (i = n → at2 h i j = (n : Int) - j) ∧ (j = n → at2 h i j = (n : Int) - i) ∧ (0 < i → at2 h i j = at2 h (i - 1) j + 1 ∨ at2 h i j = at2 h (i - 1) j - 1) ∧ (0 < j → at2 h i j = at2 h i (j - 1) + 1 ∨ at2 h i j = at2 h i (j - 1) - 1)
instance (n : Nat) (h : List (List Int)) (i j : Nat) : Decidable (cellOk n h i j) := by unfold cellOk; exact inferInstance
def rowOkB (n : Nat) (h : List (List Int)) (i j d : Nat) : Bool := (List.range' j d).all fun b => decide (cellOk n h i b)
def PB (n i : Nat) (h : List (List Int)) : Prop := ∀ b, b ≤ n → 0 < i → -((i : Int) + b) ≤ at2 h (i - 1) b ∧ at2 h (i - 1) b ≤ (i : Int) + b
theorem cellOk.bd {n i j : Nat} {h : List (List Int)} (c : cellOk n h i j) (hi : i ≤ n) (hj : j ≤ n) (pb : PB n i h) : -((i : Int) + 1 + j) ≤ at2 h i j ∧ at2 h i j ≤ (i : Int) + 1 + j := by
  have := pb j hj
  unfold cellOk at c
  omega

structure V43 (hv rv : AV) (n i j : Nat) (x : Int) (L : List (Nat × AV)) : Prop where
  g0 : fget L 0 = hv
  g4 : fget L 4 = vI n
  g5 : fget L 5 = vI i
  g6 : fget L 6 = rv
  g7 : fget L 7 = vI j
  g8 : fget L 8 = vI x
  g19 : fget L 19 = hv
  g20 : fget L 20 = vI ((n + 1 : Nat) : Int)
  g21 : fget L 21 = vI i
  g31 : fget L 31 = rv
  g32 : fget L 32 = vI ((n + 1 : Nat) : Int)
  g33 : fget L 33 = vI j
theorem V43.keep {hv rv : AV} {n i j : Nat} {x : Int} {L L' : List (Nat × AV)} (v : V43 hv rv n i j x L) (k : K43 L L') : V43 hv rv n i j x L' := by
  obtain ⟨k0, k4, k5, k6, k7, k8, k19, k20, k21, k31, k32, k33⟩ := k
  exact ⟨k0.trans v.g0, k4.trans v.g4, k5.trans v.g5, k6.trans v.g6, k7.trans v.g7, k8.trans v.g8, k19.trans v.g19, k20.trans v.g20, k21.trans v.g21, k31.trans v.g31, k32.trans v.g32, k33.trans v.g33⟩

theorem L43_0 {hv : AV} {h : List (List Int)} {n i : Nat} (ht : IsTab hv h) (h1 : 1 ≤ n) (h5 : n ≤ 5) (hl : h.length = n + 1) (hr : ∀ a, a ≤ i → ∀ (ha : a < h.length), h[a].length = n + 1) (hi : i ≤ n) (pb : PB n i h) (d : Nat) : ∀ (j : Nat), j + d = n + 1 →
    (0 < j → -20 ≤ at2 h i (j - 1) ∧ at2 h i (j - 1) ≤ 20) →
    lp EV Y F43L0 (sp 138 [(33, vI j), (32, vI ((n + 1 : Nat) : Int)), (31, cellAt hv i), (21, vI i), (20, vI ((n + 1 : Nat) : Int)), (19, hv), (6, cellAt hv i), (5, vI i), (4, vI n), (0, hv)]) H =
      if rowOkB n h i j d = true then some (.x 2, sp 138 [(21, vI i), (20, vI ((n + 1 : Nat) : Int)), (19, hv), (4, vI n), (0, hv)], H) else some (.r, sp 138 [(3, vI 2), (2, .nils)], H) := by
  have hit : i < h.length := by omega
  have hil := hr i (Nat.le_refl _) hit
  have r1 := ht.row hit
  rw [getD_get hit] at r1
  induction d with
  | zero =>
    intro j hj hb
    have : ¬ ((j : Int) < ((n + 1 : Nat) : Int)) := by omega
    rw [un43_0, if_pos (show rowOkB n h i j 0 = true from rfl)]
    simp only [F43L0b, SS, insA, wantedA, Opd.ev, putA, binA, eqbA, unA, fldA, partA, reduceIte, reduceCtorEq, Nat.reduceMod, Nat.reduceDiv, Nat.reduceBEq, resultA, resA, vI, Nat.reduceMul, Nat.reduceAdd, Nat.reduceSub, Nat.reduceEqDiff, Nat.reduceLT, Nat.reducePow, Nat.reduceLeDiff, st, Option.bind_eq_bind, Option.pure_def, List.length_nil, Int.cast_ofNat_Int, List.reverse_nil, UU, idxP, cellsAt, storeA, fillA, zerosA, putAll, optNat, sliceA, row, Int.reduceLT, Int.reduceLE, Int.reduceGT, Int.reduceGE, Int.reduceEq, Int.reduceNe, Int.reduceToNat, Int.reduceBEq, Int.reduceBNe, Nat.reduceLeDiff, Nat.reduceLT, Nat.reduceBNe, Nat.reduceGT, List.drop_nil, List.take_nil, Option.isSome_none, Int.ofNat_one, Int.ofNat_zero, this]
  | succ d ih =>
    intro j hj hb
    have hn : j ≤ n := by omega
    have hc : (j : Int) < ((n + 1 : Nat) : Int) := by omega
    have hww := wrap_succ (n := j) (by omega)
    have j1 : j < h[i].length := by omega
    have jp : j - 1 < h[i].length := by omega
    have g1 : h[i].getD j 0 = at2 h i j := by unfold at2; rw [getD_get hit]
    have g2 : h[i].getD (j - 1) 0 = at2 h i (j - 1) := by unfold at2; rw [getD_get hit]
    have c0 : Cell hv h (i - 1) j := ⟨by omega, by rw [hr (i - 1) (by omega) (by omega)]; omega⟩
    have pj := pb j hn
    have wnj : IntKind.wrap .i64 ((n : Int) - j) = (n : Int) - j := wrap_id (by omega) (by omega)
    have wni : IntKind.wrap .i64 ((n : Int) - i) = (n : Int) - i := wrap_id (by omega) (by omega)
    have hu : (i : Int) > 0 → IntKind.wrap .i64 ((i : Int) - 1) = ((i - 1 : Nat) : Int) ∧ idxA 1 hv (.int .i64 ((i - 1 : Nat) : Int)) = some (ptrAt hv (i - 1)) ∧ (∀ H, loadA H none (ptrAt hv (i - 1)) = some (cellAt hv (i - 1))) ∧ idxA 1 (cellAt hv (i - 1)) (.int .i64 (j : Int)) = some (ptrAt (cellAt hv (i - 1)) j) ∧ (∀ H, loadA H none (ptrAt (cellAt hv (i - 1)) j) = some (vI (at2 h (i - 1) j))) ∧ IntKind.wrap .i64 (at2 h (i - 1) j + 1) = at2 h (i - 1) j + 1 ∧ IntKind.wrap .i64 (at2 h (i - 1) j - 1) = at2 h (i - 1) j - 1 :=
      fun hp => ⟨wrap_pred (by omega) (by omega), c0.idx ht, fun H => c0.load ht, c0.idx2 ht, fun H => c0.load2 ht, wrap_id (by omega) (by omega), wrap_id (by omega) (by omega)⟩
    have hlf : (j : Int) > 0 → IntKind.wrap .i64 ((j : Int) - 1) = ((j - 1 : Nat) : Int) ∧ idxA 1 (cellAt hv i) (.int .i64 ((j - 1 : Nat) : Int)) = some (ptrAt (cellAt hv i) (j - 1)) ∧ (∀ H, loadA H none (ptrAt (cellAt hv i) (j - 1)) = some (vI (at2 h i (j - 1)))) ∧ IntKind.wrap .i64 (at2 h i (j - 1) + 1) = at2 h i (j - 1) + 1 ∧ IntKind.wrap .i64 (at2 h i (j - 1) - 1) = at2 h i (j - 1) - 1 :=
      fun hp => ⟨wrap_pred (by omega) (by omega), r1.idx jp, fun H => by rw [r1.load jp, g2], wrap_id (by omega) (by omega), wrap_id (by omega) (by omega)⟩
    have V0 : V43 hv (cellAt hv i) n i j (at2 h i j) [(37, vI (at2 h i j)), (36, ptrAt (cellAt hv i) j), (35, vI j), (34, .bool true), (33, vI j), (32, vI ((n + 1 : Nat) : Int)), (31, cellAt hv i), (21, vI i), (20, vI ((n + 1 : Nat) : Int)), (19, hv), (8, vI (at2 h i j)), (7, vI j), (6, cellAt hv i), (5, vI i), (4, vI n), (0, hv)] := ⟨rfl, rfl, rfl, rfl, rfl, rfl, rfl, rfl, rfl, rfl, rfl, rfl⟩
    obtain ⟨L1, q1, p1, k1⟩ := E43a_run (Y := Y) (H := H) V0.g0 V0.g4 V0.g5 V0.g6 V0.g7 V0.g8
    have V1 := V0.keep k1
    obtain ⟨L2, q2, p2, k2⟩ := E43b_run (Y := Y) (H := H) V1.g0 V1.g4 V1.g5 V1.g6 V1.g7 V1.g8 p1
    have V2 := V1.keep k2
    obtain ⟨L3, q3, p3, k3⟩ := E43c_run (Y := Y) (H := H) V2.g0 V2.g4 V2.g5 V2.g6 V2.g7 V2.g8 p2 wnj
    have V3 := V2.keep k3
    obtain ⟨L4, q4, p4, k4⟩ := E43d_run (Y := Y) (H := H) V3.g0 V3.g4 V3.g5 V3.g6 V3.g7 V3.g8 p3 wni
    have V4 := V3.keep k4
    obtain ⟨L5, q5, p5, k5⟩ := E43e_run (Y := Y) (H := H) V4.g0 V4.g4 V4.g5 V4.g6 V4.g7 V4.g8 p4 hu
    have V5 := V4.keep k5
    obtain ⟨L6, q6, p6, k6⟩ := E43f_run (Y := Y) (H := H) V5.g0 V5.g4 V5.g5 V5.g6 V5.g7 V5.g8 p5 hlf
    have V6 := V5.keep k6
    clear k1 k2 k3 k4 k5 k6 V1 V2 V3 V4 V5 p1 p2 p3 p4 p5
    obtain ⟨e, he, p6⟩ : ∃ e : Bool, (e = !decide (cellOk n h i j)) ∧ fget L6 132 = .bool e := by
      refine ⟨_, ?_, p6⟩
      rw [Bool.eq_iff_iff]
      simp only [Bool.or_eq_true, decide_eq_true_eq, Bool.not_eq_true', decide_eq_false_iff_not]
      unfold cellOk
      omega
    have hE := he
    clear he
    have ih := ih (j + 1) (by omega)
    rw [Nat.add_sub_cancel] at ih
    have hrow : rowOkB n h i j (d + 1) = (decide (cellOk n h i j) && rowOkB n h i (j + 1) d) := by simp only [rowOkB, List.range'_succ, List.all_cons]
    rw [un43_0, hrow, F43c_eq]
    obtain ⟨v0, v4, v5, v6, v7, v8, v19, v20, v21, v31, v32, v33⟩ := V6
    clear V0 hu hlf
    simp only [SS, insA, wantedA, Opd.ev, putA, binA, eqbA, unA, fldA, partA, reduceIte, reduceCtorEq, Nat.reduceMod, Nat.reduceDiv, Nat.reduceBEq, resultA, resA, vI, Nat.reduceMul, Nat.reduceAdd, Nat.reduceSub, Nat.reduceEqDiff, Nat.reduceLT, Nat.reducePow, Nat.reduceLeDiff, st, Option.bind_eq_bind, Option.pure_def, List.length_nil, Int.cast_ofNat_Int, List.reverse_nil] at q1 q2 q3 q4 q5 q6 v4 v5 v7 v8 v20 v21 v32 v33
    by_cases hok : cellOk n h i j
    · rw [decide_eq_true hok] at hE ⊢
      have hE : e = false := hE
      subst hE
      have ih := ih (fun _ => by have := hok.bd hi hn pb; omega)
      rw [Bool.true_and]
      simp only [F43c, SS, insA, wantedA, Opd.ev, putA, binA, eqbA, unA, fldA, partA, reduceIte, reduceCtorEq, Nat.reduceMod, Nat.reduceDiv, Nat.reduceBEq, resultA, resA, vI, Nat.reduceMul, Nat.reduceAdd, Nat.reduceSub, Nat.reduceEqDiff, Nat.reduceLT, Nat.reducePow, Nat.reduceLeDiff, st, Option.bind_eq_bind, Option.pure_def, List.length_nil, Int.cast_ofNat_Int, List.reverse_nil, UU, idxP, cellsAt, storeA, fillA, zerosA, putAll, optNat, sliceA, row, Int.reduceLT, Int.reduceLE, Int.reduceGT, Int.reduceGE, Int.reduceEq, Int.reduceNe, Int.reduceToNat, Int.reduceBEq, Int.reduceBNe, Nat.reduceLeDiff, Nat.reduceLT, Nat.reduceBNe, Nat.reduceGT, List.drop_nil, List.take_nil, Option.isSome_none, Int.ofNat_one, Int.ofNat_zero, hc, r1.idx j1, r1.load j1, g1, opsL_app, q1, q2, q3, q4, q5, q6, p6, v33, hww, fget_fins, fget_fkeep]
      rw [keepL [33, 32, 31, 21, 20, 19, 6, 5, 4, 0] (by decide +kernel)]
      simp only [List.map_cons, List.map_nil, fget_fins, fget_fkeep, Nat.reduceEqDiff, if_true, if_false, reduceIte, Nat.reducePow, Nat.reduceDiv, Nat.reduceMod, v0, v4, v5, v6, v19, v20, v21, v31, v32, v33]
      simp only [SS, insA, wantedA, Opd.ev, putA, binA, eqbA, unA, fldA, partA, reduceIte, reduceCtorEq, Nat.reduceMod, Nat.reduceDiv, Nat.reduceBEq, resultA, resA, vI, Nat.reduceMul, Nat.reduceAdd, Nat.reduceSub, Nat.reduceEqDiff, Nat.reduceLT, Nat.reducePow, Nat.reduceLeDiff, st, Option.bind_eq_bind, Option.pure_def, List.length_nil, Int.cast_ofNat_Int, List.reverse_nil] at ih
      exact ih
    · rw [decide_eq_false hok] at hE ⊢
      have hE : e = true := hE
      subst hE
      rw [Bool.false_and, if_neg (by decide)]
      simp only [F43c, SS, insA, wantedA, Opd.ev, putA, binA, eqbA, unA, fldA, partA, reduceIte, reduceCtorEq, Nat.reduceMod, Nat.reduceDiv, Nat.reduceBEq, resultA, resA, vI, Nat.reduceMul, Nat.reduceAdd, Nat.reduceSub, Nat.reduceEqDiff, Nat.reduceLT, Nat.reducePow, Nat.reduceLeDiff, st, Option.bind_eq_bind, Option.pure_def, List.length_nil, Int.cast_ofNat_Int, List.reverse_nil, UU, idxP, cellsAt, storeA, fillA, zerosA, putAll, optNat, sliceA, row, Int.reduceLT, Int.reduceLE, Int.reduceGT, Int.reduceGE, Int.reduceEq, Int.reduceNe, Int.reduceToNat, Int.reduceBEq, Int.reduceBNe, Nat.reduceLeDiff, Nat.reduceLT, Nat.reduceBNe, Nat.reduceGT, List.drop_nil, List.take_nil, Option.isSome_none, Int.ofNat_one, Int.ofNat_zero, hc, r1.idx j1, r1.load j1, g1, opsL_app, q1, q2, q3, q4, q5, q6, p6, fget_fins, fget_fkeep]
      rw [keepL [3, 2] (by decide +kernel)]
      simp only [List.map_cons, List.map_nil, fget_fins, fget_fkeep, Nat.reduceEqDiff, if_true, if_false, reduceIte]
end
end Go.X
