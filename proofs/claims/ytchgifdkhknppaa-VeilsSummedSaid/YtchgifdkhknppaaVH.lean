import Derived.Test.YtchgifdkhknppaaVG
/-! Veils: few, Copy, read, IsVeil. -/
set_option linter.unusedSimpArgs false
set_option linter.unusedVariables false
set_option maxHeartbeats 4000000
set_option maxRecDepth 10000
namespace Go.X
open Go Go.RowKit
section
variable {Y : Run} {H : Heap}

def Small (t : List (List Int)) : Prop := t.length ≤ 20 ∧ ∀ r ∈ t, r.length ≤ 20
instance (t : List (List Int)) : Decidable (Small t) := by unfold Small; exact inferInstance
def fewS (ts : List (List (List Int))) : Prop := ∀ t ∈ ts, Small t
instance (ts : List (List (List Int))) : Decidable (fewS ts) := by unfold fewS; exact inferInstance

def IsTabs (v : AV) (ts : List (List (List Int))) : Prop := ∃ s vs, v = .imm s vs ts.length ∧ vs.length = ts.length ∧ ∀ i (h : i < ts.length), IsTab (vs.getD i .undef) ts[i]
theorem IsTabs.len {v : AV} {ts : List (List (List Int))} (h : IsTabs v ts) : lenA v = some ts.length := by obtain ⟨s, vs, rfl, _⟩ := h; rfl
theorem IsTabs.idx {v : AV} {ts : List (List (List Int))} (h : IsTabs v ts) {i : Nat} (hi : i < ts.length) : idxA 1 v (.int .i64 i) = some (ptrAt v i) := by
  obtain ⟨s, vs, rfl, _⟩ := h; simp [idxA, natOf_nat, hi, ptrAt]
theorem IsTabs.load {v : AV} {ts : List (List (List Int))} (h : IsTabs v ts) {i : Nat} (hi : i < ts.length) : loadA H none (ptrAt v i) = some (cellAt v i) := by
  obtain ⟨s, vs, rfl, hl, _⟩ := h; simp only [ptrAt, cellAt]; exact load_cell (by omega)
theorem IsTabs.tab {v : AV} {ts : List (List (List Int))} (h : IsTabs v ts) {i : Nat} (hi : i < ts.length) : IsTab (cellAt v i) ts[i] := by
  obtain ⟨s, vs, rfl, hl, hr⟩ := h; exact hr i hi

def shortB (l : List (List Int)) : Bool := l.all fun r => decide (r.length ≤ 20)
theorem shortB_iff {l : List (List Int)} : shortB l = true ↔ ∀ r ∈ l, r.length ≤ 20 := by simp [shortB]

theorem L23_0 {v : AV} {ts : List (List (List Int))} (hv : IsTabs v ts) {i : Nat} (hi : i < ts.length) (hn : ts[i].length ≤ 20) (d : Nat) : ∀ (k : Nat), k + d = ts[i].length →
    lp EV Y F23L0 (sp 35 [(4, vI k), (3, vI i), (0, v)]) H = if shortB (ts[i].drop k) = true then some (.x 2, sp 35 [(3, vI i), (0, v)], H) else some (.r, sp 35 [(2, .bool false)], H) := by
  have ht := hv.tab hi
  induction d with
  | zero =>
    intro k hk
    rw [un23_0, List.drop_eq_nil_of_le (by omega), if_pos (show shortB [] = true from rfl)]
    have : ¬ ((k : Int) < (ts[i].length : Int)) := by omega
    simp only [F23L0b, SS, insA, wantedA, Opd.ev, putA, binA, eqbA, unA, fldA, partA, reduceIte, reduceCtorEq, Nat.reduceMod, Nat.reduceDiv, Nat.reduceBEq, resultA, resA, vI, Nat.reduceMul, Nat.reduceAdd, Nat.reduceSub, Nat.reduceEqDiff, Nat.reduceLT, Nat.reducePow, Nat.reduceLeDiff, st, Option.bind_eq_bind, Option.pure_def, List.length_nil, Int.cast_ofNat_Int, List.reverse_nil, UU, idxP, cellsAt, storeA, fillA, zerosA, putAll, optNat, sliceA, row, Int.reduceLT, Int.reduceLE, Int.reduceGT, Int.reduceGE, Int.reduceEq, Int.reduceNe, Int.reduceToNat, Int.reduceBEq, Int.reduceBNe, Nat.reduceLeDiff, Nat.reduceLT, Nat.reduceBNe, Nat.reduceGT, List.drop_nil, List.take_nil, Option.isSome_none, Int.ofNat_one, Int.ofNat_zero, hv.idx hi, hv.load hi, ht.len, this]
  | succ d ih =>
    intro k hk
    have k1 : k < ts[i].length := by omega
    have hc : (k : Int) < (ts[i].length : Int) := by omega
    have hww := wrap_succ (n := k) (by omega)
    have r1 := ht.row k1
    rw [getD_get k1] at r1
    rw [un23_0, List.drop_eq_getElem_cons k1]
    have ih := ih (k + 1) (by omega)
    have hok : shortB (ts[i][k] :: ts[i].drop (k + 1)) = (decide (ts[i][k].length ≤ 20) && shortB (ts[i].drop (k + 1))) := rfl
    rw [hok]
    by_cases c : ts[i][k].length ≤ 20
    · have c1 : ¬ ((ts[i][k].length : Int) > 20) := by omega
      simp only [SS, insA, wantedA, Opd.ev, putA, binA, eqbA, unA, fldA, partA, reduceIte, reduceCtorEq, Nat.reduceMod, Nat.reduceDiv, Nat.reduceBEq, resultA, resA, vI, Nat.reduceMul, Nat.reduceAdd, Nat.reduceSub, Nat.reduceEqDiff, Nat.reduceLT, Nat.reducePow, Nat.reduceLeDiff, st, Option.bind_eq_bind, Option.pure_def, List.length_nil, Int.cast_ofNat_Int, List.reverse_nil] at ih
      simp only [F23L0b, SS, insA, wantedA, Opd.ev, putA, binA, eqbA, unA, fldA, partA, reduceIte, reduceCtorEq, Nat.reduceMod, Nat.reduceDiv, Nat.reduceBEq, resultA, resA, vI, Nat.reduceMul, Nat.reduceAdd, Nat.reduceSub, Nat.reduceEqDiff, Nat.reduceLT, Nat.reducePow, Nat.reduceLeDiff, st, Option.bind_eq_bind, Option.pure_def, List.length_nil, Int.cast_ofNat_Int, List.reverse_nil, UU, idxP, cellsAt, storeA, fillA, zerosA, putAll, optNat, sliceA, row, Int.reduceLT, Int.reduceLE, Int.reduceGT, Int.reduceGE, Int.reduceEq, Int.reduceNe, Int.reduceToNat, Int.reduceBEq, Int.reduceBNe, Nat.reduceLeDiff, Nat.reduceLT, Nat.reduceBNe, Nat.reduceGT, List.drop_nil, List.take_nil, Option.isSome_none, Int.ofNat_one, Int.ofNat_zero, hv.idx hi, hv.load hi, ht.len, ht.idx k1, ht.load k1, r1.len, hc, c1, hww, ih]
      simp only [c, decide_true, Bool.true_and]
    · have c1 : ((ts[i][k].length : Int) > 20) := by omega
      rw [decide_eq_false c, Bool.false_and, if_neg (by decide)]
      simp only [F23L0b, SS, insA, wantedA, Opd.ev, putA, binA, eqbA, unA, fldA, partA, reduceIte, reduceCtorEq, Nat.reduceMod, Nat.reduceDiv, Nat.reduceBEq, resultA, resA, vI, Nat.reduceMul, Nat.reduceAdd, Nat.reduceSub, Nat.reduceEqDiff, Nat.reduceLT, Nat.reducePow, Nat.reduceLeDiff, st, Option.bind_eq_bind, Option.pure_def, List.length_nil, Int.cast_ofNat_Int, List.reverse_nil, UU, idxP, cellsAt, storeA, fillA, zerosA, putAll, optNat, sliceA, row, Int.reduceLT, Int.reduceLE, Int.reduceGT, Int.reduceGE, Int.reduceEq, Int.reduceNe, Int.reduceToNat, Int.reduceBEq, Int.reduceBNe, Nat.reduceLeDiff, Nat.reduceLT, Nat.reduceBNe, Nat.reduceGT, List.drop_nil, List.take_nil, Option.isSome_none, Int.ofNat_one, Int.ofNat_zero, hv.idx hi, hv.load hi, ht.len, ht.idx k1, ht.load k1, r1.len, hc, c1]

theorem L23_1 {v : AV} {ts : List (List (List Int))} (hv : IsTabs v ts) (hn : ts.length ≤ 20) (d : Nat) : ∀ (i : Nat), i + d = ts.length →
    lp EV Y F23L1 (sp 35 [(3, vI i), (0, v)]) H = if fewS (ts.drop i) then some (.x 0, sp 35 [], H) else some (.r, sp 35 [(2, .bool false)], H) := by
  induction d with
  | zero =>
    intro i hi
    rw [un23_1, List.drop_eq_nil_of_le (by omega), if_pos (by simp [fewS])]
    have : ¬ ((i : Int) < (ts.length : Int)) := by omega
    simp only [F23L1b, SS, insA, wantedA, Opd.ev, putA, binA, eqbA, unA, fldA, partA, reduceIte, reduceCtorEq, Nat.reduceMod, Nat.reduceDiv, Nat.reduceBEq, resultA, resA, vI, Nat.reduceMul, Nat.reduceAdd, Nat.reduceSub, Nat.reduceEqDiff, Nat.reduceLT, Nat.reducePow, Nat.reduceLeDiff, st, Option.bind_eq_bind, Option.pure_def, List.length_nil, Int.cast_ofNat_Int, List.reverse_nil, UU, idxP, cellsAt, storeA, fillA, zerosA, putAll, optNat, sliceA, row, Int.reduceLT, Int.reduceLE, Int.reduceGT, Int.reduceGE, Int.reduceEq, Int.reduceNe, Int.reduceToNat, Int.reduceBEq, Int.reduceBNe, Nat.reduceLeDiff, Nat.reduceLT, Nat.reduceBNe, Nat.reduceGT, List.drop_nil, List.take_nil, Option.isSome_none, Int.ofNat_one, Int.ofNat_zero, hv.len, this]
  | succ d ih =>
    intro i hi
    have k1 : i < ts.length := by omega
    have hc : (i : Int) < (ts.length : Int) := by omega
    have hww := wrap_succ (n := i) (by omega)
    have ht := hv.tab k1
    rw [un23_1, List.drop_eq_getElem_cons k1]
    have ih := ih (i + 1) (by omega)
    have hfew : fewS (ts[i] :: ts.drop (i + 1)) ↔ Small ts[i] ∧ fewS (ts.drop (i + 1)) := by unfold fewS; exact List.forall_mem_cons
    by_cases c : ts[i].length ≤ 20
    · have c1 : ¬ ((ts[i].length : Int) > 20) := by omega
      have h0 := L23_0 (Y := Y) (H := H) hv k1 c ts[i].length 0 (by omega)
      rw [List.drop_zero] at h0
      simp only [shortB_iff] at h0
      by_cases c2 : ∀ r ∈ ts[i], r.length ≤ 20
      · rw [if_pos c2] at h0
        have hs : Small ts[i] := ⟨c, c2⟩
        simp only [SS, insA, wantedA, Opd.ev, putA, binA, eqbA, unA, fldA, partA, reduceIte, reduceCtorEq, Nat.reduceMod, Nat.reduceDiv, Nat.reduceBEq, resultA, resA, vI, Nat.reduceMul, Nat.reduceAdd, Nat.reduceSub, Nat.reduceEqDiff, Nat.reduceLT, Nat.reducePow, Nat.reduceLeDiff, st, Option.bind_eq_bind, Option.pure_def, List.length_nil, Int.cast_ofNat_Int, List.reverse_nil, Int.ofNat_zero] at ih h0
        simp only [F23L1b, F23T0, in23_0, SS, insA, wantedA, Opd.ev, putA, binA, eqbA, unA, fldA, partA, reduceIte, reduceCtorEq, Nat.reduceMod, Nat.reduceDiv, Nat.reduceBEq, resultA, resA, vI, Nat.reduceMul, Nat.reduceAdd, Nat.reduceSub, Nat.reduceEqDiff, Nat.reduceLT, Nat.reducePow, Nat.reduceLeDiff, st, Option.bind_eq_bind, Option.pure_def, List.length_nil, Int.cast_ofNat_Int, List.reverse_nil, UU, idxP, cellsAt, storeA, fillA, zerosA, putAll, optNat, sliceA, row, Int.reduceLT, Int.reduceLE, Int.reduceGT, Int.reduceGE, Int.reduceEq, Int.reduceNe, Int.reduceToNat, Int.reduceBEq, Int.reduceBNe, Nat.reduceLeDiff, Nat.reduceLT, Nat.reduceBNe, Nat.reduceGT, List.drop_nil, List.take_nil, Option.isSome_none, Int.ofNat_one, Int.ofNat_zero, hv.len, hv.idx k1, hv.load k1, ht.len, hc, c1, h0, hww, ih]
        simp only [hfew, hs, true_and]
      · rw [if_neg c2] at h0
        rw [if_neg (fun h => c2 (hfew.1 h).1.2)]
        simp only [SS, insA, wantedA, Opd.ev, putA, binA, eqbA, unA, fldA, partA, reduceIte, reduceCtorEq, Nat.reduceMod, Nat.reduceDiv, Nat.reduceBEq, resultA, resA, vI, Nat.reduceMul, Nat.reduceAdd, Nat.reduceSub, Nat.reduceEqDiff, Nat.reduceLT, Nat.reducePow, Nat.reduceLeDiff, st, Option.bind_eq_bind, Option.pure_def, List.length_nil, Int.cast_ofNat_Int, List.reverse_nil, Int.ofNat_zero] at h0
        simp only [F23L1b, F23T0, in23_0, SS, insA, wantedA, Opd.ev, putA, binA, eqbA, unA, fldA, partA, reduceIte, reduceCtorEq, Nat.reduceMod, Nat.reduceDiv, Nat.reduceBEq, resultA, resA, vI, Nat.reduceMul, Nat.reduceAdd, Nat.reduceSub, Nat.reduceEqDiff, Nat.reduceLT, Nat.reducePow, Nat.reduceLeDiff, st, Option.bind_eq_bind, Option.pure_def, List.length_nil, Int.cast_ofNat_Int, List.reverse_nil, UU, idxP, cellsAt, storeA, fillA, zerosA, putAll, optNat, sliceA, row, Int.reduceLT, Int.reduceLE, Int.reduceGT, Int.reduceGE, Int.reduceEq, Int.reduceNe, Int.reduceToNat, Int.reduceBEq, Int.reduceBNe, Nat.reduceLeDiff, Nat.reduceLT, Nat.reduceBNe, Nat.reduceGT, List.drop_nil, List.take_nil, Option.isSome_none, Int.ofNat_one, Int.ofNat_zero, hv.len, hv.idx k1, hv.load k1, ht.len, hc, c1, h0]
    · have c1 : ((ts[i].length : Int) > 20) := by omega
      rw [if_neg (fun h => c (hfew.1 h).1.1)]
      simp only [F23L1b, F23T0, in23_0, SS, insA, wantedA, Opd.ev, putA, binA, eqbA, unA, fldA, partA, reduceIte, reduceCtorEq, Nat.reduceMod, Nat.reduceDiv, Nat.reduceBEq, resultA, resA, vI, Nat.reduceMul, Nat.reduceAdd, Nat.reduceSub, Nat.reduceEqDiff, Nat.reduceLT, Nat.reducePow, Nat.reduceLeDiff, st, Option.bind_eq_bind, Option.pure_def, List.length_nil, Int.cast_ofNat_Int, List.reverse_nil, UU, idxP, cellsAt, storeA, fillA, zerosA, putAll, optNat, sliceA, row, Int.reduceLT, Int.reduceLE, Int.reduceGT, Int.reduceGE, Int.reduceEq, Int.reduceNe, Int.reduceToNat, Int.reduceBEq, Int.reduceBNe, Nat.reduceLeDiff, Nat.reduceLT, Nat.reduceBNe, Nat.reduceGT, List.drop_nil, List.take_nil, Option.isSome_none, Int.ofNat_one, Int.ofNat_zero, hv.len, hv.idx k1, hv.load k1, ht.len, hc, c1]

theorem few23 {v : AV} {ts : List (List (List Int))} (hv : IsTabs v ts) (hn : ts.length ≤ 20) : freeX H (callL EV Y 23 [v] []) = some (.bool (decide (fewS ts)), H) := by
  have h1 := L23_1 (Y := Y) (H := []) hv hn ts.length 0 (by omega)
  rw [List.drop_zero] at h1
  rw [call23 rfl]
  by_cases c : fewS ts
  · rw [if_pos c] at h1
    simp only [SS, insA, wantedA, Opd.ev, putA, binA, eqbA, unA, fldA, partA, reduceIte, reduceCtorEq, Nat.reduceMod, Nat.reduceDiv, Nat.reduceBEq, resultA, resA, vI, Nat.reduceMul, Nat.reduceAdd, Nat.reduceSub, Nat.reduceEqDiff, Nat.reduceLT, Nat.reducePow, Nat.reduceLeDiff, st, Option.bind_eq_bind, Option.pure_def, List.length_nil, Int.cast_ofNat_Int, List.reverse_nil, Int.ofNat_zero] at h1
    simp only [F23B, F23T1, in23_1, SS, insA, wantedA, Opd.ev, putA, binA, eqbA, unA, fldA, partA, reduceIte, reduceCtorEq, Nat.reduceMod, Nat.reduceDiv, Nat.reduceBEq, resultA, resA, vI, Nat.reduceMul, Nat.reduceAdd, Nat.reduceSub, Nat.reduceEqDiff, Nat.reduceLT, Nat.reducePow, Nat.reduceLeDiff, st, Option.bind_eq_bind, Option.pure_def, List.length_nil, Int.cast_ofNat_Int, List.reverse_nil, UU, idxP, cellsAt, storeA, fillA, zerosA, putAll, optNat, sliceA, row, Int.reduceLT, Int.reduceLE, Int.reduceGT, Int.reduceGE, Int.reduceEq, Int.reduceNe, Int.reduceToNat, Int.reduceBEq, Int.reduceBNe, Nat.reduceLeDiff, Nat.reduceLT, Nat.reduceBNe, Nat.reduceGT, List.drop_nil, List.take_nil, Option.isSome_none, Int.ofNat_one, Int.ofNat_zero, h1, c, decide_true]
  · rw [if_neg c] at h1
    simp only [SS, insA, wantedA, Opd.ev, putA, binA, eqbA, unA, fldA, partA, reduceIte, reduceCtorEq, Nat.reduceMod, Nat.reduceDiv, Nat.reduceBEq, resultA, resA, vI, Nat.reduceMul, Nat.reduceAdd, Nat.reduceSub, Nat.reduceEqDiff, Nat.reduceLT, Nat.reducePow, Nat.reduceLeDiff, st, Option.bind_eq_bind, Option.pure_def, List.length_nil, Int.cast_ofNat_Int, List.reverse_nil, Int.ofNat_zero] at h1
    simp only [F23B, F23T1, in23_1, SS, insA, wantedA, Opd.ev, putA, binA, eqbA, unA, fldA, partA, reduceIte, reduceCtorEq, Nat.reduceMod, Nat.reduceDiv, Nat.reduceBEq, resultA, resA, vI, Nat.reduceMul, Nat.reduceAdd, Nat.reduceSub, Nat.reduceEqDiff, Nat.reduceLT, Nat.reducePow, Nat.reduceLeDiff, st, Option.bind_eq_bind, Option.pure_def, List.length_nil, Int.cast_ofNat_Int, List.reverse_nil, UU, idxP, cellsAt, storeA, fillA, zerosA, putAll, optNat, sliceA, row, Int.reduceLT, Int.reduceLE, Int.reduceGT, Int.reduceGE, Int.reduceEq, Int.reduceNe, Int.reduceToNat, Int.reduceBEq, Int.reduceBNe, Nat.reduceLeDiff, Nat.reduceLT, Nat.reduceBNe, Nat.reduceGT, List.drop_nil, List.take_nil, Option.isSome_none, Int.ofNat_one, Int.ofNat_zero, h1, c, decide_false]

/-! ### Copy -/
theorem app_nils {v : AV} {l : List Int} (h : IsRow v l) (hl : l.length ≤ 1000) : ∃ c o, appA H 1 8 .nils v = some (c, H ++ o) ∧ Gro H.length 1 (H ++ o) c l.length (l.map vI) := by
  by_cases h0 : l.length = 0
  · have : l = [] := List.eq_nil_of_length_eq_zero h0
    subst this
    refine ⟨.nils, [], ?_, Gro.nil _ _ _⟩
    simp only [appA, len_nils, h.len, h.content, List.length_nil, List.append_nil]
    rfl
  · refine ⟨.sl H.length 0 1 0 l.length none, [⟨0, l.map vI⟩], ?_, Gro.made (by simp) (Nat.le_refl _)⟩
    simp only [appA, len_nils, h.len, h.content]
    rw [if_neg h0, if_pos ⟨by omega, by omega, ones_all l⟩]

theorem take_next {α : Type} {l : List α} {i : Nat} (h : i < l.length) : l.take i ++ [l[i]] = l.take (i + 1) := by
  rw [List.take_succ_eq_append_getElem h]

theorem L24 {vt : AV} {t : List (List Int)} (ht : IsTab vt t) (hs : Small t) (d : Nat) : ∀ (i : Nat) (R : Heap) (v : AV) (cells : List AV), i + d = t.length → HTab 0 R v (t.take i) cells →
    ∃ R' v' cells', lp EV Y F24L0 (sp 23 [(4, vI i), (3, v), (0, vt)]) R = some (.x 0, sp 23 [(3, v')], R') ∧ HTab 0 R' v' t cells' := by
  have hn := hs.1
  induction d with
  | zero =>
    intro i R v cells hi hT
    rw [un24_0]
    have : ¬ ((i : Int) < (t.length : Int)) := by omega
    refine ⟨R, v, cells, ?_, by rwa [List.take_of_length_le (by omega)] at hT⟩
    simp only [F24L0b, SS, insA, wantedA, Opd.ev, putA, binA, eqbA, unA, fldA, partA, reduceIte, reduceCtorEq, Nat.reduceMod, Nat.reduceDiv, Nat.reduceBEq, resultA, resA, vI, Nat.reduceMul, Nat.reduceAdd, Nat.reduceSub, Nat.reduceEqDiff, Nat.reduceLT, Nat.reducePow, Nat.reduceLeDiff, st, Option.bind_eq_bind, Option.pure_def, List.length_nil, Int.cast_ofNat_Int, List.reverse_nil, UU, idxP, cellsAt, storeA, fillA, zerosA, putAll, optNat, sliceA, row, Int.reduceLT, Int.reduceLE, Int.reduceGT, Int.reduceGE, Int.reduceEq, Int.reduceNe, Int.reduceToNat, Int.reduceBEq, Int.reduceBNe, Nat.reduceLeDiff, Nat.reduceLT, Nat.reduceBNe, Nat.reduceGT, List.drop_nil, List.take_nil, Option.isSome_none, Int.ofNat_one, Int.ofNat_zero, ht.len, this]
  | succ d ih =>
    intro i R v cells hi hT
    have k1 : i < t.length := by omega
    have hc : (i : Int) < (t.length : Int) := by omega
    have hww := wrap_succ (n := i) (by omega)
    have r1 := ht.row k1
    rw [getD_get k1] at r1
    have hl : t[i].length ≤ 20 := hs.2 _ (by simp)
    obtain ⟨c, o, a1, a2⟩ := app_nils (H := R) r1 (by omega)
    obtain ⟨o1, o2, o3⟩ := a2.one
    have hT2 := hT.more o
    obtain ⟨v', R', b1, b2, b3, b4, b5⟩ := hT2.add (c := c) (l := t[i]) (by omega) ⟨a2.1, by
        rcases a2.2 with h | ⟨id, ver, h1, h2, h3⟩
        · exact .inl h
        · exact .inr ⟨id, ver, by omega, h2, h3⟩⟩
      (fun a ha hb => by have := a2.ge ha; have := hT.gro.id_lt hb; omega)
      (fun j a hj ha hb => by have := a2.ge hb; have := (hT.row j hj).id_lt ha; omega) (by simp; omega)
    rw [take_next k1] at b2
    obtain ⟨R2, v2, c2, q1, q2⟩ := ih (i + 1) R' v' _ (by omega) b2
    refine ⟨R2, v2, c2, ?_, q2⟩
    rw [un24_0]
    simp only [SS, insA, wantedA, Opd.ev, putA, binA, eqbA, unA, fldA, partA, reduceIte, reduceCtorEq, Nat.reduceMod, Nat.reduceDiv, Nat.reduceBEq, resultA, resA, vI, Nat.reduceMul, Nat.reduceAdd, Nat.reduceSub, Nat.reduceEqDiff, Nat.reduceLT, Nat.reducePow, Nat.reduceLeDiff, st, Option.bind_eq_bind, Option.pure_def, List.length_nil, Int.cast_ofNat_Int, List.reverse_nil] at q1
    simp only [List.length_append, List.append_assoc] at b1
    simp only [F24L0b, SS, insA, wantedA, Opd.ev, putA, binA, eqbA, unA, fldA, partA, reduceIte, reduceCtorEq, Nat.reduceMod, Nat.reduceDiv, Nat.reduceBEq, resultA, resA, vI, Nat.reduceMul, Nat.reduceAdd, Nat.reduceSub, Nat.reduceEqDiff, Nat.reduceLT, Nat.reducePow, Nat.reduceLeDiff, st, Option.bind_eq_bind, Option.pure_def, List.length_nil, Int.cast_ofNat_Int, List.reverse_nil, UU, idxP, cellsAt, storeA, fillA, zerosA, putAll, optNat, sliceA, row, Int.reduceLT, Int.reduceLE, Int.reduceGT, Int.reduceGE, Int.reduceEq, Int.reduceNe, Int.reduceToNat, Int.reduceBEq, Int.reduceBNe, Nat.reduceLeDiff, Nat.reduceLT, Nat.reduceBNe, Nat.reduceGT, List.drop_nil, List.take_nil, Option.isSome_none, Int.ofNat_one, Int.ofNat_zero, ht.len, hc, ht.idx k1, ht.load k1, a1, o1, o2, o3, b1, hww, q1]

theorem copy24 {vt : AV} {t : List (List Int)} (ht : IsTab vt t) (hs : Small t) : ∃ w, IsTab w t ∧ ∀ H, freeX H (callL EV Y 24 [vt] []) = some (w, H) := by
  obtain ⟨R', v', cells', q1, q2⟩ := L24 (Y := Y) ht hs t.length 0 [] .nils [] (by omega) (HTab.nil _ _)
  obtain ⟨⟨w, h1, h2⟩, _⟩ := q2.out (d := 3)
  refine ⟨w, h2, fun H => ?_⟩
  rw [call24 rfl]
  simp only [SS, insA, wantedA, Opd.ev, putA, binA, eqbA, unA, fldA, partA, reduceIte, reduceCtorEq, Nat.reduceMod, Nat.reduceDiv, Nat.reduceBEq, resultA, resA, vI, Nat.reduceMul, Nat.reduceAdd, Nat.reduceSub, Nat.reduceEqDiff, Nat.reduceLT, Nat.reducePow, Nat.reduceLeDiff, st, Option.bind_eq_bind, Option.pure_def, List.length_nil, Int.cast_ofNat_Int, List.reverse_nil, Int.ofNat_zero] at q1
  simp only [F24B, F24T0, in24_0, SS, insA, wantedA, Opd.ev, putA, binA, eqbA, unA, fldA, partA, reduceIte, reduceCtorEq, Nat.reduceMod, Nat.reduceDiv, Nat.reduceBEq, resultA, resA, vI, Nat.reduceMul, Nat.reduceAdd, Nat.reduceSub, Nat.reduceEqDiff, Nat.reduceLT, Nat.reducePow, Nat.reduceLeDiff, st, Option.bind_eq_bind, Option.pure_def, List.length_nil, Int.cast_ofNat_Int, List.reverse_nil, UU, idxP, cellsAt, storeA, fillA, zerosA, putAll, optNat, sliceA, row, Int.reduceLT, Int.reduceLE, Int.reduceGT, Int.reduceGE, Int.reduceEq, Int.reduceNe, Int.reduceToNat, Int.reduceBEq, Int.reduceBNe, Nat.reduceLeDiff, Nat.reduceLT, Nat.reduceBNe, Nat.reduceGT, List.drop_nil, List.take_nil, Option.isSome_none, Int.ofNat_one, Int.ofNat_zero, q1, h1]

/-! ### read -/
def colD (t : List (List Int)) (j : Nat) : List Int := t.map fun r => r.getD j 0

theorem L64_0 {vt : AV} {t : List (List Int)} {b j : Nat} (ht : IsTab vt t) (hn : t.length ≤ 20) (hj : ∀ r ∈ t, j < r.length) (d : Nat) : ∀ (i : Nat) (R : Heap) (c : AV), i + d = t.length → b < R.length → Gro (b + 1) 1 R c i (((colD t j).take i).map vI) →
    ∃ R' c', lp EV Y F64L0 (sp 45 [(28, vI i), (27, vI t.length), (26, vt), (23, vI j), (22, vI t.length), (5, c), (4, vI j), (1, .ptr b 0 0)]) R = some (.x 2, sp 45 [(23, vI j), (22, vI t.length), (5, c'), (1, .ptr b 0 0)], R') ∧
      Gro (b + 1) 1 R' c' t.length ((colD t j).map vI) ∧ (∀ a, a ≤ b → R'[a]? = R[a]?) ∧ b < R'.length := by
  induction d with
  | zero =>
    intro i R c hi hb hG
    rw [un64_0]
    have : ¬ ((i : Int) < (t.length : Int)) := by omega
    have hl : (colD t j).length = t.length := by simp [colD]
    refine ⟨R, c, ?_, ?_, fun _ _ => rfl, hb⟩
    · simp only [F64L0b, SS, insA, wantedA, Opd.ev, putA, binA, eqbA, unA, fldA, partA, reduceIte, reduceCtorEq, Nat.reduceMod, Nat.reduceDiv, Nat.reduceBEq, resultA, resA, vI, Nat.reduceMul, Nat.reduceAdd, Nat.reduceSub, Nat.reduceEqDiff, Nat.reduceLT, Nat.reducePow, Nat.reduceLeDiff, st, Option.bind_eq_bind, Option.pure_def, List.length_nil, Int.cast_ofNat_Int, List.reverse_nil, UU, idxP, cellsAt, storeA, fillA, zerosA, putAll, optNat, sliceA, row, Int.reduceLT, Int.reduceLE, Int.reduceGT, Int.reduceGE, Int.reduceEq, Int.reduceNe, Int.reduceToNat, Int.reduceBEq, Int.reduceBNe, Nat.reduceLeDiff, Nat.reduceLT, Nat.reduceBNe, Nat.reduceGT, List.drop_nil, List.take_nil, Option.isSome_none, Int.ofNat_one, Int.ofNat_zero, this]
    · rw [List.take_of_length_le (by omega)] at hG
      have : i = t.length := by omega
      subst this; exact hG
  | succ d ih =>
    intro i R c hi hb hG
    have k1 : i < t.length := by omega
    have hc : (i : Int) < (t.length : Int) := by omega
    have hww := wrap_succ (n := i) (by omega)
    have r1 := ht.row k1
    rw [getD_get k1] at r1
    have k2 : j < t[i].length := hj _ (by simp)
    obtain ⟨c', R', b1, b2, b3, b4, b5⟩ := hG.app2 (bytes := 8) (ys := [vI (t[i].getD j 0)]) (by omega) rfl rfl (by omega) (by omega)
    have e : ((colD t j).take i).map vI ++ [vI (t[i].getD j 0)] = ((colD t j).take (i + 1)).map vI := by
      have hl : i < (colD t j).length := by simpa [colD] using k1
      rw [← take_next hl, List.map_append]
      simp [colD]
    rw [e] at b2
    obtain ⟨R2, c2, q1, q2, q3, q4⟩ := ih (i + 1) R' c' (by omega) (by omega) b2
    refine ⟨R2, c2, ?_, q2, fun a ha => ?_, q4⟩
    · rw [un64_0]
      simp only [SS, insA, wantedA, Opd.ev, putA, binA, eqbA, unA, fldA, partA, reduceIte, reduceCtorEq, Nat.reduceMod, Nat.reduceDiv, Nat.reduceBEq, resultA, resA, vI, Nat.reduceMul, Nat.reduceAdd, Nat.reduceSub, Nat.reduceEqDiff, Nat.reduceLT, Nat.reducePow, Nat.reduceLeDiff, st, Option.bind_eq_bind, Option.pure_def, List.length_nil, Int.cast_ofNat_Int, List.reverse_nil] at q1 b1
      simp only [F64L0b, SS, insA, wantedA, Opd.ev, putA, binA, eqbA, unA, fldA, partA, reduceIte, reduceCtorEq, Nat.reduceMod, Nat.reduceDiv, Nat.reduceBEq, resultA, resA, vI, Nat.reduceMul, Nat.reduceAdd, Nat.reduceSub, Nat.reduceEqDiff, Nat.reduceLT, Nat.reducePow, Nat.reduceLeDiff, st, Option.bind_eq_bind, Option.pure_def, List.length_nil, Int.cast_ofNat_Int, List.reverse_nil, UU, idxP, cellsAt, storeA, fillA, zerosA, putAll, optNat, sliceA, row, Int.reduceLT, Int.reduceLE, Int.reduceGT, Int.reduceGE, Int.reduceEq, Int.reduceNe, Int.reduceToNat, Int.reduceBEq, Int.reduceBNe, Nat.reduceLeDiff, Nat.reduceLT, Nat.reduceBNe, Nat.reduceGT, List.drop_nil, List.take_nil, Option.isSome_none, Int.ofNat_one, Int.ofNat_zero, hc, ht.idx k1, ht.load k1, r1.idx k2, r1.load k2, b1, hww, q1]
    · rw [q3 a ha]
      exact b3 a (by omega) (fun h => by have := hG.ge h; omega)

theorem L64_1 {vt : AV} {t : List (List Int)} {b : Nat} (ht : IsTab vt t) (hn : t.length ≤ 20) (hr : ∀ r ∈ t, r.length = t.length) (d : Nat) : ∀ (j : Nat) (R : Heap), j + d = t.length → R[b]? = some ⟨0, [vt]⟩ →
    ∃ R', (lp EV Y F64L1 (sp 45 [(23, vI j), (22, vI t.length), (1, .ptr b 0 0)]) R = if ((List.range' j d).all fun m => altB (colD t m)) = true then some (.x 0, sp 45 [(1, .ptr b 0 0)], R') else some (.r, sp 45 [(3, .bool false), (2, .nils)], R')) ∧
      ∀ a, a ≤ b → R'[a]? = R[a]? := by
  induction d with
  | zero =>
    intro j R hj hb
    rw [un64_1]
    have : ¬ ((j : Int) < (t.length : Int)) := by omega
    refine ⟨R, ?_, fun _ _ => rfl⟩
    simp only [List.range'_zero, List.all_nil, if_true]
    simp only [F64L1b, SS, insA, wantedA, Opd.ev, putA, binA, eqbA, unA, fldA, partA, reduceIte, reduceCtorEq, Nat.reduceMod, Nat.reduceDiv, Nat.reduceBEq, resultA, resA, vI, Nat.reduceMul, Nat.reduceAdd, Nat.reduceSub, Nat.reduceEqDiff, Nat.reduceLT, Nat.reducePow, Nat.reduceLeDiff, st, Option.bind_eq_bind, Option.pure_def, List.length_nil, Int.cast_ofNat_Int, List.reverse_nil, UU, idxP, cellsAt, storeA, fillA, zerosA, putAll, optNat, sliceA, row, Int.reduceLT, Int.reduceLE, Int.reduceGT, Int.reduceGE, Int.reduceEq, Int.reduceNe, Int.reduceToNat, Int.reduceBEq, Int.reduceBNe, Nat.reduceLeDiff, Nat.reduceLT, Nat.reduceBNe, Nat.reduceGT, List.drop_nil, List.take_nil, Option.isSome_none, Int.ofNat_one, Int.ofNat_zero, this]
  | succ d ih =>
    intro j R hj hb
    have hc : (j : Int) < (t.length : Int) := by omega
    have hww := wrap_succ (n := j) (by omega)
    have hbl := hlt_of hb
    obtain ⟨R1, c1, q1, q2, q3, q4⟩ := L64_0 (Y := Y) (b := b) (j := j) ht hn (fun r hr' => by rw [hr r hr']; omega) t.length 0 R .nils (by omega) hbl (Gro.nil _ _ _)
    obtain ⟨w, s1, s2⟩ := q2.snapRow (d := 4)
    have hcl : (colD t j).length ≤ 1000 := by simp [colD]; omega
    have ha := fun H => alt87 (Y := Y) (H := H) s2 hcl
    have hb1 : R1[b]? = some ⟨0, [vt]⟩ := by rw [q3 b (Nat.le_refl _)]; exact hb
    obtain ⟨R2, p1, p2⟩ := ih (j + 1) R1 (by omega) hb1
    have e3 : ∀ (k : Nat), 1 ≤ k + 1 := fun k => by omega
    rw [un64_1]
    rw [List.range'_succ, List.all_cons]
    cases hal : altB (colD t j)
    · rw [hal] at ha
      refine ⟨R1, ?_, fun a h => q3 a h⟩
      simp only [SS, insA, wantedA, Opd.ev, putA, binA, eqbA, unA, fldA, partA, reduceIte, reduceCtorEq, Nat.reduceMod, Nat.reduceDiv, Nat.reduceBEq, resultA, resA, vI, Nat.reduceMul, Nat.reduceAdd, Nat.reduceSub, Nat.reduceEqDiff, Nat.reduceLT, Nat.reducePow, Nat.reduceLeDiff, st, Option.bind_eq_bind, Option.pure_def, List.length_nil, Int.cast_ofNat_Int, List.reverse_nil, Int.ofNat_zero] at q1
      simp only [F64L1b, F64T0, F64T1, in64_0, SS, insA, wantedA, Opd.ev, putA, binA, eqbA, unA, fldA, partA, reduceIte, reduceCtorEq, Nat.reduceMod, Nat.reduceDiv, Nat.reduceBEq, resultA, resA, vI, Nat.reduceMul, Nat.reduceAdd, Nat.reduceSub, Nat.reduceEqDiff, Nat.reduceLT, Nat.reducePow, Nat.reduceLeDiff, st, Option.bind_eq_bind, Option.pure_def, List.length_nil, Int.cast_ofNat_Int, List.reverse_nil, UU, idxP, cellsAt, storeA, fillA, zerosA, putAll, optNat, sliceA, row, Int.reduceLT, Int.reduceLE, Int.reduceGT, Int.reduceGE, Int.reduceEq, Int.reduceNe, Int.reduceToNat, Int.reduceBEq, Int.reduceBNe, Nat.reduceLeDiff, Nat.reduceLT, Nat.reduceBNe, Nat.reduceGT, List.drop_nil, List.take_nil, Option.isSome_none, Int.ofNat_one, Int.ofNat_zero, hc, hb, e3, ht.len, q1, s1, ha, Bool.false_and, Bool.false_eq_true]
    · rw [hal] at ha
      refine ⟨R2, ?_, fun a h => by rw [p2 a h, q3 a h]⟩
      simp only [SS, insA, wantedA, Opd.ev, putA, binA, eqbA, unA, fldA, partA, reduceIte, reduceCtorEq, Nat.reduceMod, Nat.reduceDiv, Nat.reduceBEq, resultA, resA, vI, Nat.reduceMul, Nat.reduceAdd, Nat.reduceSub, Nat.reduceEqDiff, Nat.reduceLT, Nat.reducePow, Nat.reduceLeDiff, st, Option.bind_eq_bind, Option.pure_def, List.length_nil, Int.cast_ofNat_Int, List.reverse_nil, Int.ofNat_zero] at q1 p1
      simp only [F64L1b, F64T0, F64T1, in64_0, SS, insA, wantedA, Opd.ev, putA, binA, eqbA, unA, fldA, partA, reduceIte, reduceCtorEq, Nat.reduceMod, Nat.reduceDiv, Nat.reduceBEq, resultA, resA, vI, Nat.reduceMul, Nat.reduceAdd, Nat.reduceSub, Nat.reduceEqDiff, Nat.reduceLT, Nat.reducePow, Nat.reduceLeDiff, st, Option.bind_eq_bind, Option.pure_def, List.length_nil, Int.cast_ofNat_Int, List.reverse_nil, UU, idxP, cellsAt, storeA, fillA, zerosA, putAll, optNat, sliceA, row, Int.reduceLT, Int.reduceLE, Int.reduceGT, Int.reduceGE, Int.reduceEq, Int.reduceNe, Int.reduceToNat, Int.reduceBEq, Int.reduceBNe, Nat.reduceLeDiff, Nat.reduceLT, Nat.reduceBNe, Nat.reduceGT, List.drop_nil, List.take_nil, Option.isSome_none, Int.ofNat_one, Int.ofNat_zero, hc, hb, e3, ht.len, q1, s1, ha, hww, p1, Bool.true_and]

/-- Is it a veil? -/
def readOk (t : List (List Int)) : Bool := decide (1 ≤ t.length ∧ t.length ≤ 5) && !t.any (badR t.length) && (List.range t.length).all fun j => altB (colD t j)

theorem snap_fnptr {b f : Nat} {v : AV} {R : Heap} (h : R[b]? = some ⟨0, [v]⟩) (hs : snapA R 4 v = some v) : snapA R 6 (.fn f [.ptr b 0 0]) = some (.fn f [.cptr true [v]]) := by
  have h1 : snapA R 5 (.ptr b 0 0) = some (.cptr true [v]) := by
    show (match R[b]? with | some o => if o.ver = 0 ∧ 0 ≤ o.cells.length then ((o.cells.drop 0).mapM (snapA R 4)).map (fun cs => AV.cptr true cs) else none | none => none) = _
    rw [h]
    simp only
    rw [if_pos ⟨trivial, by omega⟩]
    show Option.map _ ([v].mapM (snapA R 4)) = _
    rw [mapM_cons', hs]; rfl
  show Option.map _ ([AV.ptr b 0 0].mapM (snapA R 5)) = _
  rw [mapM_cons', h1]; rfl

theorem read64 {vt : AV} {t : List (List Int)} (ht : IsTab vt t) (hs : Small t) : ∀ H, ∃ H', callL EV Y 64 [vt] H = some (.tup [if readOk t = true then vt else .nils, .bool (readOk t)], H') ∧ ∀ a, a < H.length → H'[a]? = H[a]? := by
  intro H
  obtain ⟨o1, o2, o3⟩ := ht.one
  have hn := hs.1
  have h85 := fun H => any85 (Y := Y) (H := H) (s := true) ht hn (fun r hr => by have := hs.2 r hr; omega)
  have hsn : snapA (H ++ [⟨0, [vt]⟩]) 6 (.fn 86 [.ptr H.length 0 0]) = some (.fn 86 [.cptr true [vt]]) := snap_fnptr (by simp) ht.snap
  have e3 : ∀ (k : Nat), 1 ≤ k + 1 := fun k => by omega
  rw [call64 rfl]
  unfold readOk
  by_cases c1 : t.length < 1
  · have c1' : ((t.length : Int) < 1) := by omega
    refine ⟨H ++ [⟨0, [vt]⟩], ?_, fun a ha => List.getElem?_append_left ha⟩
    have e : decide (1 ≤ t.length ∧ t.length ≤ 5) = false := by simp; omega
    simp only [F64B, SS, insA, wantedA, Opd.ev, putA, binA, eqbA, unA, fldA, partA, reduceIte, reduceCtorEq, Nat.reduceMod, Nat.reduceDiv, Nat.reduceBEq, resultA, resA, vI, Nat.reduceMul, Nat.reduceAdd, Nat.reduceSub, Nat.reduceEqDiff, Nat.reduceLT, Nat.reducePow, Nat.reduceLeDiff, st, Option.bind_eq_bind, Option.pure_def, List.length_nil, Int.cast_ofNat_Int, List.reverse_nil, UU, idxP, cellsAt, storeA, fillA, zerosA, putAll, optNat, sliceA, row, Int.reduceLT, Int.reduceLE, Int.reduceGT, Int.reduceGE, Int.reduceEq, Int.reduceNe, Int.reduceToNat, Int.reduceBEq, Int.reduceBNe, Nat.reduceLeDiff, Nat.reduceLT, Nat.reduceBNe, Nat.reduceGT, List.drop_nil, List.take_nil, Option.isSome_none, Int.ofNat_one, Int.ofNat_zero, o1, o2, o3, get_last, e3, ht.len, c1', e, Bool.false_and, Bool.false_eq_true]
  · have c1' : ¬ ((t.length : Int) < 1) := by omega
    by_cases c2 : t.length > 5
    · have c2' : ((t.length : Int) > 5) := by omega
      refine ⟨H ++ [⟨0, [vt]⟩], ?_, fun a ha => List.getElem?_append_left ha⟩
      have e : decide (1 ≤ t.length ∧ t.length ≤ 5) = false := by simp; omega
      simp only [F64B, SS, insA, wantedA, Opd.ev, putA, binA, eqbA, unA, fldA, partA, reduceIte, reduceCtorEq, Nat.reduceMod, Nat.reduceDiv, Nat.reduceBEq, resultA, resA, vI, Nat.reduceMul, Nat.reduceAdd, Nat.reduceSub, Nat.reduceEqDiff, Nat.reduceLT, Nat.reducePow, Nat.reduceLeDiff, st, Option.bind_eq_bind, Option.pure_def, List.length_nil, Int.cast_ofNat_Int, List.reverse_nil, UU, idxP, cellsAt, storeA, fillA, zerosA, putAll, optNat, sliceA, row, Int.reduceLT, Int.reduceLE, Int.reduceGT, Int.reduceGE, Int.reduceEq, Int.reduceNe, Int.reduceToNat, Int.reduceBEq, Int.reduceBNe, Nat.reduceLeDiff, Nat.reduceLT, Nat.reduceBNe, Nat.reduceGT, List.drop_nil, List.take_nil, Option.isSome_none, Int.ofNat_one, Int.ofNat_zero, o1, o2, o3, get_last, e3, ht.len, c1', c2', e, Bool.false_and, Bool.false_eq_true]
    · have c2' : ¬ ((t.length : Int) > 5) := by omega
      have e : decide (1 ≤ t.length ∧ t.length ≤ 5) = true := by simp; omega
      cases hany : t.any (badR t.length)
      · rw [hany] at h85
        have hr : ∀ r ∈ t, r.length = t.length := fun r hr => by
          have := List.any_eq_false.1 hany r hr
          simp only [badR, Bool.or_eq_true, decide_eq_true_eq, not_or] at this
          exact Decidable.not_not.1 this.1
        obtain ⟨R', p1, p2⟩ := L64_1 (Y := Y) (b := H.length) ht hn hr t.length 0 (H ++ [⟨0, [vt]⟩]) (by omega) (by simp)
        have hb' : R'[H.length]? = some ⟨0, [vt]⟩ := by rw [p2 _ (Nat.le_refl _)]; simp
        rw [← List.range_eq_range'] at p1
        refine ⟨R', ?_, fun a ha => by rw [p2 a (by omega), List.getElem?_append_left ha]⟩
        cases hcol : (List.range t.length).all fun j => altB (colD t j)
        · rw [hcol] at p1
          simp only [SS, insA, wantedA, Opd.ev, putA, binA, eqbA, unA, fldA, partA, reduceIte, reduceCtorEq, Nat.reduceMod, Nat.reduceDiv, Nat.reduceBEq, resultA, resA, vI, Nat.reduceMul, Nat.reduceAdd, Nat.reduceSub, Nat.reduceEqDiff, Nat.reduceLT, Nat.reducePow, Nat.reduceLeDiff, st, Option.bind_eq_bind, Option.pure_def, List.length_nil, Int.cast_ofNat_Int, List.reverse_nil, Int.ofNat_zero, Bool.false_eq_true] at p1
          simp only [F64B, F64T2, in64_1, SS, insA, wantedA, Opd.ev, putA, binA, eqbA, unA, fldA, partA, reduceIte, reduceCtorEq, Nat.reduceMod, Nat.reduceDiv, Nat.reduceBEq, resultA, resA, vI, Nat.reduceMul, Nat.reduceAdd, Nat.reduceSub, Nat.reduceEqDiff, Nat.reduceLT, Nat.reducePow, Nat.reduceLeDiff, st, Option.bind_eq_bind, Option.pure_def, List.length_nil, Int.cast_ofNat_Int, List.reverse_nil, UU, idxP, cellsAt, storeA, fillA, zerosA, putAll, optNat, sliceA, row, Int.reduceLT, Int.reduceLE, Int.reduceGT, Int.reduceGE, Int.reduceEq, Int.reduceNe, Int.reduceToNat, Int.reduceBEq, Int.reduceBNe, Nat.reduceLeDiff, Nat.reduceLT, Nat.reduceBNe, Nat.reduceGT, List.drop_nil, List.take_nil, Option.isSome_none, Int.ofNat_one, Int.ofNat_zero, o1, o2, o3, get_last, e3, ht.len, ht.snap, hsn, h85, c1', c2', e, p1, Bool.and_false, Bool.false_eq_true]
        · rw [hcol] at p1
          simp only [SS, insA, wantedA, Opd.ev, putA, binA, eqbA, unA, fldA, partA, reduceIte, reduceCtorEq, Nat.reduceMod, Nat.reduceDiv, Nat.reduceBEq, resultA, resA, vI, Nat.reduceMul, Nat.reduceAdd, Nat.reduceSub, Nat.reduceEqDiff, Nat.reduceLT, Nat.reducePow, Nat.reduceLeDiff, st, Option.bind_eq_bind, Option.pure_def, List.length_nil, Int.cast_ofNat_Int, List.reverse_nil, Int.ofNat_zero] at p1
          simp only [F64B, F64T2, in64_1, SS, insA, wantedA, Opd.ev, putA, binA, eqbA, unA, fldA, partA, reduceIte, reduceCtorEq, Nat.reduceMod, Nat.reduceDiv, Nat.reduceBEq, resultA, resA, vI, Nat.reduceMul, Nat.reduceAdd, Nat.reduceSub, Nat.reduceEqDiff, Nat.reduceLT, Nat.reducePow, Nat.reduceLeDiff, st, Option.bind_eq_bind, Option.pure_def, List.length_nil, Int.cast_ofNat_Int, List.reverse_nil, UU, idxP, cellsAt, storeA, fillA, zerosA, putAll, optNat, sliceA, row, Int.reduceLT, Int.reduceLE, Int.reduceGT, Int.reduceGE, Int.reduceEq, Int.reduceNe, Int.reduceToNat, Int.reduceBEq, Int.reduceBNe, Nat.reduceLeDiff, Nat.reduceLT, Nat.reduceBNe, Nat.reduceGT, List.drop_nil, List.take_nil, Option.isSome_none, Int.ofNat_one, Int.ofNat_zero, o1, o2, o3, get_last, e3, ht.len, ht.snap, hsn, h85, c1', c2', e, p1, hb', Bool.and_self, Bool.not_false, if_true]
      · rw [hany] at h85
        refine ⟨H ++ [⟨0, [vt]⟩], ?_, fun a ha => List.getElem?_append_left ha⟩
        simp only [F64B, SS, insA, wantedA, Opd.ev, putA, binA, eqbA, unA, fldA, partA, reduceIte, reduceCtorEq, Nat.reduceMod, Nat.reduceDiv, Nat.reduceBEq, resultA, resA, vI, Nat.reduceMul, Nat.reduceAdd, Nat.reduceSub, Nat.reduceEqDiff, Nat.reduceLT, Nat.reducePow, Nat.reduceLeDiff, st, Option.bind_eq_bind, Option.pure_def, List.length_nil, Int.cast_ofNat_Int, List.reverse_nil, UU, idxP, cellsAt, storeA, fillA, zerosA, putAll, optNat, sliceA, row, Int.reduceLT, Int.reduceLE, Int.reduceGT, Int.reduceGE, Int.reduceEq, Int.reduceNe, Int.reduceToNat, Int.reduceBEq, Int.reduceBNe, Nat.reduceLeDiff, Nat.reduceLT, Nat.reduceBNe, Nat.reduceGT, List.drop_nil, List.take_nil, Option.isSome_none, Int.ofNat_one, Int.ofNat_zero, o1, o2, o3, get_last, e3, ht.len, ht.snap, hsn, h85, c1', c2', e, Bool.not_true, Bool.and_false, Bool.false_and, Bool.false_eq_true]

theorem isveil25 {vt : AV} {t : List (List Int)} (ht : IsTab vt t) (hs : Small t) : freeX H (callL EV Y 25 [vt] []) = some (.bool (readOk t), H) := by
  obtain ⟨H', q, _⟩ := read64 (Y := Y) ht hs []
  rw [call25 rfl]
  simp only [F25B, SS, insA, wantedA, Opd.ev, putA, binA, eqbA, unA, fldA, partA, reduceIte, reduceCtorEq, Nat.reduceMod, Nat.reduceDiv, Nat.reduceBEq, resultA, resA, vI, Nat.reduceMul, Nat.reduceAdd, Nat.reduceSub, Nat.reduceEqDiff, Nat.reduceLT, Nat.reducePow, Nat.reduceLeDiff, st, Option.bind_eq_bind, Option.pure_def, List.length_nil, Int.cast_ofNat_Int, List.reverse_nil, UU, idxP, cellsAt, storeA, fillA, zerosA, putAll, optNat, sliceA, row, Int.reduceLT, Int.reduceLE, Int.reduceGT, Int.reduceGE, Int.reduceEq, Int.reduceNe, Int.reduceToNat, Int.reduceBEq, Int.reduceBNe, Nat.reduceLeDiff, Nat.reduceLT, Nat.reduceBNe, Nat.reduceGT, List.drop_nil, List.take_nil, Option.isSome_none, Int.ofNat_one, Int.ofNat_zero, q]
end
end Go.X
