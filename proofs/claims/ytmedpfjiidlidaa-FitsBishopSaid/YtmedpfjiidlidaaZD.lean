import Derived.Test.YtmedpfjiidlidaaZB
/-! A table's copy; the same rows; the law on gains. -/
set_option linter.unusedSimpArgs false
set_option linter.unusedVariables false
set_option maxHeartbeats 2000000
set_option maxRecDepth 10000
namespace Go.X
open Go Go.RowKit
section
variable {Y : Run} {H : Heap}

/-- A row in memory of its own. -/
def RowAt (H : Heap) (v : AV) (l : List Int) : Prop := ∃ id ver, v = .sl id ver 1 0 l.length none ∧ H[id]? = some ⟨ver, l.map vI⟩

theorem IsRow.content {v : AV} {l : List Int} (h : IsRow v l) : content H 1 v = some (l.map vI) := by
  cases h with
  | nil => rfl
  | imm sn l => simp only [Go.X.content]; rw [if_pos (by simp), List.take_of_length_le (by simp)]

theorem ones_all : ∀ (l : List Int), (l.map vI).all one = true
  | [] => rfl
  | x :: l => by rw [List.map_cons, List.all_cons, ones_all l]; rfl

/-- An empty list, to which a row is added. -/
theorem app_row {v : AV} {l : List Int} (h : IsRow v l) (hl : l.length ≤ 1000) :
    ∃ k, appA (H ++ [⟨0, []⟩]) 1 8 (.sl H.length 0 1 0 0 none) v = some (.sl H.length k 1 0 l.length none, H ++ [⟨k, l.map vI⟩]) := by
  have hc := h.content (H := H ++ [⟨0, []⟩])
  by_cases h0 : l.length = 0
  · have : l = [] := List.eq_nil_of_length_eq_zero h0
    subst this
    refine ⟨0, ?_⟩
    have h1 : lenA (.sl H.length 0 1 0 0 none) = some 0 := rfl
    simp only [appA, h.len, hc, h1]
    rw [if_pos (by rfl)]
    rfl
  · refine ⟨1, ?_⟩
    have h1 : lenA (.sl H.length 0 1 0 0 none) = some 0 := rfl
    simp only [appA, h.len, h1, hc]
    rw [if_neg h0, if_pos ⟨by omega, by omega, ones_all l⟩]
    simp

theorem L20 {vt : AV} {t : List (List Int)} (ht : IsTab vt t) (hs : Small t) (d : Nat) : ∀ (i : Nat) (v : AV) (cells : List AV) (R : Heap), i + d = t.length → Gro 0 1 R v i cells →
    (∀ j (h1 : j < i) (h2 : j < t.length), ∃ id ver, cells.getD j .undef = .sl id ver 1 0 t[j].length none ∧ R[id]? = some ⟨ver, t[j].map vI⟩ ∧ idOf v ≠ some id) →
    ∃ v' cells' R', lp E Y F20L0 (st 21 [(0, vt), (3, v), (4, vI i)]) R = some (.x 0, st 21 [(3, v')], R') ∧ Gro 0 1 R' v' t.length cells' ∧
      ∀ j (h2 : j < t.length), ∃ id ver, cells'.getD j .undef = .sl id ver 1 0 t[j].length none ∧ R'[id]? = some ⟨ver, t[j].map vI⟩ ∧ idOf v' ≠ some id := by
  induction d with
  | zero =>
    intro i v cells R hi hG hc
    have e : i = t.length := by omega
    subst e
    refine ⟨v, cells, R, ?_, hG, fun j h => hc j h h⟩
    rw [un20_0]
    simp only [F20L0b, SS, insA, wantedA, Opd.ev, putA, binA, eqbA, unA, fldA, partA, reduceIte, reduceCtorEq, Nat.reduceMod, Nat.reduceDiv, Nat.reduceBEq, resultA, resA, vI, Nat.reduceMul, Nat.reduceAdd, Nat.reduceSub, Nat.reduceEqDiff, Nat.reduceLT, Nat.reducePow, Nat.reduceLeDiff, st, Option.bind_eq_bind, Option.pure_def, List.length_nil, Int.cast_ofNat_Int, List.reverse_nil, UU, idxP, cellsAt, storeA, fillA, zerosA, putAll, optNat, sliceA, row, Int.reduceLT, Int.reduceLE, Int.reduceGT, Int.reduceGE, Int.reduceEq, Int.reduceNe, Int.reduceToNat, Int.reduceBEq, Int.reduceBNe, Nat.reduceLeDiff, Nat.reduceLT, Nat.reduceBNe, Nat.reduceGT, List.drop_nil, List.take_nil, Option.isSome_none, Int.ofNat_one, Int.ofNat_zero, ht.len, Int.lt_irrefl]
  | succ d ih =>
    intro i v cells R hi hG hc
    have hlt : i < t.length := by omega
    have h20 := hs.1
    have hci : (i : Int) < (t.length : Int) := by omega
    have hw := wrap_succ (n := i) (by omega)
    have hrow := ht.row hlt
    have hg : t.getD i [] = t[i] := by simp [List.getD_eq_getElem?_getD, hlt]
    rw [hg] at hrow
    have hrl := hs.2 t[i] (by simp)
    obtain ⟨k, a1⟩ := app_row (H := R) hrow (by omega)
    obtain ⟨v', H', g1, g2, g3, g4, g5⟩ := (hG.more ⟨k, t[i].map vI⟩).app2 (bytes := 24) (ys := [.sl R.length k 1 0 t[i].length none]) (by omega) rfl rfl (by omega) (by omega)
    have hlen : cells.length = i := by have := hG.1; omega
    have hid : ∀ j, idOf v = some j → j < R.length := fun j hj => hG.id_lt hj
    have hne : ∀ id, id < R.length + 1 → idOf v ≠ some id → idOf v' ≠ some id := by
      intro id h1 h2 h3
      rcases g5 with e | ⟨j, e, hj⟩
      · exact h2 (by rw [← e]; exact h3)
      · rw [e] at h3; cases h3; simp at hj; omega
    obtain ⟨w, cs, R', q1, q2, q3⟩ := ih (i + 1) v' (cells ++ [.sl R.length k 1 0 t[i].length none]) H' (by omega) g2 (by
      intro j h1 h2
      by_cases hj : j < i
      · obtain ⟨id, ver, e1, e2, e3⟩ := hc j hj h2
        have hlt2 : id < R.length := by
          rcases Nat.lt_or_ge id R.length with h | h
          · exact h
          · rw [List.getElem?_eq_none h] at e2; cases e2
        refine ⟨id, ver, ?_, ?_, hne id (by omega) e3⟩
        · rw [← e1]; simp [List.getD_eq_getElem?_getD, List.getElem?_append_left (show j < cells.length by omega)]
        · rw [g3 id (by simp; omega) e3, List.getElem?_append_left hlt2]; exact e2
      · have : j = i := by omega
        subst this
        have hn : idOf v ≠ some R.length := fun e => by have := hid _ e; omega
        refine ⟨R.length, k, ?_, ?_, hne _ (by omega) hn⟩
        · rw [List.getD_eq_getElem?_getD, List.getElem?_append_right (by omega), hlen]; simp
        · rw [g3 R.length (by simp) hn]; simp)
    refine ⟨w, cs, R', ?_, q2, q3⟩
    rw [un20_0]
    simp only [SS, insA, wantedA, Opd.ev, putA, binA, eqbA, unA, fldA, partA, reduceIte, reduceCtorEq, Nat.reduceMod, Nat.reduceDiv, Nat.reduceBEq, resultA, resA, vI, Nat.reduceMul, Nat.reduceAdd, Nat.reduceSub, Nat.reduceEqDiff, Nat.reduceLT, Nat.reducePow, Nat.reduceLeDiff, st, Option.bind_eq_bind, Option.pure_def, List.length_nil, Int.cast_ofNat_Int, List.reverse_nil] at q1 a1
    simp only [SS, insA, wantedA, Opd.ev, putA, binA, eqbA, unA, fldA, partA, reduceIte, reduceCtorEq, Nat.reduceMod, Nat.reduceDiv, Nat.reduceBEq, resultA, resA, vI, Nat.reduceMul, Nat.reduceAdd, Nat.reduceSub, Nat.reduceEqDiff, Nat.reduceLT, Nat.reducePow, Nat.reduceLeDiff, st, Option.bind_eq_bind, Option.pure_def, List.length_nil, Int.cast_ofNat_Int, List.reverse_nil, UU, idxP, cellsAt, storeA, fillA, zerosA, putAll, optNat, sliceA, row, Int.reduceLT, Int.reduceLE, Int.reduceGT, Int.reduceGE, Int.reduceEq, Int.reduceNe, Int.reduceToNat, Int.reduceBEq, Int.reduceBNe, Nat.reduceLeDiff, Nat.reduceLT, Nat.reduceBNe, Nat.reduceGT, List.drop_nil, List.take_nil, Option.isSome_none, Int.ofNat_one, Int.ofNat_zero, List.append_assoc, List.length_append] at g1
    simp only [F20L0b, SS, insA, wantedA, Opd.ev, putA, binA, eqbA, unA, fldA, partA, reduceIte, reduceCtorEq, Nat.reduceMod, Nat.reduceDiv, Nat.reduceBEq, resultA, resA, vI, Nat.reduceMul, Nat.reduceAdd, Nat.reduceSub, Nat.reduceEqDiff, Nat.reduceLT, Nat.reducePow, Nat.reduceLeDiff, st, Option.bind_eq_bind, Option.pure_def, List.length_nil, Int.cast_ofNat_Int, List.reverse_nil, UU, idxP, cellsAt, storeA, fillA, zerosA, putAll, optNat, sliceA, row, Int.reduceLT, Int.reduceLE, Int.reduceGT, Int.reduceGE, Int.reduceEq, Int.reduceNe, Int.reduceToNat, Int.reduceBEq, Int.reduceBNe, Nat.reduceLeDiff, Nat.reduceLT, Nat.reduceBNe, Nat.reduceGT, List.drop_nil, List.take_nil, Option.isSome_none, Int.ofNat_one, Int.ofNat_zero, ht.len, hci, hw, ht.idx hlt, ht.load hlt, a1, g1, q1]

theorem freeRow {l : List Int} {id ver d : Nat} (h : H[id]? = some ⟨ver, l.map vI⟩) : freeA H (d + 2) (.sl id ver 1 0 l.length none) = some (.imm false (l.map vI) l.length) := by
  rw [free_sl, h, freeS_some, if_pos (by simp), List.drop_zero, Nat.mul_one, List.take_of_length_le (by simp), mapM_free, freeB_some]

theorem mapM_rng {f : AV → Option AV} : ∀ (l : List AV) (g : Nat → AV), (∀ j, j < l.length → f (l.getD j .undef) = some (g j)) → l.mapM f = some ((List.range l.length).map g)
  | [], _, _ => rfl
  | c :: l, g, h => by
    have h0 := h 0 (by simp)
    have h1 := mapM_rng l (fun j => g (j + 1)) fun j hj => h (j + 1) (by simpa using hj)
    rw [mapM_cons', h1]
    have : f c = some (g 0) := h0
    rw [this]
    simp [consO, List.range_succ_eq_map, Function.comp_def]

theorem own20 {vt : AV} {t : List (List Int)} (ht : IsTab vt t) (hs : Small t) : ∃ w, IsTab w t ∧ ∀ H, freeX H (callL E Y 20 [vt] []) = some (w, H) := by
  obtain ⟨v', cs, R', q1, q2, q3⟩ := L20 (Y := Y) ht hs t.length 0 .nils [] [] (by omega) (Gro.nil _ _ _) (fun j h => by omega)
  have key : ∃ w, IsTab w t ∧ freeA R' 6 v' = some w := by
    obtain ⟨h1, ⟨h0, rfl⟩ | ⟨id, ver, _, rfl, hH⟩⟩ := q2
    · have : t = [] := List.eq_nil_of_length_eq_zero h0
      subst this
      exact ⟨.nils, .nil, rfl⟩
    · have hl : cs.length = t.length := by omega
      have hm := mapM_rng (f := freeA R' 5) cs (fun j => .imm false ((t.getD j []).map vI) (t.getD j []).length) (fun j hj => by
        obtain ⟨i2, v2, e1, e2, _⟩ := q3 j (by omega)
        have hg : t.getD j [] = t[j] := by simp [List.getD_eq_getElem?_getD, show j < t.length by omega]
        rw [e1, hg]
        exact freeRow (d := 3) e2)
      refine ⟨.imm false ((List.range cs.length).map fun j => .imm false ((t.getD j []).map vI) (t.getD j []).length) t.length, ?_, ?_⟩
      · refine .imm false _ t (by simp [hl]) fun i hi => ?_
        have : ((List.range cs.length).map fun j => AV.imm false ((t.getD j []).map vI) (t.getD j []).length).getD i .undef = .imm false ((t.getD i []).map vI) (t.getD i []).length := by
          simp [List.getD_eq_getElem?_getD, show i < cs.length by omega]
        rw [this]
        exact .imm false _
      · rw [show (6 : Nat) = 5 + 1 from rfl, free_sl, hH, freeS_some, if_pos (by simp; omega), List.drop_zero, List.take_of_length_le (by omega), hm, freeB_some]
  obtain ⟨w, hw, hf⟩ := key
  refine ⟨w, hw, fun H => ?_⟩
  rw [call20 rfl]
  simp only [SS, insA, wantedA, Opd.ev, putA, binA, eqbA, unA, fldA, partA, reduceIte, reduceCtorEq, Nat.reduceMod, Nat.reduceDiv, Nat.reduceBEq, resultA, resA, vI, Nat.reduceMul, Nat.reduceAdd, Nat.reduceSub, Nat.reduceEqDiff, Nat.reduceLT, Nat.reducePow, Nat.reduceLeDiff, st, Option.bind_eq_bind, Option.pure_def, List.length_nil, Int.cast_ofNat_Int, List.reverse_nil, Int.ofNat_zero] at q1
  simp only [F20B, F20T0, in20_0, SS, insA, wantedA, Opd.ev, putA, binA, eqbA, unA, fldA, partA, reduceIte, reduceCtorEq, Nat.reduceMod, Nat.reduceDiv, Nat.reduceBEq, resultA, resA, vI, Nat.reduceMul, Nat.reduceAdd, Nat.reduceSub, Nat.reduceEqDiff, Nat.reduceLT, Nat.reducePow, Nat.reduceLeDiff, st, Option.bind_eq_bind, Option.pure_def, List.length_nil, Int.cast_ofNat_Int, List.reverse_nil, UU, idxP, cellsAt, storeA, fillA, zerosA, putAll, optNat, sliceA, row, Int.reduceLT, Int.reduceLE, Int.reduceGT, Int.reduceGE, Int.reduceEq, Int.reduceNe, Int.reduceToNat, Int.reduceBEq, Int.reduceBNe, Nat.reduceLeDiff, Nat.reduceLT, Nat.reduceBNe, Nat.reduceGT, List.drop_nil, List.take_nil, Option.isSome_none, Int.ofNat_one, Int.ofNat_zero, q1, hf]

/-! ### The same rows -/
theorem L29_0 {v w : AV} {t : List (List Int)} (hv : IsTab v t) (hw : IsTab w t) {k : Nat} (hk : k < t.length) (hl : t[k].length ≤ 1000) (n : Nat) : ∀ (i : Nat), i + n = t[k].length →
    lp E Y F29L0 (st 53 [(0, v), (1, w), (5, vI k), (6, vI i)]) H = some (.x 2, st 53 [(0, v), (1, w), (5, vI k)], H) := by
  have hg : t.getD k [] = t[k] := by simp [List.getD_eq_getElem?_getD, hk]
  have r1 := hv.row hk
  have r2 := hw.row hk
  rw [hg] at r1 r2
  induction n with
  | zero =>
    intro i hi
    rw [un29_0]
    have : ¬ ((i : Int) < (t[k].length : Int)) := by omega
    simp only [F29L0b, SS, insA, wantedA, Opd.ev, putA, binA, eqbA, unA, fldA, partA, reduceIte, reduceCtorEq, Nat.reduceMod, Nat.reduceDiv, Nat.reduceBEq, resultA, resA, vI, Nat.reduceMul, Nat.reduceAdd, Nat.reduceSub, Nat.reduceEqDiff, Nat.reduceLT, Nat.reducePow, Nat.reduceLeDiff, st, Option.bind_eq_bind, Option.pure_def, List.length_nil, Int.cast_ofNat_Int, List.reverse_nil, UU, idxP, cellsAt, storeA, fillA, zerosA, putAll, optNat, sliceA, row, Int.reduceLT, Int.reduceLE, Int.reduceGT, Int.reduceGE, Int.reduceEq, Int.reduceNe, Int.reduceToNat, Int.reduceBEq, Int.reduceBNe, Nat.reduceLeDiff, Nat.reduceLT, Nat.reduceBNe, Nat.reduceGT, List.drop_nil, List.take_nil, Option.isSome_none, Int.ofNat_one, Int.ofNat_zero, hv.idx hk, hv.load hk, r1.len, this]
  | succ n ih =>
    intro i hi
    have hlt : i < t[k].length := by omega
    have hc : (i : Int) < (t[k].length : Int) := by omega
    have hww := wrap_succ (n := i) (by omega)
    have h3 := ih (i + 1) (by omega)
    rw [un29_0]
    simp only [SS, insA, wantedA, Opd.ev, putA, binA, eqbA, unA, fldA, partA, reduceIte, reduceCtorEq, Nat.reduceMod, Nat.reduceDiv, Nat.reduceBEq, resultA, resA, vI, Nat.reduceMul, Nat.reduceAdd, Nat.reduceSub, Nat.reduceEqDiff, Nat.reduceLT, Nat.reducePow, Nat.reduceLeDiff, st, Option.bind_eq_bind, Option.pure_def, List.length_nil, Int.cast_ofNat_Int, List.reverse_nil] at h3
    simp only [F29L0b, SS, insA, wantedA, Opd.ev, putA, binA, eqbA, unA, fldA, partA, reduceIte, reduceCtorEq, Nat.reduceMod, Nat.reduceDiv, Nat.reduceBEq, resultA, resA, vI, Nat.reduceMul, Nat.reduceAdd, Nat.reduceSub, Nat.reduceEqDiff, Nat.reduceLT, Nat.reducePow, Nat.reduceLeDiff, st, Option.bind_eq_bind, Option.pure_def, List.length_nil, Int.cast_ofNat_Int, List.reverse_nil, UU, idxP, cellsAt, storeA, fillA, zerosA, putAll, optNat, sliceA, row, Int.reduceLT, Int.reduceLE, Int.reduceGT, Int.reduceGE, Int.reduceEq, Int.reduceNe, Int.reduceToNat, Int.reduceBEq, Int.reduceBNe, Nat.reduceLeDiff, Nat.reduceLT, Nat.reduceBNe, Nat.reduceGT, List.drop_nil, List.take_nil, Option.isSome_none, Int.ofNat_one, Int.ofNat_zero, hv.idx hk, hv.load hk, hw.idx hk, hw.load hk, r1.len, r1.idx hlt, r1.load hlt, r2.idx hlt, r2.load hlt, hc, hww, bne_self_eq_false, h3]

theorem L29_1 {v w : AV} {t : List (List Int)} (hv : IsTab v t) (hw : IsTab w t) (hs : Small t) (n : Nat) : ∀ (i : Nat), i + n = t.length →
    lp E Y F29L1 (st 53 [(0, v), (1, w), (5, vI i)]) H = some (.x 0, st 53 [], H) := by
  have h20 := hs.1
  induction n with
  | zero =>
    intro i hi
    rw [un29_1]
    have : ¬ ((i : Int) < (t.length : Int)) := by omega
    simp only [F29L1b, F29T0, in29_0, SS, insA, wantedA, Opd.ev, putA, binA, eqbA, unA, fldA, partA, reduceIte, reduceCtorEq, Nat.reduceMod, Nat.reduceDiv, Nat.reduceBEq, resultA, resA, vI, Nat.reduceMul, Nat.reduceAdd, Nat.reduceSub, Nat.reduceEqDiff, Nat.reduceLT, Nat.reducePow, Nat.reduceLeDiff, st, Option.bind_eq_bind, Option.pure_def, List.length_nil, Int.cast_ofNat_Int, List.reverse_nil, UU, idxP, cellsAt, storeA, fillA, zerosA, putAll, optNat, sliceA, row, Int.reduceLT, Int.reduceLE, Int.reduceGT, Int.reduceGE, Int.reduceEq, Int.reduceNe, Int.reduceToNat, Int.reduceBEq, Int.reduceBNe, Nat.reduceLeDiff, Nat.reduceLT, Nat.reduceBNe, Nat.reduceGT, List.drop_nil, List.take_nil, Option.isSome_none, Int.ofNat_one, Int.ofNat_zero, hv.len, this]
  | succ n ih =>
    intro i hi
    have hlt : i < t.length := by omega
    have hc : (i : Int) < (t.length : Int) := by omega
    have hww := wrap_succ (n := i) (by omega)
    have hr := hs.2 t[i] (by simp)
    have h3 := ih (i + 1) (by omega)
    have h4 := L29_0 (Y := Y) (H := H) hv hw hlt (by omega) t[i].length 0 (by omega)
    have hg : t.getD i [] = t[i] := by simp [List.getD_eq_getElem?_getD, hlt]
    have r1 := hv.row hlt
    have r2 := hw.row hlt
    rw [hg] at r1 r2
    rw [un29_1]
    simp only [SS, insA, wantedA, Opd.ev, putA, binA, eqbA, unA, fldA, partA, reduceIte, reduceCtorEq, Nat.reduceMod, Nat.reduceDiv, Nat.reduceBEq, resultA, resA, vI, Nat.reduceMul, Nat.reduceAdd, Nat.reduceSub, Nat.reduceEqDiff, Nat.reduceLT, Nat.reducePow, Nat.reduceLeDiff, st, Option.bind_eq_bind, Option.pure_def, List.length_nil, Int.cast_ofNat_Int, List.reverse_nil, Int.ofNat_zero] at h3 h4
    simp only [F29L1b, F29T0, in29_0, SS, insA, wantedA, Opd.ev, putA, binA, eqbA, unA, fldA, partA, reduceIte, reduceCtorEq, Nat.reduceMod, Nat.reduceDiv, Nat.reduceBEq, resultA, resA, vI, Nat.reduceMul, Nat.reduceAdd, Nat.reduceSub, Nat.reduceEqDiff, Nat.reduceLT, Nat.reducePow, Nat.reduceLeDiff, st, Option.bind_eq_bind, Option.pure_def, List.length_nil, Int.cast_ofNat_Int, List.reverse_nil, UU, idxP, cellsAt, storeA, fillA, zerosA, putAll, optNat, sliceA, row, Int.reduceLT, Int.reduceLE, Int.reduceGT, Int.reduceGE, Int.reduceEq, Int.reduceNe, Int.reduceToNat, Int.reduceBEq, Int.reduceBNe, Nat.reduceLeDiff, Nat.reduceLT, Nat.reduceBNe, Nat.reduceGT, List.drop_nil, List.take_nil, Option.isSome_none, Int.ofNat_one, Int.ofNat_zero, hv.len, hv.idx hlt, hv.load hlt, hw.idx hlt, hw.load hlt, r1.len, r2.len, hc, hww, bne_self_eq_false, h3, h4]

theorem rows29 {v w : AV} {t : List (List Int)} (hv : IsTab v t) (hw : IsTab w t) (hs : Small t) : freeX H (callL E Y 29 [v, w] []) = some (.bool true, H) := by
  have h1 := L29_1 (Y := Y) (H := []) hv hw hs t.length 0 (by omega)
  rw [call29 rfl]
  simp only [SS, insA, wantedA, Opd.ev, putA, binA, eqbA, unA, fldA, partA, reduceIte, reduceCtorEq, Nat.reduceMod, Nat.reduceDiv, Nat.reduceBEq, resultA, resA, vI, Nat.reduceMul, Nat.reduceAdd, Nat.reduceSub, Nat.reduceEqDiff, Nat.reduceLT, Nat.reducePow, Nat.reduceLeDiff, st, Option.bind_eq_bind, Option.pure_def, List.length_nil, Int.cast_ofNat_Int, List.reverse_nil, Int.ofNat_zero] at h1
  simp only [F29B, F29T1, in29_1, SS, insA, wantedA, Opd.ev, putA, binA, eqbA, unA, fldA, partA, reduceIte, reduceCtorEq, Nat.reduceMod, Nat.reduceDiv, Nat.reduceBEq, resultA, resA, vI, Nat.reduceMul, Nat.reduceAdd, Nat.reduceSub, Nat.reduceEqDiff, Nat.reduceLT, Nat.reducePow, Nat.reduceLeDiff, st, Option.bind_eq_bind, Option.pure_def, List.length_nil, Int.cast_ofNat_Int, List.reverse_nil, UU, idxP, cellsAt, storeA, fillA, zerosA, putAll, optNat, sliceA, row, Int.reduceLT, Int.reduceLE, Int.reduceGT, Int.reduceGE, Int.reduceEq, Int.reduceNe, Int.reduceToNat, Int.reduceBEq, Int.reduceBNe, Nat.reduceLeDiff, Nat.reduceLT, Nat.reduceBNe, Nat.reduceGT, List.drop_nil, List.take_nil, Option.isSome_none, Int.ofNat_one, Int.ofNat_zero, hv.len, hw.len, bne_self_eq_false, h1]

theorem eqs_same {ks : List Bool} {a b : Int} : eqsA true [true, true] (.agg [vI a, vI b]) (.agg [vI a, vI b]) = some (.bool false) := by
  simp [eqsA, eqCells]

theorem law4 {vt xv yv : AV} {t : List (List Int)} {xs ys : List Int} {n dx dy : Int} (ht : IsTab vt t) (hx : IsRow xv xs) (hy : IsRow yv ys) : freeX [] (callL E Y 4 [vI n, vt, .agg [xv, vI dx], .agg [yv, vI dy]] []) = some (.bool true, []) := by
  obtain ⟨o1, o2, o3⟩ := hx.one
  obtain ⟨p1, p2, p3⟩ := hy.one
  have f := fun H => few15 (Y := Y) (H := H) ht (pts2 (s := true) (dx := dx) (dy := dy) hx hy) (by simp)
  have ha := fun H => alive16 (Y := Y) (H := H)
  rw [call4 rfl]
  by_cases hf : fewS t [(xs, dx), (ys, dy)]
  · have f1 := fun H => (f H).1 hf
    have hxl : xs.length ≤ 20 := hf.2 (xs, dx) (by simp)
    have hyl : ys.length ≤ 20 := hf.2 (ys, dy) (by simp)
    have hs := hf.1
    have ht1000 : t.length < 1000 := by have := hs.1; omega
    obtain ⟨u, hu, k0⟩ := own20 (Y := Y) ht hs
    have k1 := fun H => mix21 (Y := Y) (H := H) (n := n) (den := dx) hx hxl
    have k2 := fun H => mix22 (Y := Y) (H := H) (n := n) (den := dx) hx hxl
    have k3 := fun H => gain23 (Y := Y) (H := H) (dx := dx) (dy := dy) hu ht1000 hx hxl hy hyl
    have k4 := fun H => gain24 (Y := Y) (H := H) (dx := dx) (dy := dy) ht hs hx hxl hy hyl
    have k5 := fun H => rest25 (Y := Y) (H := H) (dx := dx) hu ht1000 hx hxl
    have k6 := fun H => rest26 (Y := Y) (H := H) (dx := dx) ht hs hx hxl
    have k7 := fun H => best27 (Y := Y) (H := H) (dx := dx) hu ht1000 hx hxl
    have k8 := fun H => best28 (Y := Y) (H := H) (dx := dx) ht hs hx hxl
    have k9 := fun H => rows29 (Y := Y) (H := H) hu ht hs
    obtain ⟨a, b, c, hgr⟩ : ∃ a b c, gainR t (xs, dx) (ys, dy) = .tup [.agg [vI a, vI b], vI c] := by
      unfold gainR ratA
      split
      · exact ⟨_, _, _, rfl⟩
      · exact ⟨_, _, _, rfl⟩
    have hq := eqs_same (ks := []) (a := a) (b := b)
    simp only [hgr] at k3 k4
    unfold err at k5 k6 k7 k8
    simp only [SS, insA, wantedA, Opd.ev, putA, binA, eqbA, unA, fldA, partA, reduceIte, reduceCtorEq, Nat.reduceMod, Nat.reduceDiv, Nat.reduceBEq, resultA, resA, vI, Nat.reduceMul, Nat.reduceAdd, Nat.reduceSub, Nat.reduceEqDiff, Nat.reduceLT, Nat.reducePow, Nat.reduceLeDiff, st, Option.bind_eq_bind, Option.pure_def, List.length_nil, Int.cast_ofNat_Int, List.reverse_nil] at f1 k0 k1 k2 k3 k4 k5 k6 k7 k8 k9 hq
    cases hb : askS t [(xs, dx)]
    all_goals
      simp only [hb] at k5 k6 k7 k8
      simp only [SS, insA, wantedA, Opd.ev, putA, binA, eqbA, unA, fldA, partA, reduceIte, reduceCtorEq, Nat.reduceMod, Nat.reduceDiv, Nat.reduceBEq, resultA, resA, vI, Nat.reduceMul, Nat.reduceAdd, Nat.reduceSub, Nat.reduceEqDiff, Nat.reduceLT, Nat.reducePow, Nat.reduceLeDiff, st, Option.bind_eq_bind, Option.pure_def, List.length_nil, Int.cast_ofNat_Int, List.reverse_nil] at k5 k6 k7 k8
      simp only [F4B, SS, insA, wantedA, Opd.ev, putA, binA, eqbA, unA, fldA, partA, reduceIte, reduceCtorEq, Nat.reduceMod, Nat.reduceDiv, Nat.reduceBEq, resultA, resA, vI, Nat.reduceMul, Nat.reduceAdd, Nat.reduceSub, Nat.reduceEqDiff, Nat.reduceLT, Nat.reducePow, Nat.reduceLeDiff, st, Option.bind_eq_bind, Option.pure_def, List.length_nil, Int.cast_ofNat_Int, List.reverse_nil, UU, idxP, cellsAt, storeA, fillA, zerosA, putAll, optNat, sliceA, row, Int.reduceLT, Int.reduceLE, Int.reduceGT, Int.reduceGE, Int.reduceEq, Int.reduceNe, Int.reduceToNat, Int.reduceBEq, Int.reduceBNe, Nat.reduceLeDiff, Nat.reduceLT, Nat.reduceBNe, Nat.reduceGT, List.drop_nil, List.take_nil, Option.isSome_none, Int.ofNat_one, Int.ofNat_zero, o1, o2, o3, p1, p2, p3, ht.snap, hu.snap, hx.snap, hy.snap, f1, k0, k1, k2, k3, k4, k5, k6, k7, k8, k9, ha, hq, get_last, set_last, bne_self_eq_false]
  · have f2 := fun H => (f H).2 hf
    simp only [F4B, SS, insA, wantedA, Opd.ev, putA, binA, eqbA, unA, fldA, partA, reduceIte, reduceCtorEq, Nat.reduceMod, Nat.reduceDiv, Nat.reduceBEq, resultA, resA, vI, Nat.reduceMul, Nat.reduceAdd, Nat.reduceSub, Nat.reduceEqDiff, Nat.reduceLT, Nat.reducePow, Nat.reduceLeDiff, st, Option.bind_eq_bind, Option.pure_def, List.length_nil, Int.cast_ofNat_Int, List.reverse_nil, UU, idxP, cellsAt, storeA, fillA, zerosA, putAll, optNat, sliceA, row, Int.reduceLT, Int.reduceLE, Int.reduceGT, Int.reduceGE, Int.reduceEq, Int.reduceNe, Int.reduceToNat, Int.reduceBEq, Int.reduceBNe, Nat.reduceLeDiff, Nat.reduceLT, Nat.reduceBNe, Nat.reduceGT, List.drop_nil, List.take_nil, Option.isSome_none, Int.ofNat_one, Int.ofNat_zero, o1, o2, o3, p1, p2, p3, ht.snap, hx.snap, hy.snap, f2, ha]
end
end Go.X
