import Derived.Test.YtmedpfjiidlidaaZG
/-! A table with a number added to a column: both ways. -/
set_option linter.unusedSimpArgs false
set_option linter.unusedVariables false
set_option maxHeartbeats 2000000
set_option maxRecDepth 10000
namespace Go.X
open Go Go.RowKit
section
variable {Y : Run} {H : Heap}

/-- A table that is being built. -/
def Built (R : Heap) (v : AV) (ls : List (List Int)) : Prop :=
  ∃ cells, Gro 0 1 R v ls.length cells ∧ ∀ j (h : j < ls.length), ∃ id ver, cells.getD j .undef = .sl id ver 1 0 ls[j].length none ∧ R[id]? = some ⟨ver, ls[j].map vI⟩ ∧ idOf v ≠ some id

theorem Built.nil (R : Heap) : Built R .nils [] := ⟨[], Gro.nil _ _ _, fun j h => by simp at h⟩

theorem Built.add {R : Heap} {v : AV} {ls : List (List Int)} (h : Built R v ls) (hl : ls.length ≤ 100) (k : Nat) (row : List Int) :
    ∃ v' H', appA (R ++ [⟨k, row.map vI⟩] ++ [⟨0, [.sl R.length k 1 0 row.length none]⟩]) 1 24 v (.sl (R ++ [(⟨k, row.map vI⟩ : Ob)]).length 0 1 0 1 none) = some (v', H') ∧ Built H' v' (ls ++ [row]) := by
  obtain ⟨cells, hG, hc⟩ := h
  obtain ⟨v', H', g1, g2, g3, g4, g5⟩ := (hG.more ⟨k, row.map vI⟩).app2 (bytes := 24) (ys := [.sl R.length k 1 0 row.length none]) (by omega) rfl rfl (by omega) (by omega)
  have hlen : cells.length = ls.length := by have := hG.1; omega
  have hid : ∀ j, idOf v = some j → j < R.length := fun j hj => hG.id_lt hj
  have hne : ∀ id, id < R.length + 1 → idOf v ≠ some id → idOf v' ≠ some id := by
    intro id h1 h2 h3
    rcases g5 with e | ⟨j, e, hj⟩
    · exact h2 (by rw [← e]; exact h3)
    · rw [e] at h3; cases h3; simp at hj; omega
  refine ⟨v', H', g1, cells ++ [.sl R.length k 1 0 row.length none], by simpa using g2, fun j h2 => ?_⟩
  by_cases hj : j < ls.length
  · obtain ⟨id, ver, e1, e2, e3⟩ := hc j hj
    have hlt2 : id < R.length := by
      rcases Nat.lt_or_ge id R.length with h | h
      · exact h
      · rw [List.getElem?_eq_none h] at e2; cases e2
    refine ⟨id, ver, ?_, ?_, hne id (by omega) e3⟩
    · rw [List.getElem_append_left hj, ← e1]; simp [List.getD_eq_getElem?_getD, List.getElem?_append_left (show j < cells.length by omega)]
    · rw [List.getElem_append_left hj, g3 id (by simp; omega) e3, List.getElem?_append_left hlt2]; exact e2
  · have hj : j = ls.length := by simp at h2; omega
    subst hj
    have hn : idOf v ≠ some R.length := fun e => by have := hid _ e; omega
    refine ⟨R.length, k, ?_, ?_, hne _ (by omega) hn⟩
    · rw [List.getD_eq_getElem?_getD, List.getElem?_append_right (by omega), hlen]; simp
    · rw [g3 R.length (by simp) hn]; simp

theorem snapRow {l : List Int} {id ver d : Nat} (h : H[id]? = some ⟨ver, l.map vI⟩) : snapA H (d + 2) (.sl id ver 1 0 l.length none) = some (.imm true (l.map vI) l.length) := by
  rw [snap_sl, h, snapS_some, if_pos (by simp), List.drop_zero, Nat.mul_one, List.take_of_length_le (by simp), mapM_snap, snapB_some]

theorem tab_of_rows {s : Bool} (ls : List (List Int)) (n : Nat) (hn : n = ls.length) : IsTab (.imm s ((List.range n).map fun j => .imm s ((ls.getD j []).map vI) (ls.getD j []).length) ls.length) ls := by
  subst hn
  refine .imm s _ ls (by simp) fun i hi => ?_
  have : ((List.range ls.length).map fun j => AV.imm s ((ls.getD j []).map vI) (ls.getD j []).length).getD i .undef = .imm s ((ls.getD i []).map vI) (ls.getD i []).length := by
    simp [List.getD_eq_getElem?_getD, hi]
  rw [this]
  exact .imm s _

theorem Built.out {R : Heap} {v : AV} {ls : List (List Int)} (h : Built R v ls) (f : Bool) : ∃ w, IsTab w ls ∧ (if f then freeA R 5 v = some w ∧ freeA R 6 v = some w else snapA R 5 v = some w ∧ snapA R 6 v = some w) := by
  obtain ⟨cs, ⟨h1, ⟨h0, rfl⟩ | ⟨id, ver, _, rfl, hH⟩⟩, q3⟩ := h
  · have : ls = [] := List.eq_nil_of_length_eq_zero h0
    subst this
    refine ⟨.nils, .nil, ?_⟩
    cases f <;> exact ⟨rfl, rfl⟩
  · have hl : cs.length = ls.length := by omega
    have hg : ∀ j, j < ls.length → ls.getD j [] = ls[j]! := fun j hj => by simp [List.getD_eq_getElem?_getD, hj]
    have hm : ∀ d, cs.mapM (freeA R (d + 2)) = some ((List.range cs.length).map fun j => .imm false ((ls.getD j []).map vI) (ls.getD j []).length) := fun d => mapM_rng cs _ fun j hj => by
      obtain ⟨i2, v2, e1, e2, _⟩ := q3 j (by omega)
      have hg : ls.getD j [] = ls[j] := by simp [List.getD_eq_getElem?_getD, show j < ls.length by omega]
      rw [e1, hg]
      exact freeRow e2
    have hm2 : ∀ d, cs.mapM (snapA R (d + 2)) = some ((List.range cs.length).map fun j => .imm true ((ls.getD j []).map vI) (ls.getD j []).length) := fun d => mapM_rng cs _ fun j hj => by
      obtain ⟨i2, v2, e1, e2, _⟩ := q3 j (by omega)
      have hg : ls.getD j [] = ls[j] := by simp [List.getD_eq_getElem?_getD, show j < ls.length by omega]
      rw [e1, hg]
      exact snapRow e2
    cases f
    · refine ⟨_, tab_of_rows (s := true) ls cs.length hl, ?_, ?_⟩
      · rw [show (5 : Nat) = 4 + 1 from rfl, snap_sl, hH, snapS_some, if_pos (by simp; omega), List.drop_zero, List.take_of_length_le (by omega), hm2, snapB_some]
      · rw [show (6 : Nat) = 5 + 1 from rfl, snap_sl, hH, snapS_some, if_pos (by simp; omega), List.drop_zero, List.take_of_length_le (by omega), hm2, snapB_some]
    · refine ⟨_, tab_of_rows (s := false) ls cs.length hl, ?_, ?_⟩
      · rw [show (5 : Nat) = 4 + 1 from rfl, free_sl, hH, freeS_some, if_pos (by simp; omega), List.drop_zero, List.take_of_length_le (by omega), hm, freeB_some]
      · rw [show (6 : Nat) = 5 + 1 from rfl, free_sl, hH, freeS_some, if_pos (by simp; omega), List.drop_zero, List.take_of_length_le (by omega), hm, freeB_some]

/-! ### A copy whose number is changed -/
theorem clone64 {v : AV} {l : List Int} (h : IsRow v l) (h0 : 0 < l.length) (hl : l.length ≤ 1000) : callA (callL E2 Y) 2 64 [v] H = some (.sl H.length 1 1 0 l.length none, H ++ [⟨1, l.map vI⟩]) := by
  have hs : [v].mapM (snapA H depth) = some [v] := by rw [mapM_cons', mapM_none', show depth = 5 + 1 from rfl, h.snap]; rfl
  have hr : callL E2 Y 64 [v] [] = some (.sl 0 1 1 0 l.length none, [⟨1, l.map vI⟩]) := by
    have ha : appA [⟨0, []⟩] 1 8 (.sl 0 0 1 0 0 none) v = some (.sl 0 1 1 0 l.length none, [⟨1, l.map vI⟩]) := by
      have hc := h.content (H := [⟨0, []⟩])
      have h1 : lenA (.sl 0 0 1 0 0 none) = some 0 := rfl
      simp only [appA, h.len, h1, hc]
      rw [if_neg (by omega), if_pos ⟨by omega, by omega, ones_all l⟩]
      simp
    have he : eqnA false v = some (.bool false) := by
      cases h with
      | nil => simp at h0
      | imm sn l =>
        cases l with
        | nil => simp at h0
        | cons x l => rfl
    rw [call64 rfl]
    simp only [F64B, SS, insA, wantedA, Opd.ev, putA, binA, eqbA, unA, fldA, partA, reduceIte, reduceCtorEq, Nat.reduceMod, Nat.reduceDiv, Nat.reduceBEq, resultA, resA, vI, Nat.reduceMul, Nat.reduceAdd, Nat.reduceSub, Nat.reduceEqDiff, Nat.reduceLT, Nat.reducePow, Nat.reduceLeDiff, st, Option.bind_eq_bind, Option.pure_def, List.length_nil, Int.cast_ofNat_Int, List.reverse_nil, UU, idxP, cellsAt, storeA, fillA, zerosA, putAll, optNat, sliceA, row, Int.reduceLT, Int.reduceLE, Int.reduceGT, Int.reduceGE, Int.reduceEq, Int.reduceNe, Int.reduceToNat, Int.reduceBEq, Int.reduceBNe, Nat.reduceLeDiff, Nat.reduceLT, Nat.reduceBNe, Nat.reduceGT, List.drop_nil, List.take_nil, Option.isSome_none, Int.ofNat_one, Int.ofNat_zero, he, ha]
  have hsh : ∀ (n d : Nat) (l : List Int), (l.map vI).mapM (shiftA n (d + 1)) = some (l.map vI) := by
    intro n d l
    induction l with
    | nil => rfl
    | cons x l ih => rw [List.map_cons, mapM_cons', ih]; rfl
  have s1 : shiftA H.length depth (.sl 0 1 1 0 l.length none) = some (.sl (0 + H.length) 1 1 0 l.length none) := rfl
  have s2 : [(⟨1, l.map vI⟩ : Ob)].mapM (shiftO H.length) = some [⟨1, l.map vI⟩] := by
    have : shiftO H.length ⟨1, l.map vI⟩ = some ⟨1, l.map vI⟩ := by simp only [shiftO]; rw [show depth = 5 + 1 from rfl, hsh]
    simp [this]
  simp only [callA, hs, hr, s1, s2, Nat.zero_add]

def inT (x : Int) : Prop := -20 ≤ x ∧ x ≤ 20
instance (x : Int) : Decidable (inT x) := by unfold inT; exact inferInstance
/-- A row with a number added at a place. -/
def addAt (c : Nat) (b : Int) (r : List Int) : List Int := r.set c (r.getD c 0 + b)
def goodAt (c : Nat) (b : Int) (r : List Int) : Prop := inT (r.getD c 0 + b)
instance (c : Nat) (b : Int) (r : List Int) : Decidable (goodAt c b r) := by unfold goodAt; exact inferInstance

theorem take_row {l : List Int} {c : Nat} (h : c < l.length) : List.take 1 (List.drop c (l.map vI)) = [vI (l.getD c 0)] := by
  rw [List.drop_eq_getElem_cons (by simpa using h)]
  simp [List.getD_eq_getElem?_getD, h]

theorem L40 {vt : AV} {t : List (List Int)} {c : Nat} {b : Int} {a1 : AV} (ht : IsTab vt t) (hok : okTab t) (hc : c < t.length) (hb : -40 ≤ b ∧ b ≤ 40) (d : Nat) : ∀ (i : Nat) (v : AV) (R : Heap), i + d = t.length → Built R v ((t.take i).map (addAt c b)) →
    ((∀ r ∈ t.drop i, goodAt c b r) → ∃ v' R', lp E2 Y F40L0 (st 71 [(1, vI c), (2, vI b), (10, v), (38, vt), (39, vI t.length), (40, vI i)]) R = some (.x 0, st 71 [(10, v')], R') ∧ Built R' v' (t.map (addAt c b))) ∧
    ((¬ ∀ r ∈ t.drop i, goodAt c b r) → ∃ R', lp E2 Y F40L0 (st 71 [(1, vI c), (2, vI b), (10, v), (38, vt), (39, vI t.length), (40, vI i)]) R = some (.r, st 71 [(6, .nils), (7, vI 2)], R')) := by
  induction d with
  | zero =>
    intro i v R hi hB
    rw [List.drop_eq_nil_of_le (by omega)]
    rw [List.take_of_length_le (by omega)] at hB
    refine ⟨fun _ => ⟨v, R, ?_, hB⟩, fun h => (h (by simp)).elim⟩
    rw [un40_0]
    have : ¬ ((i : Int) < (t.length : Int)) := by omega
    simp only [F40L0b, SS, insA, wantedA, Opd.ev, putA, binA, eqbA, unA, fldA, partA, reduceIte, reduceCtorEq, Nat.reduceMod, Nat.reduceDiv, Nat.reduceBEq, resultA, resA, vI, Nat.reduceMul, Nat.reduceAdd, Nat.reduceSub, Nat.reduceEqDiff, Nat.reduceLT, Nat.reducePow, Nat.reduceLeDiff, st, Option.bind_eq_bind, Option.pure_def, List.length_nil, Int.cast_ofNat_Int, List.reverse_nil, UU, idxP, cellsAt, storeA, fillA, zerosA, putAll, optNat, sliceA, row, Int.reduceLT, Int.reduceLE, Int.reduceGT, Int.reduceGE, Int.reduceEq, Int.reduceNe, Int.reduceToNat, Int.reduceBEq, Int.reduceBNe, Nat.reduceLeDiff, Nat.reduceLT, Nat.reduceBNe, Nat.reduceGT, List.drop_nil, List.take_nil, Option.isSome_none, Int.ofNat_one, Int.ofNat_zero, this]
  | succ d ih =>
    intro i v R hi hB
    have hlt : i < t.length := by omega
    have h3 := hok.2.1
    have hci : (i : Int) < (t.length : Int) := by omega
    have hw := wrap_succ (n := i) (by omega)
    have hrow := ht.row hlt
    have hg : t.getD i [] = t[i] := by simp [List.getD_eq_getElem?_getD, hlt]
    rw [hg] at hrow
    have hrl := hok.rows t[i] (by simp)
    have hin := hok.tame t[i] (by simp)
    have hcr : c < t[i].length := by omega
    have hx : -20 ≤ t[i].getD c 0 ∧ t[i].getD c 0 ≤ 20 := by
      have : t[i].getD c 0 = t[i][c] := by simp [List.getD_eq_getElem?_getD, hcr]
      rw [this]; exact hin _ (by simp)
    have w1 : IntKind.wrap .i64 (t[i].getD c 0 + b) = t[i].getD c 0 + b := wrap_id (by omega) (by omega)
    have k1 := clone64 (Y := Y) (H := R) hrow (by omega) (by omega)
    have hcl : c + 1 ≤ t[i].length := hcr
    have hcz : (c : Int) < (t[i].length : Int) := by omega
    have e2 := take_row hcr
    have e3 : (t[i].map vI).set c (.int .i64 (t[i].getD c 0 + b)) = (t[i].set c (t[i].getD c 0 + b)).map vI := by simp [List.map_set]
    have e4 := take_row (l := t[i].set c (t[i].getD c 0 + b)) (c := c) (by simpa using hcr)
    have e5 : (t[i].set c (t[i].getD c 0 + b)).getD c 0 = t[i].getD c 0 + b := by simp [List.getD_eq_getElem?_getD, hcr]
    rw [e5] at e4
    rw [un40_0, List.drop_eq_getElem_cons hlt]
    simp only [List.mem_cons, forall_eq_or_imp]
    by_cases cg : goodAt c b t[i]
    · have hgd : -20 ≤ t[i].getD c 0 + b ∧ t[i].getD c 0 + b ≤ 20 := cg
      obtain ⟨v', H', g1, g2⟩ := hB.add (by simp; omega) 1 (addAt c b t[i])
      have hB' : Built H' v' ((t.take (i + 1)).map (addAt c b)) := by
        rw [List.take_succ_eq_append_getElem hlt, List.map_append]; exact g2
      obtain ⟨i1, i2⟩ := ih (i + 1) v' H' (by omega) hB'
      have hal : (addAt c b t[i]).length = t[i].length := by simp [addAt]
      rw [hal] at g1
      have q1 : ¬ t[i].getD c 0 + b < -20 := by omega
      have q2 : ¬ t[i].getD c 0 + b > 20 := by omega
      unfold addAt at g1
      simp only [SS, insA, wantedA, Opd.ev, putA, binA, eqbA, unA, fldA, partA, reduceIte, reduceCtorEq, Nat.reduceMod, Nat.reduceDiv, Nat.reduceBEq, resultA, resA, vI, Nat.reduceMul, Nat.reduceAdd, Nat.reduceSub, Nat.reduceEqDiff, Nat.reduceLT, Nat.reducePow, Nat.reduceLeDiff, st, Option.bind_eq_bind, Option.pure_def, List.length_nil, Int.cast_ofNat_Int, List.reverse_nil] at k1 e2 e4
      simp only [SS, insA, wantedA, Opd.ev, putA, binA, eqbA, unA, fldA, partA, reduceIte, reduceCtorEq, Nat.reduceMod, Nat.reduceDiv, Nat.reduceBEq, resultA, resA, vI, Nat.reduceMul, Nat.reduceAdd, Nat.reduceSub, Nat.reduceEqDiff, Nat.reduceLT, Nat.reducePow, Nat.reduceLeDiff, st, Option.bind_eq_bind, Option.pure_def, List.length_nil, Int.cast_ofNat_Int, List.reverse_nil, UU, idxP, cellsAt, storeA, fillA, zerosA, putAll, optNat, sliceA, row, Int.reduceLT, Int.reduceLE, Int.reduceGT, Int.reduceGE, Int.reduceEq, Int.reduceNe, Int.reduceToNat, Int.reduceBEq, Int.reduceBNe, Nat.reduceLeDiff, Nat.reduceLT, Nat.reduceBNe, Nat.reduceGT, List.drop_nil, List.take_nil, Option.isSome_none, Int.ofNat_one, Int.ofNat_zero, List.append_assoc, List.length_append] at g1
      refine ⟨fun h => ?_, fun h => ?_⟩
      · obtain ⟨v2, R2, r1, r2⟩ := i1 h.2
        refine ⟨v2, R2, ?_, r2⟩
        simp only [SS, insA, wantedA, Opd.ev, putA, binA, eqbA, unA, fldA, partA, reduceIte, reduceCtorEq, Nat.reduceMod, Nat.reduceDiv, Nat.reduceBEq, resultA, resA, vI, Nat.reduceMul, Nat.reduceAdd, Nat.reduceSub, Nat.reduceEqDiff, Nat.reduceLT, Nat.reducePow, Nat.reduceLeDiff, st, Option.bind_eq_bind, Option.pure_def, List.length_nil, Int.cast_ofNat_Int, List.reverse_nil] at r1
        simp only [F40L0b, SS, insA, wantedA, Opd.ev, putA, binA, eqbA, unA, fldA, partA, reduceIte, reduceCtorEq, Nat.reduceMod, Nat.reduceDiv, Nat.reduceBEq, resultA, resA, vI, Nat.reduceMul, Nat.reduceAdd, Nat.reduceSub, Nat.reduceEqDiff, Nat.reduceLT, Nat.reducePow, Nat.reduceLeDiff, st, Option.bind_eq_bind, Option.pure_def, List.length_nil, Int.cast_ofNat_Int, List.reverse_nil, UU, idxP, cellsAt, storeA, fillA, zerosA, putAll, optNat, sliceA, row, Int.reduceLT, Int.reduceLE, Int.reduceGT, Int.reduceGE, Int.reduceEq, Int.reduceNe, Int.reduceToNat, Int.reduceBEq, Int.reduceBNe, Nat.reduceLeDiff, Nat.reduceLT, Nat.reduceBNe, Nat.reduceGT, List.drop_nil, List.take_nil, Option.isSome_none, Int.ofNat_one, Int.ofNat_zero, hci, hw, ht.idx hlt, ht.load hlt, k1, Int.natCast_nonneg, Int.toNat_natCast, hcr, hcl, List.length_map, List.length_set, get_last, set_last, e2, e3, e4, w1, q1, q2, decide_false, BEq.rfl, g1, r1]
      · obtain ⟨R2, r1⟩ := i2 (fun h2 => h ⟨cg, h2⟩)
        refine ⟨R2, ?_⟩
        simp only [SS, insA, wantedA, Opd.ev, putA, binA, eqbA, unA, fldA, partA, reduceIte, reduceCtorEq, Nat.reduceMod, Nat.reduceDiv, Nat.reduceBEq, resultA, resA, vI, Nat.reduceMul, Nat.reduceAdd, Nat.reduceSub, Nat.reduceEqDiff, Nat.reduceLT, Nat.reducePow, Nat.reduceLeDiff, st, Option.bind_eq_bind, Option.pure_def, List.length_nil, Int.cast_ofNat_Int, List.reverse_nil] at r1
        simp only [F40L0b, SS, insA, wantedA, Opd.ev, putA, binA, eqbA, unA, fldA, partA, reduceIte, reduceCtorEq, Nat.reduceMod, Nat.reduceDiv, Nat.reduceBEq, resultA, resA, vI, Nat.reduceMul, Nat.reduceAdd, Nat.reduceSub, Nat.reduceEqDiff, Nat.reduceLT, Nat.reducePow, Nat.reduceLeDiff, st, Option.bind_eq_bind, Option.pure_def, List.length_nil, Int.cast_ofNat_Int, List.reverse_nil, UU, idxP, cellsAt, storeA, fillA, zerosA, putAll, optNat, sliceA, row, Int.reduceLT, Int.reduceLE, Int.reduceGT, Int.reduceGE, Int.reduceEq, Int.reduceNe, Int.reduceToNat, Int.reduceBEq, Int.reduceBNe, Nat.reduceLeDiff, Nat.reduceLT, Nat.reduceBNe, Nat.reduceGT, List.drop_nil, List.take_nil, Option.isSome_none, Int.ofNat_one, Int.ofNat_zero, hci, hw, ht.idx hlt, ht.load hlt, k1, Int.natCast_nonneg, Int.toNat_natCast, hcr, hcl, List.length_map, List.length_set, get_last, set_last, e2, e3, e4, w1, q1, q2, decide_false, BEq.rfl, g1, r1]
    · refine ⟨fun h => (cg h.1).elim, fun _ => ?_⟩
      simp only [SS, insA, wantedA, Opd.ev, putA, binA, eqbA, unA, fldA, partA, reduceIte, reduceCtorEq, Nat.reduceMod, Nat.reduceDiv, Nat.reduceBEq, resultA, resA, vI, Nat.reduceMul, Nat.reduceAdd, Nat.reduceSub, Nat.reduceEqDiff, Nat.reduceLT, Nat.reducePow, Nat.reduceLeDiff, st, Option.bind_eq_bind, Option.pure_def, List.length_nil, Int.cast_ofNat_Int, List.reverse_nil] at k1 e2 e4
      by_cases q1 : t[i].getD c 0 + b < -20
      · exact ⟨_, by simp only [F40L0b, SS, insA, wantedA, Opd.ev, putA, binA, eqbA, unA, fldA, partA, reduceIte, reduceCtorEq, Nat.reduceMod, Nat.reduceDiv, Nat.reduceBEq, resultA, resA, vI, Nat.reduceMul, Nat.reduceAdd, Nat.reduceSub, Nat.reduceEqDiff, Nat.reduceLT, Nat.reducePow, Nat.reduceLeDiff, st, Option.bind_eq_bind, Option.pure_def, List.length_nil, Int.cast_ofNat_Int, List.reverse_nil, UU, idxP, cellsAt, storeA, fillA, zerosA, putAll, optNat, sliceA, row, Int.reduceLT, Int.reduceLE, Int.reduceGT, Int.reduceGE, Int.reduceEq, Int.reduceNe, Int.reduceToNat, Int.reduceBEq, Int.reduceBNe, Nat.reduceLeDiff, Nat.reduceLT, Nat.reduceBNe, Nat.reduceGT, List.drop_nil, List.take_nil, Option.isSome_none, Int.ofNat_one, Int.ofNat_zero, hci, hw, ht.idx hlt, ht.load hlt, k1, Int.natCast_nonneg, Int.toNat_natCast, hcr, hcl, List.length_map, List.length_set, get_last, set_last, e2, e3, e4, w1, q1, decide_true, BEq.rfl]; rfl⟩
      · have q2 : t[i].getD c 0 + b > 20 := by
          rcases Int.lt_or_le 20 (t[i].getD c 0 + b) with h | h
          · exact h
          · exact (cg ⟨by omega, h⟩).elim
        exact ⟨_, by simp only [F40L0b, SS, insA, wantedA, Opd.ev, putA, binA, eqbA, unA, fldA, partA, reduceIte, reduceCtorEq, Nat.reduceMod, Nat.reduceDiv, Nat.reduceBEq, resultA, resA, vI, Nat.reduceMul, Nat.reduceAdd, Nat.reduceSub, Nat.reduceEqDiff, Nat.reduceLT, Nat.reducePow, Nat.reduceLeDiff, st, Option.bind_eq_bind, Option.pure_def, List.length_nil, Int.cast_ofNat_Int, List.reverse_nil, UU, idxP, cellsAt, storeA, fillA, zerosA, putAll, optNat, sliceA, row, Int.reduceLT, Int.reduceLE, Int.reduceGT, Int.reduceGE, Int.reduceEq, Int.reduceNe, Int.reduceToNat, Int.reduceBEq, Int.reduceBNe, Nat.reduceLeDiff, Nat.reduceLT, Nat.reduceBNe, Nat.reduceGT, List.drop_nil, List.take_nil, Option.isSome_none, Int.ofNat_one, Int.ofNat_zero, hci, hw, ht.idx hlt, ht.load hlt, k1, Int.natCast_nonneg, Int.toNat_natCast, hcr, hcl, List.length_map, List.length_set, get_last, set_last, e2, e3, e4, w1, q1, q2, decide_true, decide_false, BEq.rfl]; rfl⟩

def shiftC (t : List (List Int)) (c b : Int) : Prop := okTab t ∧ 0 ≤ c ∧ c < t.length ∧ -40 ≤ b ∧ b ≤ 40 ∧ ∀ r ∈ t, goodAt c.toNat b r
instance (t : List (List Int)) (c b : Int) : Decidable (shiftC t c b) := by unfold shiftC; exact inferInstance
def shiftL (t : List (List Int)) (c b : Int) : List (List Int) × Int := if shiftC t c b then (t.map (addAt c.toNat b), 0) else ([], 2)

theorem shifted40 {vt : AV} {t : List (List Int)} {c b : Int} (ht : IsTab vt t) (hs : Small t) : ∃ w, IsTab w (shiftL t c b).1 ∧ ∀ H, freeX H (callL E2 Y 40 [vt, vI c, vI b] []) = some (.tup [w, vI (shiftL t c b).2], H) := by
  have r := callL_up (Y := Y) E2_up (read47 (Y := noRun) (H := []) ht (by have := hs.1; omega))
  have no : ¬ shiftC t c b → shiftL t c b = ([], 2) := fun h => by unfold shiftL; rw [if_neg h]
  have nil : (¬ shiftC t c b → ∀ H, freeX H (callL E2 Y 40 [vt, vI c, vI b] []) = some (.tup [.nils, vI 2], H)) → ¬ shiftC t c b → ∃ w, IsTab w (shiftL t c b).1 ∧ ∀ H, freeX H (callL E2 Y 40 [vt, vI c, vI b] []) = some (.tup [w, vI (shiftL t c b).2], H) := by
    intro h hn
    rw [no hn]
    exact ⟨.nils, .nil, h hn⟩
  by_cases hok : okTab t
  · simp only [hok, if_true, decide_true] at r
    by_cases c1 : c < 0
    · refine nil (fun _ H => ?_) (fun h => by have := h.2.1; omega)
      rw [call40 rfl]
      simp only [F40B, SS, insA, wantedA, Opd.ev, putA, binA, eqbA, unA, fldA, partA, reduceIte, reduceCtorEq, Nat.reduceMod, Nat.reduceDiv, Nat.reduceBEq, resultA, resA, vI, Nat.reduceMul, Nat.reduceAdd, Nat.reduceSub, Nat.reduceEqDiff, Nat.reduceLT, Nat.reducePow, Nat.reduceLeDiff, st, Option.bind_eq_bind, Option.pure_def, List.length_nil, Int.cast_ofNat_Int, List.reverse_nil, UU, idxP, cellsAt, storeA, fillA, zerosA, putAll, optNat, sliceA, row, Int.reduceLT, Int.reduceLE, Int.reduceGT, Int.reduceGE, Int.reduceEq, Int.reduceNe, Int.reduceToNat, Int.reduceBEq, Int.reduceBNe, Nat.reduceLeDiff, Nat.reduceLT, Nat.reduceBNe, Nat.reduceGT, List.drop_nil, List.take_nil, Option.isSome_none, Int.ofNat_one, Int.ofNat_zero, r, c1, decide_true, BEq.rfl]
    by_cases c2 : c ≥ (t.length : Int)
    · refine nil (fun _ H => ?_) (fun h => by have := h.2.2.1; omega)
      rw [call40 rfl]
      simp only [F40B, SS, insA, wantedA, Opd.ev, putA, binA, eqbA, unA, fldA, partA, reduceIte, reduceCtorEq, Nat.reduceMod, Nat.reduceDiv, Nat.reduceBEq, resultA, resA, vI, Nat.reduceMul, Nat.reduceAdd, Nat.reduceSub, Nat.reduceEqDiff, Nat.reduceLT, Nat.reducePow, Nat.reduceLeDiff, st, Option.bind_eq_bind, Option.pure_def, List.length_nil, Int.cast_ofNat_Int, List.reverse_nil, UU, idxP, cellsAt, storeA, fillA, zerosA, putAll, optNat, sliceA, row, Int.reduceLT, Int.reduceLE, Int.reduceGT, Int.reduceGE, Int.reduceEq, Int.reduceNe, Int.reduceToNat, Int.reduceBEq, Int.reduceBNe, Nat.reduceLeDiff, Nat.reduceLT, Nat.reduceBNe, Nat.reduceGT, List.drop_nil, List.take_nil, Option.isSome_none, Int.ofNat_one, Int.ofNat_zero, r, ht.len, c1, c2, decide_true, decide_false, BEq.rfl]
    by_cases c3 : b < -40
    · refine nil (fun _ H => ?_) (fun h => by have := h.2.2.2.1; omega)
      rw [call40 rfl]
      simp only [F40B, SS, insA, wantedA, Opd.ev, putA, binA, eqbA, unA, fldA, partA, reduceIte, reduceCtorEq, Nat.reduceMod, Nat.reduceDiv, Nat.reduceBEq, resultA, resA, vI, Nat.reduceMul, Nat.reduceAdd, Nat.reduceSub, Nat.reduceEqDiff, Nat.reduceLT, Nat.reducePow, Nat.reduceLeDiff, st, Option.bind_eq_bind, Option.pure_def, List.length_nil, Int.cast_ofNat_Int, List.reverse_nil, UU, idxP, cellsAt, storeA, fillA, zerosA, putAll, optNat, sliceA, row, Int.reduceLT, Int.reduceLE, Int.reduceGT, Int.reduceGE, Int.reduceEq, Int.reduceNe, Int.reduceToNat, Int.reduceBEq, Int.reduceBNe, Nat.reduceLeDiff, Nat.reduceLT, Nat.reduceBNe, Nat.reduceGT, List.drop_nil, List.take_nil, Option.isSome_none, Int.ofNat_one, Int.ofNat_zero, r, ht.len, c1, c2, c3, decide_true, decide_false, BEq.rfl]
    by_cases c4 : b > 40
    · refine nil (fun _ H => ?_) (fun h => by have := h.2.2.2.2.1; omega)
      rw [call40 rfl]
      simp only [F40B, SS, insA, wantedA, Opd.ev, putA, binA, eqbA, unA, fldA, partA, reduceIte, reduceCtorEq, Nat.reduceMod, Nat.reduceDiv, Nat.reduceBEq, resultA, resA, vI, Nat.reduceMul, Nat.reduceAdd, Nat.reduceSub, Nat.reduceEqDiff, Nat.reduceLT, Nat.reducePow, Nat.reduceLeDiff, st, Option.bind_eq_bind, Option.pure_def, List.length_nil, Int.cast_ofNat_Int, List.reverse_nil, UU, idxP, cellsAt, storeA, fillA, zerosA, putAll, optNat, sliceA, row, Int.reduceLT, Int.reduceLE, Int.reduceGT, Int.reduceGE, Int.reduceEq, Int.reduceNe, Int.reduceToNat, Int.reduceBEq, Int.reduceBNe, Nat.reduceLeDiff, Nat.reduceLT, Nat.reduceBNe, Nat.reduceGT, List.drop_nil, List.take_nil, Option.isSome_none, Int.ofNat_one, Int.ofNat_zero, r, ht.len, c1, c2, c3, c4, decide_true, decide_false, BEq.rfl]
    obtain ⟨n, rfl⟩ : ∃ n : Nat, c = n := ⟨c.toNat, by omega⟩
    obtain ⟨i1, i2⟩ := L40 (Y := Y) (a1 := .nils) (c := n) (b := b) ht hok (by omega) (by omega) t.length 0 .nils [] (by omega) (Built.nil _)
    rw [List.drop_zero] at i1 i2
    by_cases hg : ∀ r ∈ t, goodAt n b r
    · obtain ⟨v', R', q1, q2⟩ := i1 hg
      have hC : shiftC t n b := ⟨hok, by omega, by omega, by omega, by omega, by rw [Int.toNat_natCast]; exact hg⟩
      obtain ⟨w, hw, hf⟩ := q2.out true
      have hf := hf.1
      have e : shiftL t n b = (t.map (addAt n b), 0) := by unfold shiftL; rw [if_pos hC, Int.toNat_natCast]
      rw [e]
      refine ⟨w, hw, fun H => ?_⟩
      rw [call40 rfl]
      simp only [SS, insA, wantedA, Opd.ev, putA, binA, eqbA, unA, fldA, partA, reduceIte, reduceCtorEq, Nat.reduceMod, Nat.reduceDiv, Nat.reduceBEq, resultA, resA, vI, Nat.reduceMul, Nat.reduceAdd, Nat.reduceSub, Nat.reduceEqDiff, Nat.reduceLT, Nat.reducePow, Nat.reduceLeDiff, st, Option.bind_eq_bind, Option.pure_def, List.length_nil, Int.cast_ofNat_Int, List.reverse_nil, Int.ofNat_zero] at q1
      simp only [F40B, F40T0, in40_0, SS, insA, wantedA, Opd.ev, putA, binA, eqbA, unA, fldA, partA, reduceIte, reduceCtorEq, Nat.reduceMod, Nat.reduceDiv, Nat.reduceBEq, resultA, resA, vI, Nat.reduceMul, Nat.reduceAdd, Nat.reduceSub, Nat.reduceEqDiff, Nat.reduceLT, Nat.reducePow, Nat.reduceLeDiff, st, Option.bind_eq_bind, Option.pure_def, List.length_nil, Int.cast_ofNat_Int, List.reverse_nil, UU, idxP, cellsAt, storeA, fillA, zerosA, putAll, optNat, sliceA, row, Int.reduceLT, Int.reduceLE, Int.reduceGT, Int.reduceGE, Int.reduceEq, Int.reduceNe, Int.reduceToNat, Int.reduceBEq, Int.reduceBNe, Nat.reduceLeDiff, Nat.reduceLT, Nat.reduceBNe, Nat.reduceGT, List.drop_nil, List.take_nil, Option.isSome_none, Int.ofNat_one, Int.ofNat_zero, r, ht.len, c1, c2, c3, c4, decide_true, decide_false, BEq.rfl, q1, hf]
    · obtain ⟨R', q1⟩ := i2 hg
      refine nil (fun _ H => ?_) (fun h => hg (by have := h.2.2.2.2.2; rw [Int.toNat_natCast] at this; exact this))
      rw [call40 rfl]
      simp only [SS, insA, wantedA, Opd.ev, putA, binA, eqbA, unA, fldA, partA, reduceIte, reduceCtorEq, Nat.reduceMod, Nat.reduceDiv, Nat.reduceBEq, resultA, resA, vI, Nat.reduceMul, Nat.reduceAdd, Nat.reduceSub, Nat.reduceEqDiff, Nat.reduceLT, Nat.reducePow, Nat.reduceLeDiff, st, Option.bind_eq_bind, Option.pure_def, List.length_nil, Int.cast_ofNat_Int, List.reverse_nil, Int.ofNat_zero] at q1
      simp only [F40B, F40T0, in40_0, SS, insA, wantedA, Opd.ev, putA, binA, eqbA, unA, fldA, partA, reduceIte, reduceCtorEq, Nat.reduceMod, Nat.reduceDiv, Nat.reduceBEq, resultA, resA, vI, Nat.reduceMul, Nat.reduceAdd, Nat.reduceSub, Nat.reduceEqDiff, Nat.reduceLT, Nat.reducePow, Nat.reduceLeDiff, st, Option.bind_eq_bind, Option.pure_def, List.length_nil, Int.cast_ofNat_Int, List.reverse_nil, UU, idxP, cellsAt, storeA, fillA, zerosA, putAll, optNat, sliceA, row, Int.reduceLT, Int.reduceLE, Int.reduceGT, Int.reduceGE, Int.reduceEq, Int.reduceNe, Int.reduceToNat, Int.reduceBEq, Int.reduceBNe, Nat.reduceLeDiff, Nat.reduceLT, Nat.reduceBNe, Nat.reduceGT, List.drop_nil, List.take_nil, Option.isSome_none, Int.ofNat_one, Int.ofNat_zero, r, ht.len, c1, c2, c3, c4, decide_true, decide_false, BEq.rfl, q1]
  · simp only [hok, if_false, decide_false] at r
    refine nil (fun _ H => ?_) (fun h => hok h.1)
    rw [call40 rfl]
    simp only [F40B, SS, insA, wantedA, Opd.ev, putA, binA, eqbA, unA, fldA, partA, reduceIte, reduceCtorEq, Nat.reduceMod, Nat.reduceDiv, Nat.reduceBEq, resultA, resA, vI, Nat.reduceMul, Nat.reduceAdd, Nat.reduceSub, Nat.reduceEqDiff, Nat.reduceLT, Nat.reducePow, Nat.reduceLeDiff, st, Option.bind_eq_bind, Option.pure_def, List.length_nil, Int.cast_ofNat_Int, List.reverse_nil, UU, idxP, cellsAt, storeA, fillA, zerosA, putAll, optNat, sliceA, row, Int.reduceLT, Int.reduceLE, Int.reduceGT, Int.reduceGE, Int.reduceEq, Int.reduceNe, Int.reduceToNat, Int.reduceBEq, Int.reduceBNe, Nat.reduceLeDiff, Nat.reduceLT, Nat.reduceBNe, Nat.reduceGT, List.drop_nil, List.take_nil, Option.isSome_none, Int.ofNat_one, Int.ofNat_zero, r]

end
end Go.X
