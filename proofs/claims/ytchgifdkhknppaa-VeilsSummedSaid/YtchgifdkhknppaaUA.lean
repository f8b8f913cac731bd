import Derived.Test.YtchgifdkhknppaaVO
/-! Veils: the specification's list of veils, place by place. -/
set_option linter.unusedSimpArgs false
set_option linter.unusedVariables false
set_option maxHeartbeats 8000000
set_option maxRecDepth 10000
namespace Go.X
open Go Go.RowKit
section
variable {Y : Run} {H : Heap}

theorem out24 {vt : AV} {t : List (List Int)} (ht : IsTab vt t) (hs : Small t) : Out Y 24 [vt] t := by
  obtain ⟨R', v', cells', q1, q2⟩ := L24 (Y := Y) ht hs t.length 0 [] .nils [] (by omega) (HTab.nil _ _)
  refine out_of (v := v') (R := R') ?_ q2
  rw [call24 rfl]
  simp only [SS, insA, wantedA, Opd.ev, putA, binA, eqbA, unA, fldA, partA, reduceIte, reduceCtorEq, Nat.reduceMod, Nat.reduceDiv, Nat.reduceBEq, resultA, resA, vI, Nat.reduceMul, Nat.reduceAdd, Nat.reduceSub, Nat.reduceEqDiff, Nat.reduceLT, Nat.reducePow, Nat.reduceLeDiff, st, Option.bind_eq_bind, Option.pure_def, List.length_nil, Int.cast_ofNat_Int, List.reverse_nil, Int.ofNat_zero] at q1
  simp only [F24B, F24T0, in24_0, SS, insA, wantedA, Opd.ev, putA, binA, eqbA, unA, fldA, partA, reduceIte, reduceCtorEq, Nat.reduceMod, Nat.reduceDiv, Nat.reduceBEq, resultA, resA, vI, Nat.reduceMul, Nat.reduceAdd, Nat.reduceSub, Nat.reduceEqDiff, Nat.reduceLT, Nat.reducePow, Nat.reduceLeDiff, st, Option.bind_eq_bind, Option.pure_def, List.length_nil, Int.cast_ofNat_Int, List.reverse_nil, UU, idxP, cellsAt, storeA, fillA, zerosA, putAll, optNat, sliceA, row, Int.reduceLT, Int.reduceLE, Int.reduceGT, Int.reduceGE, Int.reduceEq, Int.reduceNe, Int.reduceToNat, Int.reduceBEq, Int.reduceBNe, Nat.reduceLeDiff, Nat.reduceLT, Nat.reduceBNe, Nat.reduceGT, List.drop_nil, List.take_nil, Option.isSome_none, Int.ofNat_one, Int.ofNat_zero, q1]
/-- A number is stored; what else stands. -/
theorem HTab.store3 {k i j : Nat} {R : Heap} {v : AV} {t : List (List Int)} {cells : List AV} {x : Int} (h : HTab k R v t cells) (hi : i < t.length) (hj : j < t[i].length) :
    ∃ id o, idOf (cells.getD i .undef) = some id ∧ storeA R 1 (gptr 1 (cells.getD i .undef) j) (vI x) = some (R.set id o) ∧ HTab k (R.set id o) v (t.set i (t[i].set j x)) cells := by
  obtain ⟨id, ver, h1, h2, h3, h4⟩ := (h.row i hi).store (x := x) hj
  refine ⟨id, _, h1, h3, ⟨?_, fun m hm => ?_, fun m a hm ha => h.ne m a (by simpa using hm) ha, fun m n a hm hn hmn ha => h.inj m n a (by simpa using hm) (by simpa using hn) hmn ha⟩⟩
  · rw [List.length_set]
    exact h.gro.keep fun a ha => by
      have : id ≠ a := fun e => h.ne i id hi h1 (by rw [ha, e])
      rw [List.getElem?_set_ne this]
  · have hm' : m < t.length := by simpa using hm
    by_cases e : i = m
    · subst e
      have e2 : (t.set i (t[i].set j x))[i]'hm = t[i].set j x := by simp
      rw [e2, List.length_set]
      exact h4
    · have e2 : (t.set i (t[i].set j x))[m]'hm = t[m] := List.getElem_set_ne e _
      rw [e2]
      exact (h.row m hm').keep fun a ha => by
        have : id ≠ a := fun e3 => h.inj i m id hi hm' e h1 (by rw [ha, e3])
        rw [List.getElem?_set_ne this]

/-- A table, and a list of tables beside it that grows. -/
structure TO (R : Heap) (v : AV) (t : List (List Int)) (cells : List AV) (o : AV) (ts : List (List (List Int))) (oc : List AV) : Prop where
  tab : HTab 0 R v t cells
  out : Gro 0 1 R o ts.length oc
  hv : ∀ i, idOf o = some i → idOf v ≠ some i
  hc : ∀ j i, j < t.length → idOf (cells.getD j .undef) = some i → idOf o ≠ some i
  tabs : ∀ j (h : j < ts.length), IsTab (oc.getD j .undef) ts[j] ∧ ∀ H n, freeA H (n + 1) (oc.getD j .undef) = some (oc.getD j .undef)

theorem HTab.to {R : Heap} {v : AV} {t : List (List Int)} {cells : List AV} (h : HTab 0 R v t cells) : TO R v t cells .nils [] [] :=
  ⟨h, Gro.nil _ _ _, fun i hi => (by cases hi), fun j i _ _ hi => (by cases hi), fun j h => by simp at h⟩
theorem TO.push {R : Heap} {v o w : AV} {t u : List (List Int)} {cells oc : List AV} {ts : List (List (List Int))} (h : TO R v t cells o ts oc) (hw : IsTab w u) (hf : ∀ H n, freeA H (n + 1) w = some w) (hl : ts.length ≤ 1000000) :
    ∃ o' R', appA (R ++ [⟨0, [w]⟩]) 1 24 o (.sl R.length 0 1 0 1 none) = some (o', R') ∧ TO R' v t cells o' (ts ++ [u]) (oc ++ [w]) := by
  obtain ⟨w1, w2, w3⟩ := hw.one
  obtain ⟨o', R', g1, g2, g3, g4, g5⟩ := h.out.app2 (bytes := 24) (ys := [w]) (by omega) rfl (by simp [w1]) (by omega) (by omega)
  have hol : oc.length = ts.length := by have := h.out.1; omega
  have hne' : ∀ a, a < R.length → idOf o ≠ some a → idOf o' ≠ some a := by
    intro a h1 h2 h3
    rcases g5 with e | ⟨j, e, hj⟩
    · exact h2 (by rw [← e]; exact h3)
    · rw [e] at h3; cases h3; omega
  refine ⟨o', R', g1, ⟨h.tab.keep (fun i hi => g3 i (h.tab.gro.id_lt hi) (fun e => h.hv i e hi)) fun j i hj hi => g3 i ((h.tab.row j hj).id_lt hi) (h.hc j i hj hi), ?_, fun i hi hv => ?_, fun j i hj hi => ?_, fun j hj => ?_⟩⟩
  · rw [List.length_append, List.length_singleton]; exact g2
  · exact hne' i (h.tab.gro.id_lt hv) (fun e => h.hv i e hv) hi
  · exact hne' i ((h.tab.row j hj).id_lt hi) (h.hc j i hj hi)
  · by_cases c : j < ts.length
    · rw [List.getD_eq_getElem?_getD, List.getElem?_append_left (by omega), ← List.getD_eq_getElem?_getD]
      have e : (ts ++ [u])[j] = ts[j] := List.getElem_append_left c
      rw [e]; exact h.tabs j c
    · have : j = ts.length := by simp at hj; omega
      subst this
      rw [List.getD_eq_getElem?_getD, List.getElem?_append_right (by omega), hol]
      exact ⟨by simpa using hw, by simpa using hf⟩
theorem TO.store {R : Heap} {v o : AV} {t : List (List Int)} {cells oc : List AV} {ts : List (List (List Int))} {i j : Nat} {x : Int} (h : TO R v t cells o ts oc) (hi : i < t.length) (hj : j < t[i].length) :
    ∃ R', storeA R 1 (gptr 1 (cells.getD i .undef) j) (vI x) = some R' ∧ TO R' v (t.set i (t[i].set j x)) cells o ts oc := by
  obtain ⟨id, o2, h1, h2, h3⟩ := h.tab.store3 (x := x) hi hj
  refine ⟨_, h2, ⟨h3, h.out.keep fun a ha => ?_, h.hv, fun m a hm ha => h.hc m a (by simpa using hm) ha, h.tabs⟩⟩
  have : id ≠ a := fun e => h.hc i id hi h1 (by rw [ha, e])
  rw [List.getElem?_set_ne this]

/-- Squares with numbers from -1 to 1. -/
structure Sq (n : Nat) (t : List (List Int)) : Prop where
  len : t.length = n
  row : ∀ r ∈ t, r.length = n
  unit : unitT t
theorem Sq.rl {n i : Nat} {t : List (List Int)} (h : Sq n t) (hi : i < t.length) : t[i].length = n := h.row _ (List.getElem_mem hi)
theorem Sq.set {n i j : Nat} {t : List (List Int)} {x : Int} (h : Sq n t) (hi : i < t.length) (hx : -1 ≤ x ∧ x ≤ 1) : Sq n (t.set i (t[i].set j x)) := by
  refine ⟨by simpa using h.len, fun r hr => ?_, fun r hr y hy => ?_⟩
  · rcases List.mem_or_eq_of_mem_set hr with h1 | h1
    · exact h.row r h1
    · rw [h1]; simpa using h.rl hi
  · rcases List.mem_or_eq_of_mem_set hr with h1 | h1
    · exact h.unit r h1 y hy
    · subst h1
      rcases List.mem_or_eq_of_mem_set hy with h2 | h2
      · exact h.unit _ (List.getElem_mem hi) y h2
      · rw [h2]; exact hx
theorem Sq.zero {n : Nat} : Sq n (zeroT n) := by
  refine ⟨by simp [zeroT], fun r hr => by rw [zeroT] at hr; rw [(List.mem_replicate.1 hr).2]; simp, fun r hr x hx => ?_⟩
  rw [zeroT] at hr
  rw [(List.mem_replicate.1 hr).2] at hx
  rw [(List.mem_replicate.1 hx).2]; omega

/-! ### what is filled in -/
def setAt (t : List (List Int)) (i j : Nat) (x : Int) : List (List Int) := t.set i ((t.getD i []).set j x)
theorem setAt_eq {t : List (List Int)} {i j : Nat} {x : Int} (hi : i < t.length) : setAt t i j x = t.set i (t[i].set j x) := by unfold setAt; rw [getD_get hi]

def rowP (t : List (List Int)) (i k : Nat) : Int := sumF (fun x => at2 t i x) 0 k
def colP (t : List (List Int)) (i k : Nat) : Int := sumF (fun x => at2 t x k) 0 i
def okV (n i k : Nat) (rs cs v : Int) : Bool := decide (0 ≤ rs + v) && (decide (rs + v ≤ 1) && (decide (0 ≤ cs + v) && (decide (cs + v ≤ 1) && (decide (k + 1 = n → rs + v = 1) && decide (i + 1 = n → cs + v = 1)))))

def fillP (n : Nat) : Nat → Nat → List (List Int) → List (List (List Int)) → List (List Int) × List (List (List Int))
  | 0, _, t, ts => (t, ts ++ [t])
  | d + 1, at', t, ts =>
    let i := at' / n
    let k := at' % n
    let rs := rowP t i k
    let cs := colP t i k
    let go := fun (v : Int) (s : List (List Int) × List (List (List Int))) => if okV n i k rs cs v = true then fillP n d (at' + 1) (setAt s.1 i k v) s.2 else s
    let s := go 1 (go 0 (go (-1) (t, ts)))
    (setAt s.1 i k 0, s.2)

theorem fillP_s {n d a : Nat} {t : List (List Int)} {ts : List (List (List Int))} : ∀ {go : Int → List (List Int) × List (List (List Int)) → List (List Int) × List (List (List Int))},
    (∀ v s, go v s = if okV n (a / n) (a % n) (rowP t (a / n) (a % n)) (colP t (a / n) (a % n)) v = true then fillP n d (a + 1) (setAt s.1 (a / n) (a % n) v) s.2 else s) →
    fillP n (d + 1) a t ts = (setAt (go 1 (go 0 (go (-1) (t, ts)))).1 (a / n) (a % n) 0, (go 1 (go 0 (go (-1) (t, ts)))).2) := fun h => by
  rw [h, h, h]; rfl

theorem fillP_len {n : Nat} : ∀ (d a : Nat) (t : List (List Int)) (ts : List (List (List Int))), ts.length ≤ (fillP n d a t ts).2.length
  | 0, a, t, ts => by simp [fillP]
  | d + 1, a, t, ts => by
    have step : ∀ v (s : List (List Int) × List (List (List Int))) rs cs, s.2.length ≤ (if okV n (a / n) (a % n) rs cs v = true then fillP n d (a + 1) (setAt s.1 (a / n) (a % n) v) s.2 else s).2.length := fun v s rs cs => by
      split
      · exact fillP_len d _ _ _
      · exact Nat.le_refl _
    unfold fillP
    exact Nat.le_trans (step (-1) (t, ts) _ _) (Nat.le_trans (step 0 _ _ _) (step 1 _ _ _))

/-! ### the walk -/
section
variable {n i k a : Nat} {v o : AV} {t : List (List Int)} {cells oc : List AV} {ts : List (List (List Int))}

theorem L53_0 (h : TO H v t cells o ts oc) (q : Sq n t) (h5 : n ≤ 5) (hi : i < n) (hk : k < n) (cs : Int) (d : Nat) : ∀ (x : Nat) (s : Int), x + d = k → -(x : Int) ≤ s ∧ s ≤ x →
    lp EV Y F53L0 (sp 130 [(12, vI x), (11, vI cs), (10, vI s), (9, vI k), (8, vI i), (7, vI n), (2, o), (1, vI a), (0, v)]) H =
      some (.x 0, sp 130 [(11, vI cs), (10, vI (s + sumF (fun x => at2 t i x) x d)), (9, vI k), (8, vI i), (7, vI n), (2, o), (1, vI a), (0, v)], H) := by
  have hil : i < t.length := by rw [q.len]; exact hi
  have hrl := q.rl hil
  induction d with
  | zero =>
    intro x s hx hs
    have : ¬ ((x : Int) < (k : Int)) := by omega
    rw [un53_0, sumF_0, Int.add_zero]
    simp only [F53L0b, SS, insA, wantedA, Opd.ev, putA, binA, eqbA, unA, fldA, partA, reduceIte, reduceCtorEq, Nat.reduceMod, Nat.reduceDiv, Nat.reduceBEq, resultA, resA, vI, Nat.reduceMul, Nat.reduceAdd, Nat.reduceSub, Nat.reduceEqDiff, Nat.reduceLT, Nat.reducePow, Nat.reduceLeDiff, st, Option.bind_eq_bind, Option.pure_def, List.length_nil, Int.cast_ofNat_Int, List.reverse_nil, UU, idxP, cellsAt, storeA, fillA, zerosA, putAll, optNat, sliceA, row, Int.reduceLT, Int.reduceLE, Int.reduceGT, Int.reduceGE, Int.reduceEq, Int.reduceNe, Int.reduceToNat, Int.reduceBEq, Int.reduceBNe, Nat.reduceLeDiff, Nat.reduceLT, Nat.reduceBNe, Nat.reduceGT, List.drop_nil, List.take_nil, Option.isSome_none, Int.ofNat_one, Int.ofNat_zero, this]
  | succ d ih =>
    intro x s hx hs
    have hc : (x : Int) < (k : Int) := by omega
    have hww := wrap_succ (n := x) (by omega)
    have hj : x < t[i].length := by omega
    have hb := q.unit t[i] (List.getElem_mem hil) t[i][x] (List.getElem_mem hj)
    have w : IntKind.wrap .i64 (s + t[i][x]) = s + t[i][x] := wrap_id (by omega) (by omega)
    have ih := ih (x + 1) (s + t[i][x]) (by omega) (by omega)
    rw [un53_0, sumF_s, at2_get hil hj, ← Int.add_assoc]
    simp only [SS, insA, wantedA, Opd.ev, putA, binA, eqbA, unA, fldA, partA, reduceIte, reduceCtorEq, Nat.reduceMod, Nat.reduceDiv, Nat.reduceBEq, resultA, resA, vI, Nat.reduceMul, Nat.reduceAdd, Nat.reduceSub, Nat.reduceEqDiff, Nat.reduceLT, Nat.reducePow, Nat.reduceLeDiff, st, Option.bind_eq_bind, Option.pure_def, List.length_nil, Int.cast_ofNat_Int, List.reverse_nil] at ih
    simp only [F53L0b, SS, insA, wantedA, Opd.ev, putA, binA, eqbA, unA, fldA, partA, reduceIte, reduceCtorEq, Nat.reduceMod, Nat.reduceDiv, Nat.reduceBEq, resultA, resA, vI, Nat.reduceMul, Nat.reduceAdd, Nat.reduceSub, Nat.reduceEqDiff, Nat.reduceLT, Nat.reducePow, Nat.reduceLeDiff, st, Option.bind_eq_bind, Option.pure_def, List.length_nil, Int.cast_ofNat_Int, List.reverse_nil, UU, idxP, cellsAt, storeA, fillA, zerosA, putAll, optNat, sliceA, row, Int.reduceLT, Int.reduceLE, Int.reduceGT, Int.reduceGE, Int.reduceEq, Int.reduceNe, Int.reduceToNat, Int.reduceBEq, Int.reduceBNe, Nat.reduceLeDiff, Nat.reduceLT, Nat.reduceBNe, Nat.reduceGT, List.drop_nil, List.take_nil, Option.isSome_none, Int.ofNat_one, Int.ofNat_zero, hc, h.tab.idx hil, h.tab.load hil, h.tab.idx2 hil hj, h.tab.load2 hil hj, w, hww, ih]

theorem L53_1 (h : TO H v t cells o ts oc) (q : Sq n t) (h5 : n ≤ 5) (hi : i < n) (hk : k < n) (rs : Int) (d : Nat) : ∀ (x : Nat) (s : Int), x + d = i → -(x : Int) ≤ s ∧ s ≤ x →
    lp EV Y F53L1 (sp 130 [(13, vI x), (11, vI s), (10, vI rs), (9, vI k), (8, vI i), (7, vI n), (2, o), (1, vI a), (0, v)]) H =
      some (.x 2, sp 130 [(11, vI (s + sumF (fun x => at2 t x k) x d)), (10, vI rs), (9, vI k), (8, vI i), (7, vI n), (2, o), (1, vI a), (0, v)], H) := by
  induction d with
  | zero =>
    intro x s hx hs
    have : ¬ ((x : Int) < (i : Int)) := by omega
    rw [un53_1, sumF_0, Int.add_zero]
    simp only [F53L1b, SS, insA, wantedA, Opd.ev, putA, binA, eqbA, unA, fldA, partA, reduceIte, reduceCtorEq, Nat.reduceMod, Nat.reduceDiv, Nat.reduceBEq, resultA, resA, vI, Nat.reduceMul, Nat.reduceAdd, Nat.reduceSub, Nat.reduceEqDiff, Nat.reduceLT, Nat.reducePow, Nat.reduceLeDiff, st, Option.bind_eq_bind, Option.pure_def, List.length_nil, Int.cast_ofNat_Int, List.reverse_nil, UU, idxP, cellsAt, storeA, fillA, zerosA, putAll, optNat, sliceA, row, Int.reduceLT, Int.reduceLE, Int.reduceGT, Int.reduceGE, Int.reduceEq, Int.reduceNe, Int.reduceToNat, Int.reduceBEq, Int.reduceBNe, Nat.reduceLeDiff, Nat.reduceLT, Nat.reduceBNe, Nat.reduceGT, List.drop_nil, List.take_nil, Option.isSome_none, Int.ofNat_one, Int.ofNat_zero, this]
  | succ d ih =>
    intro x s hx hs
    have hc : (x : Int) < (i : Int) := by omega
    have hww := wrap_succ (n := x) (by omega)
    have hxl : x < t.length := by rw [q.len]; omega
    have hj : k < t[x].length := by rw [q.rl hxl]; exact hk
    have hb := q.unit t[x] (List.getElem_mem hxl) t[x][k] (List.getElem_mem hj)
    have w : IntKind.wrap .i64 (s + t[x][k]) = s + t[x][k] := wrap_id (by omega) (by omega)
    have ih := ih (x + 1) (s + t[x][k]) (by omega) (by omega)
    rw [un53_1, sumF_s, at2_get hxl hj, ← Int.add_assoc]
    simp only [SS, insA, wantedA, Opd.ev, putA, binA, eqbA, unA, fldA, partA, reduceIte, reduceCtorEq, Nat.reduceMod, Nat.reduceDiv, Nat.reduceBEq, resultA, resA, vI, Nat.reduceMul, Nat.reduceAdd, Nat.reduceSub, Nat.reduceEqDiff, Nat.reduceLT, Nat.reducePow, Nat.reduceLeDiff, st, Option.bind_eq_bind, Option.pure_def, List.length_nil, Int.cast_ofNat_Int, List.reverse_nil] at ih
    simp only [F53L1b, SS, insA, wantedA, Opd.ev, putA, binA, eqbA, unA, fldA, partA, reduceIte, reduceCtorEq, Nat.reduceMod, Nat.reduceDiv, Nat.reduceBEq, resultA, resA, vI, Nat.reduceMul, Nat.reduceAdd, Nat.reduceSub, Nat.reduceEqDiff, Nat.reduceLT, Nat.reducePow, Nat.reduceLeDiff, st, Option.bind_eq_bind, Option.pure_def, List.length_nil, Int.cast_ofNat_Int, List.reverse_nil, UU, idxP, cellsAt, storeA, fillA, zerosA, putAll, optNat, sliceA, row, Int.reduceLT, Int.reduceLE, Int.reduceGT, Int.reduceGE, Int.reduceEq, Int.reduceNe, Int.reduceToNat, Int.reduceBEq, Int.reduceBNe, Nat.reduceLeDiff, Nat.reduceLT, Nat.reduceBNe, Nat.reduceGT, List.drop_nil, List.take_nil, Option.isSome_none, Int.ofNat_one, Int.ofNat_zero, hc, h.tab.idx hxl, h.tab.load hxl, h.tab.idx2 hxl hj, h.tab.load2 hxl hj, w, hww, ih]

/-- What a further call does. -/
def Fills (Y : Run) (n d a : Nat) : Prop := ∀ {R : Heap} {v o : AV} {t : List (List Int)} {cells oc : List AV} {ts : List (List (List Int))}, TO R v t cells o ts oc → Sq n t → (fillP n d a t ts).2.length ≤ 1000000 →
  ∃ o' R' oc', callL EV Y 53 [v, vI a, o] R = some (o', R') ∧ TO R' v (fillP n d a t ts).1 cells o' (fillP n d a t ts).2 oc' ∧ Sq n (fillP n d a t ts).1

/-- One number is tried. -/
theorem step53 {d : Nat} {R : Heap} (F : Fills Y n d (a + 1)) (h : TO R v t cells o ts oc) (q : Sq n t) (h5 : n ≤ 5) (hi : i < n) (hk : k < n) (ha : a < 100) {rs cs x : Int} (hr : -10 ≤ rs ∧ rs ≤ 10) (hc : -10 ≤ cs ∧ cs ≤ 10) (hx : -1 ≤ x ∧ x ≤ 1)
    (hB : (if okV n i k rs cs x = true then fillP n d (a + 1) (setAt t i k x) ts else (t, ts)).2.length ≤ 1000000) :
    ∃ o' R' oc', lp EV Y F53L2 (sp 130 [(14, vI x), (11, vI cs), (10, vI rs), (9, vI k), (8, vI i), (7, vI n), (2, o), (1, vI a), (0, v)]) R =
        lp EV Y F53L2 (sp 130 [(14, vI (x + 1)), (11, vI cs), (10, vI rs), (9, vI k), (8, vI i), (7, vI n), (2, o'), (1, vI a), (0, v)]) R' ∧
      TO R' v (if okV n i k rs cs x = true then fillP n d (a + 1) (setAt t i k x) ts else (t, ts)).1 cells o' (if okV n i k rs cs x = true then fillP n d (a + 1) (setAt t i k x) ts else (t, ts)).2 oc' ∧
      Sq n (if okV n i k rs cs x = true then fillP n d (a + 1) (setAt t i k x) ts else (t, ts)).1 := by
  have l1 : x ≤ 1 := hx.2
  have w0 : IntKind.wrap .i64 (x + 1) = x + 1 := wrap_id (by omega) (by omega)
  have w1 : IntKind.wrap .i64 (rs + x) = rs + x := wrap_id (by omega) (by omega)
  have w2 : IntKind.wrap .i64 (cs + x) = cs + x := wrap_id (by omega) (by omega)
  have w3 : IntKind.wrap .i64 ((n : Int) - 1) = (n : Int) - 1 := wrap_id (by omega) (by omega)
  have w4 := wrap_succ (n := a) (by omega)
  have hil : i < t.length := by rw [q.len]; exact hi
  have hkl : k < t[i].length := by rw [q.rl hil]; exact hk
  rw [un53_2]
  by_cases c1 : rs + x < 0
  · have e : okV n i k rs cs x = false := by unfold okV; rw [decide_eq_false (by omega), Bool.false_and]
    rw [e, if_neg (by decide)]
    refine ⟨o, R, oc, ?_, h, q⟩
    simp only [F53L2b, SS, insA, wantedA, Opd.ev, putA, binA, eqbA, unA, fldA, partA, reduceIte, reduceCtorEq, Nat.reduceMod, Nat.reduceDiv, Nat.reduceBEq, resultA, resA, vI, Nat.reduceMul, Nat.reduceAdd, Nat.reduceSub, Nat.reduceEqDiff, Nat.reduceLT, Nat.reducePow, Nat.reduceLeDiff, st, Option.bind_eq_bind, Option.pure_def, List.length_nil, Int.cast_ofNat_Int, List.reverse_nil, UU, idxP, cellsAt, storeA, fillA, zerosA, putAll, optNat, sliceA, row, Int.reduceLT, Int.reduceLE, Int.reduceGT, Int.reduceGE, Int.reduceEq, Int.reduceNe, Int.reduceToNat, Int.reduceBEq, Int.reduceBNe, Nat.reduceLeDiff, Nat.reduceLT, Nat.reduceBNe, Nat.reduceGT, List.drop_nil, List.take_nil, Option.isSome_none, Int.ofNat_one, Int.ofNat_zero, l1, w0, w1, w2, w3, c1]
  by_cases c2 : rs + x > 1
  · have e : okV n i k rs cs x = false := by unfold okV; rw [decide_eq_false (show ¬ rs + x ≤ 1 by omega), Bool.false_and, Bool.and_false]
    rw [e, if_neg (by decide)]
    refine ⟨o, R, oc, ?_, h, q⟩
    simp only [F53L2b, SS, insA, wantedA, Opd.ev, putA, binA, eqbA, unA, fldA, partA, reduceIte, reduceCtorEq, Nat.reduceMod, Nat.reduceDiv, Nat.reduceBEq, resultA, resA, vI, Nat.reduceMul, Nat.reduceAdd, Nat.reduceSub, Nat.reduceEqDiff, Nat.reduceLT, Nat.reducePow, Nat.reduceLeDiff, st, Option.bind_eq_bind, Option.pure_def, List.length_nil, Int.cast_ofNat_Int, List.reverse_nil, UU, idxP, cellsAt, storeA, fillA, zerosA, putAll, optNat, sliceA, row, Int.reduceLT, Int.reduceLE, Int.reduceGT, Int.reduceGE, Int.reduceEq, Int.reduceNe, Int.reduceToNat, Int.reduceBEq, Int.reduceBNe, Nat.reduceLeDiff, Nat.reduceLT, Nat.reduceBNe, Nat.reduceGT, List.drop_nil, List.take_nil, Option.isSome_none, Int.ofNat_one, Int.ofNat_zero, l1, w0, w1, w2, w3, c1, c2]
  by_cases c3 : cs + x < 0
  · have e : okV n i k rs cs x = false := by unfold okV; rw [decide_eq_false (show ¬ 0 ≤ cs + x by omega)]; simp
    rw [e, if_neg (by decide)]
    refine ⟨o, R, oc, ?_, h, q⟩
    simp only [F53L2b, SS, insA, wantedA, Opd.ev, putA, binA, eqbA, unA, fldA, partA, reduceIte, reduceCtorEq, Nat.reduceMod, Nat.reduceDiv, Nat.reduceBEq, resultA, resA, vI, Nat.reduceMul, Nat.reduceAdd, Nat.reduceSub, Nat.reduceEqDiff, Nat.reduceLT, Nat.reducePow, Nat.reduceLeDiff, st, Option.bind_eq_bind, Option.pure_def, List.length_nil, Int.cast_ofNat_Int, List.reverse_nil, UU, idxP, cellsAt, storeA, fillA, zerosA, putAll, optNat, sliceA, row, Int.reduceLT, Int.reduceLE, Int.reduceGT, Int.reduceGE, Int.reduceEq, Int.reduceNe, Int.reduceToNat, Int.reduceBEq, Int.reduceBNe, Nat.reduceLeDiff, Nat.reduceLT, Nat.reduceBNe, Nat.reduceGT, List.drop_nil, List.take_nil, Option.isSome_none, Int.ofNat_one, Int.ofNat_zero, l1, w0, w1, w2, w3, c1, c2, c3]
  by_cases c4 : cs + x > 1
  · have e : okV n i k rs cs x = false := by unfold okV; rw [decide_eq_false (show ¬ cs + x ≤ 1 by omega)]; simp
    rw [e, if_neg (by decide)]
    refine ⟨o, R, oc, ?_, h, q⟩
    simp only [F53L2b, SS, insA, wantedA, Opd.ev, putA, binA, eqbA, unA, fldA, partA, reduceIte, reduceCtorEq, Nat.reduceMod, Nat.reduceDiv, Nat.reduceBEq, resultA, resA, vI, Nat.reduceMul, Nat.reduceAdd, Nat.reduceSub, Nat.reduceEqDiff, Nat.reduceLT, Nat.reducePow, Nat.reduceLeDiff, st, Option.bind_eq_bind, Option.pure_def, List.length_nil, Int.cast_ofNat_Int, List.reverse_nil, UU, idxP, cellsAt, storeA, fillA, zerosA, putAll, optNat, sliceA, row, Int.reduceLT, Int.reduceLE, Int.reduceGT, Int.reduceGE, Int.reduceEq, Int.reduceNe, Int.reduceToNat, Int.reduceBEq, Int.reduceBNe, Nat.reduceLeDiff, Nat.reduceLT, Nat.reduceBNe, Nat.reduceGT, List.drop_nil, List.take_nil, Option.isSome_none, Int.ofNat_one, Int.ofNat_zero, l1, w0, w1, w2, w3, c1, c2, c3, c4]
  have e0 : okV n i k rs cs x = (decide (k + 1 = n → rs + x = 1) && decide (i + 1 = n → cs + x = 1)) := by
    unfold okV
    rw [decide_eq_true (show 0 ≤ rs + x by omega), decide_eq_true (show rs + x ≤ 1 by omega), decide_eq_true (show 0 ≤ cs + x by omega), decide_eq_true (show cs + x ≤ 1 by omega)]; simp
  rw [e0] at hB ⊢
  have good : (decide (k + 1 = n → rs + x = 1) && decide (i + 1 = n → cs + x = 1)) = true → ∃ R1 o' R' oc', storeA R 1 (gptr 1 (cells.getD i .undef) k) (vI x) = some R1 ∧ callL EV Y 53 [v, vI ((a + 1 : Nat) : Int), o] R1 = some (o', R') ∧
      TO R' v (fillP n d (a + 1) (setAt t i k x) ts).1 cells o' (fillP n d (a + 1) (setAt t i k x) ts).2 oc' ∧ Sq n (fillP n d (a + 1) (setAt t i k x) ts).1 := fun e => by
    rw [e, if_pos rfl] at hB
    obtain ⟨R1, s1, s2⟩ := h.store (x := x) hil hkl
    rw [← setAt_eq hil] at s2
    have q2 : Sq n (setAt t i k x) := by rw [setAt_eq hil]; exact q.set hil hx
    obtain ⟨o', R', oc', f1, f2, f3⟩ := F s2 q2 hB
    exact ⟨R1, o', R', oc', s1, f1, f2, f3⟩
  by_cases c5 : (k : Int) = (n : Int) - 1
  · by_cases c6 : rs + x = 1
    · by_cases c7 : (i : Int) = (n : Int) - 1
      · by_cases c8 : cs + x = 1
        · have e : (decide (k + 1 = n → rs + x = 1) && decide (i + 1 = n → cs + x = 1)) = true := by rw [decide_eq_true (fun _ => c6), decide_eq_true (fun _ => c8)]; rfl
          obtain ⟨R1, o', R', oc', g1, g2, g3, g4⟩ := good e
          rw [e, if_pos rfl]
          refine ⟨o', R', oc', ?_, g3, g4⟩
          have d1 : ((k : Int) == (n : Int) - 1) = true := by rw [c5]; exact BEq.rfl
          have d2 : (rs + x != 1) = false := by rw [c6]; rfl
          have d3 : ((i : Int) == (n : Int) - 1) = true := by rw [c7]; exact BEq.rfl
          have d4 : (cs + x != 1) = false := by rw [c8]; rfl
          simp only [SS, insA, wantedA, Opd.ev, putA, binA, eqbA, unA, fldA, partA, reduceIte, reduceCtorEq, Nat.reduceMod, Nat.reduceDiv, Nat.reduceBEq, resultA, resA, vI, Nat.reduceMul, Nat.reduceAdd, Nat.reduceSub, Nat.reduceEqDiff, Nat.reduceLT, Nat.reducePow, Nat.reduceLeDiff, st, Option.bind_eq_bind, Option.pure_def, List.length_nil, Int.cast_ofNat_Int, List.reverse_nil] at g1 g2
          simp only [F53L2b, SS, insA, wantedA, Opd.ev, putA, binA, eqbA, unA, fldA, partA, reduceIte, reduceCtorEq, Nat.reduceMod, Nat.reduceDiv, Nat.reduceBEq, resultA, resA, vI, Nat.reduceMul, Nat.reduceAdd, Nat.reduceSub, Nat.reduceEqDiff, Nat.reduceLT, Nat.reducePow, Nat.reduceLeDiff, st, Option.bind_eq_bind, Option.pure_def, List.length_nil, Int.cast_ofNat_Int, List.reverse_nil, UU, idxP, cellsAt, fillA, zerosA, putAll, row, Int.reduceLT, Int.reduceLE, Int.reduceGT, Int.reduceGE, Int.reduceEq, Int.reduceNe, Int.reduceToNat, Int.reduceBEq, Int.reduceBNe, Nat.reduceLeDiff, Nat.reduceLT, Nat.reduceBNe, Nat.reduceGT, List.drop_nil, List.take_nil, Option.isSome_none, Int.ofNat_one, Int.ofNat_zero, l1, w0, w1, w2, w3, w4, c1, c2, c3, c4, d1, d2, d3, d4, h.tab.idx hil, h.tab.load hil, h.tab.idx2 hil hkl, g1, g2]
        · have e : (decide (k + 1 = n → rs + x = 1) && decide (i + 1 = n → cs + x = 1)) = false := by rw [decide_eq_false (show ¬ (i + 1 = n → cs + x = 1) from fun f => c8 (f (by omega))), Bool.and_false]
          rw [e, if_neg (by decide)]
          refine ⟨o, R, oc, ?_, h, q⟩
          have d1 : ((k : Int) == (n : Int) - 1) = true := by rw [c5]; exact BEq.rfl
          have d2 : (rs + x != 1) = false := by rw [c6]; rfl
          have d3 : ((i : Int) == (n : Int) - 1) = true := by rw [c7]; exact BEq.rfl
          have d4 : (cs + x != 1) = true := by simpa using c8
          simp only [F53L2b, SS, insA, wantedA, Opd.ev, putA, binA, eqbA, unA, fldA, partA, reduceIte, reduceCtorEq, Nat.reduceMod, Nat.reduceDiv, Nat.reduceBEq, resultA, resA, vI, Nat.reduceMul, Nat.reduceAdd, Nat.reduceSub, Nat.reduceEqDiff, Nat.reduceLT, Nat.reducePow, Nat.reduceLeDiff, st, Option.bind_eq_bind, Option.pure_def, List.length_nil, Int.cast_ofNat_Int, List.reverse_nil, UU, idxP, cellsAt, storeA, fillA, zerosA, putAll, optNat, sliceA, row, Int.reduceLT, Int.reduceLE, Int.reduceGT, Int.reduceGE, Int.reduceEq, Int.reduceNe, Int.reduceToNat, Int.reduceBEq, Int.reduceBNe, Nat.reduceLeDiff, Nat.reduceLT, Nat.reduceBNe, Nat.reduceGT, List.drop_nil, List.take_nil, Option.isSome_none, Int.ofNat_one, Int.ofNat_zero, l1, w0, w1, w2, w3, c1, c2, c3, c4, d1, d2, d3, d4]
      · have e : (decide (k + 1 = n → rs + x = 1) && decide (i + 1 = n → cs + x = 1)) = true := by rw [decide_eq_true (fun _ => c6), decide_eq_true (fun f => absurd f (by omega))]; rfl
        obtain ⟨R1, o', R', oc', g1, g2, g3, g4⟩ := good e
        rw [e, if_pos rfl]
        refine ⟨o', R', oc', ?_, g3, g4⟩
        have d1 : ((k : Int) == (n : Int) - 1) = true := by rw [c5]; exact BEq.rfl
        have d2 : (rs + x != 1) = false := by rw [c6]; rfl
        have d3 : ((i : Int) == (n : Int) - 1) = false := by simpa using c7
        simp only [SS, insA, wantedA, Opd.ev, putA, binA, eqbA, unA, fldA, partA, reduceIte, reduceCtorEq, Nat.reduceMod, Nat.reduceDiv, Nat.reduceBEq, resultA, resA, vI, Nat.reduceMul, Nat.reduceAdd, Nat.reduceSub, Nat.reduceEqDiff, Nat.reduceLT, Nat.reducePow, Nat.reduceLeDiff, st, Option.bind_eq_bind, Option.pure_def, List.length_nil, Int.cast_ofNat_Int, List.reverse_nil] at g1 g2
        simp only [F53L2b, SS, insA, wantedA, Opd.ev, putA, binA, eqbA, unA, fldA, partA, reduceIte, reduceCtorEq, Nat.reduceMod, Nat.reduceDiv, Nat.reduceBEq, resultA, resA, vI, Nat.reduceMul, Nat.reduceAdd, Nat.reduceSub, Nat.reduceEqDiff, Nat.reduceLT, Nat.reducePow, Nat.reduceLeDiff, st, Option.bind_eq_bind, Option.pure_def, List.length_nil, Int.cast_ofNat_Int, List.reverse_nil, UU, idxP, cellsAt, fillA, zerosA, putAll, row, Int.reduceLT, Int.reduceLE, Int.reduceGT, Int.reduceGE, Int.reduceEq, Int.reduceNe, Int.reduceToNat, Int.reduceBEq, Int.reduceBNe, Nat.reduceLeDiff, Nat.reduceLT, Nat.reduceBNe, Nat.reduceGT, List.drop_nil, List.take_nil, Option.isSome_none, Int.ofNat_one, Int.ofNat_zero, l1, w0, w1, w2, w3, w4, c1, c2, c3, c4, d1, d2, d3, h.tab.idx hil, h.tab.load hil, h.tab.idx2 hil hkl, g1, g2]
    · have e : (decide (k + 1 = n → rs + x = 1) && decide (i + 1 = n → cs + x = 1)) = false := by rw [decide_eq_false (show ¬ (k + 1 = n → rs + x = 1) from fun f => c6 (f (by omega))), Bool.false_and]
      rw [e, if_neg (by decide)]
      refine ⟨o, R, oc, ?_, h, q⟩
      have d1 : ((k : Int) == (n : Int) - 1) = true := by rw [c5]; exact BEq.rfl
      have d2 : (rs + x != 1) = true := by simpa using c6
      simp only [F53L2b, SS, insA, wantedA, Opd.ev, putA, binA, eqbA, unA, fldA, partA, reduceIte, reduceCtorEq, Nat.reduceMod, Nat.reduceDiv, Nat.reduceBEq, resultA, resA, vI, Nat.reduceMul, Nat.reduceAdd, Nat.reduceSub, Nat.reduceEqDiff, Nat.reduceLT, Nat.reducePow, Nat.reduceLeDiff, st, Option.bind_eq_bind, Option.pure_def, List.length_nil, Int.cast_ofNat_Int, List.reverse_nil, UU, idxP, cellsAt, storeA, fillA, zerosA, putAll, optNat, sliceA, row, Int.reduceLT, Int.reduceLE, Int.reduceGT, Int.reduceGE, Int.reduceEq, Int.reduceNe, Int.reduceToNat, Int.reduceBEq, Int.reduceBNe, Nat.reduceLeDiff, Nat.reduceLT, Nat.reduceBNe, Nat.reduceGT, List.drop_nil, List.take_nil, Option.isSome_none, Int.ofNat_one, Int.ofNat_zero, l1, w0, w1, w2, w3, c1, c2, c3, c4, d1, d2]
  · have d1 : ((k : Int) == (n : Int) - 1) = false := by simpa using c5
    by_cases c7 : (i : Int) = (n : Int) - 1
    · have d3 : ((i : Int) == (n : Int) - 1) = true := by rw [c7]; exact BEq.rfl
      by_cases c8 : cs + x = 1
      · have e : (decide (k + 1 = n → rs + x = 1) && decide (i + 1 = n → cs + x = 1)) = true := by rw [decide_eq_true (fun f => absurd f (by omega)), decide_eq_true (fun _ => c8)]; rfl
        obtain ⟨R1, o', R', oc', g1, g2, g3, g4⟩ := good e
        rw [e, if_pos rfl]
        refine ⟨o', R', oc', ?_, g3, g4⟩
        have d4 : (cs + x != 1) = false := by rw [c8]; rfl
        simp only [SS, insA, wantedA, Opd.ev, putA, binA, eqbA, unA, fldA, partA, reduceIte, reduceCtorEq, Nat.reduceMod, Nat.reduceDiv, Nat.reduceBEq, resultA, resA, vI, Nat.reduceMul, Nat.reduceAdd, Nat.reduceSub, Nat.reduceEqDiff, Nat.reduceLT, Nat.reducePow, Nat.reduceLeDiff, st, Option.bind_eq_bind, Option.pure_def, List.length_nil, Int.cast_ofNat_Int, List.reverse_nil] at g1 g2
        simp only [F53L2b, SS, insA, wantedA, Opd.ev, putA, binA, eqbA, unA, fldA, partA, reduceIte, reduceCtorEq, Nat.reduceMod, Nat.reduceDiv, Nat.reduceBEq, resultA, resA, vI, Nat.reduceMul, Nat.reduceAdd, Nat.reduceSub, Nat.reduceEqDiff, Nat.reduceLT, Nat.reducePow, Nat.reduceLeDiff, st, Option.bind_eq_bind, Option.pure_def, List.length_nil, Int.cast_ofNat_Int, List.reverse_nil, UU, idxP, cellsAt, fillA, zerosA, putAll, row, Int.reduceLT, Int.reduceLE, Int.reduceGT, Int.reduceGE, Int.reduceEq, Int.reduceNe, Int.reduceToNat, Int.reduceBEq, Int.reduceBNe, Nat.reduceLeDiff, Nat.reduceLT, Nat.reduceBNe, Nat.reduceGT, List.drop_nil, List.take_nil, Option.isSome_none, Int.ofNat_one, Int.ofNat_zero, l1, w0, w1, w2, w3, w4, c1, c2, c3, c4, d1, d3, d4, h.tab.idx hil, h.tab.load hil, h.tab.idx2 hil hkl, g1, g2]
      · have e : (decide (k + 1 = n → rs + x = 1) && decide (i + 1 = n → cs + x = 1)) = false := by rw [decide_eq_false (show ¬ (i + 1 = n → cs + x = 1) from fun f => c8 (f (by omega))), Bool.and_false]
        rw [e, if_neg (by decide)]
        refine ⟨o, R, oc, ?_, h, q⟩
        have d4 : (cs + x != 1) = true := by simpa using c8
        simp only [F53L2b, SS, insA, wantedA, Opd.ev, putA, binA, eqbA, unA, fldA, partA, reduceIte, reduceCtorEq, Nat.reduceMod, Nat.reduceDiv, Nat.reduceBEq, resultA, resA, vI, Nat.reduceMul, Nat.reduceAdd, Nat.reduceSub, Nat.reduceEqDiff, Nat.reduceLT, Nat.reducePow, Nat.reduceLeDiff, st, Option.bind_eq_bind, Option.pure_def, List.length_nil, Int.cast_ofNat_Int, List.reverse_nil, UU, idxP, cellsAt, storeA, fillA, zerosA, putAll, optNat, sliceA, row, Int.reduceLT, Int.reduceLE, Int.reduceGT, Int.reduceGE, Int.reduceEq, Int.reduceNe, Int.reduceToNat, Int.reduceBEq, Int.reduceBNe, Nat.reduceLeDiff, Nat.reduceLT, Nat.reduceBNe, Nat.reduceGT, List.drop_nil, List.take_nil, Option.isSome_none, Int.ofNat_one, Int.ofNat_zero, l1, w0, w1, w2, w3, c1, c2, c3, c4, d1, d3, d4]
    · have d3 : ((i : Int) == (n : Int) - 1) = false := by simpa using c7
      have e : (decide (k + 1 = n → rs + x = 1) && decide (i + 1 = n → cs + x = 1)) = true := by rw [decide_eq_true (fun f => absurd f (by omega)), decide_eq_true (fun f => absurd f (by omega))]; rfl
      obtain ⟨R1, o', R', oc', g1, g2, g3, g4⟩ := good e
      rw [e, if_pos rfl]
      refine ⟨o', R', oc', ?_, g3, g4⟩
      simp only [SS, insA, wantedA, Opd.ev, putA, binA, eqbA, unA, fldA, partA, reduceIte, reduceCtorEq, Nat.reduceMod, Nat.reduceDiv, Nat.reduceBEq, resultA, resA, vI, Nat.reduceMul, Nat.reduceAdd, Nat.reduceSub, Nat.reduceEqDiff, Nat.reduceLT, Nat.reducePow, Nat.reduceLeDiff, st, Option.bind_eq_bind, Option.pure_def, List.length_nil, Int.cast_ofNat_Int, List.reverse_nil] at g1 g2
      simp only [F53L2b, SS, insA, wantedA, Opd.ev, putA, binA, eqbA, unA, fldA, partA, reduceIte, reduceCtorEq, Nat.reduceMod, Nat.reduceDiv, Nat.reduceBEq, resultA, resA, vI, Nat.reduceMul, Nat.reduceAdd, Nat.reduceSub, Nat.reduceEqDiff, Nat.reduceLT, Nat.reducePow, Nat.reduceLeDiff, st, Option.bind_eq_bind, Option.pure_def, List.length_nil, Int.cast_ofNat_Int, List.reverse_nil, UU, idxP, cellsAt, fillA, zerosA, putAll, row, Int.reduceLT, Int.reduceLE, Int.reduceGT, Int.reduceGE, Int.reduceEq, Int.reduceNe, Int.reduceToNat, Int.reduceBEq, Int.reduceBNe, Nat.reduceLeDiff, Nat.reduceLT, Nat.reduceBNe, Nat.reduceGT, List.drop_nil, List.take_nil, Option.isSome_none, Int.ofNat_one, Int.ofNat_zero, l1, w0, w1, w2, w3, w4, c1, c2, c3, c4, d1, d3, h.tab.idx hil, h.tab.load hil, h.tab.idx2 hil hkl, g1, g2]
end
end
end Go.X
