import Derived.Test.YtchgifdkhknppaaVZA
/-! Veils: the specification's From, number by number. -/
set_option linter.unusedSimpArgs false
set_option linter.unusedVariables false
set_option maxHeartbeats 8000000
set_option maxRecDepth 10000
namespace Go.X
open Go Go.RowKit
section
variable {Y : Run} {H : Heap}

theorem triT_sm {n k : Nat} {p : Nat → Nat → Bool} (hn : n ≤ 5) (hk : k ≤ 5) : (triT p n k).length ≤ 1000 ∧ ∀ r ∈ triT p n k, r.length ≤ 1000 := by
  refine ⟨by simp [triT]; omega, fun r hr => ?_⟩
  simp only [triT, List.mem_map, List.mem_range] at hr
  obtain ⟨i, _, rfl⟩ := hr
  have := triR_len (p := p i) n 0
  omega
def cntE (a : Int) (r : List Int) : Int := (r.count a : Nat)
theorem cntE_b {a : Int} {r : List Int} (h : r.length ≤ 20) : 0 ≤ cntE a r ∧ cntE a r ≤ 20 := by
  have : r.count a ≤ r.length := List.count_le_length
  unfold cntE; omega
/-- How often the number of column b is met in row a, up to place x of row i. -/
def cP (l : List (List Int)) (i x a b : Nat) : Int := if a < i then cntE ((b : Int) + 1) (l.getD a []) else if a = i then cntE ((b : Int) + 1) ((l.getD i []).take x) else 0
def incF (l : List (List Int)) (i x a b : Nat) : Int := cP l i x a b - (if a = 0 then 0 else cP l i x (a - 1) b)
theorem rl20 {l : List (List Int)} (h : ∀ r ∈ l, r.length ≤ 20) (a : Nat) : (l.getD a []).length ≤ 20 := by
  by_cases c : a < l.length
  · rw [getD_get c]; exact h _ (List.getElem_mem c)
  · rw [List.getD_eq_getElem?_getD, List.getElem?_eq_none (by omega)]; simp
theorem cP_b {l : List (List Int)} (h : ∀ r ∈ l, r.length ≤ 20) (i x a b : Nat) : 0 ≤ cP l i x a b ∧ cP l i x a b ≤ 20 := by
  have h1 := rl20 h
  unfold cP
  split
  · exact cntE_b (h1 a)
  · split
    · exact cntE_b (by have := h1 i; rw [List.length_take]; omega)
    · omega
theorem incF_b {l : List (List Int)} (h : ∀ r ∈ l, r.length ≤ 20) (i x a b : Nat) : -20 ≤ incF l i x a b ∧ incF l i x a b ≤ 20 := by
  have h1 := cP_b h i x a b
  have h2 := cP_b h i x (a - 1) b
  unfold incF
  split <;> omega
theorem cP_s {l : List (List Int)} {i x k a b : Nat} (hx : x < (l.getD i []).length) (he : (l.getD i []).getD x 0 = (k : Int) + 1) : cP l i (x + 1) a b = cP l i x a b + if a = i ∧ b = k then 1 else 0 := by
  unfold cP
  by_cases c1 : a < i
  · rw [if_pos c1, if_pos c1, if_neg (by omega)]; omega
  · rw [if_neg c1, if_neg c1]
    by_cases c2 : a = i
    · rw [if_pos c2, if_pos c2, List.take_succ_eq_append_getElem hx]
      rw [getD_get hx] at he
      unfold cntE
      rw [List.count_append, he, List.count_singleton]
      by_cases c3 : b = k
      · subst c3; simp [c2]
      · have : ¬ ((k : Int) + 1 = (b : Int) + 1) := by omega
        simp [this, c3]
    · rw [if_neg c2, if_neg c2, if_neg (by omega)]; omega
theorem incF_s {l : List (List Int)} {i x k a b : Nat} (hx : x < (l.getD i []).length) (he : (l.getD i []).getD x 0 = (k : Int) + 1) : incF l i (x + 1) a b = incF l i x a b + (if a = i ∧ b = k then 1 else 0) - (if a = i + 1 ∧ b = k then 1 else 0) := by
  unfold incF
  rw [cP_s hx he, cP_s hx he]
  by_cases c : a = 0
  · rw [if_pos c, if_pos c, if_neg (show ¬ (a = i + 1 ∧ b = k) by omega)]; omega
  · rw [if_neg c, if_neg c]
    by_cases c1 : a = i + 1 ∧ b = k
    · rw [if_pos c1, if_pos (show a - 1 = i ∧ b = k by omega)]; omega
    · rw [if_neg c1, if_neg (show ¬ (a - 1 = i ∧ b = k) by omega)]; omega
theorem incF_next {l : List (List Int)} {i a b : Nat} : incF l (i + 1) 0 a b = incF l i (l.getD i []).length a b := by
  have h : ∀ a, cP l (i + 1) 0 a b = cP l i (l.getD i []).length a b := fun a => by
    unfold cP
    by_cases c1 : a < i
    · rw [if_pos (by omega), if_pos c1]
    · by_cases c2 : a = i
      · rw [if_pos (by omega), if_neg c1, if_pos c2, List.take_of_length_le (Nat.le_refl _), c2]
      · rw [if_neg (by omega), if_neg c1, if_neg c2]
        by_cases c3 : a = i + 1
        · rw [if_pos c3]; simp [cntE]
        · rw [if_neg c3]
  unfold incF
  rw [h, h]
theorem cntLe_cnt {a : Int} : ∀ {r : List Int}, (cntLe a r : Int) - cntLe (a - 1) r = cntE a r
  | [] => by simp [cntLe, cntE]
  | x :: r => by
    have ih := cntLe_cnt (a := a) (r := r)
    unfold cntE at ih ⊢
    unfold cntLe
    rw [List.count_cons]
    by_cases e : x = a
    · subst e
      rw [if_pos (Int.le_refl x), if_neg (by omega)]
      simp; omega
    · have : (x == a) = false := by simp [e]
      rw [this]
      by_cases c : x ≤ a
      · rw [if_pos c, if_pos (by omega)]; simp; omega
      · rw [if_neg c, if_neg (by omega)]; simp; omega
theorem incF_of {l : List (List Int)} {a b : Nat} (h : a < l.length) : incF l l.length 0 a b = ofT l a b := by
  have e : ∀ r : List Int, cntE ((b : Int) + 1) r = (cntLe ((b + 1 : Nat) : Int) r : Int) - cntLe (b : Int) r := fun r => by
    rw [← cntLe_cnt]
    have h1 : ((b + 1 : Nat) : Int) = (b : Int) + 1 := by omega
    have h2 : (b : Int) + 1 - 1 = b := by omega
    rw [h1, h2]
  unfold incF ofT sT cP
  rw [if_neg (show ¬ (a + 1 = 0) by omega), if_neg (show ¬ (a + 1 = 0) by omega), if_pos h, e, Nat.add_sub_cancel]
  by_cases c : a = 0
  · rw [if_pos c, if_pos c, if_pos c]; omega
  · rw [if_neg c, if_neg c, if_neg c, if_pos (show a - 1 < l.length by omega), e]; omega

structure Inc (n : Nat) (l : List (List Int)) (i x : Nat) (q : List (List Int)) : Prop where
  len : q.length = n
  row : ∀ r ∈ q, r.length = n
  eq : ∀ a b, a < n → b < n → at2 q a b = incF l i x a b
theorem Inc.rl {n i x a : Nat} {l q : List (List Int)} (h : Inc n l i x q) (ha : a < q.length) : q[a].length = n := h.row _ (List.getElem_mem ha)
theorem Inc.zero {n : Nat} {l : List (List Int)} : Inc n l 0 0 (zeroT n) := by
  refine ⟨by simp [zeroT], fun r hr => by rw [zeroT] at hr; rw [(List.mem_replicate.1 hr).2]; simp, fun a b ha hb => ?_⟩
  have h1 : at2 (zeroT n) a b = 0 := by
    rw [at2_get (by simp [zeroT]; exact ha) (by simp [zeroT]; exact hb)]; simp [zeroT]
  have h2 : ∀ a, cP l 0 0 a b = 0 := fun a => by
    unfold cP
    rw [if_neg (by omega)]
    split <;> simp [cntE]
  rw [h1]
  unfold incF
  rw [h2, h2]; split <;> rfl
theorem Inc.next {n i : Nat} {l q : List (List Int)} (h : Inc n l i (l.getD i []).length q) : Inc n l (i + 1) 0 q := ⟨h.len, h.row, fun a b ha hb => by rw [incF_next]; exact h.eq a b ha hb⟩
theorem Inc.done {q l : List (List Int)} (h : Inc l.length l l.length 0 q) : q = triV l :=
  Fill.done ⟨h.len, h.row, fun a b ha hb _ => by rw [h.eq a b ha hb]; exact incF_of ha⟩
theorem row_set {n : Nat} {q : List (List Int)} (h : ∀ r ∈ q, r.length = n) {i j : Nat} {x : Int} (hi : i < q.length) : ∀ r ∈ q.set i (q[i].set j x), r.length = n := fun r hr => by
  rcases List.mem_or_eq_of_mem_set hr with h1 | h1
  · exact h r h1
  · rw [h1]; simpa using h _ (List.getElem_mem hi)
theorem Inc.one {n i x k : Nat} {l q : List (List Int)} (h : Inc n l i x q) (hx : x < (l.getD i []).length) (he : (l.getD i []).getD x 0 = (k : Int) + 1) (hi : i < q.length) (hk : k < q[i].length) (hn : ¬ i + 1 < n) :
    Inc n l i (x + 1) (q.set i (q[i].set k (q[i][k] + 1))) := by
  refine ⟨by simpa using h.len, row_set h.row hi, fun a b ha hb => ?_⟩
  have h0 := h.eq a b ha hb
  rw [at2_set hi hk, incF_s hx he, ← h0, if_neg (show ¬ (a = i + 1 ∧ b = k) by omega), ← at2_get hi hk]
  by_cases c : a = i ∧ b = k
  · rw [if_pos c, if_pos c, c.1, c.2]; omega
  · rw [if_neg c, if_neg c]; omega
theorem Inc.two {n i x k : Nat} {l q : List (List Int)} (h : Inc n l i x q) (hx : x < (l.getD i []).length) (he : (l.getD i []).getD x 0 = (k : Int) + 1) (hi : i < q.length) (hk : k < q[i].length) {y : Int} {q' : List (List Int)}
    (hq : q' = q.set i (q[i].set k (q[i][k] + 1))) (hi' : i + 1 < q'.length) (hk' : k < q'[i + 1].length) : Inc n l i (x + 1) (q'.set (i + 1) (q'[i + 1].set k (q'[i + 1][k] - 1))) := by
  have r1 := row_set (x := q[i][k] + 1) (j := k) h.row hi
  rw [← hq] at r1
  refine ⟨by rw [List.length_set, hq, List.length_set]; exact h.len, row_set r1 hi', fun a b ha hb => ?_⟩
  have h0 := h.eq a b ha hb
  rw [at2_set hi' hk', ← at2_get hi' hk']
  subst hq
  rw [at2_set hi hk, at2_set hi hk, incF_s hx he, ← h0, ← at2_get hi hk, if_neg (show ¬ (i + 1 = i ∧ k = k) by omega)]
  by_cases c : a = i + 1 ∧ b = k
  · rw [if_pos c, if_pos c, if_neg (by omega), c.1, c.2]; omega
  · rw [if_neg c, if_neg c]
    by_cases c1 : a = i ∧ b = k
    · rw [if_pos c1, if_pos c1, c1.1, c1.2]; omega
    · rw [if_neg c1, if_neg c1]; omega

def goodB (n : Nat) (r : List Int) (x d : Nat) : Bool := (List.range' x d).all fun b => decide ((1 ≤ r.getD b 0 ∧ r.getD b 0 ≤ n) ∧ b < n)

theorem L50_0 {lv v : AV} {l : List (List Int)} {n i : Nat} (ht : IsTab lv l) (h20 : ∀ r ∈ l, r.length ≤ 20) (h5 : n ≤ 5) (hl : l.length = n) (hi : i < n) (d : Nat) : ∀ (x : Nat) (R : Heap) (q : List (List Int)) (cells : List AV), x + d = (l.getD i []).length →
    HTab 0 R v q cells → Inc n l i x q →
    (goodB n (l.getD i []) x d = true → ∃ R' q', lp EV Y F50L0 (sp 88 [(7, vI x), (6, vI i), (5, v), (4, vI n), (0, lv)]) R = some (.x 2, sp 88 [(6, vI i), (5, v), (4, vI n), (0, lv)], R') ∧ HTab 0 R' v q' cells ∧ Inc n l i (l.getD i []).length q') ∧
    (goodB n (l.getD i []) x d = false → ∃ R', lp EV Y F50L0 (sp 88 [(7, vI x), (6, vI i), (5, v), (4, vI n), (0, lv)]) R = some (.r, sp 88 [(3, vI 2), (2, .nils)], R')) := by
  have hil : i < l.length := by omega
  have hr := ht.row hil
  have hlen : lenA (cellAt lv i) = some (l.getD i []).length := hr.len
  have hr20 := rl20 h20 i
  generalize hrr : l.getD i [] = r at *
  induction d with
  | zero =>
    intro x R q cells hx hT hI
    have : ¬ ((x : Int) < (r.length : Int)) := by omega
    refine ⟨fun _ => ⟨R, q, ?_, hT, by rwa [show r.length = x by omega]⟩, fun h => by cases h⟩
    rw [un50_0]
    simp only [F50L0b, SS, insA, wantedA, Opd.ev, putA, binA, eqbA, unA, fldA, partA, reduceIte, reduceCtorEq, Nat.reduceMod, Nat.reduceDiv, Nat.reduceBEq, resultA, resA, vI, Nat.reduceMul, Nat.reduceAdd, Nat.reduceSub, Nat.reduceEqDiff, Nat.reduceLT, Nat.reducePow, Nat.reduceLeDiff, st, Option.bind_eq_bind, Option.pure_def, List.length_nil, Int.cast_ofNat_Int, List.reverse_nil, UU, idxP, cellsAt, storeA, fillA, zerosA, putAll, optNat, sliceA, row, Int.reduceLT, Int.reduceLE, Int.reduceGT, Int.reduceGE, Int.reduceEq, Int.reduceNe, Int.reduceToNat, Int.reduceBEq, Int.reduceBNe, Nat.reduceLeDiff, Nat.reduceLT, Nat.reduceBNe, Nat.reduceGT, List.drop_nil, List.take_nil, Option.isSome_none, Int.ofNat_one, Int.ofNat_zero, ht.idx hil, ht.load hil, hlen, this]
  | succ d ih =>
    intro x R q cells hx hT hI
    have hc : (x : Int) < (r.length : Int) := by omega
    have hx1 : x < r.length := by omega
    have hww := wrap_succ (n := x) (by omega)
    have hwi := wrap_succ (n := i) (by omega)
    have hg : goodB n r x (d + 1) = (decide ((1 ≤ r.getD x 0 ∧ r.getD x 0 ≤ n) ∧ x < n) && goodB n r (x + 1) d) := by simp only [goodB, List.range'_succ, List.all_cons]
    rw [hg, un50_0]
    have he0 : (l.getD i []).getD x 0 = r.getD x 0 := by rw [hrr]
    generalize hev : r.getD x 0 = e at *
    by_cases c1 : e < 1
    · rw [decide_eq_false (by omega), Bool.false_and]
      refine ⟨fun h => (by cases h), fun _ => ⟨R, ?_⟩⟩
      simp only [F50L0b, SS, insA, wantedA, Opd.ev, putA, binA, eqbA, unA, fldA, partA, reduceIte, reduceCtorEq, Nat.reduceMod, Nat.reduceDiv, Nat.reduceBEq, resultA, resA, vI, Nat.reduceMul, Nat.reduceAdd, Nat.reduceSub, Nat.reduceEqDiff, Nat.reduceLT, Nat.reducePow, Nat.reduceLeDiff, st, Option.bind_eq_bind, Option.pure_def, List.length_nil, Int.cast_ofNat_Int, List.reverse_nil, UU, idxP, cellsAt, storeA, fillA, zerosA, putAll, optNat, sliceA, row, Int.reduceLT, Int.reduceLE, Int.reduceGT, Int.reduceGE, Int.reduceEq, Int.reduceNe, Int.reduceToNat, Int.reduceBEq, Int.reduceBNe, Nat.reduceLeDiff, Nat.reduceLT, Nat.reduceBNe, Nat.reduceGT, List.drop_nil, List.take_nil, Option.isSome_none, Int.ofNat_one, Int.ofNat_zero, hc, ht.idx hil, ht.load hil, hlen, hr.idx hx1, hr.load hx1, hev, c1]
    · by_cases c2 : e > (n : Int)
      · rw [decide_eq_false (by omega), Bool.false_and]
        refine ⟨fun h => (by cases h), fun _ => ⟨R, ?_⟩⟩
        simp only [F50L0b, SS, insA, wantedA, Opd.ev, putA, binA, eqbA, unA, fldA, partA, reduceIte, reduceCtorEq, Nat.reduceMod, Nat.reduceDiv, Nat.reduceBEq, resultA, resA, vI, Nat.reduceMul, Nat.reduceAdd, Nat.reduceSub, Nat.reduceEqDiff, Nat.reduceLT, Nat.reducePow, Nat.reduceLeDiff, st, Option.bind_eq_bind, Option.pure_def, List.length_nil, Int.cast_ofNat_Int, List.reverse_nil, UU, idxP, cellsAt, storeA, fillA, zerosA, putAll, optNat, sliceA, row, Int.reduceLT, Int.reduceLE, Int.reduceGT, Int.reduceGE, Int.reduceEq, Int.reduceNe, Int.reduceToNat, Int.reduceBEq, Int.reduceBNe, Nat.reduceLeDiff, Nat.reduceLT, Nat.reduceBNe, Nat.reduceGT, List.drop_nil, List.take_nil, Option.isSome_none, Int.ofNat_one, Int.ofNat_zero, hc, ht.idx hil, ht.load hil, hlen, hr.idx hx1, hr.load hx1, hev, c1, c2]
      · by_cases c3 : (x : Int) ≥ (n : Int)
        · rw [decide_eq_false (by omega), Bool.false_and]
          refine ⟨fun h => (by cases h), fun _ => ⟨R, ?_⟩⟩
          simp only [F50L0b, SS, insA, wantedA, Opd.ev, putA, binA, eqbA, unA, fldA, partA, reduceIte, reduceCtorEq, Nat.reduceMod, Nat.reduceDiv, Nat.reduceBEq, resultA, resA, vI, Nat.reduceMul, Nat.reduceAdd, Nat.reduceSub, Nat.reduceEqDiff, Nat.reduceLT, Nat.reducePow, Nat.reduceLeDiff, st, Option.bind_eq_bind, Option.pure_def, List.length_nil, Int.cast_ofNat_Int, List.reverse_nil, UU, idxP, cellsAt, storeA, fillA, zerosA, putAll, optNat, sliceA, row, Int.reduceLT, Int.reduceLE, Int.reduceGT, Int.reduceGE, Int.reduceEq, Int.reduceNe, Int.reduceToNat, Int.reduceBEq, Int.reduceBNe, Nat.reduceLeDiff, Nat.reduceLT, Nat.reduceBNe, Nat.reduceGT, List.drop_nil, List.take_nil, Option.isSome_none, Int.ofNat_one, Int.ofNat_zero, hc, ht.idx hil, ht.load hil, hlen, hr.idx hx1, hr.load hx1, hev, c1, c2, c3]
        · rw [decide_eq_true (by omega), Bool.true_and]
          obtain ⟨k, hk⟩ : ∃ k : Nat, e = (k : Int) + 1 := ⟨(e - 1).toNat, by omega⟩
          have hkn : k < n := by omega
          have we : IntKind.wrap .i64 (e - 1) = (k : Int) := by rw [wrap_id (by omega) (by omega)]; omega
          have hiq : i < q.length := by rw [hI.len]; omega
          have hkq : k < q[i].length := by rw [hI.rl hiq]; omega
          have bq := incF_b h20 i x i k
          rw [← hI.eq i k (by omega) (by omega), at2_get hiq hkq] at bq
          have w1 : IntKind.wrap .i64 (q[i][k] + 1) = q[i][k] + 1 := wrap_id (by omega) (by omega)
          obtain ⟨id, o, s1, s2, s3⟩ := hT.store (x := q[i][k] + 1) hiq hkq
          by_cases c4 : i + 1 < n
          · have c4' : (((i + 1 : Nat) : Int) < (n : Int)) := by omega
            generalize hq' : q.set i (q[i].set k (q[i][k] + 1)) = q' at s2
            have hiq' : i + 1 < q'.length := by rw [← hq', List.length_set, hI.len]; omega
            have hr' : ∀ r ∈ q', r.length = n := by rw [← hq']; exact row_set hI.row hiq
            have hkq' : k < q'[i + 1].length := by rw [hr' _ (List.getElem_mem hiq')]; omega
            have bq' := incF_b h20 i x (i + 1) k
            rw [← hI.eq (i + 1) k (by omega) (by omega)] at bq'
            have e2 : at2 q' (i + 1) k = at2 q (i + 1) k := by rw [← hq', at2_set hiq hkq, if_neg (by omega)]
            rw [← e2, at2_get hiq' hkq'] at bq'
            have w2 : IntKind.wrap .i64 (q'[i + 1][k] - 1) = q'[i + 1][k] - 1 := wrap_id (by omega) (by omega)
            obtain ⟨id', o', u1, u2, u3⟩ := s2.store (x := q'[i + 1][k] - 1) hiq' hkq'
            have hI' := hI.two (y := 0) (by rw [hrr]; exact hx1) (he0.trans hk) hiq hkq hq'.symm hiq' hkq'
            have hcx : ((x + 1 : Nat) : Int) = (x : Int) + 1 := by omega
            obtain ⟨ihT, ihF⟩ := ih (x + 1) _ _ cells (by omega) u2 hI'
            constructor
            · intro hgd
              obtain ⟨R', q2, p1, p2, p3⟩ := ihT hgd
              refine ⟨R', q2, ?_, p2, p3⟩
              simp only [SS, insA, wantedA, Opd.ev, putA, binA, eqbA, unA, fldA, partA, reduceIte, reduceCtorEq, Nat.reduceMod, Nat.reduceDiv, Nat.reduceBEq, resultA, resA, vI, Nat.reduceMul, Nat.reduceAdd, Nat.reduceSub, Nat.reduceEqDiff, Nat.reduceLT, Nat.reducePow, Nat.reduceLeDiff, st, Option.bind_eq_bind, Option.pure_def, List.length_nil, Int.cast_ofNat_Int, List.reverse_nil] at p1 s1 u1
              simp only [F50L0b, SS, insA, wantedA, Opd.ev, putA, binA, eqbA, unA, fldA, partA, reduceIte, reduceCtorEq, Nat.reduceMod, Nat.reduceDiv, Nat.reduceBEq, resultA, resA, vI, Nat.reduceMul, Nat.reduceAdd, Nat.reduceSub, Nat.reduceEqDiff, Nat.reduceLT, Nat.reducePow, Nat.reduceLeDiff, st, Option.bind_eq_bind, Option.pure_def, List.length_nil, Int.cast_ofNat_Int, List.reverse_nil, UU, idxP, cellsAt, fillA, zerosA, putAll, row, Int.reduceLT, Int.reduceLE, Int.reduceGT, Int.reduceGE, Int.reduceEq, Int.reduceNe, Int.reduceToNat, Int.reduceBEq, Int.reduceBNe, Nat.reduceLeDiff, Nat.reduceLT, Nat.reduceBNe, Nat.reduceGT, List.drop_nil, List.take_nil, Option.isSome_none, Int.ofNat_one, Int.ofNat_zero, hc, hww, hwi, ht.idx hil, ht.load hil, hlen, hr.idx hx1, hr.load hx1, hev, c1, c2, c3, we, hT.idx hiq, hT.load hiq, hT.idx2 hiq hkq, hT.load2 hiq hkq, w1, s1, c4', s2.idx hiq', s2.load hiq', s2.idx2 hiq' hkq', s2.load2 hiq' hkq', w2, u1, p1]
            · intro hgd
              obtain ⟨R', p1⟩ := ihF hgd
              refine ⟨R', ?_⟩
              simp only [SS, insA, wantedA, Opd.ev, putA, binA, eqbA, unA, fldA, partA, reduceIte, reduceCtorEq, Nat.reduceMod, Nat.reduceDiv, Nat.reduceBEq, resultA, resA, vI, Nat.reduceMul, Nat.reduceAdd, Nat.reduceSub, Nat.reduceEqDiff, Nat.reduceLT, Nat.reducePow, Nat.reduceLeDiff, st, Option.bind_eq_bind, Option.pure_def, List.length_nil, Int.cast_ofNat_Int, List.reverse_nil] at p1 s1 u1
              simp only [F50L0b, SS, insA, wantedA, Opd.ev, putA, binA, eqbA, unA, fldA, partA, reduceIte, reduceCtorEq, Nat.reduceMod, Nat.reduceDiv, Nat.reduceBEq, resultA, resA, vI, Nat.reduceMul, Nat.reduceAdd, Nat.reduceSub, Nat.reduceEqDiff, Nat.reduceLT, Nat.reducePow, Nat.reduceLeDiff, st, Option.bind_eq_bind, Option.pure_def, List.length_nil, Int.cast_ofNat_Int, List.reverse_nil, UU, idxP, cellsAt, fillA, zerosA, putAll, row, Int.reduceLT, Int.reduceLE, Int.reduceGT, Int.reduceGE, Int.reduceEq, Int.reduceNe, Int.reduceToNat, Int.reduceBEq, Int.reduceBNe, Nat.reduceLeDiff, Nat.reduceLT, Nat.reduceBNe, Nat.reduceGT, List.drop_nil, List.take_nil, Option.isSome_none, Int.ofNat_one, Int.ofNat_zero, hc, hww, hwi, ht.idx hil, ht.load hil, hlen, hr.idx hx1, hr.load hx1, hev, c1, c2, c3, we, hT.idx hiq, hT.load hiq, hT.idx2 hiq hkq, hT.load2 hiq hkq, w1, s1, c4', s2.idx hiq', s2.load hiq', s2.idx2 hiq' hkq', s2.load2 hiq' hkq', w2, u1, p1]
          · have c4' : ¬ (((i + 1 : Nat) : Int) < (n : Int)) := by omega
            have hI' := hI.one (by rw [hrr]; exact hx1) (he0.trans hk) hiq hkq c4
            obtain ⟨ihT, ihF⟩ := ih (x + 1) _ _ cells (by omega) s2 hI'
            constructor
            · intro hgd
              obtain ⟨R', q2, p1, p2, p3⟩ := ihT hgd
              refine ⟨R', q2, ?_, p2, p3⟩
              simp only [SS, insA, wantedA, Opd.ev, putA, binA, eqbA, unA, fldA, partA, reduceIte, reduceCtorEq, Nat.reduceMod, Nat.reduceDiv, Nat.reduceBEq, resultA, resA, vI, Nat.reduceMul, Nat.reduceAdd, Nat.reduceSub, Nat.reduceEqDiff, Nat.reduceLT, Nat.reducePow, Nat.reduceLeDiff, st, Option.bind_eq_bind, Option.pure_def, List.length_nil, Int.cast_ofNat_Int, List.reverse_nil] at p1 s1
              simp only [F50L0b, SS, insA, wantedA, Opd.ev, putA, binA, eqbA, unA, fldA, partA, reduceIte, reduceCtorEq, Nat.reduceMod, Nat.reduceDiv, Nat.reduceBEq, resultA, resA, vI, Nat.reduceMul, Nat.reduceAdd, Nat.reduceSub, Nat.reduceEqDiff, Nat.reduceLT, Nat.reducePow, Nat.reduceLeDiff, st, Option.bind_eq_bind, Option.pure_def, List.length_nil, Int.cast_ofNat_Int, List.reverse_nil, UU, idxP, cellsAt, fillA, zerosA, putAll, row, Int.reduceLT, Int.reduceLE, Int.reduceGT, Int.reduceGE, Int.reduceEq, Int.reduceNe, Int.reduceToNat, Int.reduceBEq, Int.reduceBNe, Nat.reduceLeDiff, Nat.reduceLT, Nat.reduceBNe, Nat.reduceGT, List.drop_nil, List.take_nil, Option.isSome_none, Int.ofNat_one, Int.ofNat_zero, hc, hww, hwi, ht.idx hil, ht.load hil, hlen, hr.idx hx1, hr.load hx1, hev, c1, c2, c3, we, hT.idx hiq, hT.load hiq, hT.idx2 hiq hkq, hT.load2 hiq hkq, w1, s1, c4', p1]
            · intro hgd
              obtain ⟨R', p1⟩ := ihF hgd
              refine ⟨R', ?_⟩
              simp only [SS, insA, wantedA, Opd.ev, putA, binA, eqbA, unA, fldA, partA, reduceIte, reduceCtorEq, Nat.reduceMod, Nat.reduceDiv, Nat.reduceBEq, resultA, resA, vI, Nat.reduceMul, Nat.reduceAdd, Nat.reduceSub, Nat.reduceEqDiff, Nat.reduceLT, Nat.reducePow, Nat.reduceLeDiff, st, Option.bind_eq_bind, Option.pure_def, List.length_nil, Int.cast_ofNat_Int, List.reverse_nil] at p1 s1
              simp only [F50L0b, SS, insA, wantedA, Opd.ev, putA, binA, eqbA, unA, fldA, partA, reduceIte, reduceCtorEq, Nat.reduceMod, Nat.reduceDiv, Nat.reduceBEq, resultA, resA, vI, Nat.reduceMul, Nat.reduceAdd, Nat.reduceSub, Nat.reduceEqDiff, Nat.reduceLT, Nat.reducePow, Nat.reduceLeDiff, st, Option.bind_eq_bind, Option.pure_def, List.length_nil, Int.cast_ofNat_Int, List.reverse_nil, UU, idxP, cellsAt, fillA, zerosA, putAll, row, Int.reduceLT, Int.reduceLE, Int.reduceGT, Int.reduceGE, Int.reduceEq, Int.reduceNe, Int.reduceToNat, Int.reduceBEq, Int.reduceBNe, Nat.reduceLeDiff, Nat.reduceLT, Nat.reduceBNe, Nat.reduceGT, List.drop_nil, List.take_nil, Option.isSome_none, Int.ofNat_one, Int.ofNat_zero, hc, hww, hwi, ht.idx hil, ht.load hil, hlen, hr.idx hx1, hr.load hx1, hev, c1, c2, c3, we, hT.idx hiq, hT.load hiq, hT.idx2 hiq hkq, hT.load2 hiq hkq, w1, s1, c4', p1]

def goodT (n : Nat) (l : List (List Int)) (i d : Nat) : Bool := (List.range' i d).all fun a => goodB n (l.getD a []) 0 (l.getD a []).length

theorem L50_1 {lv v : AV} {l : List (List Int)} {n : Nat} (ht : IsTab lv l) (h20 : ∀ r ∈ l, r.length ≤ 20) (h5 : n ≤ 5) (hl : l.length = n) (d : Nat) : ∀ (i : Nat) (R : Heap) (q : List (List Int)) (cells : List AV), i + d = n →
    HTab 0 R v q cells → Inc n l i 0 q →
    (goodT n l i d = true → ∃ R', lp EV Y F50L1 (sp 88 [(6, vI i), (5, v), (4, vI n), (0, lv)]) R = some (.x 0, sp 88 [(5, v), (0, lv)], R') ∧ HTab 0 R' v (triV l) cells) ∧
    (goodT n l i d = false → ∃ R', lp EV Y F50L1 (sp 88 [(6, vI i), (5, v), (4, vI n), (0, lv)]) R = some (.r, sp 88 [(3, vI 2), (2, .nils)], R')) := by
  induction d with
  | zero =>
    intro i R q cells hi hT hI
    have : ¬ ((i : Int) < (n : Int)) := by omega
    have e : q = triV l := Inc.done (by rw [show i = n by omega] at hI; rw [hl]; exact hI)
    refine ⟨fun _ => ⟨R, ?_, by rw [← e]; exact hT⟩, fun h => by cases h⟩
    rw [un50_1]
    simp only [F50L1b, SS, insA, wantedA, Opd.ev, putA, binA, eqbA, unA, fldA, partA, reduceIte, reduceCtorEq, Nat.reduceMod, Nat.reduceDiv, Nat.reduceBEq, resultA, resA, vI, Nat.reduceMul, Nat.reduceAdd, Nat.reduceSub, Nat.reduceEqDiff, Nat.reduceLT, Nat.reducePow, Nat.reduceLeDiff, st, Option.bind_eq_bind, Option.pure_def, List.length_nil, Int.cast_ofNat_Int, List.reverse_nil, UU, idxP, cellsAt, storeA, fillA, zerosA, putAll, optNat, sliceA, row, Int.reduceLT, Int.reduceLE, Int.reduceGT, Int.reduceGE, Int.reduceEq, Int.reduceNe, Int.reduceToNat, Int.reduceBEq, Int.reduceBNe, Nat.reduceLeDiff, Nat.reduceLT, Nat.reduceBNe, Nat.reduceGT, List.drop_nil, List.take_nil, Option.isSome_none, Int.ofNat_one, Int.ofNat_zero, this]
  | succ d ih =>
    intro i R q cells hi hT hI
    have hc : (i : Int) < (n : Int) := by omega
    have hwi := wrap_succ (n := i) (by omega)
    have hg : goodT n l i (d + 1) = (goodB n (l.getD i []) 0 (l.getD i []).length && goodT n l (i + 1) d) := by simp only [goodT, List.range'_succ, List.all_cons]
    obtain ⟨aT, aF⟩ := L50_0 (Y := Y) ht h20 h5 hl (by omega) (l.getD i []).length 0 R q cells (by omega) hT hI
    rw [hg, un50_1]
    cases hb : goodB n (l.getD i []) 0 (l.getD i []).length
    · rw [Bool.false_and]
      refine ⟨fun h => (by cases h), fun _ => ?_⟩
      obtain ⟨R', p1⟩ := aF hb
      refine ⟨R', ?_⟩
      simp only [SS, insA, wantedA, Opd.ev, putA, binA, eqbA, unA, fldA, partA, reduceIte, reduceCtorEq, Nat.reduceMod, Nat.reduceDiv, Nat.reduceBEq, resultA, resA, vI, Nat.reduceMul, Nat.reduceAdd, Nat.reduceSub, Nat.reduceEqDiff, Nat.reduceLT, Nat.reducePow, Nat.reduceLeDiff, st, Option.bind_eq_bind, Option.pure_def, List.length_nil, Int.cast_ofNat_Int, List.reverse_nil, Int.ofNat_zero] at p1
      simp only [F50L1b, F50T0, in50_0, SS, insA, wantedA, Opd.ev, putA, binA, eqbA, unA, fldA, partA, reduceIte, reduceCtorEq, Nat.reduceMod, Nat.reduceDiv, Nat.reduceBEq, resultA, resA, vI, Nat.reduceMul, Nat.reduceAdd, Nat.reduceSub, Nat.reduceEqDiff, Nat.reduceLT, Nat.reducePow, Nat.reduceLeDiff, st, Option.bind_eq_bind, Option.pure_def, List.length_nil, Int.cast_ofNat_Int, List.reverse_nil, UU, idxP, cellsAt, storeA, fillA, zerosA, putAll, optNat, sliceA, row, Int.reduceLT, Int.reduceLE, Int.reduceGT, Int.reduceGE, Int.reduceEq, Int.reduceNe, Int.reduceToNat, Int.reduceBEq, Int.reduceBNe, Nat.reduceLeDiff, Nat.reduceLT, Nat.reduceBNe, Nat.reduceGT, List.drop_nil, List.take_nil, Option.isSome_none, Int.ofNat_one, Int.ofNat_zero, hc, p1]
    · rw [Bool.true_and]
      obtain ⟨R', q', p1, p2, p3⟩ := aT hb
      obtain ⟨ihT, ihF⟩ := ih (i + 1) R' q' cells (by omega) p2 p3.next
      simp only [SS, insA, wantedA, Opd.ev, putA, binA, eqbA, unA, fldA, partA, reduceIte, reduceCtorEq, Nat.reduceMod, Nat.reduceDiv, Nat.reduceBEq, resultA, resA, vI, Nat.reduceMul, Nat.reduceAdd, Nat.reduceSub, Nat.reduceEqDiff, Nat.reduceLT, Nat.reducePow, Nat.reduceLeDiff, st, Option.bind_eq_bind, Option.pure_def, List.length_nil, Int.cast_ofNat_Int, List.reverse_nil, Int.ofNat_zero] at p1
      constructor
      · intro hgd
        obtain ⟨R2, u1, u2⟩ := ihT hgd
        refine ⟨R2, ?_, u2⟩
        simp only [SS, insA, wantedA, Opd.ev, putA, binA, eqbA, unA, fldA, partA, reduceIte, reduceCtorEq, Nat.reduceMod, Nat.reduceDiv, Nat.reduceBEq, resultA, resA, vI, Nat.reduceMul, Nat.reduceAdd, Nat.reduceSub, Nat.reduceEqDiff, Nat.reduceLT, Nat.reducePow, Nat.reduceLeDiff, st, Option.bind_eq_bind, Option.pure_def, List.length_nil, Int.cast_ofNat_Int, List.reverse_nil] at u1
        simp only [F50L1b, F50T0, in50_0, SS, insA, wantedA, Opd.ev, putA, binA, eqbA, unA, fldA, partA, reduceIte, reduceCtorEq, Nat.reduceMod, Nat.reduceDiv, Nat.reduceBEq, resultA, resA, vI, Nat.reduceMul, Nat.reduceAdd, Nat.reduceSub, Nat.reduceEqDiff, Nat.reduceLT, Nat.reducePow, Nat.reduceLeDiff, st, Option.bind_eq_bind, Option.pure_def, List.length_nil, Int.cast_ofNat_Int, List.reverse_nil, UU, idxP, cellsAt, storeA, fillA, zerosA, putAll, optNat, sliceA, row, Int.reduceLT, Int.reduceLE, Int.reduceGT, Int.reduceGE, Int.reduceEq, Int.reduceNe, Int.reduceToNat, Int.reduceBEq, Int.reduceBNe, Nat.reduceLeDiff, Nat.reduceLT, Nat.reduceBNe, Nat.reduceGT, List.drop_nil, List.take_nil, Option.isSome_none, Int.ofNat_one, Int.ofNat_zero, hc, hwi, p1, u1]
      · intro hgd
        obtain ⟨R2, u1⟩ := ihF hgd
        refine ⟨R2, ?_⟩
        simp only [SS, insA, wantedA, Opd.ev, putA, binA, eqbA, unA, fldA, partA, reduceIte, reduceCtorEq, Nat.reduceMod, Nat.reduceDiv, Nat.reduceBEq, resultA, resA, vI, Nat.reduceMul, Nat.reduceAdd, Nat.reduceSub, Nat.reduceEqDiff, Nat.reduceLT, Nat.reducePow, Nat.reduceLeDiff, st, Option.bind_eq_bind, Option.pure_def, List.length_nil, Int.cast_ofNat_Int, List.reverse_nil] at u1
        simp only [F50L1b, F50T0, in50_0, SS, insA, wantedA, Opd.ev, putA, binA, eqbA, unA, fldA, partA, reduceIte, reduceCtorEq, Nat.reduceMod, Nat.reduceDiv, Nat.reduceBEq, resultA, resA, vI, Nat.reduceMul, Nat.reduceAdd, Nat.reduceSub, Nat.reduceEqDiff, Nat.reduceLT, Nat.reducePow, Nat.reduceLeDiff, st, Option.bind_eq_bind, Option.pure_def, List.length_nil, Int.cast_ofNat_Int, List.reverse_nil, UU, idxP, cellsAt, storeA, fillA, zerosA, putAll, optNat, sliceA, row, Int.reduceLT, Int.reduceLE, Int.reduceGT, Int.reduceGE, Int.reduceEq, Int.reduceNe, Int.reduceToNat, Int.reduceBEq, Int.reduceBNe, Nat.reduceLeDiff, Nat.reduceLT, Nat.reduceBNe, Nat.reduceGT, List.drop_nil, List.take_nil, Option.isSome_none, Int.ofNat_one, Int.ofNat_zero, hc, hwi, p1, u1]

theorem good_tri {l : List (List Int)} (h : triB l.length l 0 l.length = true) : goodT l.length l 0 l.length = true := by
  refine List.all_eq_true.2 fun i hi => ?_
  have hq := List.all_eq_true.1 h i hi
  rw [Bool.and_eq_true, decide_eq_true_eq] at hq
  have hi' : i < l.length := by simp at hi; omega
  refine List.all_eq_true.2 fun b hb => decide_eq_true ?_
  have hb' : b < i + 1 := by rw [← hq.1]; simpa using hb
  have := of_decide_eq_true (List.all_eq_true.1 hq.2 b (by simp; omega))
  exact ⟨this.1, by omega⟩

theorem from50 {hv : AV} {h : List (List Int)} (ht : IsTab hv h) (hs : Small h) :
    (fromOk h = true → ∃ w, IsTab w (triV h) ∧ ∀ H, freeX H (callL EV Y 50 [hv] []) = some (.tup [w, vI 0], H)) ∧
    (fromOk h = false → ∀ H, freeX H (callL EV Y 50 [hv] []) = some (.tup [.nils, vI 2], H)) := by
  have call := call50 (Y := Y) (x0 := hv) (H := []) rfl
  have hb := hs.1
  by_cases c1 : h.length < 1
  · have c : (h.length : Int) < 1 := by omega
    have e : fromOk h = false := by unfold fromOk; rw [decide_eq_false (by omega), Bool.false_and]
    refine ⟨fun q => absurd (e.symm.trans q) (by decide), fun _ H => ?_⟩
    rw [call]
    simp only [F50B, SS, insA, wantedA, Opd.ev, putA, binA, eqbA, unA, fldA, partA, reduceIte, reduceCtorEq, Nat.reduceMod, Nat.reduceDiv, Nat.reduceBEq, resultA, resA, vI, Nat.reduceMul, Nat.reduceAdd, Nat.reduceSub, Nat.reduceEqDiff, Nat.reduceLT, Nat.reducePow, Nat.reduceLeDiff, st, Option.bind_eq_bind, Option.pure_def, List.length_nil, Int.cast_ofNat_Int, List.reverse_nil, UU, idxP, cellsAt, storeA, fillA, zerosA, putAll, optNat, sliceA, row, Int.reduceLT, Int.reduceLE, Int.reduceGT, Int.reduceGE, Int.reduceEq, Int.reduceNe, Int.reduceToNat, Int.reduceBEq, Int.reduceBNe, Nat.reduceLeDiff, Nat.reduceLT, Nat.reduceBNe, Nat.reduceGT, List.drop_nil, List.take_nil, Option.isSome_none, Int.ofNat_one, Int.ofNat_zero, ht.len, c]
  · by_cases c2 : h.length > 5
    · have c : ¬ (h.length : Int) < 1 := by omega
      have c' : (h.length : Int) > 5 := by omega
      have e : fromOk h = false := by unfold fromOk; rw [decide_eq_false (by omega), Bool.false_and]
      refine ⟨fun q => absurd (e.symm.trans q) (by decide), fun _ H => ?_⟩
      rw [call]
      simp only [F50B, SS, insA, wantedA, Opd.ev, putA, binA, eqbA, unA, fldA, partA, reduceIte, reduceCtorEq, Nat.reduceMod, Nat.reduceDiv, Nat.reduceBEq, resultA, resA, vI, Nat.reduceMul, Nat.reduceAdd, Nat.reduceSub, Nat.reduceEqDiff, Nat.reduceLT, Nat.reducePow, Nat.reduceLeDiff, st, Option.bind_eq_bind, Option.pure_def, List.length_nil, Int.cast_ofNat_Int, List.reverse_nil, UU, idxP, cellsAt, storeA, fillA, zerosA, putAll, optNat, sliceA, row, Int.reduceLT, Int.reduceLE, Int.reduceGT, Int.reduceGE, Int.reduceEq, Int.reduceNe, Int.reduceToNat, Int.reduceBEq, Int.reduceBNe, Nat.reduceLeDiff, Nat.reduceLT, Nat.reduceBNe, Nat.reduceGT, List.drop_nil, List.take_nil, Option.isSome_none, Int.ofNat_one, Int.ofNat_zero, ht.len, c, c']
    · have c : ¬ (h.length : Int) < 1 := by omega
      have c' : ¬ (h.length : Int) > 5 := by omega
      obtain ⟨v, R, cells, z1, z2⟩ := zeros54 (Y := Y) (n := h.length) (by omega)
      obtain ⟨v', H', cells', q1, q2, q3⟩ := call_tab (H := []) (R := callL EV Y) (f := 54) (args := [vI (h.length : Int)]) (bs := [vI (h.length : Int)]) rfl z1 z2
      obtain ⟨aT, aF⟩ := L50_1 (Y := Y) ht hs.2 (by omega) rfl h.length 0 H' _ cells' (by omega) q2 Inc.zero
      simp only [SS, insA, wantedA, Opd.ev, putA, binA, eqbA, unA, fldA, partA, reduceIte, reduceCtorEq, Nat.reduceMod, Nat.reduceDiv, Nat.reduceBEq, resultA, resA, vI, Nat.reduceMul, Nat.reduceAdd, Nat.reduceSub, Nat.reduceEqDiff, Nat.reduceLT, Nat.reducePow, Nat.reduceLeDiff, st, Option.bind_eq_bind, Option.pure_def, List.length_nil, Int.cast_ofNat_Int, List.reverse_nil] at q1
      cases hg : goodT h.length h 0 h.length
      · have e : fromOk h = false := by
          cases hf : fromOk h
          · rfl
          · unfold fromOk at hf
            rw [Bool.and_eq_true, Bool.and_eq_true] at hf
            exact absurd ((good_tri hf.2.1).symm.trans hg) (by decide)
        refine ⟨fun q => absurd (e.symm.trans q) (by decide), fun _ H => ?_⟩
        obtain ⟨R', p1⟩ := aF hg
        rw [call]
        simp only [SS, insA, wantedA, Opd.ev, putA, binA, eqbA, unA, fldA, partA, reduceIte, reduceCtorEq, Nat.reduceMod, Nat.reduceDiv, Nat.reduceBEq, resultA, resA, vI, Nat.reduceMul, Nat.reduceAdd, Nat.reduceSub, Nat.reduceEqDiff, Nat.reduceLT, Nat.reducePow, Nat.reduceLeDiff, st, Option.bind_eq_bind, Option.pure_def, List.length_nil, Int.cast_ofNat_Int, List.reverse_nil, Int.ofNat_zero] at p1
        simp only [F50B, F50T1, in50_1, SS, insA, wantedA, Opd.ev, putA, binA, eqbA, unA, fldA, partA, reduceIte, reduceCtorEq, Nat.reduceMod, Nat.reduceDiv, Nat.reduceBEq, resultA, resA, vI, Nat.reduceMul, Nat.reduceAdd, Nat.reduceSub, Nat.reduceEqDiff, Nat.reduceLT, Nat.reducePow, Nat.reduceLeDiff, st, Option.bind_eq_bind, Option.pure_def, List.length_nil, Int.cast_ofNat_Int, List.reverse_nil, UU, idxP, cellsAt, fillA, zerosA, putAll, row, Int.reduceLT, Int.reduceLE, Int.reduceGT, Int.reduceGE, Int.reduceEq, Int.reduceNe, Int.reduceToNat, Int.reduceBEq, Int.reduceBNe, Nat.reduceLeDiff, Nat.reduceLT, Nat.reduceBNe, Nat.reduceGT, List.drop_nil, List.take_nil, Option.isSome_none, Int.ofNat_one, Int.ofNat_zero, ht.len, c, c', q1, p1]
      · obtain ⟨R', p1, p2⟩ := aT hg
        obtain ⟨⟨w, o1, o2⟩, _⟩ := p2.out (d := 2)
        obtain ⟨_, w', o3, o4⟩ := p2.out (d := 3)
        have oo : freeA R' 5 v' = some w := o1
        have o3 : snapA R' 6 v' = some w' := o3
        have ys : Small (triV h) := by
          refine ⟨by rw [triV_len]; omega, fun r hr => ?_⟩
          have := tabF_mem r hr
          omega
        have iv := fun H => isveil26 (Y := Y) (H := H) o4 ys
        rw [ref_read] at iv
        have fi := from_iff (l := h) (by omega)
        simp only [SS, insA, wantedA, Opd.ev, putA, binA, eqbA, unA, fldA, partA, reduceIte, reduceCtorEq, Nat.reduceMod, Nat.reduceDiv, Nat.reduceBEq, resultA, resA, vI, Nat.reduceMul, Nat.reduceAdd, Nat.reduceSub, Nat.reduceEqDiff, Nat.reduceLT, Nat.reducePow, Nat.reduceLeDiff, st, Option.bind_eq_bind, Option.pure_def, List.length_nil, Int.cast_ofNat_Int, List.reverse_nil, Int.ofNat_zero] at p1 o3
        cases r2 : readOk (triV h)
        · have e : fromOk h = false := by unfold fromOk; rw [r2, Bool.and_false, Bool.and_false]
          rw [r2] at iv
          refine ⟨fun q => absurd (e.symm.trans q) (by decide), fun _ H => ?_⟩
          rw [call]
          simp only [F50B, F50T1, in50_1, SS, insA, wantedA, Opd.ev, putA, binA, eqbA, unA, fldA, partA, reduceIte, reduceCtorEq, Nat.reduceMod, Nat.reduceDiv, Nat.reduceBEq, resultA, resA, vI, Nat.reduceMul, Nat.reduceAdd, Nat.reduceSub, Nat.reduceEqDiff, Nat.reduceLT, Nat.reducePow, Nat.reduceLeDiff, st, Option.bind_eq_bind, Option.pure_def, List.length_nil, Int.cast_ofNat_Int, List.reverse_nil, UU, idxP, cellsAt, fillA, zerosA, putAll, row, Int.reduceLT, Int.reduceLE, Int.reduceGT, Int.reduceGE, Int.reduceEq, Int.reduceNe, Int.reduceToNat, Int.reduceBEq, Int.reduceBNe, Nat.reduceLeDiff, Nat.reduceLT, Nat.reduceBNe, Nat.reduceGT, List.drop_nil, List.take_nil, Option.isSome_none, Int.ofNat_one, Int.ofNat_zero, ht.len, c, c', q1, p1, o3, iv]
        · rw [r2] at iv
          have V := veil_iff.1 r2
          obtain ⟨x, x1, x2, x3⟩ := tri67 (Y := Y) o4 V
          rw [triV_len] at x1
          have sm := fun H => same19 (Y := Y) (H := H) x1 ht (triT_sm (by omega) (by omega)).1 (triT_sm (by omega) (by omega)).2
          cases r3 : fromOk h
          · have hne : ¬ (triT (pR (triV h)) h.length h.length = h) := fun q => by
              have := fi.2 ⟨r2, q⟩
              rw [r3] at this; cases this
            rw [decide_eq_false hne] at sm
            refine ⟨fun q => (by cases q), fun _ H => ?_⟩
            rw [call]
            simp only [F50B, F50T1, in50_1, SS, insA, wantedA, Opd.ev, putA, binA, eqbA, unA, fldA, partA, reduceIte, reduceCtorEq, Nat.reduceMod, Nat.reduceDiv, Nat.reduceBEq, resultA, resA, vI, Nat.reduceMul, Nat.reduceAdd, Nat.reduceSub, Nat.reduceEqDiff, Nat.reduceLT, Nat.reducePow, Nat.reduceLeDiff, st, Option.bind_eq_bind, Option.pure_def, List.length_nil, Int.cast_ofNat_Int, List.reverse_nil, UU, idxP, cellsAt, fillA, zerosA, putAll, row, Int.reduceLT, Int.reduceLE, Int.reduceGT, Int.reduceGE, Int.reduceEq, Int.reduceNe, Int.reduceToNat, Int.reduceBEq, Int.reduceBNe, Nat.reduceLeDiff, Nat.reduceLT, Nat.reduceBNe, Nat.reduceGT, List.drop_nil, List.take_nil, Option.isSome_none, Int.ofNat_one, Int.ofNat_zero, ht.len, ht.snap, x1.snap, c, c', q1, p1, o3, iv, x2, x3, sm]
          · rw [decide_eq_true (fi.1 r3).2] at sm
            refine ⟨fun _ => ⟨w, o2, fun H => ?_⟩, fun q => (by cases q)⟩
            rw [call]
            simp only [F50B, F50T1, in50_1, SS, insA, wantedA, Opd.ev, putA, binA, eqbA, unA, fldA, partA, reduceIte, reduceCtorEq, Nat.reduceMod, Nat.reduceDiv, Nat.reduceBEq, resultA, resA, vI, Nat.reduceMul, Nat.reduceAdd, Nat.reduceSub, Nat.reduceEqDiff, Nat.reduceLT, Nat.reducePow, Nat.reduceLeDiff, st, Option.bind_eq_bind, Option.pure_def, List.length_nil, Int.cast_ofNat_Int, List.reverse_nil, UU, idxP, cellsAt, fillA, zerosA, putAll, row, Int.reduceLT, Int.reduceLE, Int.reduceGT, Int.reduceGE, Int.reduceEq, Int.reduceNe, Int.reduceToNat, Int.reduceBEq, Int.reduceBNe, Nat.reduceLeDiff, Nat.reduceLT, Nat.reduceBNe, Nat.reduceGT, List.drop_nil, List.take_nil, Option.isSome_none, Int.ofNat_one, Int.ofNat_zero, ht.len, ht.snap, x1.snap, c, c', q1, p1, o3, iv, x2, x3, sm, oo]
end
end Go.X
