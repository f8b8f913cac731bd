import Derived.Test.YtmedpfjiidlidaaXI
/-! Tables of one, two, three fashions. -/
set_option linter.unusedSimpArgs false
set_option linter.unusedVariables false
namespace Go.X
open Go Go.RowKit
section
variable {Y : Run} {H : Heap}

theorem best61 {vt yv : AV} {t : List (List Int)} {ys : List Int} {den : Int} (ht : IsTab vt t) (hy : IsRow yv ys) (hn : t.length ≤ 20) (hyl : ys.length = t.length)
    (hT : tame t) (hY : small ys) (hr : ∀ r ∈ t, r.length = t.length) :
    freeX H (callL E Y 61 [vt, .agg [yv, vI den]] []) = some (vI ((runB ((List.range' 0 t.length).map fun j => gainS t (unit t.length j) ys) 0 (0, 0)).1 : Int), H) := by
  rw [call61 rfl]
  obtain ⟨R', h1⟩ := L61 (Y := Y) (den := den) ht hy hn hyl hT hY hr t.length 0 0 0 [] (by omega) (by simp)
  simp only [SS, insA, wantedA, Opd.ev, putA, binA, eqbA, unA, fldA, partA, reduceIte, reduceCtorEq, Nat.reduceMod, Nat.reduceDiv, Nat.reduceBEq, resultA, resA, vI, Nat.reduceMul, Nat.reduceAdd, Nat.reduceSub, Nat.reduceEqDiff, Nat.reduceLT, Nat.reducePow, Nat.reduceLeDiff, st, Option.bind_eq_bind, Option.pure_def, List.length_nil, Int.cast_ofNat_Int, List.reverse_nil, Int.ofNat_zero] at h1
  simp only [F61, F61B, F61T0, in61_0, SS, insA, wantedA, Opd.ev, putA, binA, eqbA, unA, fldA, partA, reduceIte, reduceCtorEq, Nat.reduceMod, Nat.reduceDiv, Nat.reduceBEq, resultA, resA, vI, Nat.reduceMul, Nat.reduceAdd, Nat.reduceSub, Nat.reduceEqDiff, Nat.reduceLT, Nat.reducePow, Nat.reduceLeDiff, st, Option.bind_eq_bind, Option.pure_def, List.length_nil, Int.cast_ofNat_Int, List.reverse_nil, isU, cellsOf, h1]

/-! ### Pure laws -/
def dotS : List Int → List Int → Int
  | a :: r, y :: ys => a * y + dotS r ys
  | _, _ => 0

theorem dotX_zero : ∀ (r ys : List Int), dotX 0 r ys = 0
  | [], _ => by simp [dotX]
  | _ :: _, [] => by simp [dotX]
  | a :: r, y :: ys => by simp [dotX, dotX_zero r ys]
theorem dotX_one : ∀ (r ys : List Int), dotX 1 r ys = dotS r ys
  | [], _ => by simp [dotX, dotS]
  | _ :: _, [] => by simp [dotX, dotS]
  | a :: r, y :: ys => by simp [dotX, dotS, dotX_one r ys, Int.mul_comm]

theorem gainS_zero : ∀ (t : List (List Int)) (n : Nat) (ys : List Int), gainS t (List.replicate n 0) ys = 0
  | [], _, _ => by simp [gainS]
  | _ :: _, 0, _ => by simp [gainS]
  | r :: t, n + 1, ys => by simp [gainS, List.replicate_succ, dotX_zero, gainS_zero t n ys]

theorem gain_unit : ∀ (t : List (List Int)) (j : Nat) (ys : List Int), gainS t (unit t.length j) ys = dotS (t.getD j []) ys
  | [], j, ys => by simp [gainS, dotS]
  | r :: t, 0, ys => by
    simp [unit, List.replicate_succ, gainS, dotX_one, gainS_zero]
  | r :: t, j + 1, ys => by
    have := gain_unit t j ys
    simp only [unit] at this
    simp [unit, List.replicate_succ, gainS, dotX_zero, this]

theorem gains_unit (t : List (List Int)) (ys : List Int) : ((List.range' 0 t.length).map fun j => gainS t (unit t.length j) ys) = t.map (dotS · ys) := by
  apply List.ext_getElem
  · simp
  · intro i h1 h2
    have hi : i < t.length := by simpa using h2
    simp [gain_unit, List.getD_eq_getElem?_getD, hi]

theorem foldl_max_le : ∀ (l : List Int) (a : Int), a ≤ l.foldl max a ∧ ∀ x ∈ l, x ≤ l.foldl max a
  | [], a => by simp
  | x :: l, a => by
    obtain ⟨h1, h2⟩ := foldl_max_le l (max a x)
    simp only [List.foldl_cons]
    refine ⟨by omega, fun y hy => ?_⟩
    rcases List.mem_cons.1 hy with rfl | h
    · omega
    · exact h2 y h

theorem setS_none {p : Int → Bool} : ∀ (l : List Int) (i : Nat), (∀ x ∈ l, p x = false) → setS p l i = 0
  | [], _, _ => rfl
  | x :: l, i, h => by simp [setS, h x (by simp), setS_none l (i + 1) fun y hy => h y (List.mem_cons_of_mem _ hy)]

/-- What the specification comes to: the places of the greatest. -/
theorem runB_spec : ∀ (l : List Int) (i b : Nat) (mo : Int), 0 < b → (runB l i (b, mo)).1 = if l.foldl max mo = mo then b + setS (fun x => x == mo) l i else setS (fun x => x == l.foldl max mo) l i
  | [], i, b, mo, hb => by simp [runB, setS]
  | g :: l, i, b, mo, hb => by
    have hp := Nat.two_pow_pos i
    obtain ⟨f1, f2⟩ := foldl_max_le l (max mo g)
    simp only [runB, stepB, List.foldl_cons, setS]
    by_cases c1 : g > mo
    · rw [if_pos (.inr c1), runB_spec l (i + 1) _ g hp]
      have hm : max mo g = g := by omega
      simp only [hm] at f1 ⊢
      have hne : ¬ l.foldl max g = mo := by omega
      rw [if_neg hne]
      by_cases c2 : l.foldl max g = g
      · rw [if_pos c2, c2]; simp
      · rw [if_neg c2]
        have : (g == l.foldl max g) = false := by simp; omega
        simp [this]
    · rw [if_neg (by omega)]
      have hm : max mo g = mo := by omega
      simp only [hm] at f1 ⊢
      by_cases c2 : g = mo
      · rw [if_pos c2, runB_spec l (i + 1) _ mo (by omega)]
        by_cases c3 : l.foldl max mo = mo
        · rw [if_pos c3, if_pos c3]; simp [c2]; omega
        · rw [if_neg c3, if_neg c3]
          have : (g == l.foldl max mo) = false := by simp; omega
          simp [this]
      · rw [if_neg c2, runB_spec l (i + 1) b mo hb]
        by_cases c3 : l.foldl max mo = mo
        · rw [if_pos c3, if_pos c3]
          have : (g == mo) = false := by simp [c2]
          simp [this]
        · rw [if_neg c3, if_neg c3]
          have : (g == l.foldl max mo) = false := by simp; omega
          simp [this]

theorem runB_all (l : List Int) (h : 0 < l.length) : (runB l 0 (0, 0)).1 = setS (fun x => x == maxI l) l 0 := by
  cases l with
  | nil => simp at h
  | cons g l =>
    simp only [runB, stepB, maxI, setS]
    rw [if_pos (.inl trivial), runB_spec l 1 _ g (by decide)]
    by_cases c : l.foldl max g = g
    · simp [c]
    · rw [if_neg c]
      have : (g == l.foldl max g) = false := by simp; omega
      simp [this]

/-! ### Shapes -/
theorem tab_one {vt : AV} {a : List Int} (h : IsTab vt [a]) : ∃ s v, vt = .imm s [v] 1 ∧ IsRow v a := by
  generalize ht : [a] = t at h
  cases h with
  | nil => cases ht
  | imm sn vs t hl hr =>
    subst ht
    match vs, hl with
    | [v], _ => exact ⟨sn, v, rfl, hr 0 (by simp)⟩
theorem tab_two {vt : AV} {a b : List Int} (h : IsTab vt [a, b]) : ∃ s v w, vt = .imm s [v, w] 2 ∧ IsRow v a ∧ IsRow w b := by
  generalize ht : [a, b] = t at h
  cases h with
  | nil => cases ht
  | imm sn vs t hl hr =>
    subst ht
    match vs, hl with
    | [v, w], _ => exact ⟨sn, v, w, rfl, hr 0 (by simp), hr 1 (by simp)⟩
theorem tab_three {vt : AV} {a b c : List Int} (h : IsTab vt [a, b, c]) : ∃ s v w x, vt = .imm s [v, w, x] 3 ∧ IsRow v a ∧ IsRow w b ∧ IsRow x c := by
  generalize ht : [a, b, c] = t at h
  cases h with
  | nil => cases ht
  | imm sn vs t hl hr =>
    subst ht
    match vs, hl with
    | [v, w, x], _ => exact ⟨sn, v, w, x, rfl, hr 0 (by simp), hr 1 (by simp), hr 2 (by simp)⟩
theorem row_some {v : AV} {x : Int} {l : List Int} (h : IsRow v (x :: l)) : ∃ s, v = .imm s ((x :: l).map vI) (x :: l).length := by
  generalize ht : x :: l = t at h
  cases h with
  | nil => cases ht
  | imm sn t => exact ⟨sn, rfl⟩

theorem row1 {v : AV} {a : Int} (h : IsRow v [a]) : ∃ s, v = .imm s [vI a] 1 := row_some h
theorem row2 {v : AV} {a b : Int} (h : IsRow v [a, b]) : ∃ s, v = .imm s [vI a, vI b] 2 := row_some h
theorem row3 {v : AV} {a b c : Int} (h : IsRow v [a, b, c]) : ∃ s, v = .imm s [vI a, vI b, vI c] 3 := row_some h

/-- The three shapes of a table. -/
theorem shapes {t : List (List Int)} (h : okTab t) : (∃ a, t = [[a]]) ∨ (∃ a b c d, t = [[a, b], [c, d]]) ∨ (∃ a b c d e f g h i, t = [[a, b, c], [d, e, f], [g, h, i]]) := by
  obtain ⟨h1, h3, hr⟩ := h
  match t, h1, h3, hr with
  | [r], _, _, hr =>
    have := (hr r (by simp)).1
    match r, this with
    | [a], _ => exact .inl ⟨a, rfl⟩
  | [r, q], _, _, hr =>
    have h1 := (hr r (by simp)).1
    have h2 := (hr q (by simp)).1
    match r, h1, q, h2 with
    | [a, b], _, [c, d], _ => exact .inr (.inl ⟨a, b, c, d, rfl⟩)
  | [r, q, p], _, _, hr =>
    have h1 := (hr r (by simp)).1
    have h2 := (hr q (by simp)).1
    have h3 := (hr p (by simp)).1
    match r, h1, q, h2, p, h3 with
    | [a, b, c], _, [d, e, f], _, [g, h, i], _ => exact .inr (.inr ⟨a, b, c, d, e, f, g, h, i, rfl⟩)

theorem okTab.tame {t : List (List Int)} (h : okTab t) : tame t := fun r hr => (h.2.2 r hr).2
theorem okTab.rows {t : List (List Int)} (h : okTab t) : ∀ r ∈ t, r.length = t.length := fun r hr => (h.2.2 r hr).1

set_option maxHeartbeats 2000000 in
theorem c71_3 {s s0 s1 s2 sy : Bool} {a b c d e f g h i y0 y1 y2 den : Int} (ha : -20 ≤ a ∧ a ≤ 20) (hb : -20 ≤ b ∧ b ≤ 20) (hc : -20 ≤ c ∧ c ≤ 20) (hd : -20 ≤ d ∧ d ≤ 20) (he : -20 ≤ e ∧ e ≤ 20)
    (hf : -20 ≤ f ∧ f ≤ 20) (hg : -20 ≤ g ∧ g ≤ 20) (hh : -20 ≤ h ∧ h ≤ 20) (hi : -20 ≤ i ∧ i ≤ 20) (h0 : -100000 ≤ y0 ∧ y0 ≤ 100000) (h1 : -100000 ≤ y1 ∧ y1 ≤ 100000) (h2 : -100000 ≤ y2 ∧ y2 ≤ 100000) :
    freeX H (callL E Y 71 [.imm s [.imm s0 [vI a, vI b, vI c] 3, .imm s1 [vI d, vI e, vI f] 3, .imm s2 [vI g, vI h, vI i] 3] 3, .agg [.imm sy [vI y0, vI y1, vI y2] 3, vI den]] []) =
      some (.imm false [vI (a * y0 + b * y1 + c * y2), vI (d * y0 + e * y1 + f * y2), vI (g * y0 + h * y1 + i * y2)] 3, H) := by
  have q1 := mulB ha h0
  have q2 := mulB hb h1
  have q3 := mulB hc h2
  have q4 := mulB hd h0
  have q5 := mulB he h1
  have q6 := mulB hf h2
  have q7 := mulB hg h0
  have q8 := mulB hh h1
  have q9 := mulB hi h2
  have w00 : IntKind.wrap .i64 (a * y0) = a * y0 := wrap_id (by omega) (by omega)
  have w01 : IntKind.wrap .i64 (b * y1) = b * y1 := wrap_id (by omega) (by omega)
  have v01 : IntKind.wrap .i64 (a * y0 + b * y1) = a * y0 + b * y1 := wrap_id (by omega) (by omega)
  have w02 : IntKind.wrap .i64 (c * y2) = c * y2 := wrap_id (by omega) (by omega)
  have v02 : IntKind.wrap .i64 (a * y0 + b * y1 + c * y2) = a * y0 + b * y1 + c * y2 := wrap_id (by omega) (by omega)
  have w10 : IntKind.wrap .i64 (d * y0) = d * y0 := wrap_id (by omega) (by omega)
  have w11 : IntKind.wrap .i64 (e * y1) = e * y1 := wrap_id (by omega) (by omega)
  have v11 : IntKind.wrap .i64 (d * y0 + e * y1) = d * y0 + e * y1 := wrap_id (by omega) (by omega)
  have w12 : IntKind.wrap .i64 (f * y2) = f * y2 := wrap_id (by omega) (by omega)
  have v12 : IntKind.wrap .i64 (d * y0 + e * y1 + f * y2) = d * y0 + e * y1 + f * y2 := wrap_id (by omega) (by omega)
  have w20 : IntKind.wrap .i64 (g * y0) = g * y0 := wrap_id (by omega) (by omega)
  have w21 : IntKind.wrap .i64 (h * y1) = h * y1 := wrap_id (by omega) (by omega)
  have v21 : IntKind.wrap .i64 (g * y0 + h * y1) = g * y0 + h * y1 := wrap_id (by omega) (by omega)
  have w22 : IntKind.wrap .i64 (i * y2) = i * y2 := wrap_id (by omega) (by omega)
  have v22 : IntKind.wrap .i64 (g * y0 + h * y1 + i * y2) = g * y0 + h * y1 + i * y2 := wrap_id (by omega) (by omega)
  rw [call71 rfl]
  simp (config := {maxSteps := 10000000}) only [F71, F71B, F71T0, F71T1, F71T2, in71_0, in71_1, F71L0b, F71L1b, un71_0, un71_1, SS, insA, wantedA, Opd.ev, putA, binA, eqbA, unA, fldA, partA, reduceIte, reduceCtorEq, Nat.reduceMod, Nat.reduceDiv, Nat.reduceBEq, resultA, resA, vI, Nat.reduceMul, Nat.reduceAdd, Nat.reduceSub, Nat.reduceEqDiff, Nat.reduceLT, Nat.reducePow, Nat.reduceLeDiff, st, Option.bind_eq_bind, Option.pure_def, List.length_nil, Int.cast_ofNat_Int, List.reverse_nil, isU_bool, cells_bool, one_bool, isU_int, cells_int, one_int, isU_nils, cells_nils, one_nils, isU_imm, cells_imm, one_imm, isU_sl, cells_sl, one_sl, isU_ptr, cells_ptr, one_ptr, isU_cptr, cells_cptr, one_cptr, isU_fn, cells_fn, one_fn, isU_agg, cells_agg, len_nils, len_imm, len_sl, nat_int, idxN_some, idx_imm, idx_slice, firstX_some, load_ptr, load_cptr, loads_ptr, loads_cptr, idxP, cellsAt, storeA, fillA, zerosA, putAll, optNat, sliceA, row, List.drop_succ_cons, List.drop_zero, List.drop_nil, List.take_succ_cons, List.take_zero, List.take_nil, List.getElem?_cons_zero, List.getElem?_cons_succ, List.all_cons, List.all_nil, List.length_append, List.length_set, Bool.and_self, Bool.and_true, Bool.true_and, Bool.or_false, Bool.or_true, decide_true, decide_false, Int.reduceAdd, Int.reduceSub, Int.reduceMul, Int.reduceNeg, Int.reduceLT, Int.reduceLE, Int.reduceGT, Int.reduceGE, Int.reduceEq, Int.reduceNe, Int.reduceToNat, Int.reduceBEq, Int.reduceBNe, Int.reduceMod, Int.reduceTMod, Int.reduceTDiv, Int.reducePow, Nat.reduceLeDiff, Nat.reduceLT, Nat.reducePow, Nat.reduceBNe, Nat.reduceGT, Nat.mul_one, Nat.zero_mul, Nat.one_mul, Nat.zero_add, Nat.add_zero, Nat.sub_zero, Option.isSome_some, Option.isSome_none, Option.some.injEq, wrap_id, mnx_min, mnx_max, List.append_assoc, List.range_succ, List.range_zero, Int.zero_add, Int.add_zero, free_sl, freeB_some, Nat.le_refl, List.length_replicate, Int.toNat_zero, freeB_ite, freeS_some, Bool.not_true, Bool.not_false, bitsA, IntKind.bits, Nat.min_def, Int.reduceFDiv, BitVec.reduceOfInt, BitVec.reduceAnd, BitVec.reduceOr, BitVec.reduceNot, BitVec.reduceToNat, BitVec.reduceXOr, Int.ofNat_one, Int.ofNat_zero, Nat.min_zero, Nat.zero_min, Int.pow_zero, av_ite_bool, av_ite_int, decide_eq_false_iff_not, beq_eq_false_iff_ne, Bool.not_eq_true, beq_bt, beq_bf, Bool.not_eq_eq_eq_not, snap_sl, snapS_some, snapB_some, List.getD_cons_zero, List.getD_cons_succ, List.set_cons_succ, List.set_cons_zero, List.replicate_succ, List.replicate_zero, appA, content, w00, w01, v01, w02, v02, w10, w11, v11, w12, v12, w20, w21, v21, w22, v22]

set_option maxHeartbeats 2000000 in
theorem c71_2 {s s0 s1 sy : Bool} {a b c d y0 y1 den : Int} (ha : -20 ≤ a ∧ a ≤ 20) (hb : -20 ≤ b ∧ b ≤ 20) (hc : -20 ≤ c ∧ c ≤ 20) (hd : -20 ≤ d ∧ d ≤ 20)
    (h0 : -100000 ≤ y0 ∧ y0 ≤ 100000) (h1 : -100000 ≤ y1 ∧ y1 ≤ 100000) :
    freeX H (callL E Y 71 [.imm s [.imm s0 [vI a, vI b] 2, .imm s1 [vI c, vI d] 2] 2, .agg [.imm sy [vI y0, vI y1] 2, vI den]] []) =
      some (.imm false [vI (a * y0 + b * y1), vI (c * y0 + d * y1)] 2, H) := by
  have q1 := mulB ha h0
  have q2 := mulB hb h1
  have q3 := mulB hc h0
  have q4 := mulB hd h1
  have w00 : IntKind.wrap .i64 (a * y0) = a * y0 := wrap_id (by omega) (by omega)
  have w01 : IntKind.wrap .i64 (b * y1) = b * y1 := wrap_id (by omega) (by omega)
  have v01 : IntKind.wrap .i64 (a * y0 + b * y1) = a * y0 + b * y1 := wrap_id (by omega) (by omega)
  have w10 : IntKind.wrap .i64 (c * y0) = c * y0 := wrap_id (by omega) (by omega)
  have w11 : IntKind.wrap .i64 (d * y1) = d * y1 := wrap_id (by omega) (by omega)
  have v11 : IntKind.wrap .i64 (c * y0 + d * y1) = c * y0 + d * y1 := wrap_id (by omega) (by omega)
  rw [call71 rfl]
  simp (config := {maxSteps := 10000000}) only [F71, F71B, F71T0, F71T1, F71T2, in71_0, in71_1, F71L0b, F71L1b, un71_0, un71_1, SS, insA, wantedA, Opd.ev, putA, binA, eqbA, unA, fldA, partA, reduceIte, reduceCtorEq, Nat.reduceMod, Nat.reduceDiv, Nat.reduceBEq, resultA, resA, vI, Nat.reduceMul, Nat.reduceAdd, Nat.reduceSub, Nat.reduceEqDiff, Nat.reduceLT, Nat.reducePow, Nat.reduceLeDiff, st, Option.bind_eq_bind, Option.pure_def, List.length_nil, Int.cast_ofNat_Int, List.reverse_nil, isU_bool, cells_bool, one_bool, isU_int, cells_int, one_int, isU_nils, cells_nils, one_nils, isU_imm, cells_imm, one_imm, isU_sl, cells_sl, one_sl, isU_ptr, cells_ptr, one_ptr, isU_cptr, cells_cptr, one_cptr, isU_fn, cells_fn, one_fn, isU_agg, cells_agg, len_nils, len_imm, len_sl, nat_int, idxN_some, idx_imm, idx_slice, firstX_some, load_ptr, load_cptr, loads_ptr, loads_cptr, idxP, cellsAt, storeA, fillA, zerosA, putAll, optNat, sliceA, row, List.drop_succ_cons, List.drop_zero, List.drop_nil, List.take_succ_cons, List.take_zero, List.take_nil, List.getElem?_cons_zero, List.getElem?_cons_succ, List.all_cons, List.all_nil, List.length_append, List.length_set, Bool.and_self, Bool.and_true, Bool.true_and, Bool.or_false, Bool.or_true, decide_true, decide_false, Int.reduceAdd, Int.reduceSub, Int.reduceMul, Int.reduceNeg, Int.reduceLT, Int.reduceLE, Int.reduceGT, Int.reduceGE, Int.reduceEq, Int.reduceNe, Int.reduceToNat, Int.reduceBEq, Int.reduceBNe, Int.reduceMod, Int.reduceTMod, Int.reduceTDiv, Int.reducePow, Nat.reduceLeDiff, Nat.reduceLT, Nat.reducePow, Nat.reduceBNe, Nat.reduceGT, Nat.mul_one, Nat.zero_mul, Nat.one_mul, Nat.zero_add, Nat.add_zero, Nat.sub_zero, Option.isSome_some, Option.isSome_none, Option.some.injEq, wrap_id, mnx_min, mnx_max, List.append_assoc, List.range_succ, List.range_zero, Int.zero_add, Int.add_zero, free_sl, freeB_some, Nat.le_refl, List.length_replicate, Int.toNat_zero, freeB_ite, freeS_some, Bool.not_true, Bool.not_false, bitsA, IntKind.bits, Nat.min_def, Int.reduceFDiv, BitVec.reduceOfInt, BitVec.reduceAnd, BitVec.reduceOr, BitVec.reduceNot, BitVec.reduceToNat, BitVec.reduceXOr, Int.ofNat_one, Int.ofNat_zero, Nat.min_zero, Nat.zero_min, Int.pow_zero, av_ite_bool, av_ite_int, decide_eq_false_iff_not, beq_eq_false_iff_ne, Bool.not_eq_true, beq_bt, beq_bf, Bool.not_eq_eq_eq_not, snap_sl, snapS_some, snapB_some, List.getD_cons_zero, List.getD_cons_succ, List.set_cons_succ, List.set_cons_zero, List.replicate_succ, List.replicate_zero, appA, content, w00, w01, v01, w10, w11, v11]

theorem c71_1 {s s0 sy : Bool} {a y0 den : Int} (ha : -20 ≤ a ∧ a ≤ 20) (h0 : -100000 ≤ y0 ∧ y0 ≤ 100000) :
    freeX H (callL E Y 71 [.imm s [.imm s0 [vI a] 1] 1, .agg [.imm sy [vI y0] 1, vI den]] []) = some (.imm false [vI (a * y0)] 1, H) := by
  have q1 := mulB ha h0
  have w00 : IntKind.wrap .i64 (a * y0) = a * y0 := wrap_id (by omega) (by omega)
  rw [call71 rfl]
  simp (config := {maxSteps := 10000000}) only [F71, F71B, F71T0, F71T1, F71T2, in71_0, in71_1, F71L0b, F71L1b, un71_0, un71_1, SS, insA, wantedA, Opd.ev, putA, binA, eqbA, unA, fldA, partA, reduceIte, reduceCtorEq, Nat.reduceMod, Nat.reduceDiv, Nat.reduceBEq, resultA, resA, vI, Nat.reduceMul, Nat.reduceAdd, Nat.reduceSub, Nat.reduceEqDiff, Nat.reduceLT, Nat.reducePow, Nat.reduceLeDiff, st, Option.bind_eq_bind, Option.pure_def, List.length_nil, Int.cast_ofNat_Int, List.reverse_nil, isU_bool, cells_bool, one_bool, isU_int, cells_int, one_int, isU_nils, cells_nils, one_nils, isU_imm, cells_imm, one_imm, isU_sl, cells_sl, one_sl, isU_ptr, cells_ptr, one_ptr, isU_cptr, cells_cptr, one_cptr, isU_fn, cells_fn, one_fn, isU_agg, cells_agg, len_nils, len_imm, len_sl, nat_int, idxN_some, idx_imm, idx_slice, firstX_some, load_ptr, load_cptr, loads_ptr, loads_cptr, idxP, cellsAt, storeA, fillA, zerosA, putAll, optNat, sliceA, row, List.drop_succ_cons, List.drop_zero, List.drop_nil, List.take_succ_cons, List.take_zero, List.take_nil, List.getElem?_cons_zero, List.getElem?_cons_succ, List.all_cons, List.all_nil, List.length_append, List.length_set, Bool.and_self, Bool.and_true, Bool.true_and, Bool.or_false, Bool.or_true, decide_true, decide_false, Int.reduceAdd, Int.reduceSub, Int.reduceMul, Int.reduceNeg, Int.reduceLT, Int.reduceLE, Int.reduceGT, Int.reduceGE, Int.reduceEq, Int.reduceNe, Int.reduceToNat, Int.reduceBEq, Int.reduceBNe, Int.reduceMod, Int.reduceTMod, Int.reduceTDiv, Int.reducePow, Nat.reduceLeDiff, Nat.reduceLT, Nat.reducePow, Nat.reduceBNe, Nat.reduceGT, Nat.mul_one, Nat.zero_mul, Nat.one_mul, Nat.zero_add, Nat.add_zero, Nat.sub_zero, Option.isSome_some, Option.isSome_none, Option.some.injEq, wrap_id, mnx_min, mnx_max, List.append_assoc, List.range_succ, List.range_zero, Int.zero_add, Int.add_zero, free_sl, freeB_some, Nat.le_refl, List.length_replicate, Int.toNat_zero, freeB_ite, freeS_some, Bool.not_true, Bool.not_false, bitsA, IntKind.bits, Nat.min_def, Int.reduceFDiv, BitVec.reduceOfInt, BitVec.reduceAnd, BitVec.reduceOr, BitVec.reduceNot, BitVec.reduceToNat, BitVec.reduceXOr, Int.ofNat_one, Int.ofNat_zero, Nat.min_zero, Nat.zero_min, Int.pow_zero, av_ite_bool, av_ite_int, decide_eq_false_iff_not, beq_eq_false_iff_ne, Bool.not_eq_true, beq_bt, beq_bf, Bool.not_eq_eq_eq_not, snap_sl, snapS_some, snapB_some, List.getD_cons_zero, List.getD_cons_succ, List.set_cons_succ, List.set_cons_zero, List.replicate_succ, List.replicate_zero, appA, content, w00]

theorem against71 {vt yv : AV} {t : List (List Int)} {ys : List Int} {den : Int} (ht : IsTab vt t) (hok : okTab t) (hy : IsRow yv ys) (hyl : ys.length = t.length) (hY : small ys) :
    freeX H (callL E Y 71 [vt, .agg [yv, vI den]] []) = some (row false (t.map (dotS · ys)), H) := by
  have hT := hok.tame
  rcases shapes hok with ⟨a, rfl⟩ | ⟨a, b, c, d, rfl⟩ | ⟨a, b, c, d, e, f, g, h, i, rfl⟩
  · match ys, hyl with
    | [y0], _ =>
      obtain ⟨s, v, rfl, h1⟩ := tab_one ht
      obtain ⟨s0, rfl⟩ := row1 h1
      obtain ⟨sy, rfl⟩ := row1 hy
      rw [c71_1 (hT [a] (by simp) a (by simp)) (hY y0 (by simp))]
      simp [row, dotS]
  · match ys, hyl with
    | [y0, y1], _ =>
      obtain ⟨s, v, w, rfl, h1, h2⟩ := tab_two ht
      obtain ⟨s0, rfl⟩ := row2 h1
      obtain ⟨s1, rfl⟩ := row2 h2
      obtain ⟨sy, rfl⟩ := row2 hy
      rw [c71_2 (hT [a, b] (by simp) a (by simp)) (hT [a, b] (by simp) b (by simp)) (hT [c, d] (by simp) c (by simp)) (hT [c, d] (by simp) d (by simp)) (hY y0 (by simp)) (hY y1 (by simp))]
      simp [row, dotS]
  · match ys, hyl with
    | [y0, y1, y2], _ =>
      obtain ⟨s, v, w, x, rfl, h1, h2, h3⟩ := tab_three ht
      obtain ⟨s0, rfl⟩ := row3 h1
      obtain ⟨s1, rfl⟩ := row3 h2
      obtain ⟨s2, rfl⟩ := row3 h3
      obtain ⟨sy, rfl⟩ := row3 hy
      rw [c71_3 (hT [a, b, c] (by simp) a (by simp)) (hT [a, b, c] (by simp) b (by simp)) (hT [a, b, c] (by simp) c (by simp)) (hT [d, e, f] (by simp) d (by simp)) (hT [d, e, f] (by simp) e (by simp)) (hT [d, e, f] (by simp) f (by simp)) (hT [g, h, i] (by simp) g (by simp)) (hT [g, h, i] (by simp) h (by simp)) (hT [g, h, i] (by simp) i (by simp)) (hY y0 (by simp)) (hY y1 (by simp)) (hY y2 (by simp))]
      simp [row, dotS, Int.add_assoc]

/-- The best fashions. -/
def bestS (t : List (List Int)) (ys : List Int) : Nat := let g := t.map (dotS · ys); setS (fun x => x == maxI g) g 0
def fashS (ys : List Int) : Nat := setS (fun x => decide (x > 0)) ys 0

theorem best_62 {vt yv : AV} {t : List (List Int)} {ys : List Int} {den : Int} (ht : IsTab vt t) (hok : okTab t) (hy : IsRow yv ys) (hyl : ys.length = t.length) (hY : small ys) :
    freeX H (callL E Y 62 [vt, .agg [yv, vI den]] []) = some (vI (bestS t ys : Int), H) :=
  best62 ht hy (by simp; have := hok.2.1; omega) (by simp; have := hok.1; omega) fun H => against71 ht hok hy hyl hY

theorem best_61 {vt yv : AV} {t : List (List Int)} {ys : List Int} {den : Int} (ht : IsTab vt t) (hok : okTab t) (hy : IsRow yv ys) (hyl : ys.length = t.length) (hY : small ys) :
    freeX H (callL E Y 61 [vt, .agg [yv, vI den]] []) = some (vI (bestS t ys : Int), H) := by
  have h3 := hok.2.1
  have h1 := hok.1
  rw [best61 ht hy (by omega) hyl hok.tame hY hok.rows, gains_unit, runB_all _ (by simp; omega)]
  rfl

theorem rests_60 {vt yv : AV} {t : List (List Int)} {ys : List Int} {den : Int} (ht : IsTab vt t) (hok : okTab t) (hy : IsRow yv ys) (hyl : ys.length = t.length) (hY : small ys) :
    freeX H (callL E Y 60 [vt, .agg [yv, vI den]] []) = some (.bool (subS (fashS ys) (bestS t ys)), H) :=
  rests60 ht hy (fun H => fash67 hy (by have := hok.2.1; omega)) fun H => best_62 ht hok hy hyl hY
end
end Go.X
