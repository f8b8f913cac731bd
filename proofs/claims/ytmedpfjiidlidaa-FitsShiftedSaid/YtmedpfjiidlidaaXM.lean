import Derived.Test.YtmedpfjiidlidaaXI
/-! Tables of one, two, three fashions. -/
set_option linter.unusedSimpArgs false
set_option linter.unusedVariables false
namespace Go.X
open Go Go.RowKit
section
variable {Y : Run} {H : Heap}

/-! ### Pure laws -/
def dotS : List Int → List Int → Int
  | a :: r, y :: ys => a * y + dotS r ys
  | _, _ => 0

/-! ### Shapes -/
theorem tab_one {vt : AV} {a : List Int} (h : IsTab vt [a]) : ∃ s v, vt = .imm s [v] 1 ∧ IsRow v a := by
  generalize ht : [a] = t at h
  cases h with
  | nil => cases ht
  | imm sn vs t hl hr =>
    subst ht
    match vs, hl with
    | [v], _ => exact ⟨sn, v, rfl, hr 0 (by simp)⟩
theorem tab_two {vt : AV} {a b : List Int} (h : IsTab vt [a, b]) : ∃ s v w, vt = .imm s [v, w] 2 ∧ IsRow v a ∧ IsRow w b := by
  generalize ht : [a, b] = t at h
  cases h with
  | nil => cases ht
  | imm sn vs t hl hr =>
    subst ht
    match vs, hl with
    | [v, w], _ => exact ⟨sn, v, w, rfl, hr 0 (by simp), hr 1 (by simp)⟩
theorem tab_three {vt : AV} {a b c : List Int} (h : IsTab vt [a, b, c]) : ∃ s v w x, vt = .imm s [v, w, x] 3 ∧ IsRow v a ∧ IsRow w b ∧ IsRow x c := by
  generalize ht : [a, b, c] = t at h
  cases h with
  | nil => cases ht
  | imm sn vs t hl hr =>
    subst ht
    match vs, hl with
    | [v, w, x], _ => exact ⟨sn, v, w, x, rfl, hr 0 (by simp), hr 1 (by simp), hr 2 (by simp)⟩
theorem row_some {v : AV} {x : Int} {l : List Int} (h : IsRow v (x :: l)) : ∃ s, v = .imm s ((x :: l).map vI) (x :: l).length := by
  generalize ht : x :: l = t at h
  cases h with
  | nil => cases ht
  | imm sn t => exact ⟨sn, rfl⟩

theorem row1 {v : AV} {a : Int} (h : IsRow v [a]) : ∃ s, v = .imm s [vI a] 1 := row_some h
theorem row2 {v : AV} {a b : Int} (h : IsRow v [a, b]) : ∃ s, v = .imm s [vI a, vI b] 2 := row_some h
theorem row3 {v : AV} {a b c : Int} (h : IsRow v [a, b, c]) : ∃ s, v = .imm s [vI a, vI b, vI c] 3 := row_some h

/-- The three shapes of a table. -/
theorem shapes {t : List (List Int)} (h : okTab t) : (∃ a, t = [[a]]) ∨ (∃ a b c d, t = [[a, b], [c, d]]) ∨ (∃ a b c d e f g h i, t = [[a, b, c], [d, e, f], [g, h, i]]) := by
  obtain ⟨h1, h3, hr⟩ := h
  match t, h1, h3, hr with
  | [r], _, _, hr =>
    have := (hr r (by simp)).1
    match r, this with
    | [a], _ => exact .inl ⟨a, rfl⟩
  | [r, q], _, _, hr =>
    have h1 := (hr r (by simp)).1
    have h2 := (hr q (by simp)).1
    match r, h1, q, h2 with
    | [a, b], _, [c, d], _ => exact .inr (.inl ⟨a, b, c, d, rfl⟩)
  | [r, q, p], _, _, hr =>
    have h1 := (hr r (by simp)).1
    have h2 := (hr q (by simp)).1
    have h3 := (hr p (by simp)).1
    match r, h1, q, h2, p, h3 with
    | [a, b, c], _, [d, e, f], _, [g, h, i], _ => exact .inr (.inr ⟨a, b, c, d, e, f, g, h, i, rfl⟩)

theorem okTab.tame {t : List (List Int)} (h : okTab t) : tame t := fun r hr => (h.2.2 r hr).2
theorem okTab.rows {t : List (List Int)} (h : okTab t) : ∀ r ∈ t, r.length = t.length := fun r hr => (h.2.2 r hr).1

set_option maxHeartbeats 2000000 in
theorem c71_3 {s s0 s1 s2 sy : Bool} {a b c d e f g h i y0 y1 y2 den : Int} (ha : -20 ≤ a ∧ a ≤ 20) (hb : -20 ≤ b ∧ b ≤ 20) (hc : -20 ≤ c ∧ c ≤ 20) (hd : -20 ≤ d ∧ d ≤ 20) (he : -20 ≤ e ∧ e ≤ 20)
    (hf : -20 ≤ f ∧ f ≤ 20) (hg : -20 ≤ g ∧ g ≤ 20) (hh : -20 ≤ h ∧ h ≤ 20) (hi : -20 ≤ i ∧ i ≤ 20) (h0 : -100000 ≤ y0 ∧ y0 ≤ 100000) (h1 : -100000 ≤ y1 ∧ y1 ≤ 100000) (h2 : -100000 ≤ y2 ∧ y2 ≤ 100000) :
    freeX H (callL E Y 71 [.imm s [.imm s0 [vI a, vI b, vI c] 3, .imm s1 [vI d, vI e, vI f] 3, .imm s2 [vI g, vI h, vI i] 3] 3, .agg [.imm sy [vI y0, vI y1, vI y2] 3, vI den]] []) =
      some (.imm false [vI (a * y0 + b * y1 + c * y2), vI (d * y0 + e * y1 + f * y2), vI (g * y0 + h * y1 + i * y2)] 3, H) := by
  have q1 := mulB ha h0
  have q2 := mulB hb h1
  have q3 := mulB hc h2
  have q4 := mulB hd h0
  have q5 := mulB he h1
  have q6 := mulB hf h2
  have q7 := mulB hg h0
  have q8 := mulB hh h1
  have q9 := mulB hi h2
  have w00 : IntKind.wrap .i64 (a * y0) = a * y0 := wrap_id (by omega) (by omega)
  have w01 : IntKind.wrap .i64 (b * y1) = b * y1 := wrap_id (by omega) (by omega)
  have v01 : IntKind.wrap .i64 (a * y0 + b * y1) = a * y0 + b * y1 := wrap_id (by omega) (by omega)
  have w02 : IntKind.wrap .i64 (c * y2) = c * y2 := wrap_id (by omega) (by omega)
  have v02 : IntKind.wrap .i64 (a * y0 + b * y1 + c * y2) = a * y0 + b * y1 + c * y2 := wrap_id (by omega) (by omega)
  have w10 : IntKind.wrap .i64 (d * y0) = d * y0 := wrap_id (by omega) (by omega)
  have w11 : IntKind.wrap .i64 (e * y1) = e * y1 := wrap_id (by omega) (by omega)
  have v11 : IntKind.wrap .i64 (d * y0 + e * y1) = d * y0 + e * y1 := wrap_id (by omega) (by omega)
  have w12 : IntKind.wrap .i64 (f * y2) = f * y2 := wrap_id (by omega) (by omega)
  have v12 : IntKind.wrap .i64 (d * y0 + e * y1 + f * y2) = d * y0 + e * y1 + f * y2 := wrap_id (by omega) (by omega)
  have w20 : IntKind.wrap .i64 (g * y0) = g * y0 := wrap_id (by omega) (by omega)
  have w21 : IntKind.wrap .i64 (h * y1) = h * y1 := wrap_id (by omega) (by omega)
  have v21 : IntKind.wrap .i64 (g * y0 + h * y1) = g * y0 + h * y1 := wrap_id (by omega) (by omega)
  have w22 : IntKind.wrap .i64 (i * y2) = i * y2 := wrap_id (by omega) (by omega)
  have v22 : IntKind.wrap .i64 (g * y0 + h * y1 + i * y2) = g * y0 + h * y1 + i * y2 := wrap_id (by omega) (by omega)
  rw [call71 rfl]
  simp (config := {maxSteps := 10000000}) only [F71, F71B, F71T0, F71T1, F71T2, in71_0, in71_1, F71L0b, F71L1b, un71_0, un71_1, SS, insA, wantedA, Opd.ev, putA, binA, eqbA, unA, fldA, partA, reduceIte, reduceCtorEq, Nat.reduceMod, Nat.reduceDiv, Nat.reduceBEq, resultA, resA, vI, Nat.reduceMul, Nat.reduceAdd, Nat.reduceSub, Nat.reduceEqDiff, Nat.reduceLT, Nat.reducePow, Nat.reduceLeDiff, st, Option.bind_eq_bind, Option.pure_def, List.length_nil, Int.cast_ofNat_Int, List.reverse_nil, isU_bool, cells_bool, one_bool, isU_int, cells_int, one_int, isU_nils, cells_nils, one_nils, isU_imm, cells_imm, one_imm, isU_sl, cells_sl, one_sl, isU_ptr, cells_ptr, one_ptr, isU_cptr, cells_cptr, one_cptr, isU_fn, cells_fn, one_fn, isU_agg, cells_agg, len_nils, len_imm, len_sl, nat_int, idxN_some, idx_imm, idx_slice, firstX_some, load_ptr, load_cptr, loads_ptr, loads_cptr, idxP, cellsAt, storeA, fillA, zerosA, putAll, optNat, sliceA, row, List.drop_succ_cons, List.drop_zero, List.drop_nil, List.take_succ_cons, List.take_zero, List.take_nil, List.getElem?_cons_zero, List.getElem?_cons_succ, List.all_cons, List.all_nil, List.length_append, List.length_set, Bool.and_self, Bool.and_true, Bool.true_and, Bool.or_false, Bool.or_true, decide_true, decide_false, Int.reduceAdd, Int.reduceSub, Int.reduceMul, Int.reduceNeg, Int.reduceLT, Int.reduceLE, Int.reduceGT, Int.reduceGE, Int.reduceEq, Int.reduceNe, Int.reduceToNat, Int.reduceBEq, Int.reduceBNe, Int.reduceMod, Int.reduceTMod, Int.reduceTDiv, Int.reducePow, Nat.reduceLeDiff, Nat.reduceLT, Nat.reducePow, Nat.reduceBNe, Nat.reduceGT, Nat.mul_one, Nat.zero_mul, Nat.one_mul, Nat.zero_add, Nat.add_zero, Nat.sub_zero, Option.isSome_some, Option.isSome_none, Option.some.injEq, wrap_id, mnx_min, mnx_max, List.append_assoc, List.range_succ, List.range_zero, Int.zero_add, Int.add_zero, free_sl, freeB_some, Nat.le_refl, List.length_replicate, Int.toNat_zero, freeB_ite, freeS_some, Bool.not_true, Bool.not_false, bitsA, IntKind.bits, Nat.min_def, Int.reduceFDiv, BitVec.reduceOfInt, BitVec.reduceAnd, BitVec.reduceOr, BitVec.reduceNot, BitVec.reduceToNat, BitVec.reduceXOr, Int.ofNat_one, Int.ofNat_zero, Nat.min_zero, Nat.zero_min, Int.pow_zero, av_ite_bool, av_ite_int, decide_eq_false_iff_not, beq_eq_false_iff_ne, Bool.not_eq_true, beq_bt, beq_bf, Bool.not_eq_eq_eq_not, snap_sl, snapS_some, snapB_some, List.getD_cons_zero, List.getD_cons_succ, List.set_cons_succ, List.set_cons_zero, List.replicate_succ, List.replicate_zero, appA, content, w00, w01, v01, w02, v02, w10, w11, v11, w12, v12, w20, w21, v21, w22, v22]

set_option maxHeartbeats 2000000 in
theorem c71_2 {s s0 s1 sy : Bool} {a b c d y0 y1 den : Int} (ha : -20 ≤ a ∧ a ≤ 20) (hb : -20 ≤ b ∧ b ≤ 20) (hc : -20 ≤ c ∧ c ≤ 20) (hd : -20 ≤ d ∧ d ≤ 20)
    (h0 : -100000 ≤ y0 ∧ y0 ≤ 100000) (h1 : -100000 ≤ y1 ∧ y1 ≤ 100000) :
    freeX H (callL E Y 71 [.imm s [.imm s0 [vI a, vI b] 2, .imm s1 [vI c, vI d] 2] 2, .agg [.imm sy [vI y0, vI y1] 2, vI den]] []) =
      some (.imm false [vI (a * y0 + b * y1), vI (c * y0 + d * y1)] 2, H) := by
  have q1 := mulB ha h0
  have q2 := mulB hb h1
  have q3 := mulB hc h0
  have q4 := mulB hd h1
  have w00 : IntKind.wrap .i64 (a * y0) = a * y0 := wrap_id (by omega) (by omega)
  have w01 : IntKind.wrap .i64 (b * y1) = b * y1 := wrap_id (by omega) (by omega)
  have v01 : IntKind.wrap .i64 (a * y0 + b * y1) = a * y0 + b * y1 := wrap_id (by omega) (by omega)
  have w10 : IntKind.wrap .i64 (c * y0) = c * y0 := wrap_id (by omega) (by omega)
  have w11 : IntKind.wrap .i64 (d * y1) = d * y1 := wrap_id (by omega) (by omega)
  have v11 : IntKind.wrap .i64 (c * y0 + d * y1) = c * y0 + d * y1 := wrap_id (by omega) (by omega)
  rw [call71 rfl]
  simp (config := {maxSteps := 10000000}) only [F71, F71B, F71T0, F71T1, F71T2, in71_0, in71_1, F71L0b, F71L1b, un71_0, un71_1, SS, insA, wantedA, Opd.ev, putA, binA, eqbA, unA, fldA, partA, reduceIte, reduceCtorEq, Nat.reduceMod, Nat.reduceDiv, Nat.reduceBEq, resultA, resA, vI, Nat.reduceMul, Nat.reduceAdd, Nat.reduceSub, Nat.reduceEqDiff, Nat.reduceLT, Nat.reducePow, Nat.reduceLeDiff, st, Option.bind_eq_bind, Option.pure_def, List.length_nil, Int.cast_ofNat_Int, List.reverse_nil, isU_bool, cells_bool, one_bool, isU_int, cells_int, one_int, isU_nils, cells_nils, one_nils, isU_imm, cells_imm, one_imm, isU_sl, cells_sl, one_sl, isU_ptr, cells_ptr, one_ptr, isU_cptr, cells_cptr, one_cptr, isU_fn, cells_fn, one_fn, isU_agg, cells_agg, len_nils, len_imm, len_sl, nat_int, idxN_some, idx_imm, idx_slice, firstX_some, load_ptr, load_cptr, loads_ptr, loads_cptr, idxP, cellsAt, storeA, fillA, zerosA, putAll, optNat, sliceA, row, List.drop_succ_cons, List.drop_zero, List.drop_nil, List.take_succ_cons, List.take_zero, List.take_nil, List.getElem?_cons_zero, List.getElem?_cons_succ, List.all_cons, List.all_nil, List.length_append, List.length_set, Bool.and_self, Bool.and_true, Bool.true_and, Bool.or_false, Bool.or_true, decide_true, decide_false, Int.reduceAdd, Int.reduceSub, Int.reduceMul, Int.reduceNeg, Int.reduceLT, Int.reduceLE, Int.reduceGT, Int.reduceGE, Int.reduceEq, Int.reduceNe, Int.reduceToNat, Int.reduceBEq, Int.reduceBNe, Int.reduceMod, Int.reduceTMod, Int.reduceTDiv, Int.reducePow, Nat.reduceLeDiff, Nat.reduceLT, Nat.reducePow, Nat.reduceBNe, Nat.reduceGT, Nat.mul_one, Nat.zero_mul, Nat.one_mul, Nat.zero_add, Nat.add_zero, Nat.sub_zero, Option.isSome_some, Option.isSome_none, Option.some.injEq, wrap_id, mnx_min, mnx_max, List.append_assoc, List.range_succ, List.range_zero, Int.zero_add, Int.add_zero, free_sl, freeB_some, Nat.le_refl, List.length_replicate, Int.toNat_zero, freeB_ite, freeS_some, Bool.not_true, Bool.not_false, bitsA, IntKind.bits, Nat.min_def, Int.reduceFDiv, BitVec.reduceOfInt, BitVec.reduceAnd, BitVec.reduceOr, BitVec.reduceNot, BitVec.reduceToNat, BitVec.reduceXOr, Int.ofNat_one, Int.ofNat_zero, Nat.min_zero, Nat.zero_min, Int.pow_zero, av_ite_bool, av_ite_int, decide_eq_false_iff_not, beq_eq_false_iff_ne, Bool.not_eq_true, beq_bt, beq_bf, Bool.not_eq_eq_eq_not, snap_sl, snapS_some, snapB_some, List.getD_cons_zero, List.getD_cons_succ, List.set_cons_succ, List.set_cons_zero, List.replicate_succ, List.replicate_zero, appA, content, w00, w01, v01, w10, w11, v11]

theorem c71_1 {s s0 sy : Bool} {a y0 den : Int} (ha : -20 ≤ a ∧ a ≤ 20) (h0 : -100000 ≤ y0 ∧ y0 ≤ 100000) :
    freeX H (callL E Y 71 [.imm s [.imm s0 [vI a] 1] 1, .agg [.imm sy [vI y0] 1, vI den]] []) = some (.imm false [vI (a * y0)] 1, H) := by
  have q1 := mulB ha h0
  have w00 : IntKind.wrap .i64 (a * y0) = a * y0 := wrap_id (by omega) (by omega)
  rw [call71 rfl]
  simp (config := {maxSteps := 10000000}) only [F71, F71B, F71T0, F71T1, F71T2, in71_0, in71_1, F71L0b, F71L1b, un71_0, un71_1, SS, insA, wantedA, Opd.ev, putA, binA, eqbA, unA, fldA, partA, reduceIte, reduceCtorEq, Nat.reduceMod, Nat.reduceDiv, Nat.reduceBEq, resultA, resA, vI, Nat.reduceMul, Nat.reduceAdd, Nat.reduceSub, Nat.reduceEqDiff, Nat.reduceLT, Nat.reducePow, Nat.reduceLeDiff, st, Option.bind_eq_bind, Option.pure_def, List.length_nil, Int.cast_ofNat_Int, List.reverse_nil, isU_bool, cells_bool, one_bool, isU_int, cells_int, one_int, isU_nils, cells_nils, one_nils, isU_imm, cells_imm, one_imm, isU_sl, cells_sl, one_sl, isU_ptr, cells_ptr, one_ptr, isU_cptr, cells_cptr, one_cptr, isU_fn, cells_fn, one_fn, isU_agg, cells_agg, len_nils, len_imm, len_sl, nat_int, idxN_some, idx_imm, idx_slice, firstX_some, load_ptr, load_cptr, loads_ptr, loads_cptr, idxP, cellsAt, storeA, fillA, zerosA, putAll, optNat, sliceA, row, List.drop_succ_cons, List.drop_zero, List.drop_nil, List.take_succ_cons, List.take_zero, List.take_nil, List.getElem?_cons_zero, List.getElem?_cons_succ, List.all_cons, List.all_nil, List.length_append, List.length_set, Bool.and_self, Bool.and_true, Bool.true_and, Bool.or_false, Bool.or_true, decide_true, decide_false, Int.reduceAdd, Int.reduceSub, Int.reduceMul, Int.reduceNeg, Int.reduceLT, Int.reduceLE, Int.reduceGT, Int.reduceGE, Int.reduceEq, Int.reduceNe, Int.reduceToNat, Int.reduceBEq, Int.reduceBNe, Int.reduceMod, Int.reduceTMod, Int.reduceTDiv, Int.reducePow, Nat.reduceLeDiff, Nat.reduceLT, Nat.reducePow, Nat.reduceBNe, Nat.reduceGT, Nat.mul_one, Nat.zero_mul, Nat.one_mul, Nat.zero_add, Nat.add_zero, Nat.sub_zero, Option.isSome_some, Option.isSome_none, Option.some.injEq, wrap_id, mnx_min, mnx_max, List.append_assoc, List.range_succ, List.range_zero, Int.zero_add, Int.add_zero, free_sl, freeB_some, Nat.le_refl, List.length_replicate, Int.toNat_zero, freeB_ite, freeS_some, Bool.not_true, Bool.not_false, bitsA, IntKind.bits, Nat.min_def, Int.reduceFDiv, BitVec.reduceOfInt, BitVec.reduceAnd, BitVec.reduceOr, BitVec.reduceNot, BitVec.reduceToNat, BitVec.reduceXOr, Int.ofNat_one, Int.ofNat_zero, Nat.min_zero, Nat.zero_min, Int.pow_zero, av_ite_bool, av_ite_int, decide_eq_false_iff_not, beq_eq_false_iff_ne, Bool.not_eq_true, beq_bt, beq_bf, Bool.not_eq_eq_eq_not, snap_sl, snapS_some, snapB_some, List.getD_cons_zero, List.getD_cons_succ, List.set_cons_succ, List.set_cons_zero, List.replicate_succ, List.replicate_zero, appA, content, w00]

theorem against71 {vt yv : AV} {t : List (List Int)} {ys : List Int} {den : Int} (ht : IsTab vt t) (hok : okTab t) (hy : IsRow yv ys) (hyl : ys.length = t.length) (hY : small ys) :
    freeX H (callL E Y 71 [vt, .agg [yv, vI den]] []) = some (row false (t.map (dotS · ys)), H) := by
  have hT := hok.tame
  rcases shapes hok with ⟨a, rfl⟩ | ⟨a, b, c, d, rfl⟩ | ⟨a, b, c, d, e, f, g, h, i, rfl⟩
  · match ys, hyl with
    | [y0], _ =>
      obtain ⟨s, v, rfl, h1⟩ := tab_one ht
      obtain ⟨s0, rfl⟩ := row1 h1
      obtain ⟨sy, rfl⟩ := row1 hy
      rw [c71_1 (hT [a] (by simp) a (by simp)) (hY y0 (by simp))]
      simp [row, dotS]
  · match ys, hyl with
    | [y0, y1], _ =>
      obtain ⟨s, v, w, rfl, h1, h2⟩ := tab_two ht
      obtain ⟨s0, rfl⟩ := row2 h1
      obtain ⟨s1, rfl⟩ := row2 h2
      obtain ⟨sy, rfl⟩ := row2 hy
      rw [c71_2 (hT [a, b] (by simp) a (by simp)) (hT [a, b] (by simp) b (by simp)) (hT [c, d] (by simp) c (by simp)) (hT [c, d] (by simp) d (by simp)) (hY y0 (by simp)) (hY y1 (by simp))]
      simp [row, dotS]
  · match ys, hyl with
    | [y0, y1, y2], _ =>
      obtain ⟨s, v, w, x, rfl, h1, h2, h3⟩ := tab_three ht
      obtain ⟨s0, rfl⟩ := row3 h1
      obtain ⟨s1, rfl⟩ := row3 h2
      obtain ⟨s2, rfl⟩ := row3 h3
      obtain ⟨sy, rfl⟩ := row3 hy
      rw [c71_3 (hT [a, b, c] (by simp) a (by simp)) (hT [a, b, c] (by simp) b (by simp)) (hT [a, b, c] (by simp) c (by simp)) (hT [d, e, f] (by simp) d (by simp)) (hT [d, e, f] (by simp) e (by simp)) (hT [d, e, f] (by simp) f (by simp)) (hT [g, h, i] (by simp) g (by simp)) (hT [g, h, i] (by simp) h (by simp)) (hT [g, h, i] (by simp) i (by simp)) (hY y0 (by simp)) (hY y1 (by simp)) (hY y2 (by simp))]
      simp [row, dotS, Int.add_assoc]

/-- The best fashions. -/
def bestS (t : List (List Int)) (ys : List Int) : Nat := let g := t.map (dotS · ys); setS (fun x => x == maxI g) g 0
def fashS (ys : List Int) : Nat := setS (fun x => decide (x > 0)) ys 0

theorem best_62 {vt yv : AV} {t : List (List Int)} {ys : List Int} {den : Int} (ht : IsTab vt t) (hok : okTab t) (hy : IsRow yv ys) (hyl : ys.length = t.length) (hY : small ys) :
    freeX H (callL E Y 62 [vt, .agg [yv, vI den]] []) = some (vI (bestS t ys : Int), H) :=
  best62 ht hy (by simp; have := hok.2.1; omega) (by simp; have := hok.1; omega) fun H => against71 ht hok hy hyl hY

theorem rests_60 {vt yv : AV} {t : List (List Int)} {ys : List Int} {den : Int} (ht : IsTab vt t) (hok : okTab t) (hy : IsRow yv ys) (hyl : ys.length = t.length) (hY : small ys) :
    freeX H (callL E Y 60 [vt, .agg [yv, vI den]] []) = some (.bool (subS (fashS ys) (bestS t ys)), H) :=
  rests60 ht hy (fun H => fash67 hy (by have := hok.2.1; omega)) fun H => best_62 ht hok hy hyl hY
end
end Go.X

/-! Which mixtures last. -/
set_option linter.unusedSimpArgs false
set_option linter.unusedVariables false
namespace Go.X
open Go Go.RowKit
section
variable {Y : Run} {H : Heap}

/-- What a table holds at a place. -/
def tat (t : List (List Int)) (i k : Nat) : Int := (t.getD i []).getD k 0
theorem tat_bound {t : List (List Int)} (h : okTab t) {i k : Nat} (hi : i < t.length) (hk : k < t.length) : -20 ≤ tat t i k ∧ tat t i k ≤ 20 := by
  have hr := h.rows t[i] (by simp)
  have hk' : k < t[i].length := by omega
  have := h.tame t[i] (by simp) t[i][k] (by simp)
  simpa [tat, List.getD_eq_getElem?_getD, hi, hk'] using this

/-- Reading a table's place. -/
theorem tab_read {vt : AV} {t : List (List Int)} (ht : IsTab vt t) (h : okTab t) {i k : Nat} (hi : i < t.length) (hk : k < t.length) :
    idxA 1 vt (.int .i64 i) = some (ptrAt vt i) ∧ (∀ H, loadA H none (ptrAt vt i) = some (cellAt vt i)) ∧ idxA 1 (cellAt vt i) (.int .i64 k) = some (ptrAt (cellAt vt i) k) ∧ ∀ H, loadA H none (ptrAt (cellAt vt i) k) = some (.int .i64 (tat t i k)) := by
  have hr := h.rows t[i] (by simp)
  have hrow := ht.row hi
  have hg : t.getD i [] = t[i] := by simp [List.getD_eq_getElem?_getD, hi]
  rw [hg] at hrow
  refine ⟨ht.idx hi, fun H => ht.load hi, hrow.idx (by omega), fun H => ?_⟩
  rw [hrow.load (by omega), tat, hg]

/-- What one gains more, by a change from one fashion. -/
def gainW (t : List (List Int)) (f a b : Nat) : Int := tat t a b - tat t a f - tat t f b + tat t f f

theorem load_0 {c : AV} {R : Heap} : loadA (⟨0, [c]⟩ :: R) none (.ptr 0 0 0) = some c := rfl
theorem load_1 {o : Ob} {c : AV} {R : Heap} : loadA (o :: ⟨0, [c]⟩ :: R) none (.ptr 1 0 0) = some c := rfl

theorem c72 {vt : AV} {t : List (List Int)} (ht : IsTab vt t) (h : okTab t) {f a b : Nat} (hf : f < t.length) (ha : a < t.length) (hb : b < t.length) :
    callL E Y 72 [vI a, vI b, .ptr 0 0 0, .ptr 1 0 0] [⟨0, [vt]⟩, ⟨0, [vI f]⟩] = some (vI (gainW t f a b), [⟨0, [vt]⟩, ⟨0, [vI f]⟩]) := by
  obtain ⟨a1, a2, a3, a4⟩ := tab_read ht h ha hb
  obtain ⟨b1, b2, b3, b4⟩ := tab_read ht h ha hf
  obtain ⟨c1, c2, c3, c4⟩ := tab_read ht h hf hb
  obtain ⟨d1, d2, d3, d4⟩ := tab_read ht h hf hf
  have e1 := tat_bound h ha hb
  have e2 := tat_bound h ha hf
  have e3 := tat_bound h hf hb
  have e4 := tat_bound h hf hf
  have w1 : IntKind.wrap .i64 (tat t a b - tat t a f) = tat t a b - tat t a f := wrap_id (by omega) (by omega)
  have w2 : IntKind.wrap .i64 (tat t a b - tat t a f - tat t f b) = tat t a b - tat t a f - tat t f b := wrap_id (by omega) (by omega)
  have w3 : IntKind.wrap .i64 (tat t a b - tat t a f - tat t f b + tat t f f) = tat t a b - tat t a f - tat t f b + tat t f f := wrap_id (by omega) (by omega)
  rw [call72 rfl]
  simp only [F72, F72B, SS, insA, wantedA, Opd.ev, putA, binA, eqbA, unA, fldA, partA, reduceIte, reduceCtorEq, Nat.reduceMod, Nat.reduceDiv, Nat.reduceBEq, resultA, resA, vI, Nat.reduceMul, Nat.reduceAdd, Nat.reduceSub, Nat.reduceEqDiff, Nat.reduceLT, Nat.reducePow, Nat.reduceLeDiff, st, Option.bind_eq_bind, Option.pure_def, List.length_nil, Int.cast_ofNat_Int, List.reverse_nil, load_0, load_1, a1, a2, a3, a4, b1, b2, b3, b4, c1, c2, c3, c4, d1, d2, d3, d4, w1, w2, w3, gainW]

def wayS (t : List (List Int)) (f i k : Nat) : Int := gainW t f i k + gainW t f k i

theorem IsTab.cells {v : AV} {t : List (List Int)} (h : IsTab v t) : isU v = false ∧ cellsOf v = [v] := by cases h <;> exact ⟨rfl, rfl⟩

theorem way68 {vt : AV} {t : List (List Int)} (ht : IsTab vt t) (h : okTab t) {f i k : Nat} (hf : f < t.length) (hi : i < t.length) (hk : k < t.length) :
    freeX H (callL E Y 68 [vt, vI f, vI i, vI k] []) = some (vI (wayS t f i k), H) := by
  have h1 := c72 (Y := Y) ht h hf hi hk
  have h2 := c72 (Y := Y) ht h hf hk hi
  have e1 := tat_bound h hi hk
  have e2 := tat_bound h hi hf
  have e3 := tat_bound h hf hk
  have e4 := tat_bound h hf hf
  have e5 := tat_bound h hk hi
  have e6 := tat_bound h hk hf
  have e7 := tat_bound h hf hi
  have w : IntKind.wrap .i64 (gainW t f i k + gainW t f k i) = gainW t f i k + gainW t f k i := by
    unfold gainW; exact wrap_id (by omega) (by omega)
  rw [call68 rfl]
  simp only [SS, insA, wantedA, Opd.ev, putA, binA, eqbA, unA, fldA, partA, reduceIte, reduceCtorEq, Nat.reduceMod, Nat.reduceDiv, Nat.reduceBEq, resultA, resA, vI, Nat.reduceMul, Nat.reduceAdd, Nat.reduceSub, Nat.reduceEqDiff, Nat.reduceLT, Nat.reducePow, Nat.reduceLeDiff, st, Option.bind_eq_bind, Option.pure_def, List.length_nil, Int.cast_ofNat_Int, List.reverse_nil] at h1 h2
  simp only [F68, F68B, SS, insA, wantedA, Opd.ev, putA, binA, eqbA, unA, fldA, partA, reduceIte, reduceCtorEq, Nat.reduceMod, Nat.reduceDiv, Nat.reduceBEq, resultA, resA, vI, Nat.reduceMul, Nat.reduceAdd, Nat.reduceSub, Nat.reduceEqDiff, Nat.reduceLT, Nat.reducePow, Nat.reduceLeDiff, st, Option.bind_eq_bind, Option.pure_def, List.length_nil, Int.cast_ofNat_Int, List.reverse_nil, ht.cells, isU_int, cells_int, List.length_nil, List.length_cons, h1, h2, w, wayS, List.length_append, Nat.zero_add]
end
end Go.X

/-! Lists that grow; bits. -/
set_option linter.unusedSimpArgs false
set_option linter.unusedVariables false
namespace Go.X
open Go Go.RowKit
section
variable {Y : Run} {H : Heap}

/-- A list that has grown by append: nil at first, then an object that lies at k or beyond. -/
def Gro (k e : Nat) (H : Heap) (v : AV) (n : Nat) (cells : List AV) : Prop :=
  cells.length = n * e ∧ ((n = 0 ∧ v = .nils) ∨ ∃ id ver, k ≤ id ∧ v = .sl id ver e 0 n none ∧ H[id]? = some ⟨ver, cells⟩)

theorem Gro.nil (k e : Nat) (H : Heap) : Gro k e H .nils 0 [] := ⟨by simp, .inl ⟨rfl, rfl⟩⟩

theorem Gro.len {k e n : Nat} {v : AV} {cells : List AV} (h : Gro k e H v n cells) : lenA v = some n := by
  rcases h.2 with ⟨rfl, rfl⟩ | ⟨id, ver, _, rfl, _⟩ <;> rfl

theorem content_all {id ver e n : Nat} {cells : List AV} (h : H[id]? = some ⟨ver, cells⟩) (hl : cells.length = n * e) : content H e (.sl id ver e 0 n none) = some cells := by
  simp only [content, h]
  rw [if_pos ⟨trivial, trivial, by omega⟩, List.drop_zero, List.take_of_length_le (by omega)]

theorem Gro.app {k e n bytes : Nat} {v : AV} {cells ys : List AV} (h : Gro k e H v n cells) (hk : k ≤ H.length) (hy : ys.length = e) (ho : ys.all one = true) (hn : n ≤ 1000000) (hb : bytes ≤ 1000) :
    ∃ v' H', appA (H ++ [⟨0, ys⟩]) e bytes v (.sl H.length 0 e 0 1 none) = some (v', H') ∧ Gro k e H' v' (n + 1) (cells ++ ys) ∧ (∀ j, j < k → H'[j]? = H[j]?) ∧ H.length ≤ H'.length := by
  have hc : content (H ++ [⟨0, ys⟩]) e (.sl H.length 0 e 0 1 none) = some ys := content_all (by simp) (by omega)
  have hb2 : (n + 1) * bytes ≤ 1000001 * 1000 := Nat.mul_le_mul (by omega) hb
  have hcond : (n + 1) * bytes ≤ 140737488355328 ∧ n + 1 ≤ 9223372036854775807 ∧ ys.all one = true := ⟨by omega, by omega, ho⟩
  have hlen : lenA (.sl H.length 0 e 0 1 none) = some 1 := rfl
  have h2 := h.len
  obtain ⟨h1, ⟨rfl, rfl⟩ | ⟨id, ver, hid, rfl, hH⟩⟩ := h
  · have : cells = [] := List.eq_nil_of_length_eq_zero (by omega)
    subst this
    refine ⟨.sl (H.length + 1) 0 e 0 1 none, (H ++ [⟨0, ys⟩]) ++ [⟨0, ys⟩], ?_, ⟨by simp [hy], .inr ⟨H.length + 1, 0, by omega, rfl, ?_⟩⟩, fun j hj => ?_, by simp⟩
    · simp only [appA, h2, hlen, hc]
      rw [if_neg (by decide), if_pos hcond]
      simp
    · rw [List.getElem?_append_right (by simp)]; simp
    · rw [List.append_assoc, List.getElem?_append_left (by omega)]
  · have hlt : id < H.length := by
      rcases Nat.lt_or_ge id H.length with h | h
      · exact h
      · rw [List.getElem?_eq_none h] at hH; cases hH
    have hH' : (H ++ [⟨0, ys⟩])[id]? = some ⟨ver, cells⟩ := by rw [List.getElem?_append_left hlt]; exact hH
    refine ⟨.sl id (ver + 1) e 0 (n + 1) none, (H ++ [(⟨0, ys⟩ : Ob)]).set id ⟨ver + 1, cells ++ ys⟩, ?_, ⟨?_, .inr ⟨id, ver + 1, hid, rfl, ?_⟩⟩, fun j hj => ?_, by simp⟩
    · simp only [appA, h2, hlen, hc]
      rw [if_neg (by decide), if_pos hcond]
      simp only [hH']
      rw [if_pos ⟨trivial, trivial, trivial, by omega⟩]
    · rw [List.length_append, h1, hy, Nat.add_mul]; omega
    · rw [List.getElem?_set_self (by simp; omega)]
    · rw [List.getElem?_set_ne (by omega), List.getElem?_append_left (by omega)]

def idOf : AV → Option Nat
  | .sl id _ _ _ _ _ => some id
  | _ => none

/-- Two lists that do not share. -/
def apartW (v w : AV) : Prop := ∀ j, idOf v = some j → idOf w ≠ some j

theorem Gro.id_lt {k e n j : Nat} {v : AV} {cells : List AV} (h : Gro k e H v n cells) (hj : idOf v = some j) : j < H.length := by
  obtain ⟨h1, ⟨rfl, rfl⟩ | ⟨id, ver, hid, rfl, hH⟩⟩ := h
  · cases hj
  · cases hj
    rcases Nat.lt_or_ge j H.length with h | h
    · exact h
    · rw [List.getElem?_eq_none h] at hH; cases hH

theorem Gro.keep {k e n : Nat} {v : AV} {cells : List AV} {H' : Heap} (h : Gro k e H v n cells) (hk : ∀ j, idOf v = some j → H'[j]? = H[j]?) : Gro k e H' v n cells := by
  obtain ⟨h1, h2 | ⟨id, ver, hid, rfl, hH⟩⟩ := h
  · exact ⟨h1, .inl h2⟩
  · exact ⟨h1, .inr ⟨id, ver, hid, rfl, by rw [hk id rfl]; exact hH⟩⟩

/-- One more, and what else stands. -/
theorem Gro.app2 {k e n bytes : Nat} {v : AV} {cells ys : List AV} (h : Gro k e H v n cells) (hk : k ≤ H.length) (hy : ys.length = e) (ho : ys.all one = true) (hn : n ≤ 1000000) (hb : bytes ≤ 1000) :
    ∃ v' H', appA (H ++ [⟨0, ys⟩]) e bytes v (.sl H.length 0 e 0 1 none) = some (v', H') ∧ Gro k e H' v' (n + 1) (cells ++ ys) ∧ (∀ j, j < H.length → idOf v ≠ some j → H'[j]? = H[j]?) ∧ H.length ≤ H'.length ∧ (idOf v' = idOf v ∨ ∃ j, idOf v' = some j ∧ H.length ≤ j) := by
  have hc : content (H ++ [⟨0, ys⟩]) e (.sl H.length 0 e 0 1 none) = some ys := content_all (by simp) (by omega)
  have hb2 : (n + 1) * bytes ≤ 1000001 * 1000 := Nat.mul_le_mul (by omega) hb
  have hcond : (n + 1) * bytes ≤ 140737488355328 ∧ n + 1 ≤ 9223372036854775807 ∧ ys.all one = true := ⟨by omega, by omega, ho⟩
  have hlen : lenA (.sl H.length 0 e 0 1 none) = some 1 := rfl
  have h2 := h.len
  obtain ⟨h1, ⟨rfl, rfl⟩ | ⟨id, ver, hid, rfl, hH⟩⟩ := h
  · have : cells = [] := List.eq_nil_of_length_eq_zero (by omega)
    subst this
    refine ⟨.sl (H.length + 1) 0 e 0 1 none, (H ++ [⟨0, ys⟩]) ++ [⟨0, ys⟩], ?_, ⟨by simp [hy], .inr ⟨H.length + 1, 0, by omega, rfl, ?_⟩⟩, fun j hj _ => ?_, by simp, .inr ⟨H.length + 1, rfl, by omega⟩⟩
    · simp only [appA, h2, hlen, hc]
      rw [if_neg (by decide), if_pos hcond]
      simp
    · rw [List.getElem?_append_right (by simp)]; simp
    · rw [List.append_assoc, List.getElem?_append_left (by omega)]
  · have hlt : id < H.length := by
      rcases Nat.lt_or_ge id H.length with h | h
      · exact h
      · rw [List.getElem?_eq_none h] at hH; cases hH
    have hH' : (H ++ [⟨0, ys⟩])[id]? = some ⟨ver, cells⟩ := by rw [List.getElem?_append_left hlt]; exact hH
    refine ⟨.sl id (ver + 1) e 0 (n + 1) none, (H ++ [(⟨0, ys⟩ : Ob)]).set id ⟨ver + 1, cells ++ ys⟩, ?_, ⟨?_, .inr ⟨id, ver + 1, hid, rfl, ?_⟩⟩, fun j hj hne => ?_, by simp, .inl rfl⟩
    · simp only [appA, h2, hlen, hc]
      rw [if_neg (by decide), if_pos hcond]
      simp only [hH']
      rw [if_pos ⟨trivial, trivial, trivial, by omega⟩]
    · rw [List.length_append, h1, hy, Nat.add_mul]; omega
    · rw [List.getElem?_set_self (by simp; omega)]
    · have : id ≠ j := fun e => hne (by rw [e]; rfl)
      rw [List.getElem?_set_ne this, List.getElem?_append_left hj]

/-- An element's place. -/
def gptr (e : Nat) (v : AV) (i : Nat) : AV := match v with
  | .sl id ver _ _ _ _ => .ptr id ver (i * e)
  | _ => .undef

theorem Gro.idx {k e n i : Nat} {v : AV} {cells : List AV} (h : Gro k e H v n cells) (hi : i < n) : idxA e v (.int .i64 (i : Int)) = some (gptr e v i) := by
  obtain ⟨h1, ⟨rfl, rfl⟩ | ⟨id, ver, hid, rfl, hH⟩⟩ := h
  · omega
  · simp only [idxA, natOf_nat, gptr]
    rw [if_pos ⟨trivial, hi⟩, Nat.zero_add]

theorem Gro.load {k n i : Nat} {v : AV} {cells : List AV} (h : Gro k 1 H v n cells) (hi : i < n) : loadA H none (gptr 1 v i) = some (cells.getD i .undef) := by
  obtain ⟨h1, ⟨rfl, rfl⟩ | ⟨id, ver, hid, rfl, hH⟩⟩ := h
  · omega
  · have hlt : i < cells.length := by omega
    have h2 : (cells.drop (i * 1)).take 1 = [cells[i]] := by rw [Nat.mul_one, List.drop_eq_getElem_cons hlt]; rfl
    simp only [gptr, load_ptr, cellsAt, hH]
    rw [if_pos ⟨trivial, by omega⟩, h2]
    simp [firstX, List.getD_eq_getElem?_getD, hlt]

theorem Gro.snap {k n d : Nat} {v : AV} {l : List Int} (h : Gro k 1 H v n (l.map vI)) : (n = 0 ∧ v = .nils) ∨ snapA H (d + 2) v = some (.imm true (l.map vI) l.length) := by
  obtain ⟨h1, h | ⟨id, ver, hid, rfl, hH⟩⟩ := h
  · exact .inl h
  · right
    have hn : n = l.length := by simpa using h1.symm
    subst hn
    rw [snap_sl, hH, snapS_some, if_pos (by simp), List.drop_zero, Nat.mul_one, List.take_of_length_le (by simp), mapM_snap, snapB_some]

theorem heap_first {X : Ob} (h : H[0]? = some X) : ∃ R, H = X :: R := by
  cases H with
  | nil => simp at h
  | cons a R => simp at h; exact ⟨R, by rw [h]⟩

/-! ### Bits -/
theorem shrW {s i : Nat} (hi : i < 60) : binA .shr (vI s) (vI i) = some (vI ((s / 2 ^ i : Nat) : Int)) := by
  simp only [binA, Int.toNat_natCast, IntKind.bits]
  rw [if_pos (by omega), Nat.min_eq_left (by omega)]
  have h1 : (2 : Int) ^ i = ((2 ^ i : Nat) : Int) := by simp
  have : Int.fdiv (s : Int) ((2 ^ i : Nat) : Int) = ((s / 2 ^ i : Nat) : Int) := by
    rw [Int.fdiv_eq_ediv_of_nonneg _ (Int.natCast_nonneg _)]; rfl
  rw [h1, this]

theorem and1W {s : Nat} (hs : s < 4611686018427387904) : binA .and (vI s) (vI 1) = some (vI ((s % 2 : Nat) : Int)) := by
  show some (AV.int .i64 (IntKind.wrap .i64 ((BitVec.ofInt 64 (s : Int) &&& BitVec.ofInt 64 ((1 : Nat) : Int)).toNat : Int))) = _
  rw [ofInt_nat, ofInt_nat, BitVec.toNat_and, BitVec.toNat_ofNat, BitVec.toNat_ofNat, Nat.mod_eq_of_lt (by omega), Nat.mod_eq_of_lt (by decide), Nat.and_one_is_mod, wrap_id (by omega) (by omega)]

end
end Go.X
