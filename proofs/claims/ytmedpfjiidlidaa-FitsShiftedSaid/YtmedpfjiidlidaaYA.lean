import Derived.Test.YtmedpfjiidlidaaXY
/-! Same, few, and the closed example. -/
set_option linter.unusedSimpArgs false
set_option linter.unusedVariables false
set_option maxHeartbeats 2000000
set_option maxRecDepth 10000
namespace Go.X
open Go Go.RowKit
section
variable {Y : Run} {H : Heap}

theorem L19 {v w : AV} {l q : List Int} {c d : Int} (hv : IsRow v l) (hw : IsRow w q) (hl : l.length = q.length) (h20 : l.length ≤ 1000) (n : Nat) : ∀ (i : Nat), i + n = l.length →
    lp E Y F19L0 (st 38 [(2, .ptr 0 0 0), (3, .ptr 1 0 0), (5, vI i)]) [⟨0, [v, vI c]⟩, ⟨0, [w, vI d]⟩] =
      if l.drop i = q.drop i then some (.x 0, st 38 [], [⟨0, [v, vI c]⟩, ⟨0, [w, vI d]⟩]) else some (.r, st 38 [(4, .bool false)], [⟨0, [v, vI c]⟩, ⟨0, [w, vI d]⟩]) := by
  induction n with
  | zero =>
    intro i hi
    rw [un19_0, List.drop_eq_nil_of_le (by omega), List.drop_eq_nil_of_le (by omega)]
    have : ¬ ((i : Int) < (l.length : Int)) := by omega
    simp only [F19L0b, SS, insA, wantedA, Opd.ev, putA, binA, eqbA, unA, fldA, partA, reduceIte, reduceCtorEq, Nat.reduceMod, Nat.reduceDiv, Nat.reduceBEq, resultA, resA, vI, Nat.reduceMul, Nat.reduceAdd, Nat.reduceSub, Nat.reduceEqDiff, Nat.reduceLT, Nat.reducePow, Nat.reduceLeDiff, st, Option.bind_eq_bind, Option.pure_def, List.length_nil, Int.cast_ofNat_Int, List.reverse_nil, UU, idxP, cellsAt, storeA, fillA, zerosA, putAll, optNat, sliceA, row, Int.reduceLT, Int.reduceLE, Int.reduceGT, Int.reduceGE, Int.reduceEq, Int.reduceNe, Int.reduceToNat, Int.reduceBEq, Int.reduceBNe, Nat.reduceLeDiff, Nat.reduceLT, Nat.reduceBNe, Nat.reduceGT, List.drop_nil, List.take_nil, Option.isSome_none, Int.ofNat_one, Int.ofNat_zero, hv.len, this]
  | succ n ih =>
    intro i hi
    have h1 : i < l.length := by omega
    have h2 : i < q.length := by omega
    rw [un19_0, List.drop_eq_getElem_cons h1, List.drop_eq_getElem_cons h2]
    have hc : (i : Int) < (l.length : Int) := by omega
    have hww := wrap_succ (n := i) (by omega)
    have hg : l.getD i 0 = l[i] := by simp [List.getD_eq_getElem?_getD, h1]
    have hgq : q.getD i 0 = q[i] := by simp [List.getD_eq_getElem?_getD, h2]
    have h3 := ih (i + 1) (by omega)
    simp only [SS, insA, wantedA, Opd.ev, putA, binA, eqbA, unA, fldA, partA, reduceIte, reduceCtorEq, Nat.reduceMod, Nat.reduceDiv, Nat.reduceBEq, resultA, resA, vI, Nat.reduceMul, Nat.reduceAdd, Nat.reduceSub, Nat.reduceEqDiff, Nat.reduceLT, Nat.reducePow, Nat.reduceLeDiff, st, Option.bind_eq_bind, Option.pure_def, List.length_nil, Int.cast_ofNat_Int, List.reverse_nil] at h3
    by_cases ce : l[i] = q[i]
    · simp only [F19L0b, SS, insA, wantedA, Opd.ev, putA, binA, eqbA, unA, fldA, partA, reduceIte, reduceCtorEq, Nat.reduceMod, Nat.reduceDiv, Nat.reduceBEq, resultA, resA, vI, Nat.reduceMul, Nat.reduceAdd, Nat.reduceSub, Nat.reduceEqDiff, Nat.reduceLT, Nat.reducePow, Nat.reduceLeDiff, st, Option.bind_eq_bind, Option.pure_def, List.length_nil, Int.cast_ofNat_Int, List.reverse_nil, UU, idxP, cellsAt, storeA, fillA, zerosA, putAll, optNat, sliceA, row, Int.reduceLT, Int.reduceLE, Int.reduceGT, Int.reduceGE, Int.reduceEq, Int.reduceNe, Int.reduceToNat, Int.reduceBEq, Int.reduceBNe, Nat.reduceLeDiff, Nat.reduceLT, Nat.reduceBNe, Nat.reduceGT, List.drop_nil, List.take_nil, Option.isSome_none, Int.ofNat_one, Int.ofNat_zero, hv.len, hc, hww, hv.idx h1, hv.load h1, hw.idx h2, hw.load h2, hg, hgq, ce, h3, bne_self_eq_false, List.cons.injEq]
    · have : (l[i] != q[i]) = true := by simpa using ce
      simp only [F19L0b, SS, insA, wantedA, Opd.ev, putA, binA, eqbA, unA, fldA, partA, reduceIte, reduceCtorEq, Nat.reduceMod, Nat.reduceDiv, Nat.reduceBEq, resultA, resA, vI, Nat.reduceMul, Nat.reduceAdd, Nat.reduceSub, Nat.reduceEqDiff, Nat.reduceLT, Nat.reducePow, Nat.reduceLeDiff, st, Option.bind_eq_bind, Option.pure_def, List.length_nil, Int.cast_ofNat_Int, List.reverse_nil, UU, idxP, cellsAt, storeA, fillA, zerosA, putAll, optNat, sliceA, row, Int.reduceLT, Int.reduceLE, Int.reduceGT, Int.reduceGE, Int.reduceEq, Int.reduceNe, Int.reduceToNat, Int.reduceBEq, Int.reduceBNe, Nat.reduceLeDiff, Nat.reduceLT, Nat.reduceBNe, Nat.reduceGT, List.drop_nil, List.take_nil, Option.isSome_none, Int.ofNat_one, Int.ofNat_zero, hv.len, hc, hww, hv.idx h1, hv.load h1, hw.idx h2, hw.load h2, hg, hgq, this, ce, h3, List.cons.injEq, false_and]

theorem same19 {v w : AV} {l q : List Int} {c d : Int} (hv : IsRow v l) (hw : IsRow w q) (h20 : l.length ≤ 1000) :
    freeX H (callL E Y 19 [.agg [v, vI c], .agg [w, vI d]] []) = some (.bool (decide (c = d ∧ l = q)), H) := by
  rw [call19 rfl]
  by_cases c1 : c = d
  · by_cases c2 : l.length = q.length
    · have h1 := L19 (Y := Y) (c := c) (d := d) hv hw c2 h20 l.length 0 (by omega)
      have c2' : ((l.length : Nat) : Int) = (q.length : Int) := by omega
      simp only [SS, insA, wantedA, Opd.ev, putA, binA, eqbA, unA, fldA, partA, reduceIte, reduceCtorEq, Nat.reduceMod, Nat.reduceDiv, Nat.reduceBEq, resultA, resA, vI, Nat.reduceMul, Nat.reduceAdd, Nat.reduceSub, Nat.reduceEqDiff, Nat.reduceLT, Nat.reducePow, Nat.reduceLeDiff, st, Option.bind_eq_bind, Option.pure_def, List.length_nil, Int.cast_ofNat_Int, List.reverse_nil, Int.ofNat_zero, List.drop_zero] at h1
      by_cases c3 : l = q
      · rw [if_pos c3] at h1
        have : decide (c = d ∧ l = q) = true := by simp [c1, c3]
        rw [this]
        simp only [F19B, F19T0, in19_0, SS, insA, wantedA, Opd.ev, putA, binA, eqbA, unA, fldA, partA, reduceIte, reduceCtorEq, Nat.reduceMod, Nat.reduceDiv, Nat.reduceBEq, resultA, resA, vI, Nat.reduceMul, Nat.reduceAdd, Nat.reduceSub, Nat.reduceEqDiff, Nat.reduceLT, Nat.reducePow, Nat.reduceLeDiff, st, Option.bind_eq_bind, Option.pure_def, List.length_nil, Int.cast_ofNat_Int, List.reverse_nil, UU, idxP, cellsAt, storeA, fillA, zerosA, putAll, optNat, sliceA, row, Int.reduceLT, Int.reduceLE, Int.reduceGT, Int.reduceGE, Int.reduceEq, Int.reduceNe, Int.reduceToNat, Int.reduceBEq, Int.reduceBNe, Nat.reduceLeDiff, Nat.reduceLT, Nat.reduceBNe, Nat.reduceGT, List.drop_nil, List.take_nil, Option.isSome_none, Int.ofNat_one, Int.ofNat_zero, hv.len, hw.len, c2', h1, c1, bne_self_eq_false]
        subst c1; simp only [bne_self_eq_false, SS, insA, wantedA, Opd.ev, putA, binA, eqbA, unA, fldA, partA, reduceIte, reduceCtorEq, Nat.reduceMod, Nat.reduceDiv, Nat.reduceBEq, resultA, resA, vI, Nat.reduceMul, Nat.reduceAdd, Nat.reduceSub, Nat.reduceEqDiff, Nat.reduceLT, Nat.reducePow, Nat.reduceLeDiff, st, Option.bind_eq_bind, Option.pure_def, List.length_nil, Int.cast_ofNat_Int, List.reverse_nil, UU, idxP, cellsAt, storeA, fillA, zerosA, putAll, optNat, sliceA, row, Int.reduceLT, Int.reduceLE, Int.reduceGT, Int.reduceGE, Int.reduceEq, Int.reduceNe, Int.reduceToNat, Int.reduceBEq, Int.reduceBNe, Nat.reduceLeDiff, Nat.reduceLT, Nat.reduceBNe, Nat.reduceGT, List.drop_nil, List.take_nil, Option.isSome_none, Int.ofNat_one, Int.ofNat_zero, c2', h1]
      · rw [if_neg c3] at h1
        have : decide (c = d ∧ l = q) = false := by simp [c3]
        rw [this]
        subst c1
        simp only [F19B, F19T0, in19_0, SS, insA, wantedA, Opd.ev, putA, binA, eqbA, unA, fldA, partA, reduceIte, reduceCtorEq, Nat.reduceMod, Nat.reduceDiv, Nat.reduceBEq, resultA, resA, vI, Nat.reduceMul, Nat.reduceAdd, Nat.reduceSub, Nat.reduceEqDiff, Nat.reduceLT, Nat.reducePow, Nat.reduceLeDiff, st, Option.bind_eq_bind, Option.pure_def, List.length_nil, Int.cast_ofNat_Int, List.reverse_nil, UU, idxP, cellsAt, storeA, fillA, zerosA, putAll, optNat, sliceA, row, Int.reduceLT, Int.reduceLE, Int.reduceGT, Int.reduceGE, Int.reduceEq, Int.reduceNe, Int.reduceToNat, Int.reduceBEq, Int.reduceBNe, Nat.reduceLeDiff, Nat.reduceLT, Nat.reduceBNe, Nat.reduceGT, List.drop_nil, List.take_nil, Option.isSome_none, Int.ofNat_one, Int.ofNat_zero, hv.len, hw.len, c2', h1, bne_self_eq_false]
    · have c2' : ((((l.length : Nat) : Int) != (q.length : Int))) = true := by simp; omega
      have : decide (c = d ∧ l = q) = false := by
        have : l ≠ q := fun e => c2 (by rw [e])
        simp [this]
      rw [this]
      subst c1
      simp only [F19B, F19T0, in19_0, SS, insA, wantedA, Opd.ev, putA, binA, eqbA, unA, fldA, partA, reduceIte, reduceCtorEq, Nat.reduceMod, Nat.reduceDiv, Nat.reduceBEq, resultA, resA, vI, Nat.reduceMul, Nat.reduceAdd, Nat.reduceSub, Nat.reduceEqDiff, Nat.reduceLT, Nat.reducePow, Nat.reduceLeDiff, st, Option.bind_eq_bind, Option.pure_def, List.length_nil, Int.cast_ofNat_Int, List.reverse_nil, UU, idxP, cellsAt, storeA, fillA, zerosA, putAll, optNat, sliceA, row, Int.reduceLT, Int.reduceLE, Int.reduceGT, Int.reduceGE, Int.reduceEq, Int.reduceNe, Int.reduceToNat, Int.reduceBEq, Int.reduceBNe, Nat.reduceLeDiff, Nat.reduceLT, Nat.reduceBNe, Nat.reduceGT, List.drop_nil, List.take_nil, Option.isSome_none, Int.ofNat_one, Int.ofNat_zero, hv.len, hw.len, c2', bne_self_eq_false]
  · have c1' : (c != d) = true := by simpa using c1
    have : decide (c = d ∧ l = q) = false := by simp [c1]
    rw [this]
    simp only [F19B, F19T0, in19_0, SS, insA, wantedA, Opd.ev, putA, binA, eqbA, unA, fldA, partA, reduceIte, reduceCtorEq, Nat.reduceMod, Nat.reduceDiv, Nat.reduceBEq, resultA, resA, vI, Nat.reduceMul, Nat.reduceAdd, Nat.reduceSub, Nat.reduceEqDiff, Nat.reduceLT, Nat.reducePow, Nat.reduceLeDiff, st, Option.bind_eq_bind, Option.pure_def, List.length_nil, Int.cast_ofNat_Int, List.reverse_nil, UU, idxP, cellsAt, storeA, fillA, zerosA, putAll, optNat, sliceA, row, Int.reduceLT, Int.reduceLE, Int.reduceGT, Int.reduceGE, Int.reduceEq, Int.reduceNe, Int.reduceToNat, Int.reduceBEq, Int.reduceBNe, Nat.reduceLeDiff, Nat.reduceLT, Nat.reduceBNe, Nat.reduceGT, List.drop_nil, List.take_nil, Option.isSome_none, Int.ofNat_one, Int.ofNat_zero, hv.len, hw.len, c1']

/-- Lists of parts. -/
inductive IsPts : AV → List (List Int × Int) → Prop where
  | nil : IsPts .nils []
  | imm (sn : Bool) (cells : List AV) (ps : List (List Int × Int)) (h : cells.length = ps.length * 2)
      (hr : ∀ i (hi : i < ps.length), ∃ v, IsRow v ps[i].1 ∧ cells.drop (i * 2) = v :: vI ps[i].2 :: cells.drop ((i + 1) * 2)) : IsPts (.imm sn cells ps.length) ps

theorem IsPts.len {v : AV} {ps : List (List Int × Int)} (h : IsPts v ps) : lenA v = some ps.length := by cases h <;> rfl

/-- The place of a mixture. -/
theorem IsPts.get {v : AV} {ps : List (List Int × Int)} (h : IsPts v ps) {i : Nat} (hi : i < ps.length) : ∃ sn w cs, idxA 2 v (.int .i64 (i : Int)) = some (.cptr sn (w :: vI ps[i].2 :: cs)) ∧ IsRow w ps[i].1 := by
  cases h with
  | nil => simp at hi
  | imm sn cells ps hl hr =>
    obtain ⟨w, hw, e⟩ := hr i hi
    refine ⟨sn, w, cells.drop ((i + 1) * 2), ?_, hw⟩
    simp only [idxA, natOf_nat]
    rw [if_pos hi, e]

theorem L15_0 {v : AV} {t : List (List Int)} (hv : IsTab v t) (h20 : t.length ≤ 20) {a1 : AV} (n : Nat) : ∀ (i : Nat), i + n = t.length →
    lp E Y F15L0 (st 35 [(0, v), (1, a1), (5, vI i)]) H = if ∀ r ∈ t.drop i, r.length ≤ 20 then some (.x 0, st 35 [(1, a1)], H) else some (.r, st 35 [(4, .bool false)], H) := by
  induction n with
  | zero =>
    intro i hi
    rw [un15_0, List.drop_eq_nil_of_le (by omega)]
    have : ¬ ((i : Int) < (t.length : Int)) := by omega
    simp only [F15L0b, SS, insA, wantedA, Opd.ev, putA, binA, eqbA, unA, fldA, partA, reduceIte, reduceCtorEq, Nat.reduceMod, Nat.reduceDiv, Nat.reduceBEq, resultA, resA, vI, Nat.reduceMul, Nat.reduceAdd, Nat.reduceSub, Nat.reduceEqDiff, Nat.reduceLT, Nat.reducePow, Nat.reduceLeDiff, st, Option.bind_eq_bind, Option.pure_def, List.length_nil, Int.cast_ofNat_Int, List.reverse_nil, UU, idxP, cellsAt, storeA, fillA, zerosA, putAll, optNat, sliceA, row, Int.reduceLT, Int.reduceLE, Int.reduceGT, Int.reduceGE, Int.reduceEq, Int.reduceNe, Int.reduceToNat, Int.reduceBEq, Int.reduceBNe, Nat.reduceLeDiff, Nat.reduceLT, Nat.reduceBNe, Nat.reduceGT, List.drop_nil, List.take_nil, Option.isSome_none, Int.ofNat_one, Int.ofNat_zero, hv.len, this]
    simp
  | succ n ih =>
    intro i hi
    have hlt : i < t.length := by omega
    rw [un15_0, List.drop_eq_getElem_cons hlt]
    have hc : (i : Int) < (t.length : Int) := by omega
    have hw := wrap_succ (n := i) (by omega)
    have hrow := hv.row hlt
    have hg : t.getD i [] = t[i] := by simp [List.getD_eq_getElem?_getD, hlt]
    rw [hg] at hrow
    have h3 := ih (i + 1) (by omega)
    simp only [SS, insA, wantedA, Opd.ev, putA, binA, eqbA, unA, fldA, partA, reduceIte, reduceCtorEq, Nat.reduceMod, Nat.reduceDiv, Nat.reduceBEq, resultA, resA, vI, Nat.reduceMul, Nat.reduceAdd, Nat.reduceSub, Nat.reduceEqDiff, Nat.reduceLT, Nat.reducePow, Nat.reduceLeDiff, st, Option.bind_eq_bind, Option.pure_def, List.length_nil, Int.cast_ofNat_Int, List.reverse_nil] at h3
    simp only [List.mem_cons, forall_eq_or_imp]
    by_cases ce : t[i].length ≤ 20
    · have : ¬ ((t[i].length : Nat) : Int) > 20 := by omega
      simp only [F15L0b, SS, insA, wantedA, Opd.ev, putA, binA, eqbA, unA, fldA, partA, reduceIte, reduceCtorEq, Nat.reduceMod, Nat.reduceDiv, Nat.reduceBEq, resultA, resA, vI, Nat.reduceMul, Nat.reduceAdd, Nat.reduceSub, Nat.reduceEqDiff, Nat.reduceLT, Nat.reducePow, Nat.reduceLeDiff, st, Option.bind_eq_bind, Option.pure_def, List.length_nil, Int.cast_ofNat_Int, List.reverse_nil, UU, idxP, cellsAt, storeA, fillA, zerosA, putAll, optNat, sliceA, row, Int.reduceLT, Int.reduceLE, Int.reduceGT, Int.reduceGE, Int.reduceEq, Int.reduceNe, Int.reduceToNat, Int.reduceBEq, Int.reduceBNe, Nat.reduceLeDiff, Nat.reduceLT, Nat.reduceBNe, Nat.reduceGT, List.drop_nil, List.take_nil, Option.isSome_none, Int.ofNat_one, Int.ofNat_zero, hv.len, hc, hw, hv.idx hlt, hv.load hlt, hrow.len, this, ce, h3]
    · have : ((t[i].length : Nat) : Int) > 20 := by omega
      simp only [F15L0b, SS, insA, wantedA, Opd.ev, putA, binA, eqbA, unA, fldA, partA, reduceIte, reduceCtorEq, Nat.reduceMod, Nat.reduceDiv, Nat.reduceBEq, resultA, resA, vI, Nat.reduceMul, Nat.reduceAdd, Nat.reduceSub, Nat.reduceEqDiff, Nat.reduceLT, Nat.reducePow, Nat.reduceLeDiff, st, Option.bind_eq_bind, Option.pure_def, List.length_nil, Int.cast_ofNat_Int, List.reverse_nil, UU, idxP, cellsAt, storeA, fillA, zerosA, putAll, optNat, sliceA, row, Int.reduceLT, Int.reduceLE, Int.reduceGT, Int.reduceGE, Int.reduceEq, Int.reduceNe, Int.reduceToNat, Int.reduceBEq, Int.reduceBNe, Nat.reduceLeDiff, Nat.reduceLT, Nat.reduceBNe, Nat.reduceGT, List.drop_nil, List.take_nil, Option.isSome_none, Int.ofNat_one, Int.ofNat_zero, hv.len, hc, hw, hv.idx hlt, hv.load hlt, hrow.len, this, ce, false_and]

theorem L15_1 {v : AV} {ps : List (List Int × Int)} (hv : IsPts v ps) (h20 : ps.length ≤ 20) (n : Nat) : ∀ (i : Nat), i + n = ps.length →
    lp E Y F15L1 (st 35 [(1, v), (6, vI i)]) H = if ∀ r ∈ ps.drop i, r.1.length ≤ 20 then some (.x 2, st 35 [], H) else some (.r, st 35 [(4, .bool false)], H) := by
  induction n with
  | zero =>
    intro i hi
    rw [un15_1, List.drop_eq_nil_of_le (by omega)]
    have : ¬ ((i : Int) < (ps.length : Int)) := by omega
    simp only [F15L1b, SS, insA, wantedA, Opd.ev, putA, binA, eqbA, unA, fldA, partA, reduceIte, reduceCtorEq, Nat.reduceMod, Nat.reduceDiv, Nat.reduceBEq, resultA, resA, vI, Nat.reduceMul, Nat.reduceAdd, Nat.reduceSub, Nat.reduceEqDiff, Nat.reduceLT, Nat.reducePow, Nat.reduceLeDiff, st, Option.bind_eq_bind, Option.pure_def, List.length_nil, Int.cast_ofNat_Int, List.reverse_nil, UU, idxP, cellsAt, storeA, fillA, zerosA, putAll, optNat, sliceA, row, Int.reduceLT, Int.reduceLE, Int.reduceGT, Int.reduceGE, Int.reduceEq, Int.reduceNe, Int.reduceToNat, Int.reduceBEq, Int.reduceBNe, Nat.reduceLeDiff, Nat.reduceLT, Nat.reduceBNe, Nat.reduceGT, List.drop_nil, List.take_nil, Option.isSome_none, Int.ofNat_one, Int.ofNat_zero, hv.len, this]
    simp
  | succ n ih =>
    intro i hi
    have hlt : i < ps.length := by omega
    rw [un15_1, List.drop_eq_getElem_cons hlt]
    have hc : (i : Int) < (ps.length : Int) := by omega
    have hw := wrap_succ (n := i) (by omega)
    obtain ⟨sn, w, cs, e, hrow⟩ := hv.get hlt
    have h3 := ih (i + 1) (by omega)
    simp only [SS, insA, wantedA, Opd.ev, putA, binA, eqbA, unA, fldA, partA, reduceIte, reduceCtorEq, Nat.reduceMod, Nat.reduceDiv, Nat.reduceBEq, resultA, resA, vI, Nat.reduceMul, Nat.reduceAdd, Nat.reduceSub, Nat.reduceEqDiff, Nat.reduceLT, Nat.reducePow, Nat.reduceLeDiff, st, Option.bind_eq_bind, Option.pure_def, List.length_nil, Int.cast_ofNat_Int, List.reverse_nil] at h3
    simp only [List.mem_cons, forall_eq_or_imp]
    have hl1 : 1 ≤ cs.length + 1 + 1 := by omega
    by_cases ce : ps[i].1.length ≤ 20
    · have : ¬ ((ps[i].1.length : Nat) : Int) > 20 := by omega
      simp only [F15L1b, SS, insA, wantedA, Opd.ev, putA, binA, eqbA, unA, fldA, partA, reduceIte, reduceCtorEq, Nat.reduceMod, Nat.reduceDiv, Nat.reduceBEq, resultA, resA, vI, Nat.reduceMul, Nat.reduceAdd, Nat.reduceSub, Nat.reduceEqDiff, Nat.reduceLT, Nat.reducePow, Nat.reduceLeDiff, st, Option.bind_eq_bind, Option.pure_def, List.length_nil, Int.cast_ofNat_Int, List.reverse_nil, UU, idxP, cellsAt, storeA, fillA, zerosA, putAll, optNat, sliceA, row, Int.reduceLT, Int.reduceLE, Int.reduceGT, Int.reduceGE, Int.reduceEq, Int.reduceNe, Int.reduceToNat, Int.reduceBEq, Int.reduceBNe, Nat.reduceLeDiff, Nat.reduceLT, Nat.reduceBNe, Nat.reduceGT, List.drop_nil, List.take_nil, Option.isSome_none, Int.ofNat_one, Int.ofNat_zero, hv.len, hc, hw, e, hrow.len, hl1, this, ce, h3]
    · have : ((ps[i].1.length : Nat) : Int) > 20 := by omega
      simp only [F15L1b, SS, insA, wantedA, Opd.ev, putA, binA, eqbA, unA, fldA, partA, reduceIte, reduceCtorEq, Nat.reduceMod, Nat.reduceDiv, Nat.reduceBEq, resultA, resA, vI, Nat.reduceMul, Nat.reduceAdd, Nat.reduceSub, Nat.reduceEqDiff, Nat.reduceLT, Nat.reducePow, Nat.reduceLeDiff, st, Option.bind_eq_bind, Option.pure_def, List.length_nil, Int.cast_ofNat_Int, List.reverse_nil, UU, idxP, cellsAt, storeA, fillA, zerosA, putAll, optNat, sliceA, row, Int.reduceLT, Int.reduceLE, Int.reduceGT, Int.reduceGE, Int.reduceEq, Int.reduceNe, Int.reduceToNat, Int.reduceBEq, Int.reduceBNe, Nat.reduceLeDiff, Nat.reduceLT, Nat.reduceBNe, Nat.reduceGT, List.drop_nil, List.take_nil, Option.isSome_none, Int.ofNat_one, Int.ofNat_zero, hv.len, hc, hw, e, hrow.len, hl1, this, ce, false_and]

def fewS (t : List (List Int)) (ps : List (List Int × Int)) : Prop := Small t ∧ ∀ p ∈ ps, p.1.length ≤ 20

theorem few15 {v w : AV} {t : List (List Int)} {ps : List (List Int × Int)} (hv : IsTab v t) (hw : IsPts w ps) (h20 : ps.length ≤ 20) :
    (fewS t ps → freeX H (callL E Y 15 [v, w] []) = some (.bool true, H)) ∧ (¬ fewS t ps → freeX H (callL E Y 15 [v, w] []) = some (.bool false, H)) := by
  rw [call15 rfl]
  by_cases c1 : t.length ≤ 20
  · have c1' : ¬ (t.length : Int) > 20 := by omega
    have h1 := L15_0 (Y := Y) (H := []) (a1 := w) hv c1 t.length 0 (by omega)
    have h2 := L15_1 (Y := Y) (H := []) hw h20 ps.length 0 (by omega)
    simp only [SS, insA, wantedA, Opd.ev, putA, binA, eqbA, unA, fldA, partA, reduceIte, reduceCtorEq, Nat.reduceMod, Nat.reduceDiv, Nat.reduceBEq, resultA, resA, vI, Nat.reduceMul, Nat.reduceAdd, Nat.reduceSub, Nat.reduceEqDiff, Nat.reduceLT, Nat.reducePow, Nat.reduceLeDiff, st, Option.bind_eq_bind, Option.pure_def, List.length_nil, Int.cast_ofNat_Int, List.reverse_nil, Int.ofNat_zero, List.drop_zero] at h1 h2
    by_cases c2 : ∀ r ∈ t, r.length ≤ 20
    · rw [if_pos c2] at h1
      by_cases c3 : ∀ r ∈ ps, r.1.length ≤ 20
      · rw [if_pos c3] at h2
        refine ⟨fun _ => ?_, fun h => (h ⟨⟨c1, c2⟩, c3⟩).elim⟩
        simp only [F15B, F15T0, F15T1, in15_0, in15_1, SS, insA, wantedA, Opd.ev, putA, binA, eqbA, unA, fldA, partA, reduceIte, reduceCtorEq, Nat.reduceMod, Nat.reduceDiv, Nat.reduceBEq, resultA, resA, vI, Nat.reduceMul, Nat.reduceAdd, Nat.reduceSub, Nat.reduceEqDiff, Nat.reduceLT, Nat.reducePow, Nat.reduceLeDiff, st, Option.bind_eq_bind, Option.pure_def, List.length_nil, Int.cast_ofNat_Int, List.reverse_nil, UU, idxP, cellsAt, storeA, fillA, zerosA, putAll, optNat, sliceA, row, Int.reduceLT, Int.reduceLE, Int.reduceGT, Int.reduceGE, Int.reduceEq, Int.reduceNe, Int.reduceToNat, Int.reduceBEq, Int.reduceBNe, Nat.reduceLeDiff, Nat.reduceLT, Nat.reduceBNe, Nat.reduceGT, List.drop_nil, List.take_nil, Option.isSome_none, Int.ofNat_one, Int.ofNat_zero, hv.len, c1', h1, h2]
      · rw [if_neg c3] at h2
        refine ⟨fun h => (c3 h.2).elim, fun _ => ?_⟩
        simp only [F15B, F15T0, F15T1, in15_0, in15_1, SS, insA, wantedA, Opd.ev, putA, binA, eqbA, unA, fldA, partA, reduceIte, reduceCtorEq, Nat.reduceMod, Nat.reduceDiv, Nat.reduceBEq, resultA, resA, vI, Nat.reduceMul, Nat.reduceAdd, Nat.reduceSub, Nat.reduceEqDiff, Nat.reduceLT, Nat.reducePow, Nat.reduceLeDiff, st, Option.bind_eq_bind, Option.pure_def, List.length_nil, Int.cast_ofNat_Int, List.reverse_nil, UU, idxP, cellsAt, storeA, fillA, zerosA, putAll, optNat, sliceA, row, Int.reduceLT, Int.reduceLE, Int.reduceGT, Int.reduceGE, Int.reduceEq, Int.reduceNe, Int.reduceToNat, Int.reduceBEq, Int.reduceBNe, Nat.reduceLeDiff, Nat.reduceLT, Nat.reduceBNe, Nat.reduceGT, List.drop_nil, List.take_nil, Option.isSome_none, Int.ofNat_one, Int.ofNat_zero, hv.len, c1', h1, h2]
    · rw [if_neg c2] at h1
      refine ⟨fun h => (c2 h.1.2).elim, fun _ => ?_⟩
      simp only [F15B, F15T0, F15T1, in15_0, in15_1, SS, insA, wantedA, Opd.ev, putA, binA, eqbA, unA, fldA, partA, reduceIte, reduceCtorEq, Nat.reduceMod, Nat.reduceDiv, Nat.reduceBEq, resultA, resA, vI, Nat.reduceMul, Nat.reduceAdd, Nat.reduceSub, Nat.reduceEqDiff, Nat.reduceLT, Nat.reducePow, Nat.reduceLeDiff, st, Option.bind_eq_bind, Option.pure_def, List.length_nil, Int.cast_ofNat_Int, List.reverse_nil, UU, idxP, cellsAt, storeA, fillA, zerosA, putAll, optNat, sliceA, row, Int.reduceLT, Int.reduceLE, Int.reduceGT, Int.reduceGE, Int.reduceEq, Int.reduceNe, Int.reduceToNat, Int.reduceBEq, Int.reduceBNe, Nat.reduceLeDiff, Nat.reduceLT, Nat.reduceBNe, Nat.reduceGT, List.drop_nil, List.take_nil, Option.isSome_none, Int.ofNat_one, Int.ofNat_zero, hv.len, c1', h1]
  · have c1' : (t.length : Int) > 20 := by omega
    refine ⟨fun h => (c1 h.1.1).elim, fun _ => ?_⟩
    simp only [F15B, F15T0, F15T1, in15_0, in15_1, SS, insA, wantedA, Opd.ev, putA, binA, eqbA, unA, fldA, partA, reduceIte, reduceCtorEq, Nat.reduceMod, Nat.reduceDiv, Nat.reduceBEq, resultA, resA, vI, Nat.reduceMul, Nat.reduceAdd, Nat.reduceSub, Nat.reduceEqDiff, Nat.reduceLT, Nat.reducePow, Nat.reduceLeDiff, st, Option.bind_eq_bind, Option.pure_def, List.length_nil, Int.cast_ofNat_Int, List.reverse_nil, UU, idxP, cellsAt, storeA, fillA, zerosA, putAll, optNat, sliceA, row, Int.reduceLT, Int.reduceLE, Int.reduceGT, Int.reduceGE, Int.reduceEq, Int.reduceNe, Int.reduceToNat, Int.reduceBEq, Int.reduceBNe, Nat.reduceLeDiff, Nat.reduceLT, Nat.reduceBNe, Nat.reduceGT, List.drop_nil, List.take_nil, Option.isSome_none, Int.ofNat_one, Int.ofNat_zero, hv.len, c1']
end
end Go.X
