import Derived.Test.YtmedpfjiidlidaaZE
/-! Limit, both ways; the law on it. -/
set_option linter.unusedSimpArgs false
set_option linter.unusedVariables false
set_option maxHeartbeats 2000000
set_option maxRecDepth 10000
namespace Go.X
open Go Go.RowKit
section
variable {Y : Run} {H : Heap}

theorem L63 {v w : AV} {l q : List Int} (hv : IsRow v l) (hw : IsRow w q) (hl : l.length = q.length) (h20 : l.length ≤ 1000) (n : Nat) : ∀ (i : Nat), i + n = l.length →
    lp E2 Y F63L0 (st 26 [(0, v), (1, w), (12, vI l.length), (13, vI i)]) H = if l.drop i = q.drop i then some (.x 0, st 26 [], H) else some (.r, st 26 [(4, .bool false)], H) := by
  induction n with
  | zero =>
    intro i hi
    rw [un63_0, List.drop_eq_nil_of_le (by omega), List.drop_eq_nil_of_le (by omega)]
    have : ¬ ((i : Int) < (l.length : Int)) := by omega
    simp only [F63L0b, SS, insA, wantedA, Opd.ev, putA, binA, eqbA, unA, fldA, partA, reduceIte, reduceCtorEq, Nat.reduceMod, Nat.reduceDiv, Nat.reduceBEq, resultA, resA, vI, Nat.reduceMul, Nat.reduceAdd, Nat.reduceSub, Nat.reduceEqDiff, Nat.reduceLT, Nat.reducePow, Nat.reduceLeDiff, st, Option.bind_eq_bind, Option.pure_def, List.length_nil, Int.cast_ofNat_Int, List.reverse_nil, UU, idxP, cellsAt, storeA, fillA, zerosA, putAll, optNat, sliceA, row, Int.reduceLT, Int.reduceLE, Int.reduceGT, Int.reduceGE, Int.reduceEq, Int.reduceNe, Int.reduceToNat, Int.reduceBEq, Int.reduceBNe, Nat.reduceLeDiff, Nat.reduceLT, Nat.reduceBNe, Nat.reduceGT, List.drop_nil, List.take_nil, Option.isSome_none, Int.ofNat_one, Int.ofNat_zero, this]
  | succ n ih =>
    intro i hi
    have h1 : i < l.length := by omega
    have h2 : i < q.length := by omega
    rw [un63_0, List.drop_eq_getElem_cons h1, List.drop_eq_getElem_cons h2]
    have hc : (i : Int) < (l.length : Int) := by omega
    have hww := wrap_succ (n := i) (by omega)
    have hg : l.getD i 0 = l[i] := by simp [List.getD_eq_getElem?_getD, h1]
    have hgq : q.getD i 0 = q[i] := by simp [List.getD_eq_getElem?_getD, h2]
    have h3 := ih (i + 1) (by omega)
    simp only [SS, insA, wantedA, Opd.ev, putA, binA, eqbA, unA, fldA, partA, reduceIte, reduceCtorEq, Nat.reduceMod, Nat.reduceDiv, Nat.reduceBEq, resultA, resA, vI, Nat.reduceMul, Nat.reduceAdd, Nat.reduceSub, Nat.reduceEqDiff, Nat.reduceLT, Nat.reducePow, Nat.reduceLeDiff, st, Option.bind_eq_bind, Option.pure_def, List.length_nil, Int.cast_ofNat_Int, List.reverse_nil] at h3
    by_cases ce : l[i] = q[i]
    · simp only [F63L0b, SS, insA, wantedA, Opd.ev, putA, binA, eqbA, unA, fldA, partA, reduceIte, reduceCtorEq, Nat.reduceMod, Nat.reduceDiv, Nat.reduceBEq, resultA, resA, vI, Nat.reduceMul, Nat.reduceAdd, Nat.reduceSub, Nat.reduceEqDiff, Nat.reduceLT, Nat.reducePow, Nat.reduceLeDiff, st, Option.bind_eq_bind, Option.pure_def, List.length_nil, Int.cast_ofNat_Int, List.reverse_nil, UU, idxP, cellsAt, storeA, fillA, zerosA, putAll, optNat, sliceA, row, Int.reduceLT, Int.reduceLE, Int.reduceGT, Int.reduceGE, Int.reduceEq, Int.reduceNe, Int.reduceToNat, Int.reduceBEq, Int.reduceBNe, Nat.reduceLeDiff, Nat.reduceLT, Nat.reduceBNe, Nat.reduceGT, List.drop_nil, List.take_nil, Option.isSome_none, Int.ofNat_one, Int.ofNat_zero, hc, hww, hv.idx h1, hv.load h1, hw.idx h2, hw.load h2, hg, hgq, ce, h3, bne_self_eq_false, List.cons.injEq]
    · have : (l[i] != q[i]) = true := by simpa using ce
      simp only [F63L0b, SS, insA, wantedA, Opd.ev, putA, binA, eqbA, unA, fldA, partA, reduceIte, reduceCtorEq, Nat.reduceMod, Nat.reduceDiv, Nat.reduceBEq, resultA, resA, vI, Nat.reduceMul, Nat.reduceAdd, Nat.reduceSub, Nat.reduceEqDiff, Nat.reduceLT, Nat.reducePow, Nat.reduceLeDiff, st, Option.bind_eq_bind, Option.pure_def, List.length_nil, Int.cast_ofNat_Int, List.reverse_nil, UU, idxP, cellsAt, storeA, fillA, zerosA, putAll, optNat, sliceA, row, Int.reduceLT, Int.reduceLE, Int.reduceGT, Int.reduceGE, Int.reduceEq, Int.reduceNe, Int.reduceToNat, Int.reduceBEq, Int.reduceBNe, Nat.reduceLeDiff, Nat.reduceLT, Nat.reduceBNe, Nat.reduceGT, List.drop_nil, List.take_nil, Option.isSome_none, Int.ofNat_one, Int.ofNat_zero, hc, hww, hv.idx h1, hv.load h1, hw.idx h2, hw.load h2, hg, hgq, this, ce, h3, List.cons.injEq, false_and]

theorem equal63 {v w : AV} {l q : List Int} (hv : IsRow v l) (hw : IsRow w q) (h20 : l.length ≤ 1000) : freeX H (callL E2 Y 63 [v, w] []) = some (.bool (decide (l = q)), H) := by
  rw [call63 rfl]
  by_cases c2 : l.length = q.length
  · have h1 := L63 (Y := Y) (H := []) hv hw c2 h20 l.length 0 (by omega)
    have c2' : ((l.length : Nat) : Int) = (q.length : Int) := by omega
    simp only [SS, insA, wantedA, Opd.ev, putA, binA, eqbA, unA, fldA, partA, reduceIte, reduceCtorEq, Nat.reduceMod, Nat.reduceDiv, Nat.reduceBEq, resultA, resA, vI, Nat.reduceMul, Nat.reduceAdd, Nat.reduceSub, Nat.reduceEqDiff, Nat.reduceLT, Nat.reducePow, Nat.reduceLeDiff, st, Option.bind_eq_bind, Option.pure_def, List.length_nil, Int.cast_ofNat_Int, List.reverse_nil, Int.ofNat_zero, List.drop_zero, c2'] at h1
    by_cases c3 : l = q
    · rw [if_pos c3] at h1
      simp only [F63B, F63T0, in63_0, SS, insA, wantedA, Opd.ev, putA, binA, eqbA, unA, fldA, partA, reduceIte, reduceCtorEq, Nat.reduceMod, Nat.reduceDiv, Nat.reduceBEq, resultA, resA, vI, Nat.reduceMul, Nat.reduceAdd, Nat.reduceSub, Nat.reduceEqDiff, Nat.reduceLT, Nat.reducePow, Nat.reduceLeDiff, st, Option.bind_eq_bind, Option.pure_def, List.length_nil, Int.cast_ofNat_Int, List.reverse_nil, UU, idxP, cellsAt, storeA, fillA, zerosA, putAll, optNat, sliceA, row, Int.reduceLT, Int.reduceLE, Int.reduceGT, Int.reduceGE, Int.reduceEq, Int.reduceNe, Int.reduceToNat, Int.reduceBEq, Int.reduceBNe, Nat.reduceLeDiff, Nat.reduceLT, Nat.reduceBNe, Nat.reduceGT, List.drop_nil, List.take_nil, Option.isSome_none, Int.ofNat_one, Int.ofNat_zero, hv.len, hw.len, c2', h1, bne_self_eq_false, c3, decide_true]
    · rw [if_neg c3] at h1
      simp only [F63B, F63T0, in63_0, SS, insA, wantedA, Opd.ev, putA, binA, eqbA, unA, fldA, partA, reduceIte, reduceCtorEq, Nat.reduceMod, Nat.reduceDiv, Nat.reduceBEq, resultA, resA, vI, Nat.reduceMul, Nat.reduceAdd, Nat.reduceSub, Nat.reduceEqDiff, Nat.reduceLT, Nat.reducePow, Nat.reduceLeDiff, st, Option.bind_eq_bind, Option.pure_def, List.length_nil, Int.cast_ofNat_Int, List.reverse_nil, UU, idxP, cellsAt, storeA, fillA, zerosA, putAll, optNat, sliceA, row, Int.reduceLT, Int.reduceLE, Int.reduceGT, Int.reduceGE, Int.reduceEq, Int.reduceNe, Int.reduceToNat, Int.reduceBEq, Int.reduceBNe, Nat.reduceLeDiff, Nat.reduceLT, Nat.reduceBNe, Nat.reduceGT, List.drop_nil, List.take_nil, Option.isSome_none, Int.ofNat_one, Int.ofNat_zero, hv.len, hw.len, c2', h1, bne_self_eq_false, c3, decide_false]
  · have c2' : ((((l.length : Nat) : Int) != (q.length : Int))) = true := by simp; omega
    have : l ≠ q := fun e => c2 (by rw [e])
    simp only [F63B, F63T0, in63_0, SS, insA, wantedA, Opd.ev, putA, binA, eqbA, unA, fldA, partA, reduceIte, reduceCtorEq, Nat.reduceMod, Nat.reduceDiv, Nat.reduceBEq, resultA, resA, vI, Nat.reduceMul, Nat.reduceAdd, Nat.reduceSub, Nat.reduceEqDiff, Nat.reduceLT, Nat.reducePow, Nat.reduceLeDiff, st, Option.bind_eq_bind, Option.pure_def, List.length_nil, Int.cast_ofNat_Int, List.reverse_nil, UU, idxP, cellsAt, storeA, fillA, zerosA, putAll, optNat, sliceA, row, Int.reduceLT, Int.reduceLE, Int.reduceGT, Int.reduceGE, Int.reduceEq, Int.reduceNe, Int.reduceToNat, Int.reduceBEq, Int.reduceBNe, Nat.reduceLeDiff, Nat.reduceLT, Nat.reduceBNe, Nat.reduceGT, List.drop_nil, List.take_nil, Option.isSome_none, Int.ofNat_one, Int.ofNat_zero, hv.len, hw.len, c2', this, decide_false]

/-- The specification's last part. -/
theorem T39 {o0 o1 : Ob} {R : Heap} {vt av bv dv av' bv' dv' : AV} {t : List (List Int)} {p q : Int} (ht : IsTab vt t)
    (sa : ∀ n, snapA (o0 :: o1 :: ⟨0, [vI 0, vI 0]⟩ :: R) (n + 2) av = some av') (sb : ∀ n, snapA (o0 :: o1 :: ⟨0, [vI 0, vI 0]⟩ :: R) (n + 2) bv = some bv') (sd : ∀ n, snapA (o0 :: o1 :: ⟨0, [vI 0, vI 0]⟩ :: R) (n + 2) dv = some dv')
    (kp : ∀ H, freeX H (callL E2 Y 59 [vt, dv', av'] []) = some (vI p, H)) (kq : ∀ H, freeX H (callL E2 Y 59 [vt, dv', bv'] []) = some (vI q, H)) (hp : p.natAbs ≤ 400000000000000000) (hq : q.natAbs ≤ 400000000000000000) :
    freeX H (endX [.cell 6 (some 2), .tmp 7] (codeL E2 Y F39T0 (sp 95 [(11, dv), (10, bv), (9, av), (6, .ptr 2 0 0), (0, vt)]) (o0 :: o1 :: ⟨0, [vI 0, vI 0]⟩ :: R))) = some (limV p q, H) := by
  unfold limV
  simp only [SS, insA, wantedA, Opd.ev, putA, binA, eqbA, unA, fldA, partA, reduceIte, reduceCtorEq, Nat.reduceMod, Nat.reduceDiv, Nat.reduceBEq, resultA, resA, vI, Nat.reduceMul, Nat.reduceAdd, Nat.reduceSub, Nat.reduceEqDiff, Nat.reduceLT, Nat.reducePow, Nat.reduceLeDiff, st, Option.bind_eq_bind, Option.pure_def, List.length_nil, Int.cast_ofNat_Int, List.reverse_nil] at kp kq sa sb sd
  by_cases c1 : p < 0
  · rw [if_pos (.inl c1)]
    simp only [F39T0, SS, insA, wantedA, Opd.ev, putA, binA, eqbA, unA, fldA, partA, reduceIte, reduceCtorEq, Nat.reduceMod, Nat.reduceDiv, Nat.reduceBEq, resultA, resA, vI, Nat.reduceMul, Nat.reduceAdd, Nat.reduceSub, Nat.reduceEqDiff, Nat.reduceLT, Nat.reducePow, Nat.reduceLeDiff, st, Option.bind_eq_bind, Option.pure_def, List.length_nil, Int.cast_ofNat_Int, List.reverse_nil, UU, idxP, cellsAt, storeA, fillA, zerosA, putAll, optNat, sliceA, row, Int.reduceLT, Int.reduceLE, Int.reduceGT, Int.reduceGE, Int.reduceEq, Int.reduceNe, Int.reduceToNat, Int.reduceBEq, Int.reduceBNe, Nat.reduceLeDiff, Nat.reduceLT, Nat.reduceBNe, Nat.reduceGT, List.drop_nil, List.take_nil, Option.isSome_none, Int.ofNat_one, Int.ofNat_zero, ht.snap, sa, sb, sd, kp, kq, c1, decide_true, BEq.rfl]
  · by_cases c2 : p = 0
    · subst c2
      by_cases c3 : q ≤ 0
      · rw [if_pos (.inr ⟨rfl, c3⟩)]
        simp only [F39T0, SS, insA, wantedA, Opd.ev, putA, binA, eqbA, unA, fldA, partA, reduceIte, reduceCtorEq, Nat.reduceMod, Nat.reduceDiv, Nat.reduceBEq, resultA, resA, vI, Nat.reduceMul, Nat.reduceAdd, Nat.reduceSub, Nat.reduceEqDiff, Nat.reduceLT, Nat.reducePow, Nat.reduceLeDiff, st, Option.bind_eq_bind, Option.pure_def, List.length_nil, Int.cast_ofNat_Int, List.reverse_nil, UU, idxP, cellsAt, storeA, fillA, zerosA, putAll, optNat, sliceA, row, Int.reduceLT, Int.reduceLE, Int.reduceGT, Int.reduceGE, Int.reduceEq, Int.reduceNe, Int.reduceToNat, Int.reduceBEq, Int.reduceBNe, Nat.reduceLeDiff, Nat.reduceLT, Nat.reduceBNe, Nat.reduceGT, List.drop_nil, List.take_nil, Option.isSome_none, Int.ofNat_one, Int.ofNat_zero, ht.snap, sa, sb, sd, kp, kq, c3, decide_true, decide_false, BEq.rfl, Int.lt_irrefl]
      · rw [if_neg (by omega), if_pos (by omega)]
        have c4 : q ≥ 0 := by omega
        simp only [F39T0, SS, insA, wantedA, Opd.ev, putA, binA, eqbA, unA, fldA, partA, reduceIte, reduceCtorEq, Nat.reduceMod, Nat.reduceDiv, Nat.reduceBEq, resultA, resA, vI, Nat.reduceMul, Nat.reduceAdd, Nat.reduceSub, Nat.reduceEqDiff, Nat.reduceLT, Nat.reducePow, Nat.reduceLeDiff, st, Option.bind_eq_bind, Option.pure_def, List.length_nil, Int.cast_ofNat_Int, List.reverse_nil, UU, idxP, cellsAt, storeA, fillA, zerosA, putAll, optNat, sliceA, row, Int.reduceLT, Int.reduceLE, Int.reduceGT, Int.reduceGE, Int.reduceEq, Int.reduceNe, Int.reduceToNat, Int.reduceBEq, Int.reduceBNe, Nat.reduceLeDiff, Nat.reduceLT, Nat.reduceBNe, Nat.reduceGT, List.drop_nil, List.take_nil, Option.isSome_none, Int.ofNat_one, Int.ofNat_zero, ht.snap, sa, sb, sd, kp, kq, c3, c4, decide_true, decide_false, BEq.rfl, Int.lt_irrefl]
    · have c2' : (p == 0) = false := by simpa using c2
      rw [if_neg (by omega)]
      by_cases c4 : q ≥ 0
      · rw [if_pos c4]
        simp only [F39T0, SS, insA, wantedA, Opd.ev, putA, binA, eqbA, unA, fldA, partA, reduceIte, reduceCtorEq, Nat.reduceMod, Nat.reduceDiv, Nat.reduceBEq, resultA, resA, vI, Nat.reduceMul, Nat.reduceAdd, Nat.reduceSub, Nat.reduceEqDiff, Nat.reduceLT, Nat.reducePow, Nat.reduceLeDiff, st, Option.bind_eq_bind, Option.pure_def, List.length_nil, Int.cast_ofNat_Int, List.reverse_nil, UU, idxP, cellsAt, storeA, fillA, zerosA, putAll, optNat, sliceA, row, Int.reduceLT, Int.reduceLE, Int.reduceGT, Int.reduceGE, Int.reduceEq, Int.reduceNe, Int.reduceToNat, Int.reduceBEq, Int.reduceBNe, Nat.reduceLeDiff, Nat.reduceLT, Nat.reduceBNe, Nat.reduceGT, List.drop_nil, List.take_nil, Option.isSome_none, Int.ofNat_one, Int.ofNat_zero, ht.snap, sa, sb, sd, kp, kq, c1, c2', c4, decide_true, decide_false, BEq.rfl]
      · rw [if_neg c4]
        have w1 : IntKind.wrap .i64 (p - q) = p - q := wrap_id (by omega) (by omega)
        have hr := fun H => freeX_up (Y := Y) E2_up (ratio58 (Y := noRun) (H := H) (a := p) (b := p - q) (by omega) (by omega) (by omega))
        simp only [ratA] at hr ⊢
        simp only [SS, insA, wantedA, Opd.ev, putA, binA, eqbA, unA, fldA, partA, reduceIte, reduceCtorEq, Nat.reduceMod, Nat.reduceDiv, Nat.reduceBEq, resultA, resA, vI, Nat.reduceMul, Nat.reduceAdd, Nat.reduceSub, Nat.reduceEqDiff, Nat.reduceLT, Nat.reducePow, Nat.reduceLeDiff, st, Option.bind_eq_bind, Option.pure_def, List.length_nil, Int.cast_ofNat_Int, List.reverse_nil] at hr
        simp only [F39T0, SS, insA, wantedA, Opd.ev, putA, binA, eqbA, unA, fldA, partA, reduceIte, reduceCtorEq, Nat.reduceMod, Nat.reduceDiv, Nat.reduceBEq, resultA, resA, vI, Nat.reduceMul, Nat.reduceAdd, Nat.reduceSub, Nat.reduceEqDiff, Nat.reduceLT, Nat.reducePow, Nat.reduceLeDiff, st, Option.bind_eq_bind, Option.pure_def, List.length_nil, Int.cast_ofNat_Int, List.reverse_nil, UU, idxP, cellsAt, storeA, fillA, zerosA, putAll, optNat, sliceA, row, Int.reduceLT, Int.reduceLE, Int.reduceGT, Int.reduceGE, Int.reduceEq, Int.reduceNe, Int.reduceToNat, Int.reduceBEq, Int.reduceBNe, Nat.reduceLeDiff, Nat.reduceLT, Nat.reduceBNe, Nat.reduceGT, List.drop_nil, List.take_nil, Option.isSome_none, Int.ofNat_one, Int.ofNat_zero, ht.snap, sa, sb, sd, kp, kq, c1, c2', c4, w1, hr, decide_true, decide_false, BEq.rfl]

theorem fit_bound {den : Int} {l : List Int} (hd : den ≤ 10000) (h : fit den l) : ∀ x ∈ l, -10000 ≤ x ∧ x ≤ 10000 := fun x hx => by have := h x hx; omega

theorem lim39_1 {s sx sy : Bool} {cs : List AV} {t : List (List Int)} {a e dx dy : Int} (ht : IsTab (.imm s cs 1) t) (hn : t.length = 1) (hb : askS t [([a], dx), ([e], dy)] = true) :
    freeX H (endX [.cell 6 (some 2), .tmp 7] (thenX (blockX 0 (m 95 3649) (lp E2 Y F39L0 (sp 95 [(12, vI 0), (11, .nils), (10, .nils), (9, .nils), (6, .ptr 2 0 0), (5, .ptr 1 0 0), (4, .ptr 0 0 0), (0, .imm s cs 1)]) [⟨0, [.imm sx [vI a] 1, vI dx]⟩, ⟨0, [.imm sy [vI e] 1, vI dy]⟩, ⟨0, [vI 0, vI 0]⟩, ⟨0, [.imm sx [vI a] 1, vI dx, .imm sy [vI e] 1, vI dy]⟩])) (codeL E2 Y F39T0))) = some (limV (pS t ([a], dx) ([e], dy)) (qS t ([a], dx) ([e], dy)), H) := by
  obtain ⟨hok, m1, m2⟩ := ask2 hb
  obtain ⟨l1, d1, d2, f1, s1, _⟩ := mix_ok m1
  obtain ⟨l2, d3, d4, f2, s2, _⟩ := mix_ok m2
  simp only at d1 d2 f1 d3 d4 f2
  have bx := fit_bound d2 f1
  have by' := fit_bound d4 f2
  obtain ⟨bp, bq⟩ := pq_bound hb
  have ha := bx a (by simp)
  have he := by' e (by simp)
  have p0 := mulB (A := 10000) (B := 10000) (a := a) (b := dy) ha (by omega)
  have q0 := mulB (A := 10000) (B := 10000) (a := e) (b := dx) he (by omega)
  have u0 := Int.mul_nonneg (f1 a (by simp)).1 (show 0 ≤ dy by omega)
  have v0 := Int.mul_nonneg (f2 e (by simp)).1 (show 0 ≤ dx by omega)
  have B1 : big [a * dy] := by intro x hx; simp only [List.mem_cons, List.not_mem_nil, or_false] at hx; rcases hx with rfl <;> omega
  have B2 : big [e * dx] := by intro x hx; simp only [List.mem_cons, List.not_mem_nil, or_false] at hx; rcases hx with rfl <;> omega
  have B3 : big [a * dy - e * dx] := by intro x hx; simp only [List.mem_cons, List.not_mem_nil, or_false] at hx; rcases hx with rfl <;> omega
  have kp := fun H => freeX_up (Y := Y) E2_up (gain59b (Y := noRun) (H := H) ht (.imm true [a * dy - e * dx]) (.imm true [a * dy]) (by omega) hn.symm hn.symm hok.tame B3 B1 hok.rows)
  have kq := fun H => freeX_up (Y := Y) E2_up (gain59b (Y := noRun) (H := H) ht (.imm true [a * dy - e * dx]) (.imm true [e * dx]) (by omega) hn.symm hn.symm hok.tame B3 B2 hok.rows)
  have ep : gainS t [a * dy - e * dx] [a * dy] = pS t ([a], dx) ([e], dy) := p_eq t [a] [e] dx dy rfl
  have eq : gainS t [a * dy - e * dx] [e * dx] = qS t ([a], dx) ([e], dy) := q_eq t [a] [e] dx dy rfl
  rw [ep] at kp
  rw [eq] at kq
  have h1 := c39_1 (Y := Y) (s := s) (sx := sx) (sy := sy) (cs := cs)  (dx := dx) (dy := dy) ha he (by omega) (by omega)
  rw [h1]
  simp only [SS, insA, wantedA, Opd.ev, putA, binA, eqbA, unA, fldA, partA, reduceIte, reduceCtorEq, Nat.reduceMod, Nat.reduceDiv, Nat.reduceBEq, resultA, resA, vI, Nat.reduceMul, Nat.reduceAdd, Nat.reduceSub, Nat.reduceEqDiff, Nat.reduceLT, Nat.reducePow, Nat.reduceLeDiff, st, Option.bind_eq_bind, Option.pure_def, List.length_nil, Int.cast_ofNat_Int, List.reverse_nil]
  exact T39 ht (fun _ => rfl) (fun _ => rfl) (fun _ => rfl) kp kq bp bq

theorem lim39_2 {s sx sy : Bool} {cs : List AV} {t : List (List Int)} {a b e f dx dy : Int} (ht : IsTab (.imm s cs 2) t) (hn : t.length = 2) (hb : askS t [([a, b], dx), ([e, f], dy)] = true) :
    freeX H (endX [.cell 6 (some 2), .tmp 7] (thenX (blockX 0 (m 95 3649) (lp E2 Y F39L0 (sp 95 [(12, vI 0), (11, .nils), (10, .nils), (9, .nils), (6, .ptr 2 0 0), (5, .ptr 1 0 0), (4, .ptr 0 0 0), (0, .imm s cs 2)]) [⟨0, [.imm sx [vI a, vI b] 2, vI dx]⟩, ⟨0, [.imm sy [vI e, vI f] 2, vI dy]⟩, ⟨0, [vI 0, vI 0]⟩, ⟨0, [.imm sx [vI a, vI b] 2, vI dx, .imm sy [vI e, vI f] 2, vI dy]⟩])) (codeL E2 Y F39T0))) = some (limV (pS t ([a, b], dx) ([e, f], dy)) (qS t ([a, b], dx) ([e, f], dy)), H) := by
  obtain ⟨hok, m1, m2⟩ := ask2 hb
  obtain ⟨l1, d1, d2, f1, s1, _⟩ := mix_ok m1
  obtain ⟨l2, d3, d4, f2, s2, _⟩ := mix_ok m2
  simp only at d1 d2 f1 d3 d4 f2
  have bx := fit_bound d2 f1
  have by' := fit_bound d4 f2
  obtain ⟨bp, bq⟩ := pq_bound hb
  have ha := bx a (by simp)
  have he := by' e (by simp)
  have p0 := mulB (A := 10000) (B := 10000) (a := a) (b := dy) ha (by omega)
  have q0 := mulB (A := 10000) (B := 10000) (a := e) (b := dx) he (by omega)
  have u0 := Int.mul_nonneg (f1 a (by simp)).1 (show 0 ≤ dy by omega)
  have v0 := Int.mul_nonneg (f2 e (by simp)).1 (show 0 ≤ dx by omega)
  have hb := bx b (by simp)
  have hf := by' f (by simp)
  have p1 := mulB (A := 10000) (B := 10000) (a := b) (b := dy) hb (by omega)
  have q1 := mulB (A := 10000) (B := 10000) (a := f) (b := dx) hf (by omega)
  have u1 := Int.mul_nonneg (f1 b (by simp)).1 (show 0 ≤ dy by omega)
  have v1 := Int.mul_nonneg (f2 f (by simp)).1 (show 0 ≤ dx by omega)
  have B1 : big [a * dy, b * dy] := by intro x hx; simp only [List.mem_cons, List.not_mem_nil, or_false] at hx; rcases hx with rfl | rfl <;> omega
  have B2 : big [e * dx, f * dx] := by intro x hx; simp only [List.mem_cons, List.not_mem_nil, or_false] at hx; rcases hx with rfl | rfl <;> omega
  have B3 : big [a * dy - e * dx, b * dy - f * dx] := by intro x hx; simp only [List.mem_cons, List.not_mem_nil, or_false] at hx; rcases hx with rfl | rfl <;> omega
  have kp := fun H => freeX_up (Y := Y) E2_up (gain59b (Y := noRun) (H := H) ht (.imm true [a * dy - e * dx, b * dy - f * dx]) (.imm true [a * dy, b * dy]) (by omega) hn.symm hn.symm hok.tame B3 B1 hok.rows)
  have kq := fun H => freeX_up (Y := Y) E2_up (gain59b (Y := noRun) (H := H) ht (.imm true [a * dy - e * dx, b * dy - f * dx]) (.imm true [e * dx, f * dx]) (by omega) hn.symm hn.symm hok.tame B3 B2 hok.rows)
  have ep : gainS t [a * dy - e * dx, b * dy - f * dx] [a * dy, b * dy] = pS t ([a, b], dx) ([e, f], dy) := p_eq t [a, b] [e, f] dx dy rfl
  have eq : gainS t [a * dy - e * dx, b * dy - f * dx] [e * dx, f * dx] = qS t ([a, b], dx) ([e, f], dy) := q_eq t [a, b] [e, f] dx dy rfl
  rw [ep] at kp
  rw [eq] at kq
  have h1 := c39_2 (Y := Y) (s := s) (sx := sx) (sy := sy) (cs := cs)  (dx := dx) (dy := dy) ha hb he hf (by omega) (by omega)
  rw [h1]
  simp only [SS, insA, wantedA, Opd.ev, putA, binA, eqbA, unA, fldA, partA, reduceIte, reduceCtorEq, Nat.reduceMod, Nat.reduceDiv, Nat.reduceBEq, resultA, resA, vI, Nat.reduceMul, Nat.reduceAdd, Nat.reduceSub, Nat.reduceEqDiff, Nat.reduceLT, Nat.reducePow, Nat.reduceLeDiff, st, Option.bind_eq_bind, Option.pure_def, List.length_nil, Int.cast_ofNat_Int, List.reverse_nil]
  exact T39 ht (fun _ => rfl) (fun _ => rfl) (fun _ => rfl) kp kq bp bq

theorem lim39_3 {s sx sy : Bool} {cs : List AV} {t : List (List Int)} {a b c e f g dx dy : Int} (ht : IsTab (.imm s cs 3) t) (hn : t.length = 3) (hb : askS t [([a, b, c], dx), ([e, f, g], dy)] = true) :
    freeX H (endX [.cell 6 (some 2), .tmp 7] (thenX (blockX 0 (m 95 3649) (lp E2 Y F39L0 (sp 95 [(12, vI 0), (11, .nils), (10, .nils), (9, .nils), (6, .ptr 2 0 0), (5, .ptr 1 0 0), (4, .ptr 0 0 0), (0, .imm s cs 3)]) [⟨0, [.imm sx [vI a, vI b, vI c] 3, vI dx]⟩, ⟨0, [.imm sy [vI e, vI f, vI g] 3, vI dy]⟩, ⟨0, [vI 0, vI 0]⟩, ⟨0, [.imm sx [vI a, vI b, vI c] 3, vI dx, .imm sy [vI e, vI f, vI g] 3, vI dy]⟩])) (codeL E2 Y F39T0))) = some (limV (pS t ([a, b, c], dx) ([e, f, g], dy)) (qS t ([a, b, c], dx) ([e, f, g], dy)), H) := by
  obtain ⟨hok, m1, m2⟩ := ask2 hb
  obtain ⟨l1, d1, d2, f1, s1, _⟩ := mix_ok m1
  obtain ⟨l2, d3, d4, f2, s2, _⟩ := mix_ok m2
  simp only at d1 d2 f1 d3 d4 f2
  have bx := fit_bound d2 f1
  have by' := fit_bound d4 f2
  obtain ⟨bp, bq⟩ := pq_bound hb
  have ha := bx a (by simp)
  have he := by' e (by simp)
  have p0 := mulB (A := 10000) (B := 10000) (a := a) (b := dy) ha (by omega)
  have q0 := mulB (A := 10000) (B := 10000) (a := e) (b := dx) he (by omega)
  have u0 := Int.mul_nonneg (f1 a (by simp)).1 (show 0 ≤ dy by omega)
  have v0 := Int.mul_nonneg (f2 e (by simp)).1 (show 0 ≤ dx by omega)
  have hb := bx b (by simp)
  have hf := by' f (by simp)
  have p1 := mulB (A := 10000) (B := 10000) (a := b) (b := dy) hb (by omega)
  have q1 := mulB (A := 10000) (B := 10000) (a := f) (b := dx) hf (by omega)
  have u1 := Int.mul_nonneg (f1 b (by simp)).1 (show 0 ≤ dy by omega)
  have v1 := Int.mul_nonneg (f2 f (by simp)).1 (show 0 ≤ dx by omega)
  have hc := bx c (by simp)
  have hg := by' g (by simp)
  have p2 := mulB (A := 10000) (B := 10000) (a := c) (b := dy) hc (by omega)
  have q2 := mulB (A := 10000) (B := 10000) (a := g) (b := dx) hg (by omega)
  have u2 := Int.mul_nonneg (f1 c (by simp)).1 (show 0 ≤ dy by omega)
  have v2 := Int.mul_nonneg (f2 g (by simp)).1 (show 0 ≤ dx by omega)
  have B1 : big [a * dy, b * dy, c * dy] := by intro x hx; simp only [List.mem_cons, List.not_mem_nil, or_false] at hx; rcases hx with rfl | rfl | rfl <;> omega
  have B2 : big [e * dx, f * dx, g * dx] := by intro x hx; simp only [List.mem_cons, List.not_mem_nil, or_false] at hx; rcases hx with rfl | rfl | rfl <;> omega
  have B3 : big [a * dy - e * dx, b * dy - f * dx, c * dy - g * dx] := by intro x hx; simp only [List.mem_cons, List.not_mem_nil, or_false] at hx; rcases hx with rfl | rfl | rfl <;> omega
  have kp := fun H => freeX_up (Y := Y) E2_up (gain59b (Y := noRun) (H := H) ht (.imm true [a * dy - e * dx, b * dy - f * dx, c * dy - g * dx]) (.imm true [a * dy, b * dy, c * dy]) (by omega) hn.symm hn.symm hok.tame B3 B1 hok.rows)
  have kq := fun H => freeX_up (Y := Y) E2_up (gain59b (Y := noRun) (H := H) ht (.imm true [a * dy - e * dx, b * dy - f * dx, c * dy - g * dx]) (.imm true [e * dx, f * dx, g * dx]) (by omega) hn.symm hn.symm hok.tame B3 B2 hok.rows)
  have ep : gainS t [a * dy - e * dx, b * dy - f * dx, c * dy - g * dx] [a * dy, b * dy, c * dy] = pS t ([a, b, c], dx) ([e, f, g], dy) := p_eq t [a, b, c] [e, f, g] dx dy rfl
  have eq : gainS t [a * dy - e * dx, b * dy - f * dx, c * dy - g * dx] [e * dx, f * dx, g * dx] = qS t ([a, b, c], dx) ([e, f, g], dy) := q_eq t [a, b, c] [e, f, g] dx dy rfl
  rw [ep] at kp
  rw [eq] at kq
  have h1 := c39_3 (Y := Y) (s := s) (sx := sx) (sy := sy) (cs := cs)  (dx := dx) (dy := dy) ha hb hc he hf hg (by omega) (by omega)
  rw [h1]
  simp only [SS, insA, wantedA, Opd.ev, putA, binA, eqbA, unA, fldA, partA, reduceIte, reduceCtorEq, Nat.reduceMod, Nat.reduceDiv, Nat.reduceBEq, resultA, resA, vI, Nat.reduceMul, Nat.reduceAdd, Nat.reduceSub, Nat.reduceEqDiff, Nat.reduceLT, Nat.reducePow, Nat.reduceLeDiff, st, Option.bind_eq_bind, Option.pure_def, List.length_nil, Int.cast_ofNat_Int, List.reverse_nil]
  exact T39 ht (fun _ => rfl) (fun _ => rfl) (fun _ => rfl) kp kq bp bq

end
end Go.X
