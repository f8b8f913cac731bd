import Derived.Test.YtchgifdkhknppaaUR
/-! Veils: Count. -/
set_option linter.unusedSimpArgs false
set_option linter.unusedVariables false
set_option maxHeartbeats 8000000
set_option maxRecDepth 10000
namespace Go.X
open Go Go.RowKit
section
variable {Y : Run} {H : Heap}

def cntF (l : List Int) (c : Nat) (t : List (List Int)) : Nat := if pairOf t = some l then c + 1 else c
def QC (w : AV) (R : Heap) (c : Nat) : Prop := R[0]? = some ⟨0, [w]⟩ ∧ R[1]? = some ⟨0, [.int .i64 c]⟩

theorem found60 {M n : Nat} {w : AV} {l : List Int} (hw : IsRow w l) (hl : l.length ≤ 1000) (h5 : n ≤ 5) : Found Y 2 M n 60 [.ptr 0 0 0, .ptr 1 0 0] (QC w) (cntF l) (fun c => c ≤ 1000000) (fun t => Veil t) := by
  refine ⟨fun s t h => by unfold cntF at h; split at h <;> omega, fun R R' s ⟨q1, q2⟩ hk _ => ⟨by rw [hk 0 (by omega)]; exact q1, by rw [hk 1 (by omega)]; exact q2⟩, ?_⟩
  intro vr vc v R t cells rs cs s A q V ⟨q1, q2⟩ hB
  obtain ⟨_, tv, o3, o4⟩ := A.tab.out (d := 2)
  have o3 : snapA R 5 v = some tv := o3
  obtain ⟨v0, R0, c0, z1, z2⟩ := raised62 (Y := Y) o4 V.unit (by have := V.n5; omega) V.row
  have hsi : snapA R 6 (.iface 56 v) = some (.iface 56 tv) := by rw [show (6 : Nat) = 5 + 1 from rfl, snap_ifc, o3]; rfl
  obtain ⟨v', H', cells', p1, p2, p3⟩ := call_tab (H := R) (R := callL EV Y) (f := 62) (args := [.iface 56 v]) (bs := [.iface 56 tv]) (by rw [mapM_cons', hsi]; rfl) z1 z2
  have p2 : HTab R.length H' v' (hgtT t) cells' := p2
  obtain ⟨_, hv, r3, r4⟩ := p2.out (d := 3)
  have r3 : snapA H' 6 v' = some hv := r3
  obtain ⟨p, e1, _, e3⟩ := V.pairOf
  obtain ⟨x, x1, x2, x3⟩ := pairing63 (Y := Y) r4 V.steep e1
  have hpl : p.length ≤ 1000 := by have := V.n5; omega
  have eq := fun H => equal61 (Y := Y) (H := H) x1 hw hpl
  have g0 : H'[0]? = some ⟨0, [w]⟩ := by rw [p3 0 (hlt_of q1)]; exact q1
  have g1 : H'[1]? = some ⟨0, [.int .i64 s]⟩ := by rw [p3 1 (hlt_of q2)]; exact q2
  have hlen : R.length ≤ H'.length := by
    rcases Nat.lt_or_ge H'.length R.length with hc | hc
    · have := p3 H'.length hc
      rw [List.getElem?_eq_none (Nat.le_refl _), List.getElem?_eq_getElem hc] at this
      cases this
    · exact hc
  have lm := A.lm
  have al := A.len
  by_cases c : p = l
  · rw [decide_eq_true c] at eq
    have ec : cntF l s t = s + 1 := by unfold cntF; rw [e1, c, if_pos rfl]
    rw [ec] at hB ⊢
    have ws := wrap_succ (n := s) (by omega)
    have st0 : storeA H' 1 (.ptr 1 0 0) (.int .i64 (s + 1 : Nat)) = some (H'.set 1 ⟨0, [.int .i64 (s + 1 : Nat)]⟩) := by
      simp only [storeA, g1]
      rw [if_pos (by simp [cellsOf, one])]
      rfl
    refine ⟨H'.set 1 ⟨0, [.int .i64 (s + 1 : Nat)]⟩, ?_, ⟨by rw [List.getElem?_set_ne (by omega)]; exact g0, by rw [List.getElem?_set_self (hlt_of g1)]⟩, fun i a b => by rw [List.getElem?_set_ne (by omega), p3 i (by omega)], by rw [List.length_set]; exact hlen⟩
    rw [call60 rfl]
    simp only [F60B, SS, insA, wantedA, Opd.ev, putA, binA, eqbA, unA, fldA, partA, reduceIte, reduceCtorEq, Nat.reduceMod, Nat.reduceDiv, Nat.reduceBEq, resultA, resA, vI, Nat.reduceMul, Nat.reduceAdd, Nat.reduceSub, Nat.reduceEqDiff, Nat.reduceLT, Nat.reducePow, Nat.reduceLeDiff, st, Option.bind_eq_bind, Option.pure_def, List.length_nil, Int.cast_ofNat_Int, List.reverse_nil, UU, idxP, cellsAt, fillA, zerosA, putAll, row, Int.reduceLT, Int.reduceLE, Int.reduceGT, Int.reduceGE, Int.reduceEq, Int.reduceNe, Int.reduceToNat, Int.reduceBEq, Int.reduceBNe, Nat.reduceLeDiff, Nat.reduceLT, Nat.reduceBNe, Nat.reduceGT, List.drop_nil, List.take_nil, Option.isSome_none, Int.ofNat_one, Int.ofNat_zero, p1, r3, x2, g0, hw.snap, x1.snap, eq, g1, ws, st0]
  · rw [decide_eq_false c] at eq
    have ec : cntF l s t = s := by unfold cntF; rw [e1, if_neg (fun e => c (Option.some.inj e))]
    rw [ec] at hB ⊢
    refine ⟨H', ?_, ⟨g0, g1⟩, fun i a b => p3 i (by omega), hlen⟩
    rw [call60 rfl]
    simp only [F60B, SS, insA, wantedA, Opd.ev, putA, binA, eqbA, unA, fldA, partA, reduceIte, reduceCtorEq, Nat.reduceMod, Nat.reduceDiv, Nat.reduceBEq, resultA, resA, vI, Nat.reduceMul, Nat.reduceAdd, Nat.reduceSub, Nat.reduceEqDiff, Nat.reduceLT, Nat.reducePow, Nat.reduceLeDiff, st, Option.bind_eq_bind, Option.pure_def, List.length_nil, Int.cast_ofNat_Int, List.reverse_nil, UU, idxP, cellsAt, fillA, zerosA, putAll, row, Int.reduceLT, Int.reduceLE, Int.reduceGT, Int.reduceGE, Int.reduceEq, Int.reduceNe, Int.reduceToNat, Int.reduceBEq, Int.reduceBNe, Nat.reduceLeDiff, Nat.reduceLT, Nat.reduceBNe, Nat.reduceGT, List.drop_nil, List.take_nil, Option.isSome_none, Int.ofNat_one, Int.ofNat_zero, p1, r3, x2, g0, hw.snap, x1.snap, eq, g1]

/-- How many veils have a pairing. -/
def cntL (n : Nat) (l : List Int) : Nat := (allL n).foldl (cntF l) 0
theorem cntF_le {l : List Int} : ∀ (ts : List (List (List Int))) (c : Nat), ts.foldl (cntF l) c ≤ c + ts.length
  | [], c => Nat.le_refl _
  | t :: ts, c => by
    rw [List.foldl_cons, List.length_cons]
    have := cntF_le (l := l) ts (cntF l c t)
    have : cntF l c t ≤ c + 1 := by unfold cntF; split <;> omega
    omega
theorem cntL_le {n : Nat} (h1 : 1 ≤ n) (h5 : n ≤ 5) (l : List Int) : cntL n l ≤ 1000000 := by
  have := cntF_le (l := l) (allL n) 0
  have := all_len h1 h5
  unfold cntL; omega

theorem count22 {w : AV} {l : List Int} (hw : IsRow w l) (hl : l.length ≤ 40) :
    (isPr l = true → ∀ H, freeX H (callL EV Y 22 [w] []) = some (.tup [vI (cntL (l.length / 2) l), vI 0], H)) ∧ (isPr l = false → ∀ H, freeX H (callL EV Y 22 [w] []) = some (.tup [vI 0, vI 2], H)) := by
  obtain ⟨o1, o2, o3⟩ : one w = true ∧ isU w = false ∧ cellsOf w = [w] := hw.one
  have e2 : ¬ ((2 : Int) = 0) := by decide
  have wd : IntKind.wrap .i64 (Int.tdiv (l.length : Int) 2) = ((l.length / 2 : Nat) : Int) := by
    rw [show (2 : Int) = ((2 : Nat) : Int) from rfl, ← Int.ofNat_tdiv]; exact wrap_id (by omega) (by omega)
  have no : isPr l = false → ∀ H, freeX H (callL EV Y 22 [w] []) = some (.tup [vI 0, vI 2], H) := fun h H => by
    rw [call22 rfl]
    by_cases c1 : l.length % 2 = 1
    · have c1' : (((l.length % 2 : Nat) : Int) == 1) = true := by rw [c1]; rfl
      simp only [F22B, SS, insA, wantedA, Opd.ev, putA, binA, eqbA, unA, fldA, partA, reduceIte, reduceCtorEq, Nat.reduceMod, Nat.reduceDiv, Nat.reduceBEq, resultA, resA, vI, Nat.reduceMul, Nat.reduceAdd, Nat.reduceSub, Nat.reduceEqDiff, Nat.reduceLT, Nat.reducePow, Nat.reduceLeDiff, st, Option.bind_eq_bind, Option.pure_def, List.length_nil, Int.cast_ofNat_Int, List.reverse_nil, UU, idxP, cellsAt, storeA, fillA, zerosA, putAll, optNat, sliceA, row, Int.reduceLT, Int.reduceLE, Int.reduceGT, Int.reduceGE, Int.reduceEq, Int.reduceNe, Int.reduceToNat, Int.reduceBEq, Int.reduceBNe, Nat.reduceLeDiff, Nat.reduceLT, Nat.reduceBNe, Nat.reduceGT, List.drop_nil, List.take_nil, Option.isSome_none, Int.ofNat_one, Int.ofNat_zero, o1, o2, o3, hw.len, wd, tmod_len, e2, c1', and_self, ne_eq, not_false_eq_true]
    have c1' : (((l.length % 2 : Nat) : Int) == 1) = false := by rw [beq_eq_false_iff_ne]; omega
    by_cases c2 : ((l.length / 2 : Nat) : Int) < 1
    · simp only [F22B, SS, insA, wantedA, Opd.ev, putA, binA, eqbA, unA, fldA, partA, reduceIte, reduceCtorEq, Nat.reduceMod, Nat.reduceDiv, Nat.reduceBEq, resultA, resA, vI, Nat.reduceMul, Nat.reduceAdd, Nat.reduceSub, Nat.reduceEqDiff, Nat.reduceLT, Nat.reducePow, Nat.reduceLeDiff, st, Option.bind_eq_bind, Option.pure_def, List.length_nil, Int.cast_ofNat_Int, List.reverse_nil, UU, idxP, cellsAt, storeA, fillA, zerosA, putAll, optNat, sliceA, row, Int.reduceLT, Int.reduceLE, Int.reduceGT, Int.reduceGE, Int.reduceEq, Int.reduceNe, Int.reduceToNat, Int.reduceBEq, Int.reduceBNe, Nat.reduceLeDiff, Nat.reduceLT, Nat.reduceBNe, Nat.reduceGT, List.drop_nil, List.take_nil, Option.isSome_none, Int.ofNat_one, Int.ofNat_zero, o1, o2, o3, hw.len, wd, tmod_len, e2, c1', c2, and_self, ne_eq, not_false_eq_true]
    by_cases c3 : ((l.length / 2 : Nat) : Int) > 5
    · simp only [F22B, SS, insA, wantedA, Opd.ev, putA, binA, eqbA, unA, fldA, partA, reduceIte, reduceCtorEq, Nat.reduceMod, Nat.reduceDiv, Nat.reduceBEq, resultA, resA, vI, Nat.reduceMul, Nat.reduceAdd, Nat.reduceSub, Nat.reduceEqDiff, Nat.reduceLT, Nat.reducePow, Nat.reduceLeDiff, st, Option.bind_eq_bind, Option.pure_def, List.length_nil, Int.cast_ofNat_Int, List.reverse_nil, UU, idxP, cellsAt, storeA, fillA, zerosA, putAll, optNat, sliceA, row, Int.reduceLT, Int.reduceLE, Int.reduceGT, Int.reduceGE, Int.reduceEq, Int.reduceNe, Int.reduceToNat, Int.reduceBEq, Int.reduceBNe, Nat.reduceLeDiff, Nat.reduceLT, Nat.reduceBNe, Nat.reduceGT, List.drop_nil, List.take_nil, Option.isSome_none, Int.ofNat_one, Int.ofNat_zero, o1, o2, o3, hw.len, wd, tmod_len, e2, c1', c2, c3, and_self, ne_eq, not_false_eq_true]
    have e : isPr l = prB l 0 l.length := by unfold isPr; rw [decide_eq_true (by omega), Bool.true_and]
    have h0 := L22_0 (Y := Y) (n := vI (l.length / 2 : Nat)) hw (by omega) (T := []) l.length 0 (by omega)
    rw [← e, h, if_neg (by decide)] at h0
    simp only [SS, insA, wantedA, Opd.ev, putA, binA, eqbA, unA, fldA, partA, reduceIte, reduceCtorEq, Nat.reduceMod, Nat.reduceDiv, Nat.reduceBEq, resultA, resA, vI, Nat.reduceMul, Nat.reduceAdd, Nat.reduceSub, Nat.reduceEqDiff, Nat.reduceLT, Nat.reducePow, Nat.reduceLeDiff, st, Option.bind_eq_bind, Option.pure_def, List.length_nil, Int.cast_ofNat_Int, List.reverse_nil, Int.ofNat_zero] at h0
    simp only [F22B, in22_0, SS, insA, wantedA, Opd.ev, putA, binA, eqbA, unA, fldA, partA, reduceIte, reduceCtorEq, Nat.reduceMod, Nat.reduceDiv, Nat.reduceBEq, resultA, resA, vI, Nat.reduceMul, Nat.reduceAdd, Nat.reduceSub, Nat.reduceEqDiff, Nat.reduceLT, Nat.reducePow, Nat.reduceLeDiff, st, Option.bind_eq_bind, Option.pure_def, List.length_nil, Int.cast_ofNat_Int, List.reverse_nil, UU, idxP, cellsAt, storeA, fillA, zerosA, putAll, optNat, sliceA, row, Int.reduceLT, Int.reduceLE, Int.reduceGT, Int.reduceGE, Int.reduceEq, Int.reduceNe, Int.reduceToNat, Int.reduceBEq, Int.reduceBNe, Nat.reduceLeDiff, Nat.reduceLT, Nat.reduceBNe, Nat.reduceGT, List.drop_nil, List.take_nil, Option.isSome_none, Int.ofNat_one, Int.ofNat_zero, o1, o2, o3, hw.len, wd, tmod_len, e2, c1', c2, c3, and_self, ne_eq, not_false_eq_true, h0]
  refine ⟨fun h H => ?_, no⟩
  have hok := h
  unfold isPr at hok
  rw [Bool.and_eq_true, decide_eq_true_eq] at hok
  obtain ⟨⟨a1, a2, a3⟩, a4⟩ := hok
  have h1 : 1 ≤ l.length / 2 := by omega
  have h5 : l.length / 2 ≤ 5 := by omega
  have c1' : (((l.length % 2 : Nat) : Int) == 1) = false := by rw [beq_eq_false_iff_ne]; omega
  have c2 : ¬ ((l.length / 2 : Nat) : Int) < 1 := by omega
  have c3 : ¬ ((l.length / 2 : Nat) : Int) > 5 := by omega
  have h0 := L22_0 (Y := Y) (n := vI (l.length / 2 : Nat)) hw (by omega) (T := []) l.length 0 (by omega)
  rw [a4, if_pos rfl] at h0
  obtain ⟨M, R', f1, f2, f3⟩ := all55 (Y := Y) (n := l.length / 2) (g := 60) (caps := [.ptr 0 0 0, .ptr 1 0 0]) (H0 := [⟨0, [w]⟩, ⟨0, [.int .i64 0]⟩]) (Q := fun _ => QC w) (s := 0) (fun M => found60 hw (by omega) h5) h1 h5
    (fun M R hk _ _ => ⟨by rw [hk 0 (by simp)]; rfl, by rw [hk 1 (by simp)]; rfl⟩) (fun u hu => (allL_veil h1 h5 hu).1) (cntL_le h1 h5 l)
  have f3 : R'[1]? = some ⟨0, [.int .i64 (cntL (l.length / 2) l : Nat)]⟩ := f3
  rw [call22 rfl]
  simp only [SS, insA, wantedA, Opd.ev, putA, binA, eqbA, unA, fldA, partA, reduceIte, reduceCtorEq, Nat.reduceMod, Nat.reduceDiv, Nat.reduceBEq, resultA, resA, vI, Nat.reduceMul, Nat.reduceAdd, Nat.reduceSub, Nat.reduceEqDiff, Nat.reduceLT, Nat.reducePow, Nat.reduceLeDiff, st, Option.bind_eq_bind, Option.pure_def, List.length_nil, Int.cast_ofNat_Int, List.reverse_nil, Int.ofNat_zero] at h0 f1
  simp only [F22B, F22T0, in22_0, SS, insA, wantedA, Opd.ev, putA, binA, eqbA, unA, fldA, partA, reduceIte, reduceCtorEq, Nat.reduceMod, Nat.reduceDiv, Nat.reduceBEq, resultA, resA, vI, Nat.reduceMul, Nat.reduceAdd, Nat.reduceSub, Nat.reduceEqDiff, Nat.reduceLT, Nat.reducePow, Nat.reduceLeDiff, st, Option.bind_eq_bind, Option.pure_def, List.length_nil, Int.cast_ofNat_Int, List.reverse_nil, UU, idxP, cellsAt, storeA, fillA, zerosA, putAll, optNat, sliceA, row, Int.reduceLT, Int.reduceLE, Int.reduceGT, Int.reduceGE, Int.reduceEq, Int.reduceNe, Int.reduceToNat, Int.reduceBEq, Int.reduceBNe, Nat.reduceLeDiff, Nat.reduceLT, Nat.reduceBNe, Nat.reduceGT, List.drop_nil, List.take_nil, Option.isSome_none, Int.ofNat_one, Int.ofNat_zero, o1, o2, o3, hw.len, wd, tmod_len, e2, c1', c2, c3, and_self, ne_eq, not_false_eq_true, h0, f1, f3]

/-! ### Count of the specification -/
theorem L37_0 {w pw a4 a5 a6 : AV} {l p : List Int} (hw : IsRow w l) (hp : IsRow pw p) (hl : p.length = l.length) (hm : l.length ≤ 1000) (d : Nat) : ∀ (i : Nat), i + d = p.length →
    lp EV Y F37L0 (sp 56 [(9, vI i), (8, .bool true), (7, pw), (6, a6), (5, a5), (4, a4), (0, w)]) H = some (.x 2, sp 56 [(8, .bool (eqF p l i d)), (6, a6), (5, a5), (4, a4), (0, w)], H) := by
  induction d with
  | zero =>
    intro i hi
    have : ¬ ((i : Int) < (p.length : Int)) := by omega
    rw [un37_0]
    simp only [F37L0b, eqF, SS, insA, wantedA, Opd.ev, putA, binA, eqbA, unA, fldA, partA, reduceIte, reduceCtorEq, Nat.reduceMod, Nat.reduceDiv, Nat.reduceBEq, resultA, resA, vI, Nat.reduceMul, Nat.reduceAdd, Nat.reduceSub, Nat.reduceEqDiff, Nat.reduceLT, Nat.reducePow, Nat.reduceLeDiff, st, Option.bind_eq_bind, Option.pure_def, List.length_nil, Int.cast_ofNat_Int, List.reverse_nil, UU, idxP, cellsAt, storeA, fillA, zerosA, putAll, optNat, sliceA, row, Int.reduceLT, Int.reduceLE, Int.reduceGT, Int.reduceGE, Int.reduceEq, Int.reduceNe, Int.reduceToNat, Int.reduceBEq, Int.reduceBNe, Nat.reduceLeDiff, Nat.reduceLT, Nat.reduceBNe, Nat.reduceGT, List.drop_nil, List.take_nil, Option.isSome_none, Int.ofNat_one, Int.ofNat_zero, hp.len, this]
  | succ d ih =>
    intro i hi
    have hc : (i : Int) < (p.length : Int) := by omega
    have k1 : i < p.length := by omega
    have k2 : i < l.length := by omega
    have hww := wrap_succ (n := i) (by omega)
    have ih := ih (i + 1) (by omega)
    rw [un37_0]
    unfold eqF
    by_cases c : p.getD i 0 = l.getD i 0
    · have c' : (p.getD i 0 == l.getD i 0) = true := by rw [c]; exact BEq.rfl
      rw [if_pos c]
      simp only [SS, insA, wantedA, Opd.ev, putA, binA, eqbA, unA, fldA, partA, reduceIte, reduceCtorEq, Nat.reduceMod, Nat.reduceDiv, Nat.reduceBEq, resultA, resA, vI, Nat.reduceMul, Nat.reduceAdd, Nat.reduceSub, Nat.reduceEqDiff, Nat.reduceLT, Nat.reducePow, Nat.reduceLeDiff, st, Option.bind_eq_bind, Option.pure_def, List.length_nil, Int.cast_ofNat_Int, List.reverse_nil] at ih
      simp only [F37L0b, SS, insA, wantedA, Opd.ev, putA, binA, eqbA, unA, fldA, partA, reduceIte, reduceCtorEq, Nat.reduceMod, Nat.reduceDiv, Nat.reduceBEq, resultA, resA, vI, Nat.reduceMul, Nat.reduceAdd, Nat.reduceSub, Nat.reduceEqDiff, Nat.reduceLT, Nat.reducePow, Nat.reduceLeDiff, st, Option.bind_eq_bind, Option.pure_def, List.length_nil, Int.cast_ofNat_Int, List.reverse_nil, UU, idxP, cellsAt, storeA, fillA, zerosA, putAll, optNat, sliceA, row, Int.reduceLT, Int.reduceLE, Int.reduceGT, Int.reduceGE, Int.reduceEq, Int.reduceNe, Int.reduceToNat, Int.reduceBEq, Int.reduceBNe, Nat.reduceLeDiff, Nat.reduceLT, Nat.reduceBNe, Nat.reduceGT, List.drop_nil, List.take_nil, Option.isSome_none, Int.ofNat_one, Int.ofNat_zero, hp.len, hc, hp.idx k1, hp.load k1, hw.idx k2, hw.load k2, c', hww, ih]
    · have c' : (p.getD i 0 == l.getD i 0) = false := by rw [beq_eq_false_iff_ne]; exact c
      rw [if_neg c]
      have stop : lp EV Y F37L0 (sp 56 [(9, vI (i + 1 : Nat)), (8, .bool false), (7, pw), (6, a6), (5, a5), (4, a4), (0, w)]) H = some (.x 2, sp 56 [(8, .bool false), (6, a6), (5, a5), (4, a4), (0, w)], H) := by
        rw [un37_0]
        by_cases c2 : ((i + 1 : Nat) : Int) < (p.length : Int)
        · simp only [F37L0b, SS, insA, wantedA, Opd.ev, putA, binA, eqbA, unA, fldA, partA, reduceIte, reduceCtorEq, Nat.reduceMod, Nat.reduceDiv, Nat.reduceBEq, resultA, resA, vI, Nat.reduceMul, Nat.reduceAdd, Nat.reduceSub, Nat.reduceEqDiff, Nat.reduceLT, Nat.reducePow, Nat.reduceLeDiff, st, Option.bind_eq_bind, Option.pure_def, List.length_nil, Int.cast_ofNat_Int, List.reverse_nil, UU, idxP, cellsAt, storeA, fillA, zerosA, putAll, optNat, sliceA, row, Int.reduceLT, Int.reduceLE, Int.reduceGT, Int.reduceGE, Int.reduceEq, Int.reduceNe, Int.reduceToNat, Int.reduceBEq, Int.reduceBNe, Nat.reduceLeDiff, Nat.reduceLT, Nat.reduceBNe, Nat.reduceGT, List.drop_nil, List.take_nil, Option.isSome_none, Int.ofNat_one, Int.ofNat_zero, hp.len, c2]
        · simp only [F37L0b, SS, insA, wantedA, Opd.ev, putA, binA, eqbA, unA, fldA, partA, reduceIte, reduceCtorEq, Nat.reduceMod, Nat.reduceDiv, Nat.reduceBEq, resultA, resA, vI, Nat.reduceMul, Nat.reduceAdd, Nat.reduceSub, Nat.reduceEqDiff, Nat.reduceLT, Nat.reducePow, Nat.reduceLeDiff, st, Option.bind_eq_bind, Option.pure_def, List.length_nil, Int.cast_ofNat_Int, List.reverse_nil, UU, idxP, cellsAt, storeA, fillA, zerosA, putAll, optNat, sliceA, row, Int.reduceLT, Int.reduceLE, Int.reduceGT, Int.reduceGE, Int.reduceEq, Int.reduceNe, Int.reduceToNat, Int.reduceBEq, Int.reduceBNe, Nat.reduceLeDiff, Nat.reduceLT, Nat.reduceBNe, Nat.reduceGT, List.drop_nil, List.take_nil, Option.isSome_none, Int.ofNat_one, Int.ofNat_zero, hp.len, c2]
      simp only [SS, insA, wantedA, Opd.ev, putA, binA, eqbA, unA, fldA, partA, reduceIte, reduceCtorEq, Nat.reduceMod, Nat.reduceDiv, Nat.reduceBEq, resultA, resA, vI, Nat.reduceMul, Nat.reduceAdd, Nat.reduceSub, Nat.reduceEqDiff, Nat.reduceLT, Nat.reducePow, Nat.reduceLeDiff, st, Option.bind_eq_bind, Option.pure_def, List.length_nil, Int.cast_ofNat_Int, List.reverse_nil] at stop
      simp only [F37L0b, SS, insA, wantedA, Opd.ev, putA, binA, eqbA, unA, fldA, partA, reduceIte, reduceCtorEq, Nat.reduceMod, Nat.reduceDiv, Nat.reduceBEq, resultA, resA, vI, Nat.reduceMul, Nat.reduceAdd, Nat.reduceSub, Nat.reduceEqDiff, Nat.reduceLT, Nat.reducePow, Nat.reduceLeDiff, st, Option.bind_eq_bind, Option.pure_def, List.length_nil, Int.cast_ofNat_Int, List.reverse_nil, UU, idxP, cellsAt, storeA, fillA, zerosA, putAll, optNat, sliceA, row, Int.reduceLT, Int.reduceLE, Int.reduceGT, Int.reduceGE, Int.reduceEq, Int.reduceNe, Int.reduceToNat, Int.reduceBEq, Int.reduceBNe, Nat.reduceLeDiff, Nat.reduceLT, Nat.reduceBNe, Nat.reduceGT, List.drop_nil, List.take_nil, Option.isSome_none, Int.ofNat_one, Int.ofNat_zero, hp.len, hc, hp.idx k1, hp.load k1, hw.idx k2, hw.load k2, c', hww, stop]
theorem L37_00 {w pw a4 a5 a6 : AV} {p : List Int} (hp : IsRow pw p) : lp EV Y F37L0 (sp 56 [(9, vI (0 : Nat)), (8, .bool false), (7, pw), (6, a6), (5, a5), (4, a4), (0, w)]) H = some (.x 2, sp 56 [(8, .bool false), (6, a6), (5, a5), (4, a4), (0, w)], H) := by
  rw [un37_0]
  by_cases c2 : (0 : Int) < (p.length : Int)
  · simp only [F37L0b, SS, insA, wantedA, Opd.ev, putA, binA, eqbA, unA, fldA, partA, reduceIte, reduceCtorEq, Nat.reduceMod, Nat.reduceDiv, Nat.reduceBEq, resultA, resA, vI, Nat.reduceMul, Nat.reduceAdd, Nat.reduceSub, Nat.reduceEqDiff, Nat.reduceLT, Nat.reducePow, Nat.reduceLeDiff, st, Option.bind_eq_bind, Option.pure_def, List.length_nil, Int.cast_ofNat_Int, List.reverse_nil, UU, idxP, cellsAt, storeA, fillA, zerosA, putAll, optNat, sliceA, row, Int.reduceLT, Int.reduceLE, Int.reduceGT, Int.reduceGE, Int.reduceEq, Int.reduceNe, Int.reduceToNat, Int.reduceBEq, Int.reduceBNe, Nat.reduceLeDiff, Nat.reduceLT, Nat.reduceBNe, Nat.reduceGT, List.drop_nil, List.take_nil, Option.isSome_none, Int.ofNat_one, Int.ofNat_zero, hp.len, c2]
  · simp only [F37L0b, SS, insA, wantedA, Opd.ev, putA, binA, eqbA, unA, fldA, partA, reduceIte, reduceCtorEq, Nat.reduceMod, Nat.reduceDiv, Nat.reduceBEq, resultA, resA, vI, Nat.reduceMul, Nat.reduceAdd, Nat.reduceSub, Nat.reduceEqDiff, Nat.reduceLT, Nat.reducePow, Nat.reduceLeDiff, st, Option.bind_eq_bind, Option.pure_def, List.length_nil, Int.cast_ofNat_Int, List.reverse_nil, UU, idxP, cellsAt, storeA, fillA, zerosA, putAll, optNat, sliceA, row, Int.reduceLT, Int.reduceLE, Int.reduceGT, Int.reduceGE, Int.reduceEq, Int.reduceNe, Int.reduceToNat, Int.reduceBEq, Int.reduceBNe, Nat.reduceLeDiff, Nat.reduceLT, Nat.reduceBNe, Nat.reduceGT, List.drop_nil, List.take_nil, Option.isSome_none, Int.ofNat_one, Int.ofNat_zero, hp.len, c2]

theorem L37_1 {w o : AV} {l : List Int} {ts : List (List (List Int))} {oc : List AV} {R : Heap} (hw : IsRow w l) (hl : l.length ≤ 40) (G : Gro 0 1 R o ts.length oc) (hT : ∀ j (h : j < ts.length), IsTab (oc.getD j .undef) ts[j]) (hV : ∀ t ∈ ts, Veil t) (hn : ts.length ≤ 1000000) (d : Nat) : ∀ (i c : Nat), i + d = ts.length → c ≤ i →
    lp EV Y F37L1 (sp 56 [(6, vI i), (5, vI c), (4, o), (0, w)]) R = some (.x 0, sp 56 [(5, vI ((ts.drop i).foldl (cntF l) c : Nat))], R) := by
  induction d with
  | zero =>
    intro i c hi hc
    have : ¬ ((i : Int) < (ts.length : Int)) := by omega
    rw [un37_1, List.drop_eq_nil_of_le (by omega)]
    simp only [F37L1b, SS, insA, wantedA, Opd.ev, putA, binA, eqbA, unA, fldA, partA, reduceIte, reduceCtorEq, Nat.reduceMod, Nat.reduceDiv, Nat.reduceBEq, resultA, resA, vI, Nat.reduceMul, Nat.reduceAdd, Nat.reduceSub, Nat.reduceEqDiff, Nat.reduceLT, Nat.reducePow, Nat.reduceLeDiff, st, Option.bind_eq_bind, Option.pure_def, List.length_nil, Int.cast_ofNat_Int, List.reverse_nil, UU, idxP, cellsAt, storeA, fillA, zerosA, putAll, optNat, sliceA, row, Int.reduceLT, Int.reduceLE, Int.reduceGT, Int.reduceGE, Int.reduceEq, Int.reduceNe, Int.reduceToNat, Int.reduceBEq, Int.reduceBNe, Nat.reduceLeDiff, Nat.reduceLT, Nat.reduceBNe, Nat.reduceGT, List.drop_nil, List.take_nil, Option.isSome_none, Int.ofNat_one, Int.ofNat_zero, G.len, this, List.foldl_nil]
  | succ d ih =>
    intro i c hi hc
    have hlt : (i : Int) < (ts.length : Int) := by omega
    have k1 : i < ts.length := by omega
    have hww := wrap_succ (n := i) (by omega)
    have hwc := wrap_succ (n := c) (by omega)
    have V := hV _ (List.getElem_mem k1)
    have T := hT i k1
    obtain ⟨p, p1, p2, p3⟩ := V.pairOf
    obtain ⟨x, x1, x2, x3⟩ := pairing68 (Y := Y) T V p2
    have n5 := V.n5
    rw [un37_1, List.drop_eq_getElem_cons k1, List.foldl_cons]
    by_cases cl : p.length = l.length
    · have cl' : ((p.length : Int) == (l.length : Int)) = true := by rw [cl]; exact BEq.rfl
      have h0 := L37_0 (Y := Y) (H := R) (a4 := o) (a5 := vI c) (a6 := vI i) hw x1 cl (by omega) p.length 0 (by omega)
      rw [eqF_eq cl] at h0
      by_cases e : p = l
      · have ec : cntF l c ts[i] = c + 1 := by unfold cntF; rw [p1, e, if_pos rfl]
        rw [decide_eq_true e] at h0
        rw [ec]
        have ih := ih (i + 1) (c + 1) (by omega) (by omega)
        simp only [SS, insA, wantedA, Opd.ev, putA, binA, eqbA, unA, fldA, partA, reduceIte, reduceCtorEq, Nat.reduceMod, Nat.reduceDiv, Nat.reduceBEq, resultA, resA, vI, Nat.reduceMul, Nat.reduceAdd, Nat.reduceSub, Nat.reduceEqDiff, Nat.reduceLT, Nat.reducePow, Nat.reduceLeDiff, st, Option.bind_eq_bind, Option.pure_def, List.length_nil, Int.cast_ofNat_Int, List.reverse_nil, Int.ofNat_zero] at h0 ih
        simp only [F37L1b, F37T0, F37T1, in37_0, SS, insA, wantedA, Opd.ev, putA, binA, eqbA, unA, fldA, partA, reduceIte, reduceCtorEq, Nat.reduceMod, Nat.reduceDiv, Nat.reduceBEq, resultA, resA, vI, Nat.reduceMul, Nat.reduceAdd, Nat.reduceSub, Nat.reduceEqDiff, Nat.reduceLT, Nat.reducePow, Nat.reduceLeDiff, st, Option.bind_eq_bind, Option.pure_def, List.length_nil, Int.cast_ofNat_Int, List.reverse_nil, UU, idxP, cellsAt, storeA, fillA, zerosA, putAll, optNat, sliceA, row, Int.reduceLT, Int.reduceLE, Int.reduceGT, Int.reduceGE, Int.reduceEq, Int.reduceNe, Int.reduceToNat, Int.reduceBEq, Int.reduceBNe, Nat.reduceLeDiff, Nat.reduceLT, Nat.reduceBNe, Nat.reduceGT, List.drop_nil, List.take_nil, Option.isSome_none, Int.ofNat_one, Int.ofNat_zero, G.len, hlt, G.idx k1, G.load k1, T.snap, x2, x1.len, hw.len, cl', h0, hwc, hww, ih]
      · have ec : cntF l c ts[i] = c := by unfold cntF; rw [p1, if_neg (fun q => e (Option.some.inj q))]
        rw [decide_eq_false e] at h0
        rw [ec]
        have ih := ih (i + 1) c (by omega) (by omega)
        simp only [SS, insA, wantedA, Opd.ev, putA, binA, eqbA, unA, fldA, partA, reduceIte, reduceCtorEq, Nat.reduceMod, Nat.reduceDiv, Nat.reduceBEq, resultA, resA, vI, Nat.reduceMul, Nat.reduceAdd, Nat.reduceSub, Nat.reduceEqDiff, Nat.reduceLT, Nat.reducePow, Nat.reduceLeDiff, st, Option.bind_eq_bind, Option.pure_def, List.length_nil, Int.cast_ofNat_Int, List.reverse_nil, Int.ofNat_zero] at h0 ih
        simp only [F37L1b, F37T0, F37T1, in37_0, SS, insA, wantedA, Opd.ev, putA, binA, eqbA, unA, fldA, partA, reduceIte, reduceCtorEq, Nat.reduceMod, Nat.reduceDiv, Nat.reduceBEq, resultA, resA, vI, Nat.reduceMul, Nat.reduceAdd, Nat.reduceSub, Nat.reduceEqDiff, Nat.reduceLT, Nat.reducePow, Nat.reduceLeDiff, st, Option.bind_eq_bind, Option.pure_def, List.length_nil, Int.cast_ofNat_Int, List.reverse_nil, UU, idxP, cellsAt, storeA, fillA, zerosA, putAll, optNat, sliceA, row, Int.reduceLT, Int.reduceLE, Int.reduceGT, Int.reduceGE, Int.reduceEq, Int.reduceNe, Int.reduceToNat, Int.reduceBEq, Int.reduceBNe, Nat.reduceLeDiff, Nat.reduceLT, Nat.reduceBNe, Nat.reduceGT, List.drop_nil, List.take_nil, Option.isSome_none, Int.ofNat_one, Int.ofNat_zero, G.len, hlt, G.idx k1, G.load k1, T.snap, x2, x1.len, hw.len, cl', h0, hww, ih]
    · have cl' : ((p.length : Int) == (l.length : Int)) = false := by rw [beq_eq_false_iff_ne]; omega
      have h0 := L37_00 (Y := Y) (H := R) (w := w) (a4 := o) (a5 := vI c) (a6 := vI i) x1
      have ec : cntF l c ts[i] = c := by unfold cntF; rw [p1, if_neg (fun q => cl (by rw [Option.some.inj q]))]
      rw [ec]
      have ih := ih (i + 1) c (by omega) (by omega)
      simp only [SS, insA, wantedA, Opd.ev, putA, binA, eqbA, unA, fldA, partA, reduceIte, reduceCtorEq, Nat.reduceMod, Nat.reduceDiv, Nat.reduceBEq, resultA, resA, vI, Nat.reduceMul, Nat.reduceAdd, Nat.reduceSub, Nat.reduceEqDiff, Nat.reduceLT, Nat.reducePow, Nat.reduceLeDiff, st, Option.bind_eq_bind, Option.pure_def, List.length_nil, Int.cast_ofNat_Int, List.reverse_nil, Int.ofNat_zero] at h0 ih
      simp only [F37L1b, F37T0, F37T1, in37_0, SS, insA, wantedA, Opd.ev, putA, binA, eqbA, unA, fldA, partA, reduceIte, reduceCtorEq, Nat.reduceMod, Nat.reduceDiv, Nat.reduceBEq, resultA, resA, vI, Nat.reduceMul, Nat.reduceAdd, Nat.reduceSub, Nat.reduceEqDiff, Nat.reduceLT, Nat.reducePow, Nat.reduceLeDiff, st, Option.bind_eq_bind, Option.pure_def, List.length_nil, Int.cast_ofNat_Int, List.reverse_nil, UU, idxP, cellsAt, storeA, fillA, zerosA, putAll, optNat, sliceA, row, Int.reduceLT, Int.reduceLE, Int.reduceGT, Int.reduceGE, Int.reduceEq, Int.reduceNe, Int.reduceToNat, Int.reduceBEq, Int.reduceBNe, Nat.reduceLeDiff, Nat.reduceLT, Nat.reduceBNe, Nat.reduceGT, List.drop_nil, List.take_nil, Option.isSome_none, Int.ofNat_one, Int.ofNat_zero, G.len, hlt, G.idx k1, G.load k1, T.snap, x2, x1.len, hw.len, cl', h0, hww, ih]

theorem count37 {w : AV} {l : List Int} (hw : IsRow w l) (hl : l.length ≤ 40) :
    (isPr l = true → ∀ H, freeX H (callL EV Y 37 [w] []) = some (.tup [vI (cntL (l.length / 2) l), vI 0], H)) ∧ (isPr l = false → ∀ H, freeX H (callL EV Y 37 [w] []) = some (.tup [vI 0, vI 2], H)) := by
  have ip := fun H => ispr38 (Y := Y) (H := H) hw (by omega)
  constructor
  · intro h H
    have hok := h
    unfold isPr at hok
    rw [Bool.and_eq_true, decide_eq_true_eq] at hok
    obtain ⟨⟨a1, a2, a3⟩, a4⟩ := hok
    have h1 : 1 ≤ l.length / 2 := by omega
    have h5 : l.length / 2 ≤ 5 := by omega
    have wd : IntKind.wrap .i64 (Int.tdiv (l.length : Int) 2) = ((l.length / 2 : Nat) : Int) := by
      rw [show (2 : Int) = ((2 : Nat) : Int) from rfl, ← Int.ofNat_tdiv]; exact wrap_id (by omega) (by omega)
    rw [h] at ip
    obtain ⟨v, R, cells, z1, z2⟩ := zeros54 (Y := Y) (n := l.length / 2) (by omega)
    obtain ⟨v', H', cells', q1, q2, q3⟩ := call_tab (H := []) (R := callL EV Y) (f := 54) (args := [vI (l.length / 2 : Nat)]) (bs := [vI (l.length / 2 : Nat)]) rfl z1 z2
    obtain ⟨o, R2, oc, f1, f2, f3⟩ := fill_zero (Y := Y) h1 h5 (fill_len h1 h5) q2
    have lo := L37_1 (Y := Y) hw hl f2 (fun j hj => (f3 j hj).1) (fun t ht => (allL_veil h1 h5 (by rw [all_fill h1 h5]; exact ht)).1) (fill_len h1 h5) (fillL (l.length / 2)).length 0 0 (by omega) (by omega)
    rw [List.drop_zero, ← all_fill h1 h5] at lo
    have e2 : ¬ ((2 : Int) = 0) := by decide
    rw [call37 rfl]
    simp only [SS, insA, wantedA, Opd.ev, putA, binA, eqbA, unA, fldA, partA, reduceIte, reduceCtorEq, Nat.reduceMod, Nat.reduceDiv, Nat.reduceBEq, resultA, resA, vI, Nat.reduceMul, Nat.reduceAdd, Nat.reduceSub, Nat.reduceEqDiff, Nat.reduceLT, Nat.reducePow, Nat.reduceLeDiff, st, Option.bind_eq_bind, Option.pure_def, List.length_nil, Int.cast_ofNat_Int, List.reverse_nil, Int.ofNat_zero] at q1 f1 lo
    simp only [F37B, F37T2, in37_1, SS, insA, wantedA, Opd.ev, putA, binA, eqbA, unA, fldA, partA, reduceIte, reduceCtorEq, Nat.reduceMod, Nat.reduceDiv, Nat.reduceBEq, resultA, resA, vI, Nat.reduceMul, Nat.reduceAdd, Nat.reduceSub, Nat.reduceEqDiff, Nat.reduceLT, Nat.reducePow, Nat.reduceLeDiff, st, Option.bind_eq_bind, Option.pure_def, List.length_nil, Int.cast_ofNat_Int, List.reverse_nil, UU, idxP, cellsAt, storeA, fillA, zerosA, putAll, optNat, sliceA, row, Int.reduceLT, Int.reduceLE, Int.reduceGT, Int.reduceGE, Int.reduceEq, Int.reduceNe, Int.reduceToNat, Int.reduceBEq, Int.reduceBNe, Nat.reduceLeDiff, Nat.reduceLT, Nat.reduceBNe, Nat.reduceGT, List.drop_nil, List.take_nil, Option.isSome_none, Int.ofNat_one, Int.ofNat_zero, hw.snap, ip, hw.len, wd, e2, and_self, ne_eq, not_false_eq_true, q1, f1, lo, cntL]
  · intro h H
    rw [h] at ip
    rw [call37 rfl]
    simp only [F37B, SS, insA, wantedA, Opd.ev, putA, binA, eqbA, unA, fldA, partA, reduceIte, reduceCtorEq, Nat.reduceMod, Nat.reduceDiv, Nat.reduceBEq, resultA, resA, vI, Nat.reduceMul, Nat.reduceAdd, Nat.reduceSub, Nat.reduceEqDiff, Nat.reduceLT, Nat.reducePow, Nat.reduceLeDiff, st, Option.bind_eq_bind, Option.pure_def, List.length_nil, Int.cast_ofNat_Int, List.reverse_nil, UU, idxP, cellsAt, storeA, fillA, zerosA, putAll, optNat, sliceA, row, Int.reduceLT, Int.reduceLE, Int.reduceGT, Int.reduceGE, Int.reduceEq, Int.reduceNe, Int.reduceToNat, Int.reduceBEq, Int.reduceBNe, Nat.reduceLeDiff, Nat.reduceLT, Nat.reduceBNe, Nat.reduceGT, List.drop_nil, List.take_nil, Option.isSome_none, Int.ofNat_one, Int.ofNat_zero, hw.snap, ip]
end
end Go.X
