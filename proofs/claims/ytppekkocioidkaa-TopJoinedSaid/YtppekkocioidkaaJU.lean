import Derived.Test.YtppekkocioidkaaJT
import Derived.Test.YtppekkocioidkaaJR
/-! Parts, threads, Size. -/
set_option linter.unusedSimpArgs false
set_option linter.unusedVariables false
set_option maxHeartbeats 2000000
set_option maxRecDepth 10000
namespace Go.X
open Go Go.RowKit

theorem pcN_half (s : Nat) : ∀ k, pcN (k + 1) s = s % 2 + pcN k (s / 2)
  | 0 => by rw [pcN_succ]; simp [pcN, Nat.testBit_zero]; split <;> omega
  | k + 1 => by
    rw [pcN_succ, pcN_half s k, pcN_succ k (s / 2), Nat.testBit_succ]
    omega

section
variable {Y : Run} {H : Heap}

theorem L10_0 (k : Nat) : ∀ (s c : Nat), s < 2 ^ k → k ≤ 13 → c + k ≤ 1000 → lp EJ Y F10L0 (sp 13 [(3, vI c), (0, vI s)]) H = some (.x 0, sp 13 [(3, vI ((c + pcN k s : Nat) : Int))], H) := by
  induction k with
  | zero =>
    intro s c hs _ _
    obtain rfl : s = 0 := by simpa using hs
    rw [un10_0]
    have : ¬ (((0 : Nat) : Int) > 0) := by omega
    simp only [Int.ofNat_zero] at this
    simp only [F10L0b, SS, insA, wantedA, Opd.ev, putA, binA, eqbA, unA, fldA, partA, reduceIte, reduceCtorEq, Nat.reduceMod, Nat.reduceDiv, Nat.reduceBEq, resultA, resA, vI, Nat.reduceMul, Nat.reduceAdd, Nat.reduceSub, Nat.reduceEqDiff, Nat.reduceLT, Nat.reducePow, Nat.reduceLeDiff, st, Option.bind_eq_bind, Option.pure_def, List.length_nil, Int.cast_ofNat_Int, List.reverse_nil, UU, idxP, cellsAt, storeA, fillA, zerosA, putAll, optNat, sliceA, row, Int.reduceLT, Int.reduceLE, Int.reduceGT, Int.reduceGE, Int.reduceEq, Int.reduceNe, Int.reduceToNat, Int.reduceBEq, Int.reduceBNe, Nat.reduceLeDiff, Nat.reduceLT, Nat.reduceBNe, Nat.reduceGT, List.drop_nil, List.take_nil, Option.isSome_none, Int.ofNat_one, Int.ofNat_zero, this, pcN, List.range_zero, List.filter_nil, Nat.add_zero]
  | succ k ih =>
    intro s c hs hk hc
    by_cases h0 : s = 0
    · subst h0
      rw [un10_0, pcN_zero]
      have : ¬ (((0 : Nat) : Int) > 0) := by omega
      simp only [Int.ofNat_zero] at this
      simp only [F10L0b, SS, insA, wantedA, Opd.ev, putA, binA, eqbA, unA, fldA, partA, reduceIte, reduceCtorEq, Nat.reduceMod, Nat.reduceDiv, Nat.reduceBEq, resultA, resA, vI, Nat.reduceMul, Nat.reduceAdd, Nat.reduceSub, Nat.reduceEqDiff, Nat.reduceLT, Nat.reducePow, Nat.reduceLeDiff, st, Option.bind_eq_bind, Option.pure_def, List.length_nil, Int.cast_ofNat_Int, List.reverse_nil, UU, idxP, cellsAt, storeA, fillA, zerosA, putAll, optNat, sliceA, row, Int.reduceLT, Int.reduceLE, Int.reduceGT, Int.reduceGE, Int.reduceEq, Int.reduceNe, Int.reduceToNat, Int.reduceBEq, Int.reduceBNe, Nat.reduceLeDiff, Nat.reduceLT, Nat.reduceBNe, Nat.reduceGT, List.drop_nil, List.take_nil, Option.isSome_none, Int.ofNat_one, Int.ofNat_zero, this, Nat.add_zero]
    · have h1 : (s : Int) > 0 := by omega
      have h13 : (2 : Nat) ^ (k + 1) ≤ 2 ^ 13 := Nat.pow_le_pow_right (by decide) hk
      have hd : s / 2 < 2 ^ k := by rw [Nat.pow_succ] at hs; omega
      have r := ih (s / 2) (c + s % 2) hd (by omega) (by omega)
      have e1 : (s : Int).tmod 2 = ((s % 2 : Nat) : Int) := by rw [Int.tmod_eq_emod_of_nonneg (by omega)]; omega
      have e2 : IntKind.wrap .i64 ((c : Int) + ((s % 2 : Nat) : Int)) = ((c + s % 2 : Nat) : Int) := by rw [wrap_id (by omega) (by omega)]; omega
      have e3 : IntKind.wrap .i64 ((s : Int).tdiv 2) = ((s / 2 : Nat) : Int) := by
        have : (s : Int).tdiv 2 = ((s / 2 : Nat) : Int) := by rw [Int.tdiv_eq_ediv_of_nonneg (by omega)]; omega
        rw [this, wrap_id (by omega) (by omega)]
      have h20 : (2 : Int) ≠ 0 := by decide
      rw [un10_0, pcN_half, ← Nat.add_assoc]
      simp only [SS, insA, wantedA, Opd.ev, putA, binA, eqbA, unA, fldA, partA, reduceIte, reduceCtorEq, Nat.reduceMod, Nat.reduceDiv, Nat.reduceBEq, resultA, resA, vI, Nat.reduceMul, Nat.reduceAdd, Nat.reduceSub, Nat.reduceEqDiff, Nat.reduceLT, Nat.reducePow, Nat.reduceLeDiff, st, Option.bind_eq_bind, Option.pure_def, List.length_nil, Int.cast_ofNat_Int, List.reverse_nil] at r
      simp only [F10L0b, SS, insA, wantedA, Opd.ev, putA, binA, eqbA, unA, fldA, partA, reduceIte, reduceCtorEq, Nat.reduceMod, Nat.reduceDiv, Nat.reduceBEq, resultA, resA, vI, Nat.reduceMul, Nat.reduceAdd, Nat.reduceSub, Nat.reduceEqDiff, Nat.reduceLT, Nat.reducePow, Nat.reduceLeDiff, st, Option.bind_eq_bind, Option.pure_def, List.length_nil, Int.cast_ofNat_Int, List.reverse_nil, UU, idxP, cellsAt, storeA, fillA, zerosA, putAll, optNat, sliceA, row, Int.reduceLT, Int.reduceLE, Int.reduceGT, Int.reduceGE, Int.reduceEq, Int.reduceNe, Int.reduceToNat, Int.reduceBEq, Int.reduceBNe, Nat.reduceLeDiff, Nat.reduceLT, Nat.reduceBNe, Nat.reduceGT, List.drop_nil, List.take_nil, Option.isSome_none, Int.ofNat_one, Int.ofNat_zero, h1, e1, e2, e3, h20, ne_eq, not_false_eq_true, and_self, r]

theorem size10 {s : Nat} (hs : s < 8192) : freeX H (callL EJ Y 10 [vI s] []) = some (vI ((pcN 13 s : Nat) : Int), H) := by
  have r := L10_0 (Y := Y) (H := []) 13 s 0 hs (by omega) (by omega)
  rw [call10 rfl]
  simp only [Nat.zero_add, Int.ofNat_zero, SS, insA, wantedA, Opd.ev, putA, binA, eqbA, unA, fldA, partA, reduceIte, reduceCtorEq, Nat.reduceMod, Nat.reduceDiv, Nat.reduceBEq, resultA, resA, vI, Nat.reduceMul, Nat.reduceAdd, Nat.reduceSub, Nat.reduceEqDiff, Nat.reduceLT, Nat.reducePow, Nat.reduceLeDiff, st, Option.bind_eq_bind, Option.pure_def, List.length_nil, Int.cast_ofNat_Int, List.reverse_nil] at r
  simp only [F10B, F10T0, in10_0, SS, insA, wantedA, Opd.ev, putA, binA, eqbA, unA, fldA, partA, reduceIte, reduceCtorEq, Nat.reduceMod, Nat.reduceDiv, Nat.reduceBEq, resultA, resA, vI, Nat.reduceMul, Nat.reduceAdd, Nat.reduceSub, Nat.reduceEqDiff, Nat.reduceLT, Nat.reducePow, Nat.reduceLeDiff, st, Option.bind_eq_bind, Option.pure_def, List.length_nil, Int.cast_ofNat_Int, List.reverse_nil, UU, idxP, cellsAt, storeA, fillA, zerosA, putAll, optNat, sliceA, row, Int.reduceLT, Int.reduceLE, Int.reduceGT, Int.reduceGE, Int.reduceEq, Int.reduceNe, Int.reduceToNat, Int.reduceBEq, Int.reduceBNe, Nat.reduceLeDiff, Nat.reduceLT, Nat.reduceBNe, Nat.reduceGT, List.drop_nil, List.take_nil, Option.isSome_none, Int.ofNat_one, Int.ofNat_zero, r]

/-! ### Threads -/
def kept (L : List Nat) (S i k d : Nat) : List (Nat × Nat) := ((List.range' k d).filter fun k => Ed L S i k).map fun k => (k, i)
theorem thc_app (a b : List (Int × Int)) : thc (a ++ b) = thc a ++ thc b := by simp [thc]
theorem castP_app (a b : List (Nat × Nat)) : castP (a ++ b) = castP a ++ castP b := by simp [castP]
theorem castP_len (a : List (Nat × Nat)) : (castP a).length = a.length := by simp [castP]

theorem L6_0 {v : AV} {L : List Nat} (hv : IsRow v (castL L)) (hl : L.length ≤ 8) (hb : ∀ x ∈ L, x < 256) {S i : Nat} (hS : S < 256) (hi : i < L.length) (d : Nat) : ∀ (k : Nat) (out : List (Nat × Nat)) (ov : AV) (H : Heap), k + d = i → out.length + d ≤ 1000 → Gro 0 2 H ov out.length (thc (castP out)) →
    ∃ (ov' : AV) (H' : Heap), Gro 0 2 H' ov' (out ++ kept L S i k d).length (thc (castP (out ++ kept L S i k d))) ∧
      lp EJ Y F6L0 (sp 48 [(7, vI k), (6, vI i), (5, ov), (1, vI S), (0, v)]) H = some (.x 2, sp 48 [(6, vI i), (5, ov'), (1, vI S), (0, v)], H') := by
  induction d with
  | zero =>
    intro k out ov H hk _ hg
    refine ⟨ov, H, by simpa [kept] using hg, ?_⟩
    rw [un6_0]
    have : ¬ ((k : Int) < (i : Int)) := by omega
    simp only [F6L0b, SS, insA, wantedA, Opd.ev, putA, binA, eqbA, unA, fldA, partA, reduceIte, reduceCtorEq, Nat.reduceMod, Nat.reduceDiv, Nat.reduceBEq, resultA, resA, vI, Nat.reduceMul, Nat.reduceAdd, Nat.reduceSub, Nat.reduceEqDiff, Nat.reduceLT, Nat.reducePow, Nat.reduceLeDiff, st, Option.bind_eq_bind, Option.pure_def, List.length_nil, Int.cast_ofNat_Int, List.reverse_nil, UU, idxP, cellsAt, storeA, fillA, zerosA, putAll, optNat, sliceA, row, Int.reduceLT, Int.reduceLE, Int.reduceGT, Int.reduceGE, Int.reduceEq, Int.reduceNe, Int.reduceToNat, Int.reduceBEq, Int.reduceBNe, Nat.reduceLeDiff, Nat.reduceLT, Nat.reduceBNe, Nat.reduceGT, List.drop_nil, List.take_nil, Option.isSome_none, Int.ofNat_one, Int.ofNat_zero, this]
  | succ d ih =>
    intro k out ov H hk ho hg
    have hc : (k : Int) < (i : Int) := by omega
    have hw := wrap_succ (n := k) (by omega)
    have hlt' : i < (castL L).length := by simpa [castL] using hi
    have hld := hv.load (H := H) hlt'
    rw [castL_get hi] at hld
    have e0 : kept L S i k (d + 1) = (if Ed L S i k = true then [(k, i)] else []) ++ kept L S i (k + 1) d := by
      unfold kept
      rw [List.range'_succ, List.filter_cons]
      split
      · simp
      · simp
    rw [e0]
    have hs1 := shr_eq (k := k) (by omega)
    have hs2 := shr_eq (k := i) (by omega)
    have hp1 : (0 : Int) ≤ (k : Int) := by omega
    have hp2 : (0 : Int) ≤ (i : Int) := by omega
    have h20 : (2 : Int) ≠ 0 := by decide
    have hnn : ∀ (x : Nat) (j : Nat), (sh (x : Int) j).tmod 2 = sh (x : Int) j % 2 := fun x j => tmod_emod (sh_nonneg (by omega) j)
    have eE : Ed L S i k = (L[i].testBit k && !S.testBit i && !S.testBit k) := by
      unfold Ed adj
      simp [List.getD_eq_getElem?_getD, hi]
    have g1 := hnn L[i] k
    have g2 := hnn S i
    have g3 := hnn S k
    have f1 := sh_beq L[i] k
    have f2 := sh_beq0 S i
    have f3 := sh_beq0 S k
    rw [un6_0]
    have skip : Ed L S i k = false → ∃ (ov' : AV) (H' : Heap), Gro 0 2 H' ov' (out ++ ((if Ed L S i k = true then [(k, i)] else []) ++ kept L S i (k + 1) d)).length (thc (castP (out ++ ((if Ed L S i k = true then [(k, i)] else []) ++ kept L S i (k + 1) d)))) ∧ lp EJ Y F6L0 (sp 48 [(7, vI (k + 1 : Nat)), (6, vI i), (5, ov), (1, vI S), (0, v)]) H = some (.x 2, sp 48 [(6, vI i), (5, ov'), (1, vI S), (0, v)], H') := fun h => by
      rw [h]
      simpa using ih (k + 1) out ov H (by omega) (by omega) hg
    cases c1 : L[i].testBit k with
    | false =>
      obtain ⟨ov', H', q1, q2⟩ := skip (by rw [eE, c1]; rfl)
      refine ⟨ov', H', q1, ?_⟩
      rw [c1] at f1
      simp only [SS, insA, wantedA, Opd.ev, putA, binA, eqbA, unA, fldA, partA, reduceIte, reduceCtorEq, Nat.reduceMod, Nat.reduceDiv, Nat.reduceBEq, resultA, resA, vI, Nat.reduceMul, Nat.reduceAdd, Nat.reduceSub, Nat.reduceEqDiff, Nat.reduceLT, Nat.reducePow, Nat.reduceLeDiff, st, Option.bind_eq_bind, Option.pure_def, List.length_nil, Int.cast_ofNat_Int, List.reverse_nil] at q2
      simp only [F6L0b, SS, insA, wantedA, Opd.ev, putA, binA, eqbA, unA, fldA, partA, reduceIte, reduceCtorEq, Nat.reduceMod, Nat.reduceDiv, Nat.reduceBEq, resultA, resA, vI, Nat.reduceMul, Nat.reduceAdd, Nat.reduceSub, Nat.reduceEqDiff, Nat.reduceLT, Nat.reducePow, Nat.reduceLeDiff, st, Option.bind_eq_bind, Option.pure_def, List.length_nil, Int.cast_ofNat_Int, List.reverse_nil, UU, idxP, cellsAt, storeA, fillA, zerosA, putAll, optNat, sliceA, row, Int.reduceLT, Int.reduceLE, Int.reduceGT, Int.reduceGE, Int.reduceEq, Int.reduceNe, Int.reduceToNat, Int.reduceBEq, Int.reduceBNe, Nat.reduceLeDiff, Nat.reduceLT, Nat.reduceBNe, Nat.reduceGT, List.drop_nil, List.take_nil, Option.isSome_none, Int.ofNat_one, Int.ofNat_zero, hc, hv.idx hlt', hld, hw, hp1, hp2, hs1, hs2, g1, f1, h20, ne_eq, not_false_eq_true, and_self, q2]
    | true =>
      rw [c1] at f1
      cases c2 : S.testBit i with
      | true =>
        obtain ⟨ov', H', q1, q2⟩ := skip (by rw [eE, c1, c2]; rfl)
        refine ⟨ov', H', q1, ?_⟩
        rw [c2] at f2
        simp only [SS, insA, wantedA, Opd.ev, putA, binA, eqbA, unA, fldA, partA, reduceIte, reduceCtorEq, Nat.reduceMod, Nat.reduceDiv, Nat.reduceBEq, resultA, resA, vI, Nat.reduceMul, Nat.reduceAdd, Nat.reduceSub, Nat.reduceEqDiff, Nat.reduceLT, Nat.reducePow, Nat.reduceLeDiff, st, Option.bind_eq_bind, Option.pure_def, List.length_nil, Int.cast_ofNat_Int, List.reverse_nil] at q2
        simp only [F6L0b, SS, insA, wantedA, Opd.ev, putA, binA, eqbA, unA, fldA, partA, reduceIte, reduceCtorEq, Nat.reduceMod, Nat.reduceDiv, Nat.reduceBEq, resultA, resA, vI, Nat.reduceMul, Nat.reduceAdd, Nat.reduceSub, Nat.reduceEqDiff, Nat.reduceLT, Nat.reducePow, Nat.reduceLeDiff, st, Option.bind_eq_bind, Option.pure_def, List.length_nil, Int.cast_ofNat_Int, List.reverse_nil, UU, idxP, cellsAt, storeA, fillA, zerosA, putAll, optNat, sliceA, row, Int.reduceLT, Int.reduceLE, Int.reduceGT, Int.reduceGE, Int.reduceEq, Int.reduceNe, Int.reduceToNat, Int.reduceBEq, Int.reduceBNe, Nat.reduceLeDiff, Nat.reduceLT, Nat.reduceBNe, Nat.reduceGT, List.drop_nil, List.take_nil, Option.isSome_none, Int.ofNat_one, Int.ofNat_zero, hc, hv.idx hlt', hld, hw, hp1, hp2, hs1, hs2, g1, g2, f1, f2, h20, ne_eq, not_false_eq_true, and_self, Bool.not_true, q2]
      | false =>
        rw [c2] at f2
        cases c3 : S.testBit k with
        | true =>
          obtain ⟨ov', H', q1, q2⟩ := skip (by rw [eE, c1, c2, c3]; rfl)
          refine ⟨ov', H', q1, ?_⟩
          rw [c3] at f3
          simp only [SS, insA, wantedA, Opd.ev, putA, binA, eqbA, unA, fldA, partA, reduceIte, reduceCtorEq, Nat.reduceMod, Nat.reduceDiv, Nat.reduceBEq, resultA, resA, vI, Nat.reduceMul, Nat.reduceAdd, Nat.reduceSub, Nat.reduceEqDiff, Nat.reduceLT, Nat.reducePow, Nat.reduceLeDiff, st, Option.bind_eq_bind, Option.pure_def, List.length_nil, Int.cast_ofNat_Int, List.reverse_nil] at q2
          simp only [F6L0b, SS, insA, wantedA, Opd.ev, putA, binA, eqbA, unA, fldA, partA, reduceIte, reduceCtorEq, Nat.reduceMod, Nat.reduceDiv, Nat.reduceBEq, resultA, resA, vI, Nat.reduceMul, Nat.reduceAdd, Nat.reduceSub, Nat.reduceEqDiff, Nat.reduceLT, Nat.reducePow, Nat.reduceLeDiff, st, Option.bind_eq_bind, Option.pure_def, List.length_nil, Int.cast_ofNat_Int, List.reverse_nil, UU, idxP, cellsAt, storeA, fillA, zerosA, putAll, optNat, sliceA, row, Int.reduceLT, Int.reduceLE, Int.reduceGT, Int.reduceGE, Int.reduceEq, Int.reduceNe, Int.reduceToNat, Int.reduceBEq, Int.reduceBNe, Nat.reduceLeDiff, Nat.reduceLT, Nat.reduceBNe, Nat.reduceGT, List.drop_nil, List.take_nil, Option.isSome_none, Int.ofNat_one, Int.ofNat_zero, hc, hv.idx hlt', hld, hw, hp1, hp2, hs1, hs2, g1, g2, g3, f1, f2, f3, h20, ne_eq, not_false_eq_true, and_self, Bool.not_true, Bool.not_false, q2]
        | false =>
          rw [c3] at f3
          obtain ⟨ov1, H1, a1, gg, _, _⟩ := hg.app (ys := [vI k, vI i]) (bytes := 16) (Nat.zero_le _) rfl rfl (by omega) (by omega)
          have e1 : thc (castP out) ++ [vI k, vI i] = thc (castP (out ++ [(k, i)])) := by rw [castP_app, thc_app]; rfl
          rw [e1] at gg
          obtain ⟨ov', H', q1, q2⟩ := ih (k + 1) (out ++ [(k, i)]) ov1 H1 (by omega) (by simp; omega) (by simpa using gg)
          refine ⟨ov', H', ?_, ?_⟩
          · have : Ed L S i k = true := by rw [eE, c1, c2, c3]; rfl
            rw [this]
            simpa using q1
          · simp only [vI] at a1
            simp only [SS, insA, wantedA, Opd.ev, putA, binA, eqbA, unA, fldA, partA, reduceIte, reduceCtorEq, Nat.reduceMod, Nat.reduceDiv, Nat.reduceBEq, resultA, resA, vI, Nat.reduceMul, Nat.reduceAdd, Nat.reduceSub, Nat.reduceEqDiff, Nat.reduceLT, Nat.reducePow, Nat.reduceLeDiff, st, Option.bind_eq_bind, Option.pure_def, List.length_nil, Int.cast_ofNat_Int, List.reverse_nil] at q2
            simp only [F6L0b, SS, insA, wantedA, Opd.ev, putA, binA, eqbA, unA, fldA, partA, reduceIte, reduceCtorEq, Nat.reduceMod, Nat.reduceDiv, Nat.reduceBEq, resultA, resA, vI, Nat.reduceMul, Nat.reduceAdd, Nat.reduceSub, Nat.reduceEqDiff, Nat.reduceLT, Nat.reducePow, Nat.reduceLeDiff, st, Option.bind_eq_bind, Option.pure_def, List.length_nil, Int.cast_ofNat_Int, List.reverse_nil, UU, idxP, cellsAt, storeA, fillA, zerosA, putAll, optNat, sliceA, row, Int.reduceLT, Int.reduceLE, Int.reduceGT, Int.reduceGE, Int.reduceEq, Int.reduceNe, Int.reduceToNat, Int.reduceBEq, Int.reduceBNe, Nat.reduceLeDiff, Nat.reduceLT, Nat.reduceBNe, Nat.reduceGT, List.drop_nil, List.take_nil, Option.isSome_none, Int.ofNat_one, Int.ofNat_zero, hc, hv.idx hlt', hld, hw, hp1, hp2, hs1, hs2, g1, g2, g3, f1, f2, f3, h20, ne_eq, not_false_eq_true, and_self, Bool.not_true, Bool.not_false, cellsOf, List.set_cons_zero, List.set_cons_succ, a1, q2]

theorem kept_len (L : List Nat) (S i k d : Nat) : (kept L S i k d).length ≤ d := by
  unfold kept
  rw [List.length_map]
  have := List.length_filter_le (fun k => Ed L S i k) (List.range' k d)
  simpa using this
theorem kept_all (L : List Nat) (S i : Nat) : kept L S i 0 i = thr1 L S i := by
  unfold kept thr1
  rw [List.range_eq_range']

theorem L6_1 {v : AV} {L : List Nat} (hv : IsRow v (castL L)) (hl : L.length ≤ 8) (hb : ∀ x ∈ L, x < 256) {S : Nat} (hS : S < 256) (d : Nat) : ∀ (i : Nat) (out : List (Nat × Nat)) (ov : AV) (H : Heap), i + d = L.length → out.length + d * 8 ≤ 900 → Gro 0 2 H ov out.length (thc (castP out)) →
    ∃ (ov' : AV) (H' : Heap), Gro 0 2 H' ov' (out ++ (List.range' i d).flatMap (thr1 L S)).length (thc (castP (out ++ (List.range' i d).flatMap (thr1 L S)))) ∧
      lp EJ Y F6L1 (sp 48 [(6, vI i), (5, ov), (1, vI S), (0, v)]) H = some (.x 0, sp 48 [(5, ov')], H') := by
  induction d with
  | zero =>
    intro i out ov H hi _ hg
    refine ⟨ov, H, by simpa using hg, ?_⟩
    rw [un6_1]
    have hlen : lenA v = some L.length := by rw [hv.len]; simp [castL]
    have : ¬ ((i : Int) < (L.length : Int)) := by omega
    simp only [F6L1b, SS, insA, wantedA, Opd.ev, putA, binA, eqbA, unA, fldA, partA, reduceIte, reduceCtorEq, Nat.reduceMod, Nat.reduceDiv, Nat.reduceBEq, resultA, resA, vI, Nat.reduceMul, Nat.reduceAdd, Nat.reduceSub, Nat.reduceEqDiff, Nat.reduceLT, Nat.reducePow, Nat.reduceLeDiff, st, Option.bind_eq_bind, Option.pure_def, List.length_nil, Int.cast_ofNat_Int, List.reverse_nil, UU, idxP, cellsAt, storeA, fillA, zerosA, putAll, optNat, sliceA, row, Int.reduceLT, Int.reduceLE, Int.reduceGT, Int.reduceGE, Int.reduceEq, Int.reduceNe, Int.reduceToNat, Int.reduceBEq, Int.reduceBNe, Nat.reduceLeDiff, Nat.reduceLT, Nat.reduceBNe, Nat.reduceGT, List.drop_nil, List.take_nil, Option.isSome_none, Int.ofNat_one, Int.ofNat_zero, hlen, this]
  | succ d ih =>
    intro i out ov H hi ho hg
    have hc : (i : Int) < (L.length : Int) := by omega
    have hw := wrap_succ (n := i) (by omega)
    have hlen : lenA v = some L.length := by rw [hv.len]; simp [castL]
    obtain ⟨ov1, H1, g1, r1⟩ := L6_0 (Y := Y) hv hl hb hS (i := i) (by omega) i 0 out ov H (by omega) (by omega) hg
    rw [kept_all] at g1
    have hk : (thr1 L S i).length ≤ i := by rw [← kept_all]; exact kept_len L S i 0 i
    obtain ⟨ov2, H2, g2, r2⟩ := ih (i + 1) (out ++ thr1 L S i) ov1 H1 (by omega) (by rw [List.length_append]; omega) g1
    refine ⟨ov2, H2, ?_, ?_⟩
    · rw [List.range'_succ, List.flatMap_cons, ← List.append_assoc]; exact g2
    · rw [un6_1]
      simp only [SS, insA, wantedA, Opd.ev, putA, binA, eqbA, unA, fldA, partA, reduceIte, reduceCtorEq, Nat.reduceMod, Nat.reduceDiv, Nat.reduceBEq, resultA, resA, vI, Nat.reduceMul, Nat.reduceAdd, Nat.reduceSub, Nat.reduceEqDiff, Nat.reduceLT, Nat.reducePow, Nat.reduceLeDiff, st, Option.bind_eq_bind, Option.pure_def, List.length_nil, Int.cast_ofNat_Int, List.reverse_nil, Int.ofNat_zero] at r1 r2
      simp only [F6L1b, F6T0, in6_0, SS, insA, wantedA, Opd.ev, putA, binA, eqbA, unA, fldA, partA, reduceIte, reduceCtorEq, Nat.reduceMod, Nat.reduceDiv, Nat.reduceBEq, resultA, resA, vI, Nat.reduceMul, Nat.reduceAdd, Nat.reduceSub, Nat.reduceEqDiff, Nat.reduceLT, Nat.reducePow, Nat.reduceLeDiff, st, Option.bind_eq_bind, Option.pure_def, List.length_nil, Int.cast_ofNat_Int, List.reverse_nil, UU, idxP, cellsAt, storeA, fillA, zerosA, putAll, optNat, sliceA, row, Int.reduceLT, Int.reduceLE, Int.reduceGT, Int.reduceGE, Int.reduceEq, Int.reduceNe, Int.reduceToNat, Int.reduceBEq, Int.reduceBNe, Nat.reduceLeDiff, Nat.reduceLT, Nat.reduceBNe, Nat.reduceGT, List.drop_nil, List.take_nil, Option.isSome_none, Int.ofNat_one, Int.ofNat_zero, hc, hw, hlen, r1, r2]

theorem threads6 {v : AV} {L : List Nat} (hv : IsRow v (castL L)) (hl : L.length ≤ 8) (hb : ∀ x ∈ L, x < 256) {S : Nat} (hS : S < 256) : ∃ w, IsPairs w (castP (thr L S)) ∧ ∀ H : Heap, freeX H (callL EJ Y 6 [v, vI S] []) = some (w, H) := by
  obtain ⟨ov, H1, g1, r1⟩ := L6_1 (Y := Y) hv hl hb hS L.length 0 [] .nils [] (by omega) (by simp; omega) (Gro.nil 0 2 [])
  rw [List.nil_append, ← List.range_eq_range'] at g1
  change Gro 0 2 H1 ov (thr L S).length (thc (castP (thr L S))) at g1
  obtain ⟨w, f1, hw⟩ := g1.freeL (d := 4) (fun c hc => by
    simp only [thc, List.mem_flatMap, List.mem_cons, List.not_mem_nil, or_false] at hc
    obtain ⟨p, _, rfl | rfl⟩ := hc <;> rfl)
  refine ⟨w, ?_, fun H => ?_⟩
  · rcases hw with ⟨h0, rfl⟩ | ⟨s, rfl⟩
    · have : thr L S = [] := List.eq_nil_of_length_eq_zero h0
      rw [this]; exact .nil
    · rw [← castP_len]; exact .imm s _
  · rw [call6 rfl]
    simp only [SS, insA, wantedA, Opd.ev, putA, binA, eqbA, unA, fldA, partA, reduceIte, reduceCtorEq, Nat.reduceMod, Nat.reduceDiv, Nat.reduceBEq, resultA, resA, vI, Nat.reduceMul, Nat.reduceAdd, Nat.reduceSub, Nat.reduceEqDiff, Nat.reduceLT, Nat.reducePow, Nat.reduceLeDiff, st, Option.bind_eq_bind, Option.pure_def, List.length_nil, Int.cast_ofNat_Int, List.reverse_nil, Int.ofNat_zero] at r1
    simp only [F6B, F6T1, in6_1, SS, insA, wantedA, Opd.ev, putA, binA, eqbA, unA, fldA, partA, reduceIte, reduceCtorEq, Nat.reduceMod, Nat.reduceDiv, Nat.reduceBEq, resultA, resA, vI, Nat.reduceMul, Nat.reduceAdd, Nat.reduceSub, Nat.reduceEqDiff, Nat.reduceLT, Nat.reducePow, Nat.reduceLeDiff, st, Option.bind_eq_bind, Option.pure_def, List.length_nil, Int.cast_ofNat_Int, List.reverse_nil, UU, idxP, cellsAt, storeA, fillA, zerosA, putAll, optNat, sliceA, row, Int.reduceLT, Int.reduceLE, Int.reduceGT, Int.reduceGE, Int.reduceEq, Int.reduceNe, Int.reduceToNat, Int.reduceBEq, Int.reduceBNe, Nat.reduceLeDiff, Nat.reduceLT, Nat.reduceBNe, Nat.reduceGT, List.drop_nil, List.take_nil, Option.isSome_none, Int.ofNat_one, Int.ofNat_zero, r1, f1]

/-! ### Parts -/
theorem chosen11 {v : AV} {L : List Nat} (hv : IsRow v (castL L)) (hl : L.length ≤ 8) (hf : frameB (castL L) = true) {S : Nat} (hS : S < 2 ^ L.length) : callL EJ Y 11 [v, vI S] H = some (.tup [v, .bool true], H) := by
  have h1 := read16 (Y := Y) (H := H) hv (by simp [castL]; omega)
  rw [hf, if_pos rfl] at h1
  have h17 := all17 (Y := Y) (H := H) hv (by omega)
  have hc1 : (S : Int) ≥ 0 := by omega
  have h0 : 0 < 2 ^ L.length := Nat.pow_pos (by decide)
  have hc2 : (S : Int) ≤ ((full L.length : Nat) : Int) := by unfold full; omega
  have hsn := hv.snap (H := H) (n := 5)
  rw [call11 rfl]
  simp only [vI] at h17
  simp only [F11B, SS, insA, wantedA, Opd.ev, putA, binA, eqbA, unA, fldA, partA, reduceIte, reduceCtorEq, Nat.reduceMod, Nat.reduceDiv, Nat.reduceBEq, resultA, resA, vI, Nat.reduceMul, Nat.reduceAdd, Nat.reduceSub, Nat.reduceEqDiff, Nat.reduceLT, Nat.reducePow, Nat.reduceLeDiff, st, Option.bind_eq_bind, Option.pure_def, List.length_nil, Int.cast_ofNat_Int, List.reverse_nil, UU, idxP, cellsAt, storeA, fillA, zerosA, putAll, optNat, sliceA, row, Int.reduceLT, Int.reduceLE, Int.reduceGT, Int.reduceGE, Int.reduceEq, Int.reduceNe, Int.reduceToNat, Int.reduceBEq, Int.reduceBNe, Nat.reduceLeDiff, Nat.reduceLT, Nat.reduceBNe, Nat.reduceGT, List.drop_nil, List.take_nil, Option.isSome_none, Int.ofNat_one, Int.ofNat_zero, h1, hsn, h17, hc1, hc2, endX, List.mapM_cons, List.mapM_nil]

theorem parts7 {v : AV} {L : List Nat} (hY : ∀ args H, Y 34 args H = yL 34 args H) (hv : IsRow v (castL L)) (hl : L.length ≤ 8) (hf : frameB (castL L) = true) (hb : ∀ x ∈ L, x < 256) {S : Nat} (hS : S < 2 ^ L.length) : ∃ w l', IsRow w l' ∧ l'.Perm (castL (partsN L L.length (dlN (full L.length) S))) ∧ ∀ H : Heap, freeX H (callL EJ Y 7 [v, vI S] []) = some (.tup [w, vI 0], H) := by
  obtain ⟨w, l', hw, hp, hi, h12⟩ := parts12 hY hv hl hb hS
  refine ⟨w, l', hw, hp, fun H => ?_⟩
  have h11 := chosen11 (Y := Y) (H := []) hv hl hf hS
  have h12 := h12 []
  have hsn := hv.snap (H := []) (n := 5)
  have hfr := hi [] 4
  rw [call7 rfl]
  simp only [vI] at h11 h12
  simp only [F7B, SS, insA, wantedA, Opd.ev, putA, binA, eqbA, unA, fldA, partA, reduceIte, reduceCtorEq, Nat.reduceMod, Nat.reduceDiv, Nat.reduceBEq, resultA, resA, vI, Nat.reduceMul, Nat.reduceAdd, Nat.reduceSub, Nat.reduceEqDiff, Nat.reduceLT, Nat.reducePow, Nat.reduceLeDiff, st, Option.bind_eq_bind, Option.pure_def, List.length_nil, Int.cast_ofNat_Int, List.reverse_nil, UU, idxP, cellsAt, storeA, fillA, zerosA, putAll, optNat, sliceA, row, Int.reduceLT, Int.reduceLE, Int.reduceGT, Int.reduceGE, Int.reduceEq, Int.reduceNe, Int.reduceToNat, Int.reduceBEq, Int.reduceBNe, Nat.reduceLeDiff, Nat.reduceLT, Nat.reduceBNe, Nat.reduceGT, List.drop_nil, List.take_nil, Option.isSome_none, Int.ofNat_one, Int.ofNat_zero, h11, hsn, h12, hfr]
end
end Go.X
