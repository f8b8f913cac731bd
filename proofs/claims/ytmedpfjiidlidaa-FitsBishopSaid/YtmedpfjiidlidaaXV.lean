import Derived.Test.YtmedpfjiidlidaaXQ
import Derived.Test.YtmedpfjiidlidaaXS
/-! The mixture against which some fashions gain the same: the specification's way. -/
set_option linter.unusedSimpArgs false
set_option linter.unusedVariables false
set_option maxHeartbeats 2000000
set_option maxRecDepth 10000
namespace Go.X
open Go Go.RowKit
section
variable {Y : Run} {H : Heap}

theorem L69_0 {v a4 a1 : AV} {l : List Int} (hv : IsRow v l) (hl : l.length ≤ 20) (hs : small l) (d : Nat) : ∀ (i : Nat) (s g : Int), i + d = l.length → s.natAbs + d * 100000 ≤ 3000000 → g.natAbs ≤ 100000 →
    lp E Y F69L0 (st 72 [(0, v), (1, a1), (4, a4), (6, vI s), (7, vI g), (8, vI i)]) H =
      some (.x 0, st 72 [(0, v), (1, a1), (4, a4), (6, vI (s + sumL (l.drop i))), (7, vI (gcdL g (l.drop i)))], H) := by
  induction d with
  | zero =>
    intro i s g hi h1 h2
    rw [un69_0, List.drop_eq_nil_of_le (by omega)]
    have : ¬ ((i : Int) < (l.length : Int)) := by omega
    simp only [F69L0b, SS, insA, wantedA, Opd.ev, putA, binA, eqbA, unA, fldA, partA, reduceIte, reduceCtorEq, Nat.reduceMod, Nat.reduceDiv, Nat.reduceBEq, resultA, resA, vI, Nat.reduceMul, Nat.reduceAdd, Nat.reduceSub, Nat.reduceEqDiff, Nat.reduceLT, Nat.reducePow, Nat.reduceLeDiff, st, Option.bind_eq_bind, Option.pure_def, List.length_nil, Int.cast_ofNat_Int, List.reverse_nil, hv.len, this, sumL, gcdL, List.foldr_nil, Int.add_zero]
  | succ d ih =>
    intro i s g hi h1 h2
    have hlt : i < l.length := by omega
    rw [un69_0, List.drop_eq_getElem_cons hlt]
    have hc : (i : Int) < (l.length : Int) := by omega
    have hw := wrap_succ (n := i) (by omega)
    have hg : l.getD i 0 = l[i] := by simp [List.getD_eq_getElem?_getD, hlt]
    have hb := hs l[i] (by simp)
    have w1 : IntKind.wrap .i64 (s + l[i]) = s + l[i] := wrap_id (by omega) (by omega)
    have g1 := gcd53 (Y := Y) (H := []) (a := g) (b := l[i]) (by omega) (by omega)
    have g2 : Int.gcd g l[i] ≤ 100000 := gcd_small h2 (by omega)
    have h3 := ih (i + 1) (s + l[i]) (Int.gcd g l[i] : Int) (by omega) (by omega) (by omega)
    simp only [SS, insA, wantedA, Opd.ev, putA, binA, eqbA, unA, fldA, partA, reduceIte, reduceCtorEq, Nat.reduceMod, Nat.reduceDiv, Nat.reduceBEq, resultA, resA, vI, Nat.reduceMul, Nat.reduceAdd, Nat.reduceSub, Nat.reduceEqDiff, Nat.reduceLT, Nat.reducePow, Nat.reduceLeDiff, st, Option.bind_eq_bind, Option.pure_def, List.length_nil, Int.cast_ofNat_Int, List.reverse_nil] at h3 g1
    simp only [F69L0b, SS, insA, wantedA, Opd.ev, putA, binA, eqbA, unA, fldA, partA, reduceIte, reduceCtorEq, Nat.reduceMod, Nat.reduceDiv, Nat.reduceBEq, resultA, resA, vI, Nat.reduceMul, Nat.reduceAdd, Nat.reduceSub, Nat.reduceEqDiff, Nat.reduceLT, Nat.reducePow, Nat.reduceLeDiff, st, Option.bind_eq_bind, Option.pure_def, List.length_nil, Int.cast_ofNat_Int, List.reverse_nil, hv.len, hc, hv.idx hlt, hv.load hlt, hw, hg, w1, g1, h3, sumL, gcdL, List.foldr_cons, Int.add_assoc]

/-- Numbers over a divisor, and whether they are above 0 just where they should be. -/
def fairL (set : Nat) (g : Int) : Nat → List Int → Bool
  | _, [] => true
  | i, x :: l => (decide (x.tdiv g > 0) == bit set i) && fairL set g (i + 1) l

theorem Gro.sl {k e n : Nat} {v : AV} {cells : List AV} (h : Gro k e H v n cells) (h0 : 0 < n) : ∃ id ver, k ≤ id ∧ v = .sl id ver e 0 n none := by
  obtain ⟨h1, ⟨rfl, rfl⟩ | ⟨id, ver, hid, rfl, hH⟩⟩ := h
  · omega
  · exact ⟨id, ver, hid, rfl⟩

theorem Gro.free {k n d : Nat} {v : AV} {l : List Int} (h : Gro k 1 H v n (l.map vI)) (h0 : 0 < n) : freeA H (d + 2) v = some (.imm false (l.map vI) l.length) := by
  obtain ⟨h1, ⟨rfl, rfl⟩ | ⟨id, ver, hid, rfl, hH⟩⟩ := h
  · omega
  · have hn : n = l.length := by simpa using h1.symm
    subst hn
    rw [free_sl, hH, freeS_some, if_pos (by simp), List.drop_zero, Nat.mul_one, List.take_of_length_le (by simp), mapM_free, freeB_some]

theorem L69_1 {v : AV} {l : List Int} {set : Nat} {g den : Int} {X : Ob} (hv : IsRow v l) (hl : l.length ≤ 20) (hs : small l) (hset : set < 1152921504606846976) (hg0 : g ≠ 0) (d : Nat) : ∀ (i : Nat) (w : AV) (R : Heap), i + d = l.length →
    Gro 2 1 (⟨0, [.nils, vI 0]⟩ :: ⟨0, [w, vI den]⟩ :: R) w i (((l.take i).map fun x => x.tdiv g).map vI) → True →
    (fairL set g i (l.drop i) = true → ∃ w' R', lp E Y F69L1 (st 72 [(0, v), (1, vI set), (4, .ptr 0 0 0), (7, vI g), (9, .ptr 1 0 0), (10, vI i)]) (⟨0, [.nils, vI 0]⟩ :: ⟨0, [w, vI den]⟩ :: R) =
      some (.x 2, st 72 [(4, .ptr 0 0 0), (9, .ptr 1 0 0)], ⟨0, [.nils, vI 0]⟩ :: ⟨0, [w', vI den]⟩ :: R') ∧ Gro 2 1 (⟨0, [.nils, vI 0]⟩ :: ⟨0, [w', vI den]⟩ :: R') w' l.length ((l.map fun x => x.tdiv g).map vI)) ∧
    (fairL set g i (l.drop i) = false → ∃ R', lp E Y F69L1 (st 72 [(0, v), (1, vI set), (4, .ptr 0 0 0), (7, vI g), (9, .ptr 1 0 0), (10, vI i)]) (⟨0, [.nils, vI 0]⟩ :: ⟨0, [w, vI den]⟩ :: R) =
      some (.r, st 72 [(4, .ptr 0 0 0), (5, vI 10)], ⟨0, [.nils, vI 0]⟩ :: R')) := by
  induction d with
  | zero =>
    intro i w R hi hG hden
    rw [List.drop_eq_nil_of_le (by omega)]
    rw [List.take_of_length_le (by omega)] at hG
    have e : i = l.length := by omega
    refine ⟨fun _ => ⟨w, R, ?_, by rw [← e]; exact hG⟩, fun h => by cases h⟩
    rw [un69_1]
    have : ¬ ((i : Int) < (l.length : Int)) := by omega
    simp only [F69L1b, SS, insA, wantedA, Opd.ev, putA, binA, eqbA, unA, fldA, partA, reduceIte, reduceCtorEq, Nat.reduceMod, Nat.reduceDiv, Nat.reduceBEq, resultA, resA, vI, Nat.reduceMul, Nat.reduceAdd, Nat.reduceSub, Nat.reduceEqDiff, Nat.reduceLT, Nat.reducePow, Nat.reduceLeDiff, st, Option.bind_eq_bind, Option.pure_def, List.length_nil, Int.cast_ofNat_Int, List.reverse_nil, hv.len, this]
  | succ d ih =>
    intro i w R hi hG hden
    have hlt : i < l.length := by omega
    have hc : (i : Int) < (l.length : Int) := by omega
    have hw := wrap_succ (n := i) (by omega)
    have hgi : l.getD i 0 = l[i] := by simp [List.getD_eq_getElem?_getD, hlt]
    have hb := hs l[i] (by simp)
    have hq : -100000 ≤ l[i].tdiv g ∧ l[i].tdiv g ≤ 100000 := by
      have : (l[i].tdiv g).natAbs ≤ l[i].natAbs := by rw [Int.natAbs_tdiv]; exact Nat.div_le_self _ _
      omega
    have w1 : IntKind.wrap .i64 (l[i].tdiv g) = l[i].tdiv g := wrap_id (by omega) (by omega)
    have s1 := shrW (s := set) (i := i) (by omega)
    have a1 : Int.tmod ((set / 2 ^ i : Nat) : Int) 2 = ((set / 2 ^ i % 2 : Nat) : Int) := rfl
    have n20 : ¬ ((2 : Int) = 0) := by decide
    simp only [binA] at s1
    rw [un69_1, List.drop_eq_getElem_cons hlt, fairL]
    by_cases c1 : (decide (l[i].tdiv g > 0) == bit set i) = true
    · obtain ⟨w2, H2, g1, g2, g3, g4⟩ := hG.app (bytes := 8) (ys := [vI (l[i].tdiv g)]) (by simp) rfl rfl (by omega) (by omega)
      obtain ⟨R1, rfl⟩ := heap_first (H := H2) (by rw [g3 0 (by omega)]; rfl)
      obtain ⟨R2, rfl⟩ := heap_first (H := R1) (X := ⟨0, [w, vI den]⟩) (by have := g3 1 (by omega); simpa using this)
      obtain ⟨id, ver, hid, e2⟩ := g2.sl (by omega)
      have g5 : Gro 2 1 (⟨0, [.nils, vI 0]⟩ :: ⟨0, [w2, vI den]⟩ :: R2) w2 (i + 1) (((l.take (i + 1)).map fun x => x.tdiv g).map vI) := by
        have : ((l.take (i + 1)).map fun x => x.tdiv g).map vI = ((l.take i).map fun x => x.tdiv g).map vI ++ [vI (l[i].tdiv g)] := by
          rw [List.take_succ_eq_append_getElem hlt, List.map_append, List.map_append]; rfl
        rw [this]
        refine g2.keep fun j hj => ?_
        rw [e2] at hj
        have hj : id = j := by simpa [idOf] using hj
        obtain ⟨m, hm⟩ : ∃ m, j = m + 2 := ⟨j - 2, by omega⟩
        rw [hm]; simp
      obtain ⟨i1, i2⟩ := ih (i + 1) w2 R2 (by omega) g5 trivial
      rw [c1, Bool.true_and]
      have c2 : decide (l[i].tdiv g > 0) = bit set i := by simpa using c1
      refine ⟨fun h => ?_, fun h => ?_⟩
      · obtain ⟨w', R', q1, q2⟩ := i1 h
        refine ⟨w', R', ?_, q2⟩
        subst e2
        simp only [SS, insA, wantedA, Opd.ev, putA, binA, eqbA, unA, fldA, partA, reduceIte, reduceCtorEq, Nat.reduceMod, Nat.reduceDiv, Nat.reduceBEq, resultA, resA, vI, Nat.reduceMul, Nat.reduceAdd, Nat.reduceSub, Nat.reduceEqDiff, Nat.reduceLT, Nat.reducePow, Nat.reduceLeDiff, st, Option.bind_eq_bind, Option.pure_def, List.length_nil, Int.cast_ofNat_Int, List.reverse_nil] at q1 g1
        simp only [F69L1b, SS, insA, wantedA, Opd.ev, putA, binA, eqbA, unA, fldA, partA, reduceIte, reduceCtorEq, Nat.reduceMod, Nat.reduceDiv, Nat.reduceBEq, resultA, resA, vI, Nat.reduceMul, Nat.reduceAdd, Nat.reduceSub, Nat.reduceEqDiff, Nat.reduceLT, Nat.reducePow, Nat.reduceLeDiff, st, Option.bind_eq_bind, Option.pure_def, List.length_nil, Int.cast_ofNat_Int, List.reverse_nil, UU, idxP, cellsAt, storeA, fillA, zerosA, putAll, optNat, sliceA, row, Int.reduceLT, Int.reduceLE, Int.reduceGT, Int.reduceGE, Int.reduceEq, Int.reduceNe, Int.reduceToNat, Int.reduceBEq, Int.reduceBNe, Nat.reduceLeDiff, Nat.reduceLT, Nat.reduceBNe, Nat.reduceGT, List.drop_nil, List.take_nil, Option.isSome_none, Int.ofNat_one, Int.ofNat_zero, hv.len, hc, hv.idx hlt, hv.load hlt, hw, hgi, hg0, w1, s1, a1, n20, bit_eq, c2, bne_self_eq_false, g1, q1]
      · obtain ⟨R', q1⟩ := i2 h
        refine ⟨R', ?_⟩
        subst e2
        simp only [SS, insA, wantedA, Opd.ev, putA, binA, eqbA, unA, fldA, partA, reduceIte, reduceCtorEq, Nat.reduceMod, Nat.reduceDiv, Nat.reduceBEq, resultA, resA, vI, Nat.reduceMul, Nat.reduceAdd, Nat.reduceSub, Nat.reduceEqDiff, Nat.reduceLT, Nat.reducePow, Nat.reduceLeDiff, st, Option.bind_eq_bind, Option.pure_def, List.length_nil, Int.cast_ofNat_Int, List.reverse_nil] at q1 g1
        simp only [F69L1b, SS, insA, wantedA, Opd.ev, putA, binA, eqbA, unA, fldA, partA, reduceIte, reduceCtorEq, Nat.reduceMod, Nat.reduceDiv, Nat.reduceBEq, resultA, resA, vI, Nat.reduceMul, Nat.reduceAdd, Nat.reduceSub, Nat.reduceEqDiff, Nat.reduceLT, Nat.reducePow, Nat.reduceLeDiff, st, Option.bind_eq_bind, Option.pure_def, List.length_nil, Int.cast_ofNat_Int, List.reverse_nil, UU, idxP, cellsAt, storeA, fillA, zerosA, putAll, optNat, sliceA, row, Int.reduceLT, Int.reduceLE, Int.reduceGT, Int.reduceGE, Int.reduceEq, Int.reduceNe, Int.reduceToNat, Int.reduceBEq, Int.reduceBNe, Nat.reduceLeDiff, Nat.reduceLT, Nat.reduceBNe, Nat.reduceGT, List.drop_nil, List.take_nil, Option.isSome_none, Int.ofNat_one, Int.ofNat_zero, hv.len, hc, hv.idx hlt, hv.load hlt, hw, hgi, hg0, w1, s1, a1, n20, bit_eq, c2, bne_self_eq_false, g1, q1]
    · have c2 : (decide (l[i].tdiv g > 0) != bit set i) = true := by simp only [bne]; simpa using c1
      have c3 : (decide (l[i].tdiv g > 0) == bit set i) = false := by simpa using c1
      rw [c3, Bool.false_and]
      refine ⟨fun h => (by cases h), fun _ => ⟨⟨0, [w, vI den]⟩ :: R, ?_⟩⟩
      have c4 : ((decide (l[i].tdiv g > 0) == bit set i) != true) = true := by rw [c3]; rfl
      simp only [F69L1b, SS, insA, wantedA, Opd.ev, putA, binA, eqbA, unA, fldA, partA, reduceIte, reduceCtorEq, Nat.reduceMod, Nat.reduceDiv, Nat.reduceBEq, resultA, resA, vI, Nat.reduceMul, Nat.reduceAdd, Nat.reduceSub, Nat.reduceEqDiff, Nat.reduceLT, Nat.reducePow, Nat.reduceLeDiff, st, Option.bind_eq_bind, Option.pure_def, List.length_nil, Int.cast_ofNat_Int, List.reverse_nil, UU, idxP, cellsAt, storeA, fillA, zerosA, putAll, optNat, sliceA, row, Int.reduceLT, Int.reduceLE, Int.reduceGT, Int.reduceGE, Int.reduceEq, Int.reduceNe, Int.reduceToNat, Int.reduceBEq, Int.reduceBNe, Nat.reduceLeDiff, Nat.reduceLT, Nat.reduceBNe, Nat.reduceGT, List.drop_nil, List.take_nil, Option.isSome_none, Int.ofNat_one, Int.ofNat_zero, hv.len, hc, hv.idx hlt, hv.load hlt, hw, hgi, hg0, w1, s1, a1, n20, bit_eq, c3, c4]

/-- What the specification returns for a list of numbers. -/
def resR (l : List Int) (set : Nat) : AV :=
  if sumL l = 0 then .tup [.agg [.nils, vI 0], vI 10]
  else if fairL set (divS l) 0 l = true then .tup [.agg [.imm false ((l.map fun x => x.tdiv (divS l)).map vI) l.length, vI ((sumL l).tdiv (divS l))], vI 0]
  else .tup [.agg [.nils, vI 0], vI 10]

theorem mixture69 {v : AV} {l : List Int} {set : Nat} (hv : IsRow v l) (hl : l.length ≤ 20) (h0 : 0 < l.length) (hs : small l) (hset : set < 1152921504606846976) :
    freeX H (callL E Y 69 [v, vI set] []) = some (resR l set, H) := by
  rw [call69 rfl]
  have h1 := L69_0 (Y := Y) (H := [⟨0, [.nils, vI 0]⟩]) (a4 := .ptr 0 0 0) (a1 := vI set) hv hl hs l.length 0 0 0 (by omega) (by omega) (by decide)
  have hb := sumL_bound hs
  have hg := gcdL_bound (g := 0) hs (by omega) (by omega)
  unfold resR
  simp only [SS, insA, wantedA, Opd.ev, putA, binA, eqbA, unA, fldA, partA, reduceIte, reduceCtorEq, Nat.reduceMod, Nat.reduceDiv, Nat.reduceBEq, resultA, resA, vI, Nat.reduceMul, Nat.reduceAdd, Nat.reduceSub, Nat.reduceEqDiff, Nat.reduceLT, Nat.reducePow, Nat.reduceLeDiff, st, Option.bind_eq_bind, Option.pure_def, List.length_nil, Int.cast_ofNat_Int, List.reverse_nil, Int.ofNat_zero, List.drop_zero, Int.zero_add] at h1
  by_cases c0 : sumL l = 0
  · rw [if_pos c0]
    rw [c0] at h1
    simp only [F69B, F69T1, in69_0, SS, insA, wantedA, Opd.ev, putA, binA, eqbA, unA, fldA, partA, reduceIte, reduceCtorEq, Nat.reduceMod, Nat.reduceDiv, Nat.reduceBEq, resultA, resA, vI, Nat.reduceMul, Nat.reduceAdd, Nat.reduceSub, Nat.reduceEqDiff, Nat.reduceLT, Nat.reducePow, Nat.reduceLeDiff, st, Option.bind_eq_bind, Option.pure_def, List.length_nil, Int.cast_ofNat_Int, List.reverse_nil, UU, idxP, cellsAt, storeA, fillA, zerosA, putAll, optNat, sliceA, row, Int.reduceLT, Int.reduceLE, Int.reduceGT, Int.reduceGE, Int.reduceEq, Int.reduceNe, Int.reduceToNat, Int.reduceBEq, Int.reduceBNe, Nat.reduceLeDiff, Nat.reduceLT, Nat.reduceBNe, Nat.reduceGT, List.drop_nil, List.take_nil, Option.isSome_none, Int.ofNat_one, Int.ofNat_zero, h1, c0]
  · rw [if_neg c0]
    have hd : divS l ≠ 0 := by
      have : gcdL 0 l ≠ 0 := fun h => c0 (sumL_zero (gcdL_zero h).2)
      unfold divS; split <;> omega
    have hq : ((sumL l).tdiv (divS l)).natAbs ≤ 3000000 := by
      have : ((sumL l).tdiv (divS l)).natAbs ≤ (sumL l).natAbs := by rw [Int.natAbs_tdiv]; exact Nat.div_le_self _ _
      omega
    have w2 : IntKind.wrap .i64 ((sumL l).tdiv (divS l)) = (sumL l).tdiv (divS l) := wrap_id (by omega) (by omega)
    obtain ⟨i1, i2⟩ := L69_1 (Y := Y) (g := divS l) (den := (sumL l).tdiv (divS l)) (X := ⟨0, []⟩) hv hl hs hset hd l.length 0 .nils [] (by omega) (by simpa using Gro.nil _ _ _) trivial
    rw [List.drop_zero] at i1 i2
    have hsign : ∀ P : Prop, (sumL l < 0 → IntKind.wrap .i64 (0 - gcdL 0 l) = divS l → P) → (¬ sumL l < 0 → gcdL 0 l = divS l → P) → P := by
      intro P h1 h2
      by_cases c1 : sumL l < 0
      · have e2 : divS l = -gcdL 0 l := by unfold divS; rw [if_pos c1]
        exact h1 c1 (by rw [wrap_id (by omega) (by omega), e2]; omega)
      · exact h2 c1 (by unfold divS; rw [if_neg c1])
    cases c2 : fairL set (divS l) 0 l
    · obtain ⟨R', q1⟩ := i2 c2
      simp only [SS, insA, wantedA, Opd.ev, putA, binA, eqbA, unA, fldA, partA, reduceIte, reduceCtorEq, Nat.reduceMod, Nat.reduceDiv, Nat.reduceBEq, resultA, resA, vI, Nat.reduceMul, Nat.reduceAdd, Nat.reduceSub, Nat.reduceEqDiff, Nat.reduceLT, Nat.reducePow, Nat.reduceLeDiff, st, Option.bind_eq_bind, Option.pure_def, List.length_nil, Int.cast_ofNat_Int, List.reverse_nil, Int.ofNat_zero] at q1
      rw [if_neg (by decide)]
      refine hsign _ (fun c1 w1 => ?_) (fun c1 e2 => ?_)
      · simp only [F69B, F69T1, in69_0, in69_1, SS, insA, wantedA, Opd.ev, putA, binA, eqbA, unA, fldA, partA, reduceIte, reduceCtorEq, Nat.reduceMod, Nat.reduceDiv, Nat.reduceBEq, resultA, resA, vI, Nat.reduceMul, Nat.reduceAdd, Nat.reduceSub, Nat.reduceEqDiff, Nat.reduceLT, Nat.reducePow, Nat.reduceLeDiff, st, Option.bind_eq_bind, Option.pure_def, List.length_nil, Int.cast_ofNat_Int, List.reverse_nil, UU, idxP, cellsAt, storeA, fillA, zerosA, putAll, optNat, sliceA, row, Int.reduceLT, Int.reduceLE, Int.reduceGT, Int.reduceGE, Int.reduceEq, Int.reduceNe, Int.reduceToNat, Int.reduceBEq, Int.reduceBNe, Nat.reduceLeDiff, Nat.reduceLT, Nat.reduceBNe, Nat.reduceGT, List.drop_nil, List.take_nil, Option.isSome_none, Int.ofNat_one, Int.ofNat_zero, h1, c0, c1, hd, w1, w2, q1]
      · rw [e2] at h1
        simp only [F69B, F69T1, in69_0, in69_1, SS, insA, wantedA, Opd.ev, putA, binA, eqbA, unA, fldA, partA, reduceIte, reduceCtorEq, Nat.reduceMod, Nat.reduceDiv, Nat.reduceBEq, resultA, resA, vI, Nat.reduceMul, Nat.reduceAdd, Nat.reduceSub, Nat.reduceEqDiff, Nat.reduceLT, Nat.reducePow, Nat.reduceLeDiff, st, Option.bind_eq_bind, Option.pure_def, List.length_nil, Int.cast_ofNat_Int, List.reverse_nil, UU, idxP, cellsAt, storeA, fillA, zerosA, putAll, optNat, sliceA, row, Int.reduceLT, Int.reduceLE, Int.reduceGT, Int.reduceGE, Int.reduceEq, Int.reduceNe, Int.reduceToNat, Int.reduceBEq, Int.reduceBNe, Nat.reduceLeDiff, Nat.reduceLT, Nat.reduceBNe, Nat.reduceGT, List.drop_nil, List.take_nil, Option.isSome_none, Int.ofNat_one, Int.ofNat_zero, h1, c0, c1, hd, w2, q1]
    · obtain ⟨w', R', q1, q2⟩ := i1 c2
      obtain ⟨id, ver, hid, e⟩ := q2.sl h0
      have q3 : Gro 2 1 (⟨0, [w', vI ((sumL l).tdiv (divS l))]⟩ :: ⟨0, [w', vI ((sumL l).tdiv (divS l))]⟩ :: R') w' l.length ((l.map fun x => x.tdiv (divS l)).map vI) := by
        refine q2.keep fun j hj => ?_
        rw [e] at hj
        have hj : id = j := by simpa [idOf] using hj
        obtain ⟨m, hm⟩ : ∃ m, j = m + 2 := ⟨j - 2, by omega⟩
        rw [hm]; simp
      have hfr := fun d => q3.free (d := d) h0
      rw [List.length_map] at hfr
      subst e
      rw [if_pos rfl]
      simp only [SS, insA, wantedA, Opd.ev, putA, binA, eqbA, unA, fldA, partA, reduceIte, reduceCtorEq, Nat.reduceMod, Nat.reduceDiv, Nat.reduceBEq, resultA, resA, vI, Nat.reduceMul, Nat.reduceAdd, Nat.reduceSub, Nat.reduceEqDiff, Nat.reduceLT, Nat.reducePow, Nat.reduceLeDiff, st, Option.bind_eq_bind, Option.pure_def, List.length_nil, Int.cast_ofNat_Int, List.reverse_nil, Int.ofNat_zero] at q1
      refine hsign _ (fun c1 w1 => ?_) (fun c1 e2 => ?_)
      · simp only [F69B, F69T0, F69T1, in69_0, in69_1, SS, insA, wantedA, Opd.ev, putA, binA, eqbA, unA, fldA, partA, reduceIte, reduceCtorEq, Nat.reduceMod, Nat.reduceDiv, Nat.reduceBEq, resultA, resA, vI, Nat.reduceMul, Nat.reduceAdd, Nat.reduceSub, Nat.reduceEqDiff, Nat.reduceLT, Nat.reducePow, Nat.reduceLeDiff, st, Option.bind_eq_bind, Option.pure_def, List.length_nil, Int.cast_ofNat_Int, List.reverse_nil, UU, idxP, cellsAt, storeA, fillA, zerosA, putAll, optNat, sliceA, row, Int.reduceLT, Int.reduceLE, Int.reduceGT, Int.reduceGE, Int.reduceEq, Int.reduceNe, Int.reduceToNat, Int.reduceBEq, Int.reduceBNe, Nat.reduceLeDiff, Nat.reduceLT, Nat.reduceBNe, Nat.reduceGT, List.drop_nil, List.take_nil, Option.isSome_none, Int.ofNat_one, Int.ofNat_zero, h1, c0, c1, hd, w1, w2, q1, hfr]
      · rw [e2] at h1
        simp only [F69B, F69T0, F69T1, in69_0, in69_1, SS, insA, wantedA, Opd.ev, putA, binA, eqbA, unA, fldA, partA, reduceIte, reduceCtorEq, Nat.reduceMod, Nat.reduceDiv, Nat.reduceBEq, resultA, resA, vI, Nat.reduceMul, Nat.reduceAdd, Nat.reduceSub, Nat.reduceEqDiff, Nat.reduceLT, Nat.reducePow, Nat.reduceLeDiff, st, Option.bind_eq_bind, Option.pure_def, List.length_nil, Int.cast_ofNat_Int, List.reverse_nil, UU, idxP, cellsAt, storeA, fillA, zerosA, putAll, optNat, sliceA, row, Int.reduceLT, Int.reduceLE, Int.reduceGT, Int.reduceGE, Int.reduceEq, Int.reduceNe, Int.reduceToNat, Int.reduceBEq, Int.reduceBNe, Nat.reduceLeDiff, Nat.reduceLT, Nat.reduceBNe, Nat.reduceGT, List.drop_nil, List.take_nil, Option.isSome_none, Int.ofNat_one, Int.ofNat_zero, h1, c0, c1, hd, w2, q1, hfr]

theorem T50_1 {l : List Int} {set : Nat} {id : Nat} {H0 : Heap} (hl : l.length ≤ 20) (h0 : 0 < l.length) (hs : small l) (hset : set < 1152921504606846976) (hid : 0 < id)
    (hA : H0[0]? = some ⟨0, [.nils, vI 0]⟩) (hH : H0[id]? = some ⟨0, l.map vI⟩) :
    freeX H (endX [.cell 4 (some 2), .tmp 5] (codeL E Y F50T1 (st 155 [(1, vI set), (4, .ptr 0 0 0), (8, .sl id 0 1 0 l.length none)]) H0)) = some (resR l set, H) := by
  obtain ⟨R, rfl⟩ := heap_first hA
  have hm := fun H => mixture69 (Y := Y) (H := H) (row_is (s := true) (l := l)) hl h0 hs hset
  have hsn : ∀ d, snapA (⟨0, [.nils, vI 0]⟩ :: R) (d + 2) (.sl id 0 1 0 l.length none) = some (.imm true (l.map vI) l.length) := by
    intro d
    rw [snap_sl, hH, snapS_some, if_pos (by simp), List.drop_zero, Nat.mul_one, List.take_of_length_le (by simp), mapM_snap, snapB_some]
  unfold resR at hm ⊢
  simp only [SS, insA, wantedA, Opd.ev, putA, binA, eqbA, unA, fldA, partA, reduceIte, reduceCtorEq, Nat.reduceMod, Nat.reduceDiv, Nat.reduceBEq, resultA, resA, vI, Nat.reduceMul, Nat.reduceAdd, Nat.reduceSub, Nat.reduceEqDiff, Nat.reduceLT, Nat.reducePow, Nat.reduceLeDiff, st, Option.bind_eq_bind, Option.pure_def, List.length_nil, Int.cast_ofNat_Int, List.reverse_nil] at hm
  have z1 := fun d => mapM_free (H := ⟨0, [AV.imm false ((l.map fun x => x.tdiv (divS l)).map vI) l.length, vI ((sumL l).tdiv (divS l))]⟩ :: R) (n := d) (l.map fun x => x.tdiv (divS l))
  by_cases c0 : sumL l = 0
  · simp only [c0, if_true] at hm ⊢
    simp only [F50T1, SS, insA, wantedA, Opd.ev, putA, binA, eqbA, unA, fldA, partA, reduceIte, reduceCtorEq, Nat.reduceMod, Nat.reduceDiv, Nat.reduceBEq, resultA, resA, vI, Nat.reduceMul, Nat.reduceAdd, Nat.reduceSub, Nat.reduceEqDiff, Nat.reduceLT, Nat.reducePow, Nat.reduceLeDiff, st, Option.bind_eq_bind, Option.pure_def, List.length_nil, Int.cast_ofNat_Int, List.reverse_nil, UU, idxP, cellsAt, storeA, fillA, zerosA, putAll, optNat, sliceA, row, Int.reduceLT, Int.reduceLE, Int.reduceGT, Int.reduceGE, Int.reduceEq, Int.reduceNe, Int.reduceToNat, Int.reduceBEq, Int.reduceBNe, Nat.reduceLeDiff, Nat.reduceLT, Nat.reduceBNe, Nat.reduceGT, List.drop_nil, List.take_nil, Option.isSome_none, Int.ofNat_one, Int.ofNat_zero, hsn, hm]
  · simp only [c0, if_false] at hm ⊢
    cases c2 : fairL set (divS l) 0 l
    · simp only [c2, if_false, Bool.false_eq_true] at hm ⊢
      simp only [F50T1, SS, insA, wantedA, Opd.ev, putA, binA, eqbA, unA, fldA, partA, reduceIte, reduceCtorEq, Nat.reduceMod, Nat.reduceDiv, Nat.reduceBEq, resultA, resA, vI, Nat.reduceMul, Nat.reduceAdd, Nat.reduceSub, Nat.reduceEqDiff, Nat.reduceLT, Nat.reducePow, Nat.reduceLeDiff, st, Option.bind_eq_bind, Option.pure_def, List.length_nil, Int.cast_ofNat_Int, List.reverse_nil, UU, idxP, cellsAt, storeA, fillA, zerosA, putAll, optNat, sliceA, row, Int.reduceLT, Int.reduceLE, Int.reduceGT, Int.reduceGE, Int.reduceEq, Int.reduceNe, Int.reduceToNat, Int.reduceBEq, Int.reduceBNe, Nat.reduceLeDiff, Nat.reduceLT, Nat.reduceBNe, Nat.reduceGT, List.drop_nil, List.take_nil, Option.isSome_none, Int.ofNat_one, Int.ofNat_zero, hsn, hm]
    · simp only [c2, if_true] at hm ⊢
      simp only [F50T1, SS, insA, wantedA, Opd.ev, putA, binA, eqbA, unA, fldA, partA, reduceIte, reduceCtorEq, Nat.reduceMod, Nat.reduceDiv, Nat.reduceBEq, resultA, resA, vI, Nat.reduceMul, Nat.reduceAdd, Nat.reduceSub, Nat.reduceEqDiff, Nat.reduceLT, Nat.reducePow, Nat.reduceLeDiff, st, Option.bind_eq_bind, Option.pure_def, List.length_nil, Int.cast_ofNat_Int, List.reverse_nil, UU, idxP, cellsAt, storeA, fillA, zerosA, putAll, optNat, sliceA, row, Int.reduceLT, Int.reduceLE, Int.reduceGT, Int.reduceGE, Int.reduceEq, Int.reduceNe, Int.reduceToNat, Int.reduceBEq, Int.reduceBNe, Nat.reduceLeDiff, Nat.reduceLT, Nat.reduceBNe, Nat.reduceGT, List.drop_nil, List.take_nil, Option.isSome_none, Int.ofNat_one, Int.ofNat_zero, hsn, hm, z1]
end
end Go.X
