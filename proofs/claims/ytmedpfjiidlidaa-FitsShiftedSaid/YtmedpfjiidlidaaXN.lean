import Derived.Test.YtmedpfjiidlidaaXM
/-! Which mixtures last: the program's way. -/
set_option linter.unusedSimpArgs false
set_option linter.unusedVariables false
set_option maxHeartbeats 2000000
set_option maxRecDepth 10000
namespace Go.X
open Go Go.RowKit
section
variable {Y : Run} {H : Heap}

def bit (s i : Nat) : Bool := s / 2 ^ i % 2 == 1

def stepO (o b : Nat) (s : Int × List Int) (i : Nat) : Int × List Int :=
  if bit o i = true ∧ s.1 < 0 then ((i : Int), s.2) else if bit b i then (s.1, s.2 ++ [(i : Int)]) else s
def runO (o b : Nat) : Nat → Nat → Int × List Int → Int × List Int
  | 0, _, s => s
  | d + 1, i, s => runO o b d (i + 1) (stepO o b s i)

theorem bitW {s i : Nat} (hs : s < 1152921504606846976) (hi : i < 60) : s / 2 ^ i < 4611686018427387904 := Nat.lt_of_le_of_lt (Nat.div_le_self _ _) (by omega)

theorem bit_eq {s i : Nat} : (((s / 2 ^ i % 2 : Nat) : Int) == 1) = bit s i := by
  unfold bit
  rcases Nat.mod_two_eq_zero_or_one (s / 2 ^ i) with h | h <;> simp [h]

theorem L49 {vt yv : AV} {t : List (List Int)} {ys : List Int} {den : Int} {o b : Nat} (ht : IsTab vt t) (hy : IsRow yv ys) (hn : t.length ≤ 20) (ho : o < 1152921504606846976) (hb : b < 1152921504606846976)
    (h62 : ∀ H, freeX H (callL E Y 62 [vt, .agg [yv, vI den]] []) = some (vI (b : Int), H)) (d : Nat) : ∀ (i : Nat) (f : Int) (l : List Int) (R : Heap) (v : AV), i + d = t.length → l.length ≤ i → Gro 1 1 (⟨0, [yv, vI den]⟩ :: R) v l.length (l.map vI) →
    ∃ R' v', lp E Y F49L0 (st 112 [(0, vt), (3, .ptr 0 0 0), (5, vI o), (6, v), (7, vI f), (22, vI t.length), (23, vI i)]) (⟨0, [yv, vI den]⟩ :: R) =
      some (.x 0, st 112 [(0, vt), (5, vI o), (6, v'), (7, vI (runO o b d i (f, l)).1)], ⟨0, [yv, vI den]⟩ :: R') ∧ Gro 1 1 (⟨0, [yv, vI den]⟩ :: R') v' (runO o b d i (f, l)).2.length ((runO o b d i (f, l)).2.map vI) := by
  induction d with
  | zero =>
    intro i f l R v hi hl hG
    refine ⟨R, v, ?_, hG⟩
    rw [un49_0]
    have : ¬ ((i : Int) < (t.length : Int)) := by omega
    simp only [F49L0b, F49, F49B, F49T0, in49_0, SS, insA, wantedA, Opd.ev, putA, binA, eqbA, unA, fldA, partA, reduceIte, reduceCtorEq, Nat.reduceMod, Nat.reduceDiv, Nat.reduceBEq, resultA, resA, vI, Nat.reduceMul, Nat.reduceAdd, Nat.reduceSub, Nat.reduceEqDiff, Nat.reduceLT, Nat.reducePow, Nat.reduceLeDiff, st, Option.bind_eq_bind, Option.pure_def, List.length_nil, Int.cast_ofNat_Int, List.reverse_nil, this, runO]
  | succ d ih =>
    intro i f l R v hi hl hG
    have hlt : i < t.length := by omega
    have hc : (i : Int) < (t.length : Int) := by omega
    have hw := wrap_succ (n := i) (by omega)
    have s1 := shrW (s := o) (i := i) (by omega)
    have s2 := shrW (s := b) (i := i) (by omega)
    have a1 := and1W (bitW ho (i := i) (by omega))
    have a2 := and1W (bitW hb (i := i) (by omega))
    have hld : loadA (⟨0, [yv, vI den]⟩ :: R) (some 2) (.ptr 0 0 0) = some (.agg [yv, vI den]) := rfl
    simp only [binA] at s1 s2 a1 a2
    simp only [SS, insA, wantedA, Opd.ev, putA, binA, eqbA, unA, fldA, partA, reduceIte, reduceCtorEq, Nat.reduceMod, Nat.reduceDiv, Nat.reduceBEq, resultA, resA, vI, Nat.reduceMul, Nat.reduceAdd, Nat.reduceSub, Nat.reduceEqDiff, Nat.reduceLT, Nat.reducePow, Nat.reduceLeDiff, st, Option.bind_eq_bind, Option.pure_def, List.length_nil, Int.cast_ofNat_Int, List.reverse_nil] at hld h62
    rw [un49_0]
    by_cases c1 : bit o i = true
    · by_cases c2 : f < 0
      · have hs : stepO o b (f, l) i = ((i : Int), l) := by simp [stepO, c1, c2]
        obtain ⟨R', v', q1, q2⟩ := ih (i + 1) i l R v (by omega) (by omega) hG
        refine ⟨R', v', ?_, by simp only [runO, hs]; exact q2⟩
        simp only [SS, insA, wantedA, Opd.ev, putA, binA, eqbA, unA, fldA, partA, reduceIte, reduceCtorEq, Nat.reduceMod, Nat.reduceDiv, Nat.reduceBEq, resultA, resA, vI, Nat.reduceMul, Nat.reduceAdd, Nat.reduceSub, Nat.reduceEqDiff, Nat.reduceLT, Nat.reducePow, Nat.reduceLeDiff, st, Option.bind_eq_bind, Option.pure_def, List.length_nil, Int.cast_ofNat_Int, List.reverse_nil] at q1
        simp only [F49L0b, F49, F49B, F49T0, in49_0, SS, insA, wantedA, Opd.ev, putA, binA, eqbA, unA, fldA, partA, reduceIte, reduceCtorEq, Nat.reduceMod, Nat.reduceDiv, Nat.reduceBEq, resultA, resA, vI, Nat.reduceMul, Nat.reduceAdd, Nat.reduceSub, Nat.reduceEqDiff, Nat.reduceLT, Nat.reducePow, Nat.reduceLeDiff, st, Option.bind_eq_bind, Option.pure_def, List.length_nil, Int.cast_ofNat_Int, List.reverse_nil, hc, hw, s1, a1, bit_eq, c1, c2, decide_true, decide_false, BEq.rfl, q1, runO, hs]
      · have hs : stepO o b (f, l) i = if bit b i then (f, l ++ [(i : Int)]) else (f, l) := by simp [stepO, c2]
        by_cases c3 : bit b i = true
        · obtain ⟨v2, H2, g1, g2, g3, g4⟩ := hG.app (bytes := 8) (ys := [vI i]) (by simp) rfl rfl (by omega) (by omega)
          obtain ⟨R2, rfl⟩ := heap_first (H := H2) (by rw [g3 0 (by omega)]; rfl)
          rw [c3, if_pos rfl] at hs
          obtain ⟨R', v', q1, q2⟩ := ih (i + 1) f (l ++ [(i : Int)]) R2 v2 (by omega) (by simp; omega) (by simpa using g2)
          refine ⟨R', v', ?_, by simp only [runO, hs]; exact q2⟩
          simp only [SS, insA, wantedA, Opd.ev, putA, binA, eqbA, unA, fldA, partA, reduceIte, reduceCtorEq, Nat.reduceMod, Nat.reduceDiv, Nat.reduceBEq, resultA, resA, vI, Nat.reduceMul, Nat.reduceAdd, Nat.reduceSub, Nat.reduceEqDiff, Nat.reduceLT, Nat.reducePow, Nat.reduceLeDiff, st, Option.bind_eq_bind, Option.pure_def, List.length_nil, Int.cast_ofNat_Int, List.reverse_nil] at q1 g1
          simp only [F49L0b, F49, F49B, F49T0, in49_0, SS, insA, wantedA, Opd.ev, putA, binA, eqbA, unA, fldA, partA, reduceIte, reduceCtorEq, Nat.reduceMod, Nat.reduceDiv, Nat.reduceBEq, resultA, resA, vI, Nat.reduceMul, Nat.reduceAdd, Nat.reduceSub, Nat.reduceEqDiff, Nat.reduceLT, Nat.reducePow, Nat.reduceLeDiff, st, Option.bind_eq_bind, Option.pure_def, List.length_nil, Int.cast_ofNat_Int, List.reverse_nil, UU, idxP, cellsAt, storeA, fillA, zerosA, putAll, optNat, sliceA, row, Int.reduceLT, Int.reduceLE, Int.reduceGT, Int.reduceGE, Int.reduceEq, Int.reduceNe, Int.reduceToNat, Int.reduceBEq, Int.reduceBNe, Nat.reduceLeDiff, Nat.reduceLT, Nat.reduceBNe, Nat.reduceGT, List.drop_nil, List.take_nil, Option.isSome_none, Int.ofNat_one, Int.ofNat_zero, hc, hw, s1, a1, s2, a2, bit_eq, c1, c2, c3, decide_true, decide_false, BEq.rfl, ht.snap, hy.snap, h62, hld, g1, q1, runO, hs]
        · rw [if_neg c3] at hs
          obtain ⟨R', v', q1, q2⟩ := ih (i + 1) f l R v (by omega) (by omega) hG
          refine ⟨R', v', ?_, by simp only [runO, hs]; exact q2⟩
          simp only [SS, insA, wantedA, Opd.ev, putA, binA, eqbA, unA, fldA, partA, reduceIte, reduceCtorEq, Nat.reduceMod, Nat.reduceDiv, Nat.reduceBEq, resultA, resA, vI, Nat.reduceMul, Nat.reduceAdd, Nat.reduceSub, Nat.reduceEqDiff, Nat.reduceLT, Nat.reducePow, Nat.reduceLeDiff, st, Option.bind_eq_bind, Option.pure_def, List.length_nil, Int.cast_ofNat_Int, List.reverse_nil] at q1
          simp only [F49L0b, F49, F49B, F49T0, in49_0, SS, insA, wantedA, Opd.ev, putA, binA, eqbA, unA, fldA, partA, reduceIte, reduceCtorEq, Nat.reduceMod, Nat.reduceDiv, Nat.reduceBEq, resultA, resA, vI, Nat.reduceMul, Nat.reduceAdd, Nat.reduceSub, Nat.reduceEqDiff, Nat.reduceLT, Nat.reducePow, Nat.reduceLeDiff, st, Option.bind_eq_bind, Option.pure_def, List.length_nil, Int.cast_ofNat_Int, List.reverse_nil, hc, hw, s1, a1, s2, a2, bit_eq, c1, c2, c3, decide_true, decide_false, BEq.rfl, ht.snap, hy.snap, h62, hld, q1, runO, hs]
    · have hs : stepO o b (f, l) i = if bit b i then (f, l ++ [(i : Int)]) else (f, l) := by simp [stepO, c1]
      by_cases c3 : bit b i = true
      · obtain ⟨v2, H2, g1, g2, g3, g4⟩ := hG.app (bytes := 8) (ys := [vI i]) (by simp) rfl rfl (by omega) (by omega)
        obtain ⟨R2, rfl⟩ := heap_first (H := H2) (by rw [g3 0 (by omega)]; rfl)
        rw [c3, if_pos rfl] at hs
        obtain ⟨R', v', q1, q2⟩ := ih (i + 1) f (l ++ [(i : Int)]) R2 v2 (by omega) (by simp; omega) (by simpa using g2)
        refine ⟨R', v', ?_, by simp only [runO, hs]; exact q2⟩
        simp only [SS, insA, wantedA, Opd.ev, putA, binA, eqbA, unA, fldA, partA, reduceIte, reduceCtorEq, Nat.reduceMod, Nat.reduceDiv, Nat.reduceBEq, resultA, resA, vI, Nat.reduceMul, Nat.reduceAdd, Nat.reduceSub, Nat.reduceEqDiff, Nat.reduceLT, Nat.reducePow, Nat.reduceLeDiff, st, Option.bind_eq_bind, Option.pure_def, List.length_nil, Int.cast_ofNat_Int, List.reverse_nil] at q1 g1
        simp only [F49L0b, F49, F49B, F49T0, in49_0, SS, insA, wantedA, Opd.ev, putA, binA, eqbA, unA, fldA, partA, reduceIte, reduceCtorEq, Nat.reduceMod, Nat.reduceDiv, Nat.reduceBEq, resultA, resA, vI, Nat.reduceMul, Nat.reduceAdd, Nat.reduceSub, Nat.reduceEqDiff, Nat.reduceLT, Nat.reducePow, Nat.reduceLeDiff, st, Option.bind_eq_bind, Option.pure_def, List.length_nil, Int.cast_ofNat_Int, List.reverse_nil, UU, idxP, cellsAt, storeA, fillA, zerosA, putAll, optNat, sliceA, row, Int.reduceLT, Int.reduceLE, Int.reduceGT, Int.reduceGE, Int.reduceEq, Int.reduceNe, Int.reduceToNat, Int.reduceBEq, Int.reduceBNe, Nat.reduceLeDiff, Nat.reduceLT, Nat.reduceBNe, Nat.reduceGT, List.drop_nil, List.take_nil, Option.isSome_none, Int.ofNat_one, Int.ofNat_zero, hc, hw, s1, a1, s2, a2, bit_eq, c1, c3, decide_true, decide_false, BEq.rfl, ht.snap, hy.snap, h62, hld, g1, q1, runO, hs]
      · rw [if_neg c3] at hs
        obtain ⟨R', v', q1, q2⟩ := ih (i + 1) f l R v (by omega) (by omega) hG
        refine ⟨R', v', ?_, by simp only [runO, hs]; exact q2⟩
        simp only [SS, insA, wantedA, Opd.ev, putA, binA, eqbA, unA, fldA, partA, reduceIte, reduceCtorEq, Nat.reduceMod, Nat.reduceDiv, Nat.reduceBEq, resultA, resA, vI, Nat.reduceMul, Nat.reduceAdd, Nat.reduceSub, Nat.reduceEqDiff, Nat.reduceLT, Nat.reducePow, Nat.reduceLeDiff, st, Option.bind_eq_bind, Option.pure_def, List.length_nil, Int.cast_ofNat_Int, List.reverse_nil] at q1
        simp only [F49L0b, F49, F49B, F49T0, in49_0, SS, insA, wantedA, Opd.ev, putA, binA, eqbA, unA, fldA, partA, reduceIte, reduceCtorEq, Nat.reduceMod, Nat.reduceDiv, Nat.reduceBEq, resultA, resA, vI, Nat.reduceMul, Nat.reduceAdd, Nat.reduceSub, Nat.reduceEqDiff, Nat.reduceLT, Nat.reducePow, Nat.reduceLeDiff, st, Option.bind_eq_bind, Option.pure_def, List.length_nil, Int.cast_ofNat_Int, List.reverse_nil, hc, hw, s1, a1, s2, a2, bit_eq, c1, c3, decide_true, decide_false, BEq.rfl, ht.snap, hy.snap, h62, hld, q1, runO, hs]

def aloneS (o : Nat) : Bool := IntKind.wrap .i64 ((BitVec.ofInt 64 (o : Int) &&& BitVec.ofInt 64 (IntKind.wrap .i64 ((o : Int) - 1))).toNat : Int) == 0

/-- What the program looks at once the others are known. -/
def tailP (t : List (List Int)) (o f : Nat) : List Nat → Bool
  | [] => true
  | [i] => decide (wayS t f i i < 0)
  | i :: k :: _ => if wayS t f i i ≥ 0 ∨ wayS t f k k ≥ 0 then false else (aloneS o && decide (wayS t f i k ≤ 0)) || decide (wayS t f i k * wayS t f i k < wayS t f i i * wayS t f k k)

theorem gainW_bound {t : List (List Int)} (h : okTab t) {f a b : Nat} (hf : f < t.length) (ha : a < t.length) (hb : b < t.length) : -80 ≤ gainW t f a b ∧ gainW t f a b ≤ 80 := by
  have e1 := tat_bound h ha hb
  have e2 := tat_bound h ha hf
  have e3 := tat_bound h hf hb
  have e4 := tat_bound h hf hf
  unfold gainW; omega
theorem wayS_bound {t : List (List Int)} (h : okTab t) {f a b : Nat} (hf : f < t.length) (ha : a < t.length) (hb : b < t.length) : -160 ≤ wayS t f a b ∧ wayS t f a b ≤ 160 := by
  have := gainW_bound h hf ha hb
  have := gainW_bound h hf hb ha
  unfold wayS; omega

theorem T49 {vt v : AV} {t : List (List Int)} {o f : Nat} {l : List Nat} {X : Ob} {R : Heap} (ht : IsTab vt t) (h : okTab t) (hf : f < t.length) (hl : ∀ x ∈ l, x < t.length) (hll : l.length ≤ 20)
    (hG : Gro 1 1 (X :: R) v l.length ((l.map fun (x : Nat) => (x : Int)).map vI)) :
    ∃ H', endX [.tmp 4] (codeL E Y F49T0 (st 112 [(0, vt), (5, vI o), (6, v), (7, vI f)]) (X :: R)) = some (.bool (tailP t o f l), H') := by
  match l, hl, hll, hG with
  | [], hl, hll, hG =>
    have h1 := hG.len
    simp only [List.length_nil] at h1
    refine ⟨X :: R, ?_⟩
    simp only [F49T0, SS, insA, wantedA, Opd.ev, putA, binA, eqbA, unA, fldA, partA, reduceIte, reduceCtorEq, Nat.reduceMod, Nat.reduceDiv, Nat.reduceBEq, resultA, resA, vI, Nat.reduceMul, Nat.reduceAdd, Nat.reduceSub, Nat.reduceEqDiff, Nat.reduceLT, Nat.reducePow, Nat.reduceLeDiff, st, Option.bind_eq_bind, Option.pure_def, List.length_nil, Int.cast_ofNat_Int, List.reverse_nil, UU, idxP, cellsAt, storeA, fillA, zerosA, putAll, optNat, sliceA, row, Int.reduceLT, Int.reduceLE, Int.reduceGT, Int.reduceGE, Int.reduceEq, Int.reduceNe, Int.reduceToNat, Int.reduceBEq, Int.reduceBNe, Nat.reduceLeDiff, Nat.reduceLT, Nat.reduceBNe, Nat.reduceGT, List.drop_nil, List.take_nil, Option.isSome_none, Int.ofNat_one, Int.ofNat_zero, h1, tailP, Int.ofNat_zero]
  | [i], hl, hll, hG =>
    have h1 := hG.len
    have h2 : idxA 1 v (.int .i64 0) = some (gptr 1 v 0) := hG.idx (i := 0) (by simp)
    have h3 := hG.load (i := 0) (by simp)
    have h4 : ∀ H, _ := fun H => way68 (Y := Y) (H := H) ht h hf (hl i (by simp)) (hl i (by simp))
    simp only [SS, insA, wantedA, Opd.ev, putA, binA, eqbA, unA, fldA, partA, reduceIte, reduceCtorEq, Nat.reduceMod, Nat.reduceDiv, Nat.reduceBEq, resultA, resA, vI, Nat.reduceMul, Nat.reduceAdd, Nat.reduceSub, Nat.reduceEqDiff, Nat.reduceLT, Nat.reducePow, Nat.reduceLeDiff, st, Option.bind_eq_bind, Option.pure_def, List.length_nil, Int.cast_ofNat_Int, List.reverse_nil, List.length_cons, List.length_nil] at h1 h3 h4
    refine ⟨X :: R, ?_⟩
    simp only [F49T0, SS, insA, wantedA, Opd.ev, putA, binA, eqbA, unA, fldA, partA, reduceIte, reduceCtorEq, Nat.reduceMod, Nat.reduceDiv, Nat.reduceBEq, resultA, resA, vI, Nat.reduceMul, Nat.reduceAdd, Nat.reduceSub, Nat.reduceEqDiff, Nat.reduceLT, Nat.reducePow, Nat.reduceLeDiff, st, Option.bind_eq_bind, Option.pure_def, List.length_nil, Int.cast_ofNat_Int, List.reverse_nil, UU, idxP, cellsAt, storeA, fillA, zerosA, putAll, optNat, sliceA, row, Int.reduceLT, Int.reduceLE, Int.reduceGT, Int.reduceGE, Int.reduceEq, Int.reduceNe, Int.reduceToNat, Int.reduceBEq, Int.reduceBNe, Nat.reduceLeDiff, Nat.reduceLT, Nat.reduceBNe, Nat.reduceGT, List.drop_nil, List.take_nil, Option.isSome_none, Int.ofNat_one, Int.ofNat_zero, h1, h2, h3, h4, ht.snap, tailP, Int.ofNat_one]
  | i :: k :: r, hl, hll, hG =>
    have h1 := hG.len
    have h2 : idxA 1 v (.int .i64 0) = some (gptr 1 v 0) := hG.idx (i := 0) (by simp)
    have h3 := hG.load (i := 0) (by simp)
    have g2 : idxA 1 v (.int .i64 1) = some (gptr 1 v 1) := hG.idx (i := 1) (by simp)
    have g3 := hG.load (i := 1) (by simp)
    have hi := hl i (by simp)
    have hk := hl k (by simp)
    have h4 := fun H => way68 (Y := Y) (H := H) ht h hf hi hi
    have h5 := fun H => way68 (Y := Y) (H := H) ht h hf hk hk
    have h6 := fun H => way68 (Y := Y) (H := H) ht h hf hi hk
    have b1 := wayS_bound h hf hi hi
    have b2 := wayS_bound h hf hk hk
    have b3 := wayS_bound h hf hi hk
    have m1 := mulB (A := 160) (B := 160) b3 b3
    have m2 := mulB (A := 160) (B := 160) b1 b2
    have w1 : IntKind.wrap .i64 (wayS t f i k * wayS t f i k) = wayS t f i k * wayS t f i k := wrap_id (by omega) (by omega)
    have w2 : IntKind.wrap .i64 (wayS t f i i * wayS t f k k) = wayS t f i i * wayS t f k k := wrap_id (by omega) (by omega)
    have z0 : ((((r.length + 1 + 1 : Nat) : Int)) == 0) = false := by simp; omega
    have z1 : ((((r.length + 1 + 1 : Nat) : Int)) == 1) = false := by simp; omega
    have al : (IntKind.wrap .i64 ((BitVec.ofInt IntKind.i64.bits (o : Int) &&& BitVec.ofInt IntKind.i64.bits (IntKind.wrap .i64 ((o : Int) - 1))).toNat : Int) == 0) = aloneS o := rfl
    simp only [SS, insA, wantedA, Opd.ev, putA, binA, eqbA, unA, fldA, partA, reduceIte, reduceCtorEq, Nat.reduceMod, Nat.reduceDiv, Nat.reduceBEq, resultA, resA, vI, Nat.reduceMul, Nat.reduceAdd, Nat.reduceSub, Nat.reduceEqDiff, Nat.reduceLT, Nat.reducePow, Nat.reduceLeDiff, st, Option.bind_eq_bind, Option.pure_def, List.length_nil, Int.cast_ofNat_Int, List.reverse_nil, List.length_cons] at h1 h3 h4 h5 h6 g3
    refine ⟨X :: R, ?_⟩
    simp only [tailP]
    by_cases c1 : wayS t f i i ≥ 0
    · simp only [F49T0, SS, insA, wantedA, Opd.ev, putA, binA, eqbA, unA, fldA, partA, reduceIte, reduceCtorEq, Nat.reduceMod, Nat.reduceDiv, Nat.reduceBEq, resultA, resA, vI, Nat.reduceMul, Nat.reduceAdd, Nat.reduceSub, Nat.reduceEqDiff, Nat.reduceLT, Nat.reducePow, Nat.reduceLeDiff, st, Option.bind_eq_bind, Option.pure_def, List.length_nil, Int.cast_ofNat_Int, List.reverse_nil, UU, idxP, cellsAt, storeA, fillA, zerosA, putAll, optNat, sliceA, row, Int.reduceLT, Int.reduceLE, Int.reduceGT, Int.reduceGE, Int.reduceEq, Int.reduceNe, Int.reduceToNat, Int.reduceBEq, Int.reduceBNe, Nat.reduceLeDiff, Nat.reduceLT, Nat.reduceBNe, Nat.reduceGT, List.drop_nil, List.take_nil, Option.isSome_none, Int.ofNat_one, Int.ofNat_zero, h1, h2, h3, h4, h5, h6, g2, g3, z0, z1, ht.snap, c1, true_or]
    · by_cases c2 : wayS t f k k ≥ 0
      · simp only [F49T0, SS, insA, wantedA, Opd.ev, putA, binA, eqbA, unA, fldA, partA, reduceIte, reduceCtorEq, Nat.reduceMod, Nat.reduceDiv, Nat.reduceBEq, resultA, resA, vI, Nat.reduceMul, Nat.reduceAdd, Nat.reduceSub, Nat.reduceEqDiff, Nat.reduceLT, Nat.reducePow, Nat.reduceLeDiff, st, Option.bind_eq_bind, Option.pure_def, List.length_nil, Int.cast_ofNat_Int, List.reverse_nil, UU, idxP, cellsAt, storeA, fillA, zerosA, putAll, optNat, sliceA, row, Int.reduceLT, Int.reduceLE, Int.reduceGT, Int.reduceGE, Int.reduceEq, Int.reduceNe, Int.reduceToNat, Int.reduceBEq, Int.reduceBNe, Nat.reduceLeDiff, Nat.reduceLT, Nat.reduceBNe, Nat.reduceGT, List.drop_nil, List.take_nil, Option.isSome_none, Int.ofNat_one, Int.ofNat_zero, h1, h2, h3, h4, h5, h6, g2, g3, z0, z1, ht.snap, c1, c2, or_true]
      · have c12 : ¬ (wayS t f i i ≥ 0 ∨ wayS t f k k ≥ 0) := by omega
        rw [if_neg c12]
        cases c3 : aloneS o
        · rw [c3] at al
          simp only [F49T0, SS, insA, wantedA, Opd.ev, putA, binA, eqbA, unA, fldA, partA, reduceIte, reduceCtorEq, Nat.reduceMod, Nat.reduceDiv, Nat.reduceBEq, resultA, resA, vI, Nat.reduceMul, Nat.reduceAdd, Nat.reduceSub, Nat.reduceEqDiff, Nat.reduceLT, Nat.reducePow, Nat.reduceLeDiff, st, Option.bind_eq_bind, Option.pure_def, List.length_nil, Int.cast_ofNat_Int, List.reverse_nil, UU, idxP, cellsAt, storeA, fillA, zerosA, putAll, optNat, sliceA, row, Int.reduceLT, Int.reduceLE, Int.reduceGT, Int.reduceGE, Int.reduceEq, Int.reduceNe, Int.reduceToNat, Int.reduceBEq, Int.reduceBNe, Nat.reduceLeDiff, Nat.reduceLT, Nat.reduceBNe, Nat.reduceGT, List.drop_nil, List.take_nil, Option.isSome_none, Int.ofNat_one, Int.ofNat_zero, bitsA, al, h1, h2, h3, h4, h5, h6, g2, g3, z0, z1, ht.snap, c1, c2, c12, w1, w2, Bool.false_and, Bool.false_or]
        · rw [c3] at al
          by_cases c4 : wayS t f i k ≤ 0
          · simp only [F49T0, SS, insA, wantedA, Opd.ev, putA, binA, eqbA, unA, fldA, partA, reduceIte, reduceCtorEq, Nat.reduceMod, Nat.reduceDiv, Nat.reduceBEq, resultA, resA, vI, Nat.reduceMul, Nat.reduceAdd, Nat.reduceSub, Nat.reduceEqDiff, Nat.reduceLT, Nat.reducePow, Nat.reduceLeDiff, st, Option.bind_eq_bind, Option.pure_def, List.length_nil, Int.cast_ofNat_Int, List.reverse_nil, UU, idxP, cellsAt, storeA, fillA, zerosA, putAll, optNat, sliceA, row, Int.reduceLT, Int.reduceLE, Int.reduceGT, Int.reduceGE, Int.reduceEq, Int.reduceNe, Int.reduceToNat, Int.reduceBEq, Int.reduceBNe, Nat.reduceLeDiff, Nat.reduceLT, Nat.reduceBNe, Nat.reduceGT, List.drop_nil, List.take_nil, Option.isSome_none, Int.ofNat_one, Int.ofNat_zero, bitsA, al, h1, h2, h3, h4, h5, h6, g2, g3, z0, z1, ht.snap, c1, c2, c12, c4, w1, w2, decide_true, Bool.true_and, Bool.true_or]
          · simp only [F49T0, SS, insA, wantedA, Opd.ev, putA, binA, eqbA, unA, fldA, partA, reduceIte, reduceCtorEq, Nat.reduceMod, Nat.reduceDiv, Nat.reduceBEq, resultA, resA, vI, Nat.reduceMul, Nat.reduceAdd, Nat.reduceSub, Nat.reduceEqDiff, Nat.reduceLT, Nat.reducePow, Nat.reduceLeDiff, st, Option.bind_eq_bind, Option.pure_def, List.length_nil, Int.cast_ofNat_Int, List.reverse_nil, UU, idxP, cellsAt, storeA, fillA, zerosA, putAll, optNat, sliceA, row, Int.reduceLT, Int.reduceLE, Int.reduceGT, Int.reduceGE, Int.reduceEq, Int.reduceNe, Int.reduceToNat, Int.reduceBEq, Int.reduceBNe, Nat.reduceLeDiff, Nat.reduceLT, Nat.reduceBNe, Nat.reduceGT, List.drop_nil, List.take_nil, Option.isSome_none, Int.ofNat_one, Int.ofNat_zero, bitsA, al, h1, h2, h3, h4, h5, h6, g2, g3, z0, z1, ht.snap, c1, c2, c12, c4, w1, w2, decide_false, BEq.rfl, Bool.and_false, Bool.false_or]

theorem fashS_lt {ys : List Int} {n : Nat} (h : ys.length = n) : fashS ys < 2 ^ n := by
  have := setS_bound (fun x => decide (x > 0)) ys 0
  subst h
  unfold fashS
  simp only [Nat.zero_add, Nat.pow_zero] at this
  omega
theorem bestS_lt {t : List (List Int)} {ys : List Int} : bestS t ys < 2 ^ t.length := by
  have := setS_bound (fun x => x == maxI (t.map (dotS · ys))) (t.map (dotS · ys)) 0
  unfold bestS
  simp only [Nat.zero_add, Nat.pow_zero, List.length_map] at this ⊢
  omega

/-- The first own fashion, and the other best ones. -/
def partsO (o b n : Nat) : Nat × List Nat := ((runO o b n 0 (-1, [])).1.toNat, (runO o b n 0 (-1, [])).2.map Int.toNat)

def partsOk (n o b : Nat) : Bool := let r := runO o b n 0 (-1, []); decide (r.1 = (r.1.toNat : Int)) && decide (r.1.toNat < n) && r.2.all (fun x => decide (x = (x.toNat : Int)) && decide (x.toNat < n)) && decide (r.2.length ≤ 3)

theorem parts_all : ((List.range 4).all fun n => (List.range 8).all fun o => (List.range 8).all fun b => o == 0 || decide (2 ^ n ≤ o) || decide (2 ^ n ≤ b) || partsOk n o b) = true := by decide

theorem parts_ok {n o b : Nat} (hn : n ≤ 3) (h0 : 0 < o) (ho : o < 2 ^ n) (hb : b < 2 ^ n) : (runO o b n 0 (-1, [])).1 = ((partsO o b n).1 : Int) ∧ (runO o b n 0 (-1, [])).2 = (partsO o b n).2.map (fun (x : Nat) => (x : Int)) ∧ (partsO o b n).1 < n ∧ (∀ x ∈ (partsO o b n).2, x < n) ∧ (partsO o b n).2.length ≤ 3 := by
  have h8 : 2 ^ n ≤ 8 := Nat.pow_le_pow_right (by decide) hn (n := 2)
  have := List.all_eq_true.1 (List.all_eq_true.1 (List.all_eq_true.1 parts_all n (by simp; omega)) o (by simp; omega)) b (by simp; omega)
  have c1 : (o == 0) = false := by simp; omega
  have c2 : decide (2 ^ n ≤ o) = false := by simp; omega
  have c3 : decide (2 ^ n ≤ b) = false := by simp; omega
  rw [c1, c2, c3, Bool.false_or, Bool.false_or, Bool.false_or] at this
  simp only [partsOk, Bool.and_eq_true, decide_eq_true_eq, List.all_eq_true] at this
  obtain ⟨⟨⟨h1, h2⟩, h3⟩, h4⟩ := this
  refine ⟨h1, ?_, h2, fun x hx => ?_, by simpa [partsO] using h4⟩
  · simp only [partsO, List.map_map]
    conv => lhs; rw [← List.map_id (runO o b n 0 (-1, [])).2]
    exact List.map_congr_left fun x hx => (h3 x hx).1
  · simp only [partsO, List.mem_map] at hx
    obtain ⟨y, hy, rfl⟩ := hx
    exact (h3 y hy).2

/-- Whether a mixture lasts, as the program finds it. -/
def lastsP (t : List (List Int)) (ys : List Int) : Bool :=
  subS (fashS ys) (bestS t ys) && tailP t (fashS ys) (partsO (fashS ys) (bestS t ys) t.length).1 (partsO (fashS ys) (bestS t ys) t.length).2

theorem lasts49 {vt yv : AV} {t : List (List Int)} {ys : List Int} {den : Int} (ht : IsTab vt t) (h : okTab t) (hy : IsRow yv ys) (hyl : ys.length = t.length) (hY : small ys) (h0 : 0 < fashS ys) :
    freeX H (callL E Y 49 [vt, .agg [yv, vI den]] []) = some (.bool (lastsP t ys), H) := by
  rw [call49 rfl]
  have hn := h.2.1
  have h60 := fun H => rests_60 (Y := Y) (den := den) (H := H) ht h hy hyl hY
  have h67 := fun H => fash67 (Y := Y) (dv := vI den) (H := H) hy (by omega)
  have h62 := fun H => best_62 (Y := Y) (den := den) (H := H) ht h hy hyl hY
  have hld : loadA [⟨0, [yv, vI den]⟩] (some 2) (.ptr 0 0 0) = some (.agg [yv, vI den]) := rfl
  have ho : fashS ys < 2 ^ t.length := fashS_lt hyl
  have hb : bestS t ys < 2 ^ t.length := bestS_lt
  have h8 : 2 ^ t.length ≤ 8 := Nat.pow_le_pow_right (by decide) hn (n := 2)
  obtain ⟨p1, p2, p3, p4, p5⟩ := parts_ok hn h0 ho hb
  obtain ⟨R', v', q1, q2⟩ := L49 (Y := Y) (o := fashS ys) (b := bestS t ys) ht hy (by omega) (by omega) (by omega) h62 t.length 0 (-1) [] [] .nils (by omega) (by simp) (Gro.nil _ _ _)
  rw [p2, List.length_map] at q2
  obtain ⟨H', q3⟩ := T49 (Y := Y) (o := fashS ys) ht h p3 p4 (by omega) q2
  have h67' : ∀ H, freeX H (callL E Y 67 [.agg [yv, vI den]] []) = some (vI (fashS ys : Int), H) := h67
  rw [p1] at q1
  simp only [SS, insA, wantedA, Opd.ev, putA, binA, eqbA, unA, fldA, partA, reduceIte, reduceCtorEq, Nat.reduceMod, Nat.reduceDiv, Nat.reduceBEq, resultA, resA, vI, Nat.reduceMul, Nat.reduceAdd, Nat.reduceSub, Nat.reduceEqDiff, Nat.reduceLT, Nat.reducePow, Nat.reduceLeDiff, st, Option.bind_eq_bind, Option.pure_def, List.length_nil, Int.cast_ofNat_Int, List.reverse_nil] at h60 h67' h62 hld q3
  simp only [SS, insA, wantedA, Opd.ev, putA, binA, eqbA, unA, fldA, partA, reduceIte, reduceCtorEq, Nat.reduceMod, Nat.reduceDiv, Nat.reduceBEq, resultA, resA, vI, Nat.reduceMul, Nat.reduceAdd, Nat.reduceSub, Nat.reduceEqDiff, Nat.reduceLT, Nat.reducePow, Nat.reduceLeDiff, st, Option.bind_eq_bind, Option.pure_def, List.length_nil, Int.cast_ofNat_Int, List.reverse_nil, Int.ofNat_zero] at q1
  simp only [lastsP]
  cases c : subS (fashS ys) (bestS t ys)
  · simp only [F49, F49B, in49_0, SS, insA, wantedA, Opd.ev, putA, binA, eqbA, unA, fldA, partA, reduceIte, reduceCtorEq, Nat.reduceMod, Nat.reduceDiv, Nat.reduceBEq, resultA, resA, vI, Nat.reduceMul, Nat.reduceAdd, Nat.reduceSub, Nat.reduceEqDiff, Nat.reduceLT, Nat.reducePow, Nat.reduceLeDiff, st, Option.bind_eq_bind, Option.pure_def, List.length_nil, Int.cast_ofNat_Int, List.reverse_nil, UU, idxP, cellsAt, storeA, fillA, zerosA, putAll, optNat, sliceA, row, Int.reduceLT, Int.reduceLE, Int.reduceGT, Int.reduceGE, Int.reduceEq, Int.reduceNe, Int.reduceToNat, Int.reduceBEq, Int.reduceBNe, Nat.reduceLeDiff, Nat.reduceLT, Nat.reduceBNe, Nat.reduceGT, List.drop_nil, List.take_nil, Option.isSome_none, Int.ofNat_one, Int.ofNat_zero, hld, ht.snap, hy.snap, h60, h67', h62, c, Bool.not_false, Bool.false_and]
  · simp only [F49, F49B, in49_0, SS, insA, wantedA, Opd.ev, putA, binA, eqbA, unA, fldA, partA, reduceIte, reduceCtorEq, Nat.reduceMod, Nat.reduceDiv, Nat.reduceBEq, resultA, resA, vI, Nat.reduceMul, Nat.reduceAdd, Nat.reduceSub, Nat.reduceEqDiff, Nat.reduceLT, Nat.reducePow, Nat.reduceLeDiff, st, Option.bind_eq_bind, Option.pure_def, List.length_nil, Int.cast_ofNat_Int, List.reverse_nil, UU, idxP, cellsAt, storeA, fillA, zerosA, putAll, optNat, sliceA, row, Int.reduceLT, Int.reduceLE, Int.reduceGT, Int.reduceGE, Int.reduceEq, Int.reduceNe, Int.reduceToNat, Int.reduceBEq, Int.reduceBNe, Nat.reduceLeDiff, Nat.reduceLT, Nat.reduceBNe, Nat.reduceGT, List.drop_nil, List.take_nil, Option.isSome_none, Int.ofNat_one, Int.ofNat_zero, hld, ht.len, ht.snap, hy.snap, h60, h67', h62, c, q1, q3, Bool.not_true, Bool.true_and, Int.ofNat_zero]
end
end Go.X
