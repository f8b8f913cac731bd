import Derived.Test.YtmedpfjiidlidaaXN
/-! Which mixtures last: the specification's way. -/
set_option linter.unusedSimpArgs false
set_option linter.unusedVariables false
set_option maxHeartbeats 2000000
set_option maxRecDepth 10000
namespace Go.X
open Go Go.RowKit
section
variable {Y : Run} {H : Heap}

def addB (s i : Nat) (l : List Int) : List Int := if bit s i then l ++ [(i : Int)] else l
def runM (s : Nat) : Nat → Nat → List Int → List Int
  | 0, _, l => l
  | d + 1, i, l => runM s d (i + 1) (addB s i l)

theorem rem2_eq {s i : Nat} : (((s / 2 ^ i % 2 : Nat) : Int) == 1) = bit s i := bit_eq

/-- One step for one list: it grows, or it does not. -/
theorem Gro.step {k n i : Nat} {v w : AV} {l : List Int} {cs : List AV} (h : Gro k 1 H v l.length (l.map vI)) (hw : Gro k 1 H w n cs) (ha : apartW v w) (hk : k ≤ H.length) (hl : l.length ≤ 1000) :
    ∃ v' H', appA (H ++ [⟨0, [vI i]⟩]) 1 8 v (.sl H.length 0 1 0 1 none) = some (v', H') ∧ Gro k 1 H' v' (l ++ [(i : Int)]).length ((l ++ [(i : Int)]).map vI) ∧ Gro k 1 H' w n cs ∧ apartW v' w ∧ (∀ j, j < k → H'[j]? = H[j]?) ∧ H.length ≤ H'.length := by
  obtain ⟨v', H', g1, g2, g3, g4, g5⟩ := h.app2 (bytes := 8) (ys := [vI i]) hk rfl rfl (by omega) (by omega)
  have hid : ∀ j, idOf v = some j → k ≤ j := by
    intro j hj
    obtain ⟨_, ⟨_, rfl⟩ | ⟨id, ver, hid, rfl, _⟩⟩ := h
    · cases hj
    · cases hj; exact hid
  refine ⟨v', H', g1, by simpa using g2, hw.keep fun j hj => g3 j (hw.id_lt hj) fun e => ha j e hj, fun j hj => ?_, fun j hj => g3 j (by omega) fun e => by have := hid j e; omega, g4⟩
  rcases g5 with e | ⟨j', e, hge⟩
  · exact ha j (by rw [← e]; exact hj)
  · intro hw'
    have := hw.id_lt hw'
    rw [e] at hj; cases hj; omega

theorem apartW.symm {v w : AV} (h : apartW v w) : apartW w v := fun j hj e => h j e hj

theorem L51 {vt : AV} {t : List (List Int)} {X : Ob} {o b : Nat} (ht : IsTab vt t) (hn : t.length ≤ 20) (d : Nat) : ∀ (i : Nat) (l q : List Int) (R : Heap) (v w : AV), i + d = t.length → l.length ≤ i → q.length ≤ i →
    Gro 1 1 (X :: R) v l.length (l.map vI) → Gro 1 1 (X :: R) w q.length (q.map vI) → apartW v w →
    ∃ R' v' w', lp E Y F51L0 (st 120 [(0, vt), (5, vI b), (6, vI o), (7, v), (8, w), (9, vI i)]) (X :: R) =
      some (.x 0, st 120 [(0, vt), (7, v'), (8, w')], X :: R') ∧ Gro 1 1 (X :: R') v' (runM b d i l).length ((runM b d i l).map vI) ∧ Gro 1 1 (X :: R') w' (runM o d i q).length ((runM o d i q).map vI) := by
  induction d with
  | zero =>
    intro i l q R v w hi hl hq hG hQ ha
    refine ⟨R, v, w, ?_, hG, hQ⟩
    rw [un51_0]
    have : ¬ ((i : Int) < (t.length : Int)) := by omega
    simp only [F51L0b, F51, F51B, F51T0, in51_0, SS, insA, wantedA, Opd.ev, putA, binA, eqbA, unA, fldA, partA, reduceIte, reduceCtorEq, Nat.reduceMod, Nat.reduceDiv, Nat.reduceBEq, resultA, resA, vI, Nat.reduceMul, Nat.reduceAdd, Nat.reduceSub, Nat.reduceEqDiff, Nat.reduceLT, Nat.reducePow, Nat.reduceLeDiff, st, Option.bind_eq_bind, Option.pure_def, List.length_nil, Int.cast_ofNat_Int, List.reverse_nil, ht.len, this]
  | succ d ih =>
    intro i l q R v w hi hl hq hG hQ ha
    have hlt : i < t.length := by omega
    have hc : (i : Int) < (t.length : Int) := by omega
    have hw := wrap_succ (n := i) (by omega)
    have s1 := shrW (s := o) (i := i) (by omega)
    have s2 := shrW (s := b) (i := i) (by omega)
    have a1 : Int.tmod ((o / 2 ^ i : Nat) : Int) 2 = ((o / 2 ^ i % 2 : Nat) : Int) := rfl
    have a2 : Int.tmod ((b / 2 ^ i : Nat) : Int) 2 = ((b / 2 ^ i % 2 : Nat) : Int) := rfl
    have n20 : ¬ ((2 : Int) = 0) := by decide
    simp only [binA] at s1 s2
    rw [un51_0]
    cases c1 : bit b i
    · cases c2 : bit o i
      · obtain ⟨R', v', w', q1, q2, q3⟩ := ih (i + 1) l q R v w (by omega) (by omega) (by omega) hG hQ ha
        refine ⟨R', v', w', ?_, by simp only [runM, addB, c1, Bool.false_eq_true, if_false, if_true]; exact q2, by simp only [runM, addB, c2, Bool.false_eq_true, if_false, if_true]; exact q3⟩
        simp only [SS, insA, wantedA, Opd.ev, putA, binA, eqbA, unA, fldA, partA, reduceIte, reduceCtorEq, Nat.reduceMod, Nat.reduceDiv, Nat.reduceBEq, resultA, resA, vI, Nat.reduceMul, Nat.reduceAdd, Nat.reduceSub, Nat.reduceEqDiff, Nat.reduceLT, Nat.reducePow, Nat.reduceLeDiff, st, Option.bind_eq_bind, Option.pure_def, List.length_nil, Int.cast_ofNat_Int, List.reverse_nil] at q1
        simp only [F51L0b, F51, F51B, F51T0, in51_0, SS, insA, wantedA, Opd.ev, putA, binA, eqbA, unA, fldA, partA, reduceIte, reduceCtorEq, Nat.reduceMod, Nat.reduceDiv, Nat.reduceBEq, resultA, resA, vI, Nat.reduceMul, Nat.reduceAdd, Nat.reduceSub, Nat.reduceEqDiff, Nat.reduceLT, Nat.reducePow, Nat.reduceLeDiff, st, Option.bind_eq_bind, Option.pure_def, List.length_nil, Int.cast_ofNat_Int, List.reverse_nil, ht.len, hc, hw, s1, a1, s2, a2, n20, bit_eq, c1, c2, q1]
      · obtain ⟨w2, H2, g1, g2, g3, g4, g5, g6⟩ := hQ.step (i := i) hG ha.symm (by simp) (by omega)
        obtain ⟨R2, rfl⟩ := heap_first (H := H2) (by rw [g5 0 (by omega)]; rfl)
        obtain ⟨R', v', w', q1, q2, q3⟩ := ih (i + 1) l (q ++ [(i : Int)]) R2 v w2 (by omega) (by omega) (by simp; omega) g3 g2 g4.symm
        refine ⟨R', v', w', ?_, by simp only [runM, addB, c1, Bool.false_eq_true, if_false, if_true]; exact q2, by simp only [runM, addB, c2, Bool.false_eq_true, if_false, if_true]; exact q3⟩
        simp only [SS, insA, wantedA, Opd.ev, putA, binA, eqbA, unA, fldA, partA, reduceIte, reduceCtorEq, Nat.reduceMod, Nat.reduceDiv, Nat.reduceBEq, resultA, resA, vI, Nat.reduceMul, Nat.reduceAdd, Nat.reduceSub, Nat.reduceEqDiff, Nat.reduceLT, Nat.reducePow, Nat.reduceLeDiff, st, Option.bind_eq_bind, Option.pure_def, List.length_nil, Int.cast_ofNat_Int, List.reverse_nil] at q1 g1
        simp only [F51L0b, F51, F51B, F51T0, in51_0, SS, insA, wantedA, Opd.ev, putA, binA, eqbA, unA, fldA, partA, reduceIte, reduceCtorEq, Nat.reduceMod, Nat.reduceDiv, Nat.reduceBEq, resultA, resA, vI, Nat.reduceMul, Nat.reduceAdd, Nat.reduceSub, Nat.reduceEqDiff, Nat.reduceLT, Nat.reducePow, Nat.reduceLeDiff, st, Option.bind_eq_bind, Option.pure_def, List.length_nil, Int.cast_ofNat_Int, List.reverse_nil, UU, idxP, cellsAt, storeA, fillA, zerosA, putAll, optNat, sliceA, row, Int.reduceLT, Int.reduceLE, Int.reduceGT, Int.reduceGE, Int.reduceEq, Int.reduceNe, Int.reduceToNat, Int.reduceBEq, Int.reduceBNe, Nat.reduceLeDiff, Nat.reduceLT, Nat.reduceBNe, Nat.reduceGT, List.drop_nil, List.take_nil, Option.isSome_none, Int.ofNat_one, Int.ofNat_zero, ht.len, hc, hw, s1, a1, s2, a2, n20, bit_eq, c1, c2, g1, q1]
    · obtain ⟨v2, H2, g1, g2, g3, g4, g5, g6⟩ := hG.step (i := i) hQ ha (by simp) (by omega)
      obtain ⟨R2, rfl⟩ := heap_first (H := H2) (by rw [g5 0 (by omega)]; rfl)
      cases c2 : bit o i
      · obtain ⟨R', v', w', q1, q2, q3⟩ := ih (i + 1) (l ++ [(i : Int)]) q R2 v2 w (by omega) (by simp; omega) (by omega) g2 g3 g4
        refine ⟨R', v', w', ?_, by simp only [runM, addB, c1, Bool.false_eq_true, if_false, if_true]; exact q2, by simp only [runM, addB, c2, Bool.false_eq_true, if_false, if_true]; exact q3⟩
        simp only [SS, insA, wantedA, Opd.ev, putA, binA, eqbA, unA, fldA, partA, reduceIte, reduceCtorEq, Nat.reduceMod, Nat.reduceDiv, Nat.reduceBEq, resultA, resA, vI, Nat.reduceMul, Nat.reduceAdd, Nat.reduceSub, Nat.reduceEqDiff, Nat.reduceLT, Nat.reducePow, Nat.reduceLeDiff, st, Option.bind_eq_bind, Option.pure_def, List.length_nil, Int.cast_ofNat_Int, List.reverse_nil] at q1 g1
        simp only [F51L0b, F51, F51B, F51T0, in51_0, SS, insA, wantedA, Opd.ev, putA, binA, eqbA, unA, fldA, partA, reduceIte, reduceCtorEq, Nat.reduceMod, Nat.reduceDiv, Nat.reduceBEq, resultA, resA, vI, Nat.reduceMul, Nat.reduceAdd, Nat.reduceSub, Nat.reduceEqDiff, Nat.reduceLT, Nat.reducePow, Nat.reduceLeDiff, st, Option.bind_eq_bind, Option.pure_def, List.length_nil, Int.cast_ofNat_Int, List.reverse_nil, UU, idxP, cellsAt, storeA, fillA, zerosA, putAll, optNat, sliceA, row, Int.reduceLT, Int.reduceLE, Int.reduceGT, Int.reduceGE, Int.reduceEq, Int.reduceNe, Int.reduceToNat, Int.reduceBEq, Int.reduceBNe, Nat.reduceLeDiff, Nat.reduceLT, Nat.reduceBNe, Nat.reduceGT, List.drop_nil, List.take_nil, Option.isSome_none, Int.ofNat_one, Int.ofNat_zero, ht.len, hc, hw, s1, a1, s2, a2, n20, bit_eq, c1, c2, g1, q1]
      · obtain ⟨w2, H3, k1, k2, k3, k4, k5, k6⟩ := g3.step (i := i) g2 g4.symm (by simp) (by omega)
        obtain ⟨R3, rfl⟩ := heap_first (H := H3) (by rw [k5 0 (by omega)]; rfl)
        obtain ⟨R', v', w', q1, q2, q3⟩ := ih (i + 1) (l ++ [(i : Int)]) (q ++ [(i : Int)]) R3 v2 w2 (by omega) (by simp; omega) (by simp; omega) k3 k2 k4.symm
        refine ⟨R', v', w', ?_, by simp only [runM, addB, c1, Bool.false_eq_true, if_false, if_true]; exact q2, by simp only [runM, addB, c2, Bool.false_eq_true, if_false, if_true]; exact q3⟩
        simp only [SS, insA, wantedA, Opd.ev, putA, binA, eqbA, unA, fldA, partA, reduceIte, reduceCtorEq, Nat.reduceMod, Nat.reduceDiv, Nat.reduceBEq, resultA, resA, vI, Nat.reduceMul, Nat.reduceAdd, Nat.reduceSub, Nat.reduceEqDiff, Nat.reduceLT, Nat.reducePow, Nat.reduceLeDiff, st, Option.bind_eq_bind, Option.pure_def, List.length_nil, Int.cast_ofNat_Int, List.reverse_nil] at q1 g1 k1
        simp only [F51L0b, F51, F51B, F51T0, in51_0, SS, insA, wantedA, Opd.ev, putA, binA, eqbA, unA, fldA, partA, reduceIte, reduceCtorEq, Nat.reduceMod, Nat.reduceDiv, Nat.reduceBEq, resultA, resA, vI, Nat.reduceMul, Nat.reduceAdd, Nat.reduceSub, Nat.reduceEqDiff, Nat.reduceLT, Nat.reducePow, Nat.reduceLeDiff, st, Option.bind_eq_bind, Option.pure_def, List.length_nil, Int.cast_ofNat_Int, List.reverse_nil, UU, idxP, cellsAt, storeA, fillA, zerosA, putAll, optNat, sliceA, row, Int.reduceLT, Int.reduceLE, Int.reduceGT, Int.reduceGE, Int.reduceEq, Int.reduceNe, Int.reduceToNat, Int.reduceBEq, Int.reduceBNe, Nat.reduceLeDiff, Nat.reduceLT, Nat.reduceBNe, Nat.reduceGT, List.drop_nil, List.take_nil, Option.isSome_none, Int.ofNat_one, Int.ofNat_zero, ht.len, hc, hw, s1, a1, s2, a2, n20, bit_eq, c1, c2, g1, k1, q1]

def nats (l : List Nat) : List Int := l.map fun (x : Nat) => (x : Int)

/-- What the specification looks at once the best and the own fashions are known. -/
def tailR (t : List (List Int)) (i m : Nat) : List Nat → Bool
  | [_] => true
  | [a, c] => decide (formS t a c c < 0)
  | _ => if formS t i ((i + 1) % 3) ((i + 1) % 3) ≥ 0 ∨ formS t i ((i + 2) % 3) ((i + 2) % 3) ≥ 0 then false else
      (m == 1 && decide (formS t i ((i + 1) % 3) ((i + 2) % 3) + formS t i ((i + 2) % 3) ((i + 1) % 3) ≤ 0)) ||
      decide (4 * formS t i ((i + 1) % 3) ((i + 1) % 3) * formS t i ((i + 2) % 3) ((i + 2) % 3) > (formS t i ((i + 1) % 3) ((i + 2) % 3) + formS t i ((i + 2) % 3) ((i + 1) % 3)) * (formS t i ((i + 1) % 3) ((i + 2) % 3) + formS t i ((i + 2) % 3) ((i + 1) % 3)))

theorem formS_bound {t : List (List Int)} (h : okTab t) {i k l : Nat} (hi : i < t.length) (hk : k < t.length) (hl : l < t.length) : -80 ≤ formS t i k l ∧ formS t i k l ≤ 80 := by
  have e1 := tat_bound h hk hl
  have e2 := tat_bound h hk hi
  have e3 := tat_bound h hi hl
  have e4 := tat_bound h hi hi
  unfold formS; omega

theorem T51_1 {vt v w : AV} {t : List (List Int)} {X : Ob} {R : Heap} {a : Nat} (hG : Gro 1 1 (X :: R) v 1 [vI a]) :
    ∃ H', endX [.tmp 4] (codeL E Y F51T0 (st 120 [(0, vt), (7, v), (8, w)]) (X :: R)) = some (.bool true, H') := by
  have h1 := hG.len
  refine ⟨X :: R, ?_⟩
  simp only [F51T0, SS, insA, wantedA, Opd.ev, putA, binA, eqbA, unA, fldA, partA, reduceIte, reduceCtorEq, Nat.reduceMod, Nat.reduceDiv, Nat.reduceBEq, resultA, resA, vI, Nat.reduceMul, Nat.reduceAdd, Nat.reduceSub, Nat.reduceEqDiff, Nat.reduceLT, Nat.reducePow, Nat.reduceLeDiff, st, Option.bind_eq_bind, Option.pure_def, List.length_nil, Int.cast_ofNat_Int, List.reverse_nil, UU, idxP, cellsAt, storeA, fillA, zerosA, putAll, optNat, sliceA, row, Int.reduceLT, Int.reduceLE, Int.reduceGT, Int.reduceGE, Int.reduceEq, Int.reduceNe, Int.reduceToNat, Int.reduceBEq, Int.reduceBNe, Nat.reduceLeDiff, Nat.reduceLT, Nat.reduceBNe, Nat.reduceGT, List.drop_nil, List.take_nil, Option.isSome_none, Int.ofNat_one, Int.ofNat_zero, h1, Int.ofNat_one]

theorem T51_2 {vt v w : AV} {t : List (List Int)} {X : Ob} {R : Heap} {a c : Nat} (ht : IsTab vt t) (h : okTab t) (ha : a < t.length) (hc : c < t.length) (hG : Gro 1 1 (X :: R) v 2 [vI a, vI c]) :
    ∃ H', endX [.tmp 4] (codeL E Y F51T0 (st 120 [(0, vt), (7, v), (8, w)]) (X :: R)) = some (.bool (decide (formS t a c c < 0)), H') := by
  have h1 := hG.len
  have h2 : idxA 1 v (.int .i64 0) = some (gptr 1 v 0) := hG.idx (i := 0) (by omega)
  have h3 := hG.load (i := 0) (by omega)
  have g2 : idxA 1 v (.int .i64 1) = some (gptr 1 v 1) := hG.idx (i := 1) (by omega)
  have g3 := hG.load (i := 1) (by omega)
  have h4 := fun H => form70 (Y := Y) (H := H) ht h ha hc hc
  simp only [SS, insA, wantedA, Opd.ev, putA, binA, eqbA, unA, fldA, partA, reduceIte, reduceCtorEq, Nat.reduceMod, Nat.reduceDiv, Nat.reduceBEq, resultA, resA, vI, Nat.reduceMul, Nat.reduceAdd, Nat.reduceSub, Nat.reduceEqDiff, Nat.reduceLT, Nat.reducePow, Nat.reduceLeDiff, st, Option.bind_eq_bind, Option.pure_def, List.length_nil, Int.cast_ofNat_Int, List.reverse_nil] at h3 g3 h4
  refine ⟨X :: R, ?_⟩
  simp only [F51T0, SS, insA, wantedA, Opd.ev, putA, binA, eqbA, unA, fldA, partA, reduceIte, reduceCtorEq, Nat.reduceMod, Nat.reduceDiv, Nat.reduceBEq, resultA, resA, vI, Nat.reduceMul, Nat.reduceAdd, Nat.reduceSub, Nat.reduceEqDiff, Nat.reduceLT, Nat.reducePow, Nat.reduceLeDiff, st, Option.bind_eq_bind, Option.pure_def, List.length_nil, Int.cast_ofNat_Int, List.reverse_nil, UU, idxP, cellsAt, storeA, fillA, zerosA, putAll, optNat, sliceA, row, Int.reduceLT, Int.reduceLE, Int.reduceGT, Int.reduceGE, Int.reduceEq, Int.reduceNe, Int.reduceToNat, Int.reduceBEq, Int.reduceBNe, Nat.reduceLeDiff, Nat.reduceLT, Nat.reduceBNe, Nat.reduceGT, List.drop_nil, List.take_nil, Option.isSome_none, Int.ofNat_one, Int.ofNat_zero, h1, h2, h3, g2, g3, h4, ht.snap, Int.cast_ofNat_Int]

theorem T51_3 {vt v w : AV} {t : List (List Int)} {X : Ob} {R : Heap} {i m : Nat} {cs ds : List AV} (ht : IsTab vt t) (h : okTab t) (h3 : t.length = 3) (hi : i < 3) (hm : 0 < m ∧ m ≤ 3) (hG : Gro 1 1 (X :: R) v 3 cs) (hQ : Gro 1 1 (X :: R) w m (vI i :: ds)) (x y z : Nat) (r : List Nat) :
    ∃ H', endX [.tmp 4] (codeL E Y F51T0 (st 120 [(0, vt), (7, v), (8, w)]) (X :: R)) = some (.bool (tailR t i m (x :: y :: z :: r)), H') := by
  have h1 := hG.len
  have k1 := hQ.len
  have h2 : idxA 1 w (.int .i64 0) = some (gptr 1 w 0) := hQ.idx (i := 0) (by omega)
  have g3 := hQ.load (i := 0) (by omega)
  have hk : (i + 1) % 3 < t.length := by omega
  have hl : (i + 2) % 3 < t.length := by omega
  have hi' : i < t.length := by omega
  have f1 := fun H => form70 (Y := Y) (H := H) ht h hi' hk hk
  have f2 := fun H => form70 (Y := Y) (H := H) ht h hi' hk hl
  have f3 := fun H => form70 (Y := Y) (H := H) ht h hi' hl hk
  have f4 := fun H => form70 (Y := Y) (H := H) ht h hi' hl hl
  have b1 := formS_bound h hi' hk hk
  have b2 := formS_bound h hi' hk hl
  have b3 := formS_bound h hi' hl hk
  have b4 := formS_bound h hi' hl hl
  have e1 : Int.tmod (IntKind.wrap .i64 ((i : Int) + 1)) 3 = (((i + 1) % 3 : Nat) : Int) := by rw [wrap_id (by omega) (by omega)]; rfl
  have e2 : Int.tmod (IntKind.wrap .i64 ((i : Int) + 2)) 3 = (((i + 2) % 3 : Nat) : Int) := by rw [wrap_id (by omega) (by omega)]; rfl
  have n30 : ¬ ((3 : Int) = 0) := by decide
  have z1 : ((3 : Int) == 1) = false := by decide
  have z2 : ((3 : Int) == 2) = false := by decide
  simp only [tailR]
  simp only [SS, insA, wantedA, Opd.ev, putA, binA, eqbA, unA, fldA, partA, reduceIte, reduceCtorEq, Nat.reduceMod, Nat.reduceDiv, Nat.reduceBEq, resultA, resA, vI, Nat.reduceMul, Nat.reduceAdd, Nat.reduceSub, Nat.reduceEqDiff, Nat.reduceLT, Nat.reducePow, Nat.reduceLeDiff, st, Option.bind_eq_bind, Option.pure_def, List.length_nil, Int.cast_ofNat_Int, List.reverse_nil] at g3 f1 f2 f3 f4
  generalize formS t i ((i + 1) % 3) ((i + 1) % 3) = p at *
  generalize formS t i ((i + 1) % 3) ((i + 2) % 3) = q1 at *
  generalize formS t i ((i + 2) % 3) ((i + 1) % 3) = q2 at *
  generalize formS t i ((i + 2) % 3) ((i + 2) % 3) = rr at *
  have w1 : IntKind.wrap .i64 (q1 + q2) = q1 + q2 := wrap_id (by omega) (by omega)
  have w2 : IntKind.wrap .i64 (4 * p) = 4 * p := wrap_id (by omega) (by omega)
  have m1 := mulB (A := 320) (B := 80) (a := 4 * p) (b := rr) (by omega) b4
  have m2 := mulB (A := 160) (B := 160) (a := q1 + q2) (b := q1 + q2) (by omega) (by omega)
  have w3 : IntKind.wrap .i64 (4 * p * rr) = 4 * p * rr := wrap_id (by omega) (by omega)
  have w4 : IntKind.wrap .i64 ((q1 + q2) * (q1 + q2)) = (q1 + q2) * (q1 + q2) := wrap_id (by omega) (by omega)
  refine ⟨X :: R, ?_⟩
  by_cases c1 : p ≥ 0
  · simp only [F51T0, SS, insA, wantedA, Opd.ev, putA, binA, eqbA, unA, fldA, partA, reduceIte, reduceCtorEq, Nat.reduceMod, Nat.reduceDiv, Nat.reduceBEq, resultA, resA, vI, Nat.reduceMul, Nat.reduceAdd, Nat.reduceSub, Nat.reduceEqDiff, Nat.reduceLT, Nat.reducePow, Nat.reduceLeDiff, st, Option.bind_eq_bind, Option.pure_def, List.length_nil, Int.cast_ofNat_Int, List.reverse_nil, UU, idxP, cellsAt, storeA, fillA, zerosA, putAll, optNat, sliceA, row, Int.reduceLT, Int.reduceLE, Int.reduceGT, Int.reduceGE, Int.reduceEq, Int.reduceNe, Int.reduceToNat, Int.reduceBEq, Int.reduceBNe, Nat.reduceLeDiff, Nat.reduceLT, Nat.reduceBNe, Nat.reduceGT, List.drop_nil, List.take_nil, Option.isSome_none, Int.ofNat_one, Int.ofNat_zero, h1, k1, h2, g3, f1, f2, f3, f4, e1, e2, n30, z1, z2, w1, w2, w3, w4, ht.snap, c1, Int.cast_ofNat_Int, true_or]
  · by_cases c2 : rr ≥ 0
    · simp only [F51T0, SS, insA, wantedA, Opd.ev, putA, binA, eqbA, unA, fldA, partA, reduceIte, reduceCtorEq, Nat.reduceMod, Nat.reduceDiv, Nat.reduceBEq, resultA, resA, vI, Nat.reduceMul, Nat.reduceAdd, Nat.reduceSub, Nat.reduceEqDiff, Nat.reduceLT, Nat.reducePow, Nat.reduceLeDiff, st, Option.bind_eq_bind, Option.pure_def, List.length_nil, Int.cast_ofNat_Int, List.reverse_nil, UU, idxP, cellsAt, storeA, fillA, zerosA, putAll, optNat, sliceA, row, Int.reduceLT, Int.reduceLE, Int.reduceGT, Int.reduceGE, Int.reduceEq, Int.reduceNe, Int.reduceToNat, Int.reduceBEq, Int.reduceBNe, Nat.reduceLeDiff, Nat.reduceLT, Nat.reduceBNe, Nat.reduceGT, List.drop_nil, List.take_nil, Option.isSome_none, Int.ofNat_one, Int.ofNat_zero, h1, k1, h2, g3, f1, f2, f3, f4, e1, e2, n30, z1, z2, w1, w2, w3, w4, ht.snap, c1, c2, Int.cast_ofNat_Int, or_true]
    · have c12 : ¬ (p ≥ 0 ∨ rr ≥ 0) := by omega
      rw [if_neg c12]
      cases c3 : m == 1
      · have c3' : ((m : Int) == 1) = false := by simp at c3 ⊢; omega
        simp only [F51T0, SS, insA, wantedA, Opd.ev, putA, binA, eqbA, unA, fldA, partA, reduceIte, reduceCtorEq, Nat.reduceMod, Nat.reduceDiv, Nat.reduceBEq, resultA, resA, vI, Nat.reduceMul, Nat.reduceAdd, Nat.reduceSub, Nat.reduceEqDiff, Nat.reduceLT, Nat.reducePow, Nat.reduceLeDiff, st, Option.bind_eq_bind, Option.pure_def, List.length_nil, Int.cast_ofNat_Int, List.reverse_nil, UU, idxP, cellsAt, storeA, fillA, zerosA, putAll, optNat, sliceA, row, Int.reduceLT, Int.reduceLE, Int.reduceGT, Int.reduceGE, Int.reduceEq, Int.reduceNe, Int.reduceToNat, Int.reduceBEq, Int.reduceBNe, Nat.reduceLeDiff, Nat.reduceLT, Nat.reduceBNe, Nat.reduceGT, List.drop_nil, List.take_nil, Option.isSome_none, Int.ofNat_one, Int.ofNat_zero, h1, k1, h2, g3, f1, f2, f3, f4, e1, e2, n30, z1, z2, w1, w2, w3, w4, ht.snap, c1, c2, c3', Int.cast_ofNat_Int, Bool.false_and, Bool.false_or]
      · have c3' : ((m : Int) == 1) = true := by simp at c3 ⊢; omega
        by_cases c4 : q1 + q2 ≤ 0
        · simp only [F51T0, SS, insA, wantedA, Opd.ev, putA, binA, eqbA, unA, fldA, partA, reduceIte, reduceCtorEq, Nat.reduceMod, Nat.reduceDiv, Nat.reduceBEq, resultA, resA, vI, Nat.reduceMul, Nat.reduceAdd, Nat.reduceSub, Nat.reduceEqDiff, Nat.reduceLT, Nat.reducePow, Nat.reduceLeDiff, st, Option.bind_eq_bind, Option.pure_def, List.length_nil, Int.cast_ofNat_Int, List.reverse_nil, UU, idxP, cellsAt, storeA, fillA, zerosA, putAll, optNat, sliceA, row, Int.reduceLT, Int.reduceLE, Int.reduceGT, Int.reduceGE, Int.reduceEq, Int.reduceNe, Int.reduceToNat, Int.reduceBEq, Int.reduceBNe, Nat.reduceLeDiff, Nat.reduceLT, Nat.reduceBNe, Nat.reduceGT, List.drop_nil, List.take_nil, Option.isSome_none, Int.ofNat_one, Int.ofNat_zero, h1, k1, h2, g3, f1, f2, f3, f4, e1, e2, n30, z1, z2, w1, w2, w3, w4, ht.snap, c1, c2, c3', c4, Int.cast_ofNat_Int, Bool.true_and, Bool.true_or]
        · simp only [F51T0, SS, insA, wantedA, Opd.ev, putA, binA, eqbA, unA, fldA, partA, reduceIte, reduceCtorEq, Nat.reduceMod, Nat.reduceDiv, Nat.reduceBEq, resultA, resA, vI, Nat.reduceMul, Nat.reduceAdd, Nat.reduceSub, Nat.reduceEqDiff, Nat.reduceLT, Nat.reducePow, Nat.reduceLeDiff, st, Option.bind_eq_bind, Option.pure_def, List.length_nil, Int.cast_ofNat_Int, List.reverse_nil, UU, idxP, cellsAt, storeA, fillA, zerosA, putAll, optNat, sliceA, row, Int.reduceLT, Int.reduceLE, Int.reduceGT, Int.reduceGE, Int.reduceEq, Int.reduceNe, Int.reduceToNat, Int.reduceBEq, Int.reduceBNe, Nat.reduceLeDiff, Nat.reduceLT, Nat.reduceBNe, Nat.reduceGT, List.drop_nil, List.take_nil, Option.isSome_none, Int.ofNat_one, Int.ofNat_zero, h1, k1, h2, g3, f1, f2, f3, f4, e1, e2, n30, z1, z2, w1, w2, w3, w4, ht.snap, c1, c2, c3', c4, Int.cast_ofNat_Int, Bool.true_and, Bool.false_or]
end
end Go.X
