import Derived.Test.YtmedpfjiidlidaaZI
/-! Orders, and tables with renamed fashions: both ways. -/
set_option linter.unusedSimpArgs false
set_option linter.unusedVariables false
set_option maxHeartbeats 2000000
set_option maxRecDepth 10000
namespace Go.X
open Go Go.RowKit
section
variable {Y : Run} {H : Heap}

/-- Each fashion once: the set of those that were met. -/
def runQ (n : Nat) : Nat → List Int → Option Nat
  | m, [] => some m
  | m, x :: l => if x < 0 ∨ x ≥ n ∨ bit m x.toNat = true then none else runQ n (m + 2 ^ x.toNat) l

def isOrd (n : Nat) (l : List Int) : Bool := decide (l.length = n) && (runQ n 0 l).isSome

theorem met_all : ((List.range 8).all fun m => (List.range 3).all fun i => bit m i || decide (m + 2 ^ i < 8) && (m ||| 2 ^ i == m + 2 ^ i)) = true := by decide
theorem met_ok {m i : Nat} (hm : m < 8) (hi : i < 3) (hb : bit m i = false) : m + 2 ^ i < 8 ∧ m ||| 2 ^ i = m + 2 ^ i := by
  have := List.all_eq_true.1 (List.all_eq_true.1 met_all m (by simp; omega)) i (by simp; omega)
  rw [hb, Bool.false_or] at this
  simpa using this

theorem orM {m i : Nat} (hm : m < 8) (hi : i < 3) (hb : bit m i = false) : binA .or (vI m) (vI ((2 ^ i : Nat) : Int)) = some (vI ((m + 2 ^ i : Nat) : Int)) := by
  obtain ⟨h1, h2⟩ := met_ok hm hi hb
  show some (AV.int .i64 (IntKind.wrap .i64 ((BitVec.ofInt 64 (m : Int) ||| BitVec.ofInt 64 ((2 ^ i : Nat) : Int)).toNat : Int))) = _
  have hp : 2 ^ i < 8 := Nat.lt_of_le_of_lt (Nat.le_add_left _ _) h1
  rw [ofInt_nat, ofInt_nat, BitVec.toNat_or, BitVec.toNat_ofNat, BitVec.toNat_ofNat]
  generalize hq : 2 ^ i = q at *
  rw [Nat.mod_eq_of_lt (by omega), Nat.mod_eq_of_lt (by omega), h2, wrap_id (by omega) (by omega)]

theorem L45 {v : AV} {l : List Int} {n : Nat} (hv : IsRow v l) (hl : l.length ≤ 20) (hn : n ≤ 3) (d : Nat) : ∀ (i m : Nat), i + d = l.length → m < 8 →
    (∀ q, runQ n m (l.drop i) = some q → lp E2 Y F45L0 (st 47 [(0, vI n), (1, v), (5, vI m), (6, vI i)]) H = some (.x 0, st 47 [(0, vI n), (1, v)], H)) ∧
    (runQ n m (l.drop i) = none → lp E2 Y F45L0 (st 47 [(0, vI n), (1, v), (5, vI m), (6, vI i)]) H = some (.r, st 47 [(4, .bool false)], H)) := by
  induction d with
  | zero =>
    intro i m hi hm
    rw [List.drop_eq_nil_of_le (by omega)]
    refine ⟨fun q _ => ?_, fun h => by cases h⟩
    rw [un45_0]
    have : ¬ ((i : Int) < (l.length : Int)) := by omega
    simp only [F45L0b, SS, insA, wantedA, Opd.ev, putA, binA, eqbA, unA, fldA, partA, reduceIte, reduceCtorEq, Nat.reduceMod, Nat.reduceDiv, Nat.reduceBEq, resultA, resA, vI, Nat.reduceMul, Nat.reduceAdd, Nat.reduceSub, Nat.reduceEqDiff, Nat.reduceLT, Nat.reducePow, Nat.reduceLeDiff, st, Option.bind_eq_bind, Option.pure_def, List.length_nil, Int.cast_ofNat_Int, List.reverse_nil, UU, idxP, cellsAt, storeA, fillA, zerosA, putAll, optNat, sliceA, row, Int.reduceLT, Int.reduceLE, Int.reduceGT, Int.reduceGE, Int.reduceEq, Int.reduceNe, Int.reduceToNat, Int.reduceBEq, Int.reduceBNe, Nat.reduceLeDiff, Nat.reduceLT, Nat.reduceBNe, Nat.reduceGT, List.drop_nil, List.take_nil, Option.isSome_none, Int.ofNat_one, Int.ofNat_zero, hv.len, this]
  | succ d ih =>
    intro i m hi hm
    have hlt : i < l.length := by omega
    have hc : (i : Int) < (l.length : Int) := by omega
    have hw := wrap_succ (n := i) (by omega)
    have hg : l.getD i 0 = l[i] := by simp [List.getD_eq_getElem?_getD, hlt]
    have n20 : ¬ ((2 : Int) = 0) := by decide
    rw [un45_0, List.drop_eq_getElem_cons hlt, runQ]
    by_cases c1 : l[i] < 0
    · rw [if_pos (.inl c1)]
      refine ⟨fun q h => (by cases h), fun _ => ?_⟩
      simp only [F45L0b, SS, insA, wantedA, Opd.ev, putA, binA, eqbA, unA, fldA, partA, reduceIte, reduceCtorEq, Nat.reduceMod, Nat.reduceDiv, Nat.reduceBEq, resultA, resA, vI, Nat.reduceMul, Nat.reduceAdd, Nat.reduceSub, Nat.reduceEqDiff, Nat.reduceLT, Nat.reducePow, Nat.reduceLeDiff, st, Option.bind_eq_bind, Option.pure_def, List.length_nil, Int.cast_ofNat_Int, List.reverse_nil, UU, idxP, cellsAt, storeA, fillA, zerosA, putAll, optNat, sliceA, row, Int.reduceLT, Int.reduceLE, Int.reduceGT, Int.reduceGE, Int.reduceEq, Int.reduceNe, Int.reduceToNat, Int.reduceBEq, Int.reduceBNe, Nat.reduceLeDiff, Nat.reduceLT, Nat.reduceBNe, Nat.reduceGT, List.drop_nil, List.take_nil, Option.isSome_none, Int.ofNat_one, Int.ofNat_zero, hv.len, hc, hv.idx hlt, hv.load hlt, hg, c1, decide_true, BEq.rfl]
    by_cases c2 : l[i] ≥ (n : Int)
    · rw [if_pos (.inr (.inl c2))]
      refine ⟨fun q h => (by cases h), fun _ => ?_⟩
      simp only [F45L0b, SS, insA, wantedA, Opd.ev, putA, binA, eqbA, unA, fldA, partA, reduceIte, reduceCtorEq, Nat.reduceMod, Nat.reduceDiv, Nat.reduceBEq, resultA, resA, vI, Nat.reduceMul, Nat.reduceAdd, Nat.reduceSub, Nat.reduceEqDiff, Nat.reduceLT, Nat.reducePow, Nat.reduceLeDiff, st, Option.bind_eq_bind, Option.pure_def, List.length_nil, Int.cast_ofNat_Int, List.reverse_nil, UU, idxP, cellsAt, storeA, fillA, zerosA, putAll, optNat, sliceA, row, Int.reduceLT, Int.reduceLE, Int.reduceGT, Int.reduceGE, Int.reduceEq, Int.reduceNe, Int.reduceToNat, Int.reduceBEq, Int.reduceBNe, Nat.reduceLeDiff, Nat.reduceLT, Nat.reduceBNe, Nat.reduceGT, List.drop_nil, List.take_nil, Option.isSome_none, Int.ofNat_one, Int.ofNat_zero, hv.len, hc, hv.idx hlt, hv.load hlt, hg, c1, c2, decide_true, decide_false, BEq.rfl]
    obtain ⟨x, hx⟩ : ∃ x : Nat, l[i] = x := ⟨l[i].toNat, by omega⟩
    have hx3 : x < 3 := by omega
    have s1 := shrW (s := m) (i := x) (by omega)
    have a1 : Int.tmod ((m / 2 ^ x : Nat) : Int) 2 = ((m / 2 ^ x % 2 : Nat) : Int) := rfl
    have s2 := shlW (i := x) (by omega)
    simp only [binA] at s1 s2
    rw [hx] at hg c1 c2 ⊢
    rw [Int.toNat_natCast]
    cases c3 : bit m x
    · obtain ⟨h8, _⟩ := met_ok hm hx3 c3
      have w1 : IntKind.wrap .i64 ((m : Int) + ((2 ^ x : Nat) : Int)) = ((m + 2 ^ x : Nat) : Int) := by
        generalize hq : 2 ^ x = q at *
        rw [wrap_id (by omega) (by omega)]; rfl
      obtain ⟨i1, i2⟩ := ih (i + 1) (m + 2 ^ x) (by omega) h8
      rw [if_neg (by simp; omega)]
      refine ⟨fun q h => ?_, fun h => ?_⟩
      · have h3 := i1 q h
        simp only [SS, insA, wantedA, Opd.ev, putA, binA, eqbA, unA, fldA, partA, reduceIte, reduceCtorEq, Nat.reduceMod, Nat.reduceDiv, Nat.reduceBEq, resultA, resA, vI, Nat.reduceMul, Nat.reduceAdd, Nat.reduceSub, Nat.reduceEqDiff, Nat.reduceLT, Nat.reducePow, Nat.reduceLeDiff, st, Option.bind_eq_bind, Option.pure_def, List.length_nil, Int.cast_ofNat_Int, List.reverse_nil] at h3
        simp only [F45L0b, SS, insA, wantedA, Opd.ev, putA, binA, eqbA, unA, fldA, partA, reduceIte, reduceCtorEq, Nat.reduceMod, Nat.reduceDiv, Nat.reduceBEq, resultA, resA, vI, Nat.reduceMul, Nat.reduceAdd, Nat.reduceSub, Nat.reduceEqDiff, Nat.reduceLT, Nat.reducePow, Nat.reduceLeDiff, st, Option.bind_eq_bind, Option.pure_def, List.length_nil, Int.cast_ofNat_Int, List.reverse_nil, UU, idxP, cellsAt, storeA, fillA, zerosA, putAll, optNat, sliceA, row, Int.reduceLT, Int.reduceLE, Int.reduceGT, Int.reduceGE, Int.reduceEq, Int.reduceNe, Int.reduceToNat, Int.reduceBEq, Int.reduceBNe, Nat.reduceLeDiff, Nat.reduceLT, Nat.reduceBNe, Nat.reduceGT, List.drop_nil, List.take_nil, Option.isSome_none, Int.ofNat_one, Int.ofNat_zero, hv.len, hc, hw, hv.idx hlt, hv.load hlt, hg, c1, c2, s1, a1, n20, bit_eq, c3, s2, w1, h3, decide_false, BEq.rfl]
      · have h3 := i2 h
        simp only [SS, insA, wantedA, Opd.ev, putA, binA, eqbA, unA, fldA, partA, reduceIte, reduceCtorEq, Nat.reduceMod, Nat.reduceDiv, Nat.reduceBEq, resultA, resA, vI, Nat.reduceMul, Nat.reduceAdd, Nat.reduceSub, Nat.reduceEqDiff, Nat.reduceLT, Nat.reducePow, Nat.reduceLeDiff, st, Option.bind_eq_bind, Option.pure_def, List.length_nil, Int.cast_ofNat_Int, List.reverse_nil] at h3
        simp only [F45L0b, SS, insA, wantedA, Opd.ev, putA, binA, eqbA, unA, fldA, partA, reduceIte, reduceCtorEq, Nat.reduceMod, Nat.reduceDiv, Nat.reduceBEq, resultA, resA, vI, Nat.reduceMul, Nat.reduceAdd, Nat.reduceSub, Nat.reduceEqDiff, Nat.reduceLT, Nat.reducePow, Nat.reduceLeDiff, st, Option.bind_eq_bind, Option.pure_def, List.length_nil, Int.cast_ofNat_Int, List.reverse_nil, UU, idxP, cellsAt, storeA, fillA, zerosA, putAll, optNat, sliceA, row, Int.reduceLT, Int.reduceLE, Int.reduceGT, Int.reduceGE, Int.reduceEq, Int.reduceNe, Int.reduceToNat, Int.reduceBEq, Int.reduceBNe, Nat.reduceLeDiff, Nat.reduceLT, Nat.reduceBNe, Nat.reduceGT, List.drop_nil, List.take_nil, Option.isSome_none, Int.ofNat_one, Int.ofNat_zero, hv.len, hc, hw, hv.idx hlt, hv.load hlt, hg, c1, c2, s1, a1, n20, bit_eq, c3, s2, w1, h3, decide_false, BEq.rfl]
    · rw [if_pos (.inr (.inr rfl))]
      refine ⟨fun q h => (by cases h), fun _ => ?_⟩
      simp only [F45L0b, SS, insA, wantedA, Opd.ev, putA, binA, eqbA, unA, fldA, partA, reduceIte, reduceCtorEq, Nat.reduceMod, Nat.reduceDiv, Nat.reduceBEq, resultA, resA, vI, Nat.reduceMul, Nat.reduceAdd, Nat.reduceSub, Nat.reduceEqDiff, Nat.reduceLT, Nat.reducePow, Nat.reduceLeDiff, st, Option.bind_eq_bind, Option.pure_def, List.length_nil, Int.cast_ofNat_Int, List.reverse_nil, UU, idxP, cellsAt, storeA, fillA, zerosA, putAll, optNat, sliceA, row, Int.reduceLT, Int.reduceLE, Int.reduceGT, Int.reduceGE, Int.reduceEq, Int.reduceNe, Int.reduceToNat, Int.reduceBEq, Int.reduceBNe, Nat.reduceLeDiff, Nat.reduceLT, Nat.reduceBNe, Nat.reduceGT, List.drop_nil, List.take_nil, Option.isSome_none, Int.ofNat_one, Int.ofNat_zero, hv.len, hc, hv.idx hlt, hv.load hlt, hg, c1, c2, s1, a1, n20, bit_eq, c3, decide_false, BEq.rfl]

theorem order45 {v : AV} {l : List Int} {n : Nat} (hv : IsRow v l) (hl : l.length ≤ 20) (hn : n ≤ 3) : freeX H (callL E2 Y 45 [vI n, v] []) = some (.bool (isOrd n l), H) := by
  obtain ⟨i1, i2⟩ := L45 (Y := Y) (H := []) hv hl hn l.length 0 0 (by omega) (by omega)
  rw [List.drop_zero] at i1 i2
  rw [call45 rfl]
  unfold isOrd
  cases hq : runQ n 0 l with
  | none =>
    have h := i2 hq
    simp only [SS, insA, wantedA, Opd.ev, putA, binA, eqbA, unA, fldA, partA, reduceIte, reduceCtorEq, Nat.reduceMod, Nat.reduceDiv, Nat.reduceBEq, resultA, resA, vI, Nat.reduceMul, Nat.reduceAdd, Nat.reduceSub, Nat.reduceEqDiff, Nat.reduceLT, Nat.reducePow, Nat.reduceLeDiff, st, Option.bind_eq_bind, Option.pure_def, List.length_nil, Int.cast_ofNat_Int, List.reverse_nil, Int.ofNat_zero] at h
    simp only [F45B, F45T0, in45_0, SS, insA, wantedA, Opd.ev, putA, binA, eqbA, unA, fldA, partA, reduceIte, reduceCtorEq, Nat.reduceMod, Nat.reduceDiv, Nat.reduceBEq, resultA, resA, vI, Nat.reduceMul, Nat.reduceAdd, Nat.reduceSub, Nat.reduceEqDiff, Nat.reduceLT, Nat.reducePow, Nat.reduceLeDiff, st, Option.bind_eq_bind, Option.pure_def, List.length_nil, Int.cast_ofNat_Int, List.reverse_nil, UU, idxP, cellsAt, storeA, fillA, zerosA, putAll, optNat, sliceA, row, Int.reduceLT, Int.reduceLE, Int.reduceGT, Int.reduceGE, Int.reduceEq, Int.reduceNe, Int.reduceToNat, Int.reduceBEq, Int.reduceBNe, Nat.reduceLeDiff, Nat.reduceLT, Nat.reduceBNe, Nat.reduceGT, List.drop_nil, List.take_nil, Option.isSome_none, Int.ofNat_one, Int.ofNat_zero, h, Option.isSome_none, Bool.and_false]
  | some q =>
    have h := i1 q hq
    simp only [SS, insA, wantedA, Opd.ev, putA, binA, eqbA, unA, fldA, partA, reduceIte, reduceCtorEq, Nat.reduceMod, Nat.reduceDiv, Nat.reduceBEq, resultA, resA, vI, Nat.reduceMul, Nat.reduceAdd, Nat.reduceSub, Nat.reduceEqDiff, Nat.reduceLT, Nat.reducePow, Nat.reduceLeDiff, st, Option.bind_eq_bind, Option.pure_def, List.length_nil, Int.cast_ofNat_Int, List.reverse_nil, Int.ofNat_zero] at h
    by_cases c : l.length = n
    · have c' : ((l.length : Int) == (n : Int)) = true := by simp; omega
      simp only [F45B, F45T0, in45_0, SS, insA, wantedA, Opd.ev, putA, binA, eqbA, unA, fldA, partA, reduceIte, reduceCtorEq, Nat.reduceMod, Nat.reduceDiv, Nat.reduceBEq, resultA, resA, vI, Nat.reduceMul, Nat.reduceAdd, Nat.reduceSub, Nat.reduceEqDiff, Nat.reduceLT, Nat.reducePow, Nat.reduceLeDiff, st, Option.bind_eq_bind, Option.pure_def, List.length_nil, Int.cast_ofNat_Int, List.reverse_nil, UU, idxP, cellsAt, storeA, fillA, zerosA, putAll, optNat, sliceA, row, Int.reduceLT, Int.reduceLE, Int.reduceGT, Int.reduceGE, Int.reduceEq, Int.reduceNe, Int.reduceToNat, Int.reduceBEq, Int.reduceBNe, Nat.reduceLeDiff, Nat.reduceLT, Nat.reduceBNe, Nat.reduceGT, List.drop_nil, List.take_nil, Option.isSome_none, Int.ofNat_one, Int.ofNat_zero, hv.len, h, c', c, Option.isSome_some, Bool.and_true, decide_true]
    · have c' : ((l.length : Int) == (n : Int)) = false := by simp; omega
      simp only [F45B, F45T0, in45_0, SS, insA, wantedA, Opd.ev, putA, binA, eqbA, unA, fldA, partA, reduceIte, reduceCtorEq, Nat.reduceMod, Nat.reduceDiv, Nat.reduceBEq, resultA, resA, vI, Nat.reduceMul, Nat.reduceAdd, Nat.reduceSub, Nat.reduceEqDiff, Nat.reduceLT, Nat.reducePow, Nat.reduceLeDiff, st, Option.bind_eq_bind, Option.pure_def, List.length_nil, Int.cast_ofNat_Int, List.reverse_nil, UU, idxP, cellsAt, storeA, fillA, zerosA, putAll, optNat, sliceA, row, Int.reduceLT, Int.reduceLE, Int.reduceGT, Int.reduceGE, Int.reduceEq, Int.reduceNe, Int.reduceToNat, Int.reduceBEq, Int.reduceBNe, Nat.reduceLeDiff, Nat.reduceLT, Nat.reduceBNe, Nat.reduceGT, List.drop_nil, List.take_nil, Option.isSome_none, Int.ofNat_one, Int.ofNat_zero, hv.len, h, c', c, Option.isSome_some, Bool.and_true, decide_false]

theorem L42 {vt v : AV} {t : List (List Int)} {l : List Int} (ht : IsTab vt t) (hv : IsRow v l) (hl : l.length ≤ 20) (hn : t.length ≤ 3) (d : Nat) : ∀ (i m : Nat), i + d = l.length → m < 8 →
    (∀ q, runQ t.length m (l.drop i) = some q → lp E2 Y F42L0 (st 86 [(0, vt), (1, v), (8, vI m), (31, v), (32, vI l.length), (33, vI i)]) H = some (.x 0, st 86 [(0, vt), (1, v)], H)) ∧
    (runQ t.length m (l.drop i) = none → lp E2 Y F42L0 (st 86 [(0, vt), (1, v), (8, vI m), (31, v), (32, vI l.length), (33, vI i)]) H = some (.r, st 86 [(4, .nils), (5, vI 2)], H)) := by
  induction d with
  | zero =>
    intro i m hi hm
    rw [List.drop_eq_nil_of_le (by omega)]
    refine ⟨fun q _ => ?_, fun h => by cases h⟩
    rw [un42_0]
    have : ¬ ((i : Int) < (l.length : Int)) := by omega
    simp only [F42L0b, SS, insA, wantedA, Opd.ev, putA, binA, eqbA, unA, fldA, partA, reduceIte, reduceCtorEq, Nat.reduceMod, Nat.reduceDiv, Nat.reduceBEq, resultA, resA, vI, Nat.reduceMul, Nat.reduceAdd, Nat.reduceSub, Nat.reduceEqDiff, Nat.reduceLT, Nat.reducePow, Nat.reduceLeDiff, st, Option.bind_eq_bind, Option.pure_def, List.length_nil, Int.cast_ofNat_Int, List.reverse_nil, UU, idxP, cellsAt, storeA, fillA, zerosA, putAll, optNat, sliceA, row, Int.reduceLT, Int.reduceLE, Int.reduceGT, Int.reduceGE, Int.reduceEq, Int.reduceNe, Int.reduceToNat, Int.reduceBEq, Int.reduceBNe, Nat.reduceLeDiff, Nat.reduceLT, Nat.reduceBNe, Nat.reduceGT, List.drop_nil, List.take_nil, Option.isSome_none, Int.ofNat_one, Int.ofNat_zero, this]
  | succ d ih =>
    intro i m hi hm
    have hlt : i < l.length := by omega
    have hc : (i : Int) < (l.length : Int) := by omega
    have hw := wrap_succ (n := i) (by omega)
    have hg : l.getD i 0 = l[i] := by simp [List.getD_eq_getElem?_getD, hlt]
    rw [un42_0, List.drop_eq_getElem_cons hlt, runQ]
    by_cases c1 : l[i] < 0
    · rw [if_pos (.inl c1)]
      refine ⟨fun q h => (by cases h), fun _ => ?_⟩
      simp only [F42L0b, SS, insA, wantedA, Opd.ev, putA, binA, eqbA, unA, fldA, partA, reduceIte, reduceCtorEq, Nat.reduceMod, Nat.reduceDiv, Nat.reduceBEq, resultA, resA, vI, Nat.reduceMul, Nat.reduceAdd, Nat.reduceSub, Nat.reduceEqDiff, Nat.reduceLT, Nat.reducePow, Nat.reduceLeDiff, st, Option.bind_eq_bind, Option.pure_def, List.length_nil, Int.cast_ofNat_Int, List.reverse_nil, UU, idxP, cellsAt, storeA, fillA, zerosA, putAll, optNat, sliceA, row, Int.reduceLT, Int.reduceLE, Int.reduceGT, Int.reduceGE, Int.reduceEq, Int.reduceNe, Int.reduceToNat, Int.reduceBEq, Int.reduceBNe, Nat.reduceLeDiff, Nat.reduceLT, Nat.reduceBNe, Nat.reduceGT, List.drop_nil, List.take_nil, Option.isSome_none, Int.ofNat_one, Int.ofNat_zero, ht.len, hc, hv.idx hlt, hv.load hlt, hg, c1, decide_true, BEq.rfl]
    by_cases c2 : l[i] ≥ (t.length : Int)
    · rw [if_pos (.inr (.inl c2))]
      refine ⟨fun q h => (by cases h), fun _ => ?_⟩
      simp only [F42L0b, SS, insA, wantedA, Opd.ev, putA, binA, eqbA, unA, fldA, partA, reduceIte, reduceCtorEq, Nat.reduceMod, Nat.reduceDiv, Nat.reduceBEq, resultA, resA, vI, Nat.reduceMul, Nat.reduceAdd, Nat.reduceSub, Nat.reduceEqDiff, Nat.reduceLT, Nat.reducePow, Nat.reduceLeDiff, st, Option.bind_eq_bind, Option.pure_def, List.length_nil, Int.cast_ofNat_Int, List.reverse_nil, UU, idxP, cellsAt, storeA, fillA, zerosA, putAll, optNat, sliceA, row, Int.reduceLT, Int.reduceLE, Int.reduceGT, Int.reduceGE, Int.reduceEq, Int.reduceNe, Int.reduceToNat, Int.reduceBEq, Int.reduceBNe, Nat.reduceLeDiff, Nat.reduceLT, Nat.reduceBNe, Nat.reduceGT, List.drop_nil, List.take_nil, Option.isSome_none, Int.ofNat_one, Int.ofNat_zero, ht.len, hc, hv.idx hlt, hv.load hlt, hg, c1, c2, decide_true, decide_false, BEq.rfl]
    obtain ⟨x, hx⟩ : ∃ x : Nat, l[i] = x := ⟨l[i].toNat, by omega⟩
    have hx3 : x < 3 := by omega
    have s1 := shrW (s := m) (i := x) (by omega)
    have a1 := and1W (s := m / 2 ^ x) (Nat.lt_of_le_of_lt (Nat.div_le_self _ _) (by omega))
    have s2 := shlW (i := x) (by omega)
    rw [hx] at hg c1 c2 ⊢
    rw [Int.toNat_natCast]
    cases c3 : bit m x
    · obtain ⟨h8, _⟩ := met_ok hm hx3 c3
      have s3 := orM hm hx3 c3
      obtain ⟨i1, i2⟩ := ih (i + 1) (m + 2 ^ x) (by omega) h8
      rw [if_neg (by simp; omega)]
      simp only [binA] at s1 s2 s3 a1
      refine ⟨fun q h => ?_, fun h => ?_⟩
      · have h3 := i1 q h
        simp only [SS, insA, wantedA, Opd.ev, putA, binA, eqbA, unA, fldA, partA, reduceIte, reduceCtorEq, Nat.reduceMod, Nat.reduceDiv, Nat.reduceBEq, resultA, resA, vI, Nat.reduceMul, Nat.reduceAdd, Nat.reduceSub, Nat.reduceEqDiff, Nat.reduceLT, Nat.reducePow, Nat.reduceLeDiff, st, Option.bind_eq_bind, Option.pure_def, List.length_nil, Int.cast_ofNat_Int, List.reverse_nil] at h3
        simp only [F42L0b, SS, insA, wantedA, Opd.ev, putA, binA, eqbA, unA, fldA, partA, reduceIte, reduceCtorEq, Nat.reduceMod, Nat.reduceDiv, Nat.reduceBEq, resultA, resA, vI, Nat.reduceMul, Nat.reduceAdd, Nat.reduceSub, Nat.reduceEqDiff, Nat.reduceLT, Nat.reducePow, Nat.reduceLeDiff, st, Option.bind_eq_bind, Option.pure_def, List.length_nil, Int.cast_ofNat_Int, List.reverse_nil, UU, idxP, cellsAt, storeA, fillA, zerosA, putAll, optNat, sliceA, row, Int.reduceLT, Int.reduceLE, Int.reduceGT, Int.reduceGE, Int.reduceEq, Int.reduceNe, Int.reduceToNat, Int.reduceBEq, Int.reduceBNe, Nat.reduceLeDiff, Nat.reduceLT, Nat.reduceBNe, Nat.reduceGT, List.drop_nil, List.take_nil, Option.isSome_none, Int.ofNat_one, Int.ofNat_zero, ht.len, hc, hw, hv.idx hlt, hv.load hlt, hg, c1, c2, s1, a1, bit_eq, c3, s2, s3, h3, decide_false, BEq.rfl]
      · have h3 := i2 h
        simp only [SS, insA, wantedA, Opd.ev, putA, binA, eqbA, unA, fldA, partA, reduceIte, reduceCtorEq, Nat.reduceMod, Nat.reduceDiv, Nat.reduceBEq, resultA, resA, vI, Nat.reduceMul, Nat.reduceAdd, Nat.reduceSub, Nat.reduceEqDiff, Nat.reduceLT, Nat.reducePow, Nat.reduceLeDiff, st, Option.bind_eq_bind, Option.pure_def, List.length_nil, Int.cast_ofNat_Int, List.reverse_nil] at h3
        simp only [F42L0b, SS, insA, wantedA, Opd.ev, putA, binA, eqbA, unA, fldA, partA, reduceIte, reduceCtorEq, Nat.reduceMod, Nat.reduceDiv, Nat.reduceBEq, resultA, resA, vI, Nat.reduceMul, Nat.reduceAdd, Nat.reduceSub, Nat.reduceEqDiff, Nat.reduceLT, Nat.reducePow, Nat.reduceLeDiff, st, Option.bind_eq_bind, Option.pure_def, List.length_nil, Int.cast_ofNat_Int, List.reverse_nil, UU, idxP, cellsAt, storeA, fillA, zerosA, putAll, optNat, sliceA, row, Int.reduceLT, Int.reduceLE, Int.reduceGT, Int.reduceGE, Int.reduceEq, Int.reduceNe, Int.reduceToNat, Int.reduceBEq, Int.reduceBNe, Nat.reduceLeDiff, Nat.reduceLT, Nat.reduceBNe, Nat.reduceGT, List.drop_nil, List.take_nil, Option.isSome_none, Int.ofNat_one, Int.ofNat_zero, ht.len, hc, hw, hv.idx hlt, hv.load hlt, hg, c1, c2, s1, a1, bit_eq, c3, s2, s3, h3, decide_false, BEq.rfl]
    · rw [if_pos (.inr (.inr rfl))]
      simp only [binA] at s1 s2 a1
      refine ⟨fun q h => (by cases h), fun _ => ?_⟩
      simp only [F42L0b, SS, insA, wantedA, Opd.ev, putA, binA, eqbA, unA, fldA, partA, reduceIte, reduceCtorEq, Nat.reduceMod, Nat.reduceDiv, Nat.reduceBEq, resultA, resA, vI, Nat.reduceMul, Nat.reduceAdd, Nat.reduceSub, Nat.reduceEqDiff, Nat.reduceLT, Nat.reducePow, Nat.reduceLeDiff, st, Option.bind_eq_bind, Option.pure_def, List.length_nil, Int.cast_ofNat_Int, List.reverse_nil, UU, idxP, cellsAt, storeA, fillA, zerosA, putAll, optNat, sliceA, row, Int.reduceLT, Int.reduceLE, Int.reduceGT, Int.reduceGE, Int.reduceEq, Int.reduceNe, Int.reduceToNat, Int.reduceBEq, Int.reduceBNe, Nat.reduceLeDiff, Nat.reduceLT, Nat.reduceBNe, Nat.reduceGT, List.drop_nil, List.take_nil, Option.isSome_none, Int.ofNat_one, Int.ofNat_zero, ht.len, hc, hv.idx hlt, hv.load hlt, hg, c1, c2, s1, a1, bit_eq, c3, decide_false, BEq.rfl]

/-- A table with renamed fashions. -/
def renT (t : List (List Int)) (l : List Int) : List (List Int) := l.map fun i => l.map fun k => tat t i.toNat k.toNat
/-- The orders of up to three fashions. -/
theorem orders {n : Nat} {l : List Int} (h : isOrd n l = true) (h1 : 1 ≤ n) (hn : n ≤ 3) : (n = 1 ∧ l = [0]) ∨ (n = 2 ∧ (l = [0, 1] ∨ l = [1, 0])) ∨ (n = 3 ∧ (l = [0, 1, 2] ∨ l = [0, 2, 1] ∨ l = [1, 0, 2] ∨ l = [1, 2, 0] ∨ l = [2, 0, 1] ∨ l = [2, 1, 0])) := by
  simp only [isOrd, Bool.and_eq_true, decide_eq_true_eq] at h
  obtain ⟨hl, hr⟩ := h
  have step : ∀ {m : Nat} {x : Int} {l : List Int}, (runQ n m (x :: l)).isSome = true → 0 ≤ x ∧ x < n ∧ bit m x.toNat = false ∧ (runQ n (m + 2 ^ x.toNat) l).isSome = true := by
    intro m x l h
    rw [runQ] at h
    split at h
    · cases h
    · rename_i hc
      have hb : bit m x.toNat = false := by
        cases hb : bit m x.toNat with
        | false => rfl
        | true => exact absurd (.inr (.inr hb)) hc
      exact ⟨by omega, by omega, hb, h⟩
  rcases (show n = 1 ∨ n = 2 ∨ n = 3 by omega) with rfl | rfl | rfl
  · match l, hl with
    | [x], _ =>
      obtain ⟨a1, a2, _, _⟩ := step hr
      obtain rfl : x = 0 := by omega
      exact .inl ⟨rfl, rfl⟩
  · match l, hl with
    | [x, y], _ =>
      obtain ⟨a1, a2, _, hr⟩ := step hr
      obtain ⟨b1, b2, hb, _⟩ := step hr
      refine .inr (.inl ⟨rfl, ?_⟩)
      rcases (show x = 0 ∨ x = 1 by omega) with rfl | rfl <;> rcases (show y = 0 ∨ y = 1 by omega) with rfl | rfl
      · exact absurd hb (by decide)
      · exact .inl rfl
      · exact .inr rfl
      · exact absurd hb (by decide)
  · match l, hl with
    | [x, y, z], _ =>
      obtain ⟨a1, a2, _, hr⟩ := step hr
      obtain ⟨b1, b2, hb, hr⟩ := step hr
      obtain ⟨c1, c2, hc, _⟩ := step hr
      refine .inr (.inr ⟨rfl, ?_⟩)
      rcases (show x = 0 ∨ x = 1 ∨ x = 2 by omega) with rfl | rfl | rfl <;> rcases (show y = 0 ∨ y = 1 ∨ y = 2 by omega) with rfl | rfl | rfl <;> first | exact absurd hb (by decide) | skip
      all_goals
        rcases (show z = 0 ∨ z = 1 ∨ z = 2 by omega) with rfl | rfl | rfl <;> first | exact absurd hc (by decide) | simp

theorem runS {E : Nat → Option XF} {k : Nat} {res : List Res} {c : XC} {fr : List AV} {H0 : Heap} {r : AV × Heap} (h : freeX H (endX res (codeX E Y k c fr H0)) = some r) : freeX H (endX res (codeL E Y c fr H0)) = some r := by
  cases hc : codeX E Y k c fr H0 with
  | none => rw [hc] at h; cases h
  | some q => rw [codeL_iff.2 ⟨k, hc⟩]; rw [hc] at h; exact h

theorem r42_0 {s s0 so : Bool} {a : Int} : freeX H (endX [.tmp 4, .tmp 5] (codeL E2 Y (tailC 5 F42B) (sp 86 [(1, .imm so [vI 0] 1), (0, .imm s [.imm s0 [vI a] 1] 1)]) [])) = some (.tup [.imm false [.imm false [vI a] 1] 1, vI 0], H) :=
  runS (k := 400) (by kernel_rfl)
theorem r43_0 {s s0 so : Bool} {a : Int} : freeX H (endX [.tmp 4, .tmp 5] (codeL E2 Y (tailC 2 F43B) (sp 53 [(19, .bool false), (18, .bool false), (17, .bool true), (16, .imm so [vI 0] 1), (15, vI 1), (14, .imm s [.imm s0 [vI a] 1] 1), (13, .bool false), (12, .bool false), (11, .bool true), (10, .imm s [.imm s0 [vI a] 1] 1), (5, vI 0), (4, .nils), (1, .imm so [vI 0] 1), (0, .imm s [.imm s0 [vI a] 1] 1)]) [])) = some (.tup [.imm false [.imm false [vI a] 1] 1, vI 0], H) :=
  runS (k := 400) (by kernel_rfl)
theorem r42_01 {s s0 s1 so : Bool} {a b c d : Int} : freeX H (endX [.tmp 4, .tmp 5] (codeL E2 Y (tailC 5 F42B) (sp 86 [(1, .imm so [vI 0, vI 1] 2), (0, .imm s [.imm s0 [vI a, vI b] 2, .imm s1 [vI c, vI d] 2] 2)]) [])) = some (.tup [.imm false [.imm false [vI a, vI b] 2, .imm false [vI c, vI d] 2] 2, vI 0], H) :=
  runS (k := 400) (by kernel_rfl)
theorem r43_01 {s s0 s1 so : Bool} {a b c d : Int} : freeX H (endX [.tmp 4, .tmp 5] (codeL E2 Y (tailC 2 F43B) (sp 53 [(19, .bool false), (18, .bool false), (17, .bool true), (16, .imm so [vI 0, vI 1] 2), (15, vI 2), (14, .imm s [.imm s0 [vI a, vI b] 2, .imm s1 [vI c, vI d] 2] 2), (13, .bool false), (12, .bool false), (11, .bool true), (10, .imm s [.imm s0 [vI a, vI b] 2, .imm s1 [vI c, vI d] 2] 2), (5, vI 0), (4, .nils), (1, .imm so [vI 0, vI 1] 2), (0, .imm s [.imm s0 [vI a, vI b] 2, .imm s1 [vI c, vI d] 2] 2)]) [])) = some (.tup [.imm false [.imm false [vI a, vI b] 2, .imm false [vI c, vI d] 2] 2, vI 0], H) :=
  runS (k := 400) (by kernel_rfl)
theorem r42_10 {s s0 s1 so : Bool} {a b c d : Int} : freeX H (endX [.tmp 4, .tmp 5] (codeL E2 Y (tailC 5 F42B) (sp 86 [(1, .imm so [vI 1, vI 0] 2), (0, .imm s [.imm s0 [vI a, vI b] 2, .imm s1 [vI c, vI d] 2] 2)]) [])) = some (.tup [.imm false [.imm false [vI d, vI c] 2, .imm false [vI b, vI a] 2] 2, vI 0], H) :=
  runS (k := 400) (by kernel_rfl)
theorem r43_10 {s s0 s1 so : Bool} {a b c d : Int} : freeX H (endX [.tmp 4, .tmp 5] (codeL E2 Y (tailC 2 F43B) (sp 53 [(19, .bool false), (18, .bool false), (17, .bool true), (16, .imm so [vI 1, vI 0] 2), (15, vI 2), (14, .imm s [.imm s0 [vI a, vI b] 2, .imm s1 [vI c, vI d] 2] 2), (13, .bool false), (12, .bool false), (11, .bool true), (10, .imm s [.imm s0 [vI a, vI b] 2, .imm s1 [vI c, vI d] 2] 2), (5, vI 0), (4, .nils), (1, .imm so [vI 1, vI 0] 2), (0, .imm s [.imm s0 [vI a, vI b] 2, .imm s1 [vI c, vI d] 2] 2)]) [])) = some (.tup [.imm false [.imm false [vI d, vI c] 2, .imm false [vI b, vI a] 2] 2, vI 0], H) :=
  runS (k := 400) (by kernel_rfl)
theorem r42_012 {s s0 s1 s2 so : Bool} {a b c d e f g h i : Int} : freeX H (endX [.tmp 4, .tmp 5] (codeL E2 Y (tailC 5 F42B) (sp 86 [(1, .imm so [vI 0, vI 1, vI 2] 3), (0, .imm s [.imm s0 [vI a, vI b, vI c] 3, .imm s1 [vI d, vI e, vI f] 3, .imm s2 [vI g, vI h, vI i] 3] 3)]) [])) = some (.tup [.imm false [.imm false [vI a, vI b, vI c] 3, .imm false [vI d, vI e, vI f] 3, .imm false [vI g, vI h, vI i] 3] 3, vI 0], H) :=
  runS (k := 400) (by kernel_rfl)
theorem r43_012 {s s0 s1 s2 so : Bool} {a b c d e f g h i : Int} : freeX H (endX [.tmp 4, .tmp 5] (codeL E2 Y (tailC 2 F43B) (sp 53 [(19, .bool false), (18, .bool false), (17, .bool true), (16, .imm so [vI 0, vI 1, vI 2] 3), (15, vI 3), (14, .imm s [.imm s0 [vI a, vI b, vI c] 3, .imm s1 [vI d, vI e, vI f] 3, .imm s2 [vI g, vI h, vI i] 3] 3), (13, .bool false), (12, .bool false), (11, .bool true), (10, .imm s [.imm s0 [vI a, vI b, vI c] 3, .imm s1 [vI d, vI e, vI f] 3, .imm s2 [vI g, vI h, vI i] 3] 3), (5, vI 0), (4, .nils), (1, .imm so [vI 0, vI 1, vI 2] 3), (0, .imm s [.imm s0 [vI a, vI b, vI c] 3, .imm s1 [vI d, vI e, vI f] 3, .imm s2 [vI g, vI h, vI i] 3] 3)]) [])) = some (.tup [.imm false [.imm false [vI a, vI b, vI c] 3, .imm false [vI d, vI e, vI f] 3, .imm false [vI g, vI h, vI i] 3] 3, vI 0], H) :=
  runS (k := 400) (by kernel_rfl)
theorem r42_021 {s s0 s1 s2 so : Bool} {a b c d e f g h i : Int} : freeX H (endX [.tmp 4, .tmp 5] (codeL E2 Y (tailC 5 F42B) (sp 86 [(1, .imm so [vI 0, vI 2, vI 1] 3), (0, .imm s [.imm s0 [vI a, vI b, vI c] 3, .imm s1 [vI d, vI e, vI f] 3, .imm s2 [vI g, vI h, vI i] 3] 3)]) [])) = some (.tup [.imm false [.imm false [vI a, vI c, vI b] 3, .imm false [vI g, vI i, vI h] 3, .imm false [vI d, vI f, vI e] 3] 3, vI 0], H) :=
  runS (k := 400) (by kernel_rfl)
theorem r43_021 {s s0 s1 s2 so : Bool} {a b c d e f g h i : Int} : freeX H (endX [.tmp 4, .tmp 5] (codeL E2 Y (tailC 2 F43B) (sp 53 [(19, .bool false), (18, .bool false), (17, .bool true), (16, .imm so [vI 0, vI 2, vI 1] 3), (15, vI 3), (14, .imm s [.imm s0 [vI a, vI b, vI c] 3, .imm s1 [vI d, vI e, vI f] 3, .imm s2 [vI g, vI h, vI i] 3] 3), (13, .bool false), (12, .bool false), (11, .bool true), (10, .imm s [.imm s0 [vI a, vI b, vI c] 3, .imm s1 [vI d, vI e, vI f] 3, .imm s2 [vI g, vI h, vI i] 3] 3), (5, vI 0), (4, .nils), (1, .imm so [vI 0, vI 2, vI 1] 3), (0, .imm s [.imm s0 [vI a, vI b, vI c] 3, .imm s1 [vI d, vI e, vI f] 3, .imm s2 [vI g, vI h, vI i] 3] 3)]) [])) = some (.tup [.imm false [.imm false [vI a, vI c, vI b] 3, .imm false [vI g, vI i, vI h] 3, .imm false [vI d, vI f, vI e] 3] 3, vI 0], H) :=
  runS (k := 400) (by kernel_rfl)
theorem r42_102 {s s0 s1 s2 so : Bool} {a b c d e f g h i : Int} : freeX H (endX [.tmp 4, .tmp 5] (codeL E2 Y (tailC 5 F42B) (sp 86 [(1, .imm so [vI 1, vI 0, vI 2] 3), (0, .imm s [.imm s0 [vI a, vI b, vI c] 3, .imm s1 [vI d, vI e, vI f] 3, .imm s2 [vI g, vI h, vI i] 3] 3)]) [])) = some (.tup [.imm false [.imm false [vI e, vI d, vI f] 3, .imm false [vI b, vI a, vI c] 3, .imm false [vI h, vI g, vI i] 3] 3, vI 0], H) :=
  runS (k := 400) (by kernel_rfl)
theorem r43_102 {s s0 s1 s2 so : Bool} {a b c d e f g h i : Int} : freeX H (endX [.tmp 4, .tmp 5] (codeL E2 Y (tailC 2 F43B) (sp 53 [(19, .bool false), (18, .bool false), (17, .bool true), (16, .imm so [vI 1, vI 0, vI 2] 3), (15, vI 3), (14, .imm s [.imm s0 [vI a, vI b, vI c] 3, .imm s1 [vI d, vI e, vI f] 3, .imm s2 [vI g, vI h, vI i] 3] 3), (13, .bool false), (12, .bool false), (11, .bool true), (10, .imm s [.imm s0 [vI a, vI b, vI c] 3, .imm s1 [vI d, vI e, vI f] 3, .imm s2 [vI g, vI h, vI i] 3] 3), (5, vI 0), (4, .nils), (1, .imm so [vI 1, vI 0, vI 2] 3), (0, .imm s [.imm s0 [vI a, vI b, vI c] 3, .imm s1 [vI d, vI e, vI f] 3, .imm s2 [vI g, vI h, vI i] 3] 3)]) [])) = some (.tup [.imm false [.imm false [vI e, vI d, vI f] 3, .imm false [vI b, vI a, vI c] 3, .imm false [vI h, vI g, vI i] 3] 3, vI 0], H) :=
  runS (k := 400) (by kernel_rfl)
theorem r42_120 {s s0 s1 s2 so : Bool} {a b c d e f g h i : Int} : freeX H (endX [.tmp 4, .tmp 5] (codeL E2 Y (tailC 5 F42B) (sp 86 [(1, .imm so [vI 1, vI 2, vI 0] 3), (0, .imm s [.imm s0 [vI a, vI b, vI c] 3, .imm s1 [vI d, vI e, vI f] 3, .imm s2 [vI g, vI h, vI i] 3] 3)]) [])) = some (.tup [.imm false [.imm false [vI e, vI f, vI d] 3, .imm false [vI h, vI i, vI g] 3, .imm false [vI b, vI c, vI a] 3] 3, vI 0], H) :=
  runS (k := 400) (by kernel_rfl)
theorem r43_120 {s s0 s1 s2 so : Bool} {a b c d e f g h i : Int} : freeX H (endX [.tmp 4, .tmp 5] (codeL E2 Y (tailC 2 F43B) (sp 53 [(19, .bool false), (18, .bool false), (17, .bool true), (16, .imm so [vI 1, vI 2, vI 0] 3), (15, vI 3), (14, .imm s [.imm s0 [vI a, vI b, vI c] 3, .imm s1 [vI d, vI e, vI f] 3, .imm s2 [vI g, vI h, vI i] 3] 3), (13, .bool false), (12, .bool false), (11, .bool true), (10, .imm s [.imm s0 [vI a, vI b, vI c] 3, .imm s1 [vI d, vI e, vI f] 3, .imm s2 [vI g, vI h, vI i] 3] 3), (5, vI 0), (4, .nils), (1, .imm so [vI 1, vI 2, vI 0] 3), (0, .imm s [.imm s0 [vI a, vI b, vI c] 3, .imm s1 [vI d, vI e, vI f] 3, .imm s2 [vI g, vI h, vI i] 3] 3)]) [])) = some (.tup [.imm false [.imm false [vI e, vI f, vI d] 3, .imm false [vI h, vI i, vI g] 3, .imm false [vI b, vI c, vI a] 3] 3, vI 0], H) :=
  runS (k := 400) (by kernel_rfl)
theorem r42_201 {s s0 s1 s2 so : Bool} {a b c d e f g h i : Int} : freeX H (endX [.tmp 4, .tmp 5] (codeL E2 Y (tailC 5 F42B) (sp 86 [(1, .imm so [vI 2, vI 0, vI 1] 3), (0, .imm s [.imm s0 [vI a, vI b, vI c] 3, .imm s1 [vI d, vI e, vI f] 3, .imm s2 [vI g, vI h, vI i] 3] 3)]) [])) = some (.tup [.imm false [.imm false [vI i, vI g, vI h] 3, .imm false [vI c, vI a, vI b] 3, .imm false [vI f, vI d, vI e] 3] 3, vI 0], H) :=
  runS (k := 400) (by kernel_rfl)
theorem r43_201 {s s0 s1 s2 so : Bool} {a b c d e f g h i : Int} : freeX H (endX [.tmp 4, .tmp 5] (codeL E2 Y (tailC 2 F43B) (sp 53 [(19, .bool false), (18, .bool false), (17, .bool true), (16, .imm so [vI 2, vI 0, vI 1] 3), (15, vI 3), (14, .imm s [.imm s0 [vI a, vI b, vI c] 3, .imm s1 [vI d, vI e, vI f] 3, .imm s2 [vI g, vI h, vI i] 3] 3), (13, .bool false), (12, .bool false), (11, .bool true), (10, .imm s [.imm s0 [vI a, vI b, vI c] 3, .imm s1 [vI d, vI e, vI f] 3, .imm s2 [vI g, vI h, vI i] 3] 3), (5, vI 0), (4, .nils), (1, .imm so [vI 2, vI 0, vI 1] 3), (0, .imm s [.imm s0 [vI a, vI b, vI c] 3, .imm s1 [vI d, vI e, vI f] 3, .imm s2 [vI g, vI h, vI i] 3] 3)]) [])) = some (.tup [.imm false [.imm false [vI i, vI g, vI h] 3, .imm false [vI c, vI a, vI b] 3, .imm false [vI f, vI d, vI e] 3] 3, vI 0], H) :=
  runS (k := 400) (by kernel_rfl)
theorem r42_210 {s s0 s1 s2 so : Bool} {a b c d e f g h i : Int} : freeX H (endX [.tmp 4, .tmp 5] (codeL E2 Y (tailC 5 F42B) (sp 86 [(1, .imm so [vI 2, vI 1, vI 0] 3), (0, .imm s [.imm s0 [vI a, vI b, vI c] 3, .imm s1 [vI d, vI e, vI f] 3, .imm s2 [vI g, vI h, vI i] 3] 3)]) [])) = some (.tup [.imm false [.imm false [vI i, vI h, vI g] 3, .imm false [vI f, vI e, vI d] 3, .imm false [vI c, vI b, vI a] 3] 3, vI 0], H) :=
  runS (k := 400) (by kernel_rfl)
theorem r43_210 {s s0 s1 s2 so : Bool} {a b c d e f g h i : Int} : freeX H (endX [.tmp 4, .tmp 5] (codeL E2 Y (tailC 2 F43B) (sp 53 [(19, .bool false), (18, .bool false), (17, .bool true), (16, .imm so [vI 2, vI 1, vI 0] 3), (15, vI 3), (14, .imm s [.imm s0 [vI a, vI b, vI c] 3, .imm s1 [vI d, vI e, vI f] 3, .imm s2 [vI g, vI h, vI i] 3] 3), (13, .bool false), (12, .bool false), (11, .bool true), (10, .imm s [.imm s0 [vI a, vI b, vI c] 3, .imm s1 [vI d, vI e, vI f] 3, .imm s2 [vI g, vI h, vI i] 3] 3), (5, vI 0), (4, .nils), (1, .imm so [vI 2, vI 1, vI 0] 3), (0, .imm s [.imm s0 [vI a, vI b, vI c] 3, .imm s1 [vI d, vI e, vI f] 3, .imm s2 [vI g, vI h, vI i] 3] 3)]) [])) = some (.tup [.imm false [.imm false [vI i, vI h, vI g] 3, .imm false [vI f, vI e, vI d] 3, .imm false [vI c, vI b, vI a] 3] 3, vI 0], H) :=
  runS (k := 400) (by kernel_rfl)

theorem tabv (ls : List (List Int)) : IsTab (.imm false (ls.map fun l => .imm false (l.map vI) l.length) ls.length) ls := by
  refine .imm false _ ls (by simp) fun i hi => ?_
  have : (ls.map fun l => AV.imm false (l.map vI) l.length).getD i .undef = .imm false ((ls.getD i []).map vI) (ls.getD i []).length := by
    simp [List.getD_eq_getElem?_getD, hi]
  rw [this]
  exact .imm false _

/-- The program's and the specification's last parts. -/
def U42 : XC := tailC 5 F42B
def U43 : XC := tailC 2 F43B

theorem rest42 {vt v : AV} {t : List (List Int)} {l : List Int} (ht : IsTab vt t) (hok : okTab t) (hv : IsRow v l) (h : isOrd t.length l = true) :
    ∃ w, IsTab w (renT t l) ∧ (∀ H, freeX H (endX [.tmp 4, .tmp 5] (codeL E2 Y U42 (sp 86 [(1, v), (0, vt)]) [])) = some (.tup [w, vI 0], H)) ∧ (∀ H, freeX H (endX [.tmp 4, .tmp 5] (codeL E2 Y U43 (sp 53 [(19, .bool false), (18, .bool false), (17, .bool true), (16, v), (15, vI t.length), (14, vt), (13, .bool false), (12, .bool false), (11, .bool true), (10, vt), (5, vI 0), (4, .nils), (1, v), (0, vt)]) [])) = some (.tup [w, vI 0], H)) := by
  have hn := hok.2.1
  rcases shapes hok with ⟨a, rfl⟩ | ⟨a, b, c, d, rfl⟩ | ⟨a, b, c, d, e, f, g, h, i, rfl⟩
  · obtain ⟨s, v1, rfl, h1⟩ := tab_one ht
    obtain ⟨s0, rfl⟩ := row1 h1
    obtain ⟨_, rfl⟩ | ⟨h', _⟩ | ⟨h', _⟩ := orders h (by simp) hn
    · obtain ⟨so, rfl⟩ := row1 hv
      refine ⟨_, ?_, fun H => r42_0, fun H => r43_0⟩
      exact tabv [[a]]
    · cases h'
    · cases h'
  · obtain ⟨s, v1, v2, rfl, h1, h2⟩ := tab_two ht
    obtain ⟨s0, rfl⟩ := row2 h1
    obtain ⟨s1, rfl⟩ := row2 h2
    obtain ⟨h', _⟩ | ⟨_, hl⟩ | ⟨h', _⟩ := orders h (by simp) hn
    · cases h'
    · rcases hl with rfl | rfl
      · obtain ⟨so, rfl⟩ := row2 hv
        refine ⟨_, ?_, fun H => r42_01, fun H => r43_01⟩
        exact tabv [[a, b], [c, d]]
      · obtain ⟨so, rfl⟩ := row2 hv
        refine ⟨_, ?_, fun H => r42_10, fun H => r43_10⟩
        exact tabv [[d, c], [b, a]]
    · cases h'
  · obtain ⟨s, v1, v2, v3, rfl, h1, h2, h3⟩ := tab_three ht
    obtain ⟨s0, rfl⟩ := row3 h1
    obtain ⟨s1, rfl⟩ := row3 h2
    obtain ⟨s2, rfl⟩ := row3 h3
    rename isOrd _ l = true => h'
    obtain ⟨h', _⟩ | ⟨h', _⟩ | ⟨_, hl⟩ := orders h' (by simp) hn
    · cases h'
    · cases h'
    · rcases hl with rfl | rfl | rfl | rfl | rfl | rfl
      · obtain ⟨so, rfl⟩ := row3 hv
        refine ⟨_, ?_, fun H => r42_012, fun H => r43_012⟩
        exact tabv [[a, b, c], [d, e, f], [g, h, i]]
      · obtain ⟨so, rfl⟩ := row3 hv
        refine ⟨_, ?_, fun H => r42_021, fun H => r43_021⟩
        exact tabv [[a, c, b], [g, i, h], [d, f, e]]
      · obtain ⟨so, rfl⟩ := row3 hv
        refine ⟨_, ?_, fun H => r42_102, fun H => r43_102⟩
        exact tabv [[e, d, f], [b, a, c], [h, g, i]]
      · obtain ⟨so, rfl⟩ := row3 hv
        refine ⟨_, ?_, fun H => r42_120, fun H => r43_120⟩
        exact tabv [[e, f, d], [h, i, g], [b, c, a]]
      · obtain ⟨so, rfl⟩ := row3 hv
        refine ⟨_, ?_, fun H => r42_201, fun H => r43_201⟩
        exact tabv [[i, g, h], [c, a, b], [f, d, e]]
      · obtain ⟨so, rfl⟩ := row3 hv
        refine ⟨_, ?_, fun H => r42_210, fun H => r43_210⟩
        exact tabv [[i, h, g], [f, e, d], [c, b, a]]

theorem renamed42 {vt v : AV} {t : List (List Int)} {l : List Int} (ht : IsTab vt t) (hs : Small t) (hv : IsRow v l) (hl : l.length ≤ 20) :
    (okTab t ∧ isOrd t.length l = true → ∃ w, IsTab w (renT t l) ∧ (∀ H, freeX H (callL E2 Y 42 [vt, v] []) = some (.tup [w, vI 0], H)) ∧ (∀ H, freeX H (callL E2 Y 43 [vt, v] []) = some (.tup [w, vI 0], H))) ∧
    (¬ (okTab t ∧ isOrd t.length l = true) → (∀ H, freeX H (callL E2 Y 42 [vt, v] []) = some (.tup [.nils, vI 2], H)) ∧ (∀ H, freeX H (callL E2 Y 43 [vt, v] []) = some (.tup [.nils, vI 2], H))) := by
  have r := callL_up (Y := Y) E2_up (read47 (Y := noRun) (H := []) ht (by have := hs.1; omega))
  have r3 := callL_up (Y := Y) E2_up (table34 (Y := noRun) (H := []) ht hs)
  have e2 : ∀ fr H, codeL E2 Y F42B fr H = thenX (codeL E2 Y (headC 5 F42B) fr H) (codeL E2 Y U42) := fun fr H => cut 5 F42B fr H
  have e3 : ∀ fr H, codeL E2 Y F43B fr H = thenX (codeL E2 Y (headC 2 F43B) fr H) (codeL E2 Y U43) := fun fr H => cut 2 F43B fr H
  by_cases hok : okTab t
  · have hn := hok.2.1
    simp only [hok, if_true, decide_true] at r r3
    have k := fun H => order45 (Y := Y) (H := H) (n := t.length) hv hl hn
    by_cases hlen : l.length = t.length
    · have hb : ((l.length : Int) != (t.length : Int)) = false := by simp; omega
      obtain ⟨i1, i2⟩ := L42 (Y := Y) (H := []) ht hv hl hn l.length 0 0 (by omega) (by omega)
      rw [List.drop_zero] at i1 i2
      cases hq : runQ t.length 0 l with
      | none =>
        have e : isOrd t.length l = false := by unfold isOrd; rw [hq]; simp
        have h := i2 hq
        refine ⟨fun h => by rw [e] at h; exact absurd h.2 (by decide), fun _ => ⟨fun H => ?_, fun H => ?_⟩⟩
        · rw [call42 rfl, e2]
          simp only [SS, insA, wantedA, Opd.ev, putA, binA, eqbA, unA, fldA, partA, reduceIte, reduceCtorEq, Nat.reduceMod, Nat.reduceDiv, Nat.reduceBEq, resultA, resA, vI, Nat.reduceMul, Nat.reduceAdd, Nat.reduceSub, Nat.reduceEqDiff, Nat.reduceLT, Nat.reducePow, Nat.reduceLeDiff, st, Option.bind_eq_bind, Option.pure_def, List.length_nil, Int.cast_ofNat_Int, List.reverse_nil, Int.ofNat_zero] at h
          simp only [headC, F42B, in42_0, SS, insA, wantedA, Opd.ev, putA, binA, eqbA, unA, fldA, partA, reduceIte, reduceCtorEq, Nat.reduceMod, Nat.reduceDiv, Nat.reduceBEq, resultA, resA, vI, Nat.reduceMul, Nat.reduceAdd, Nat.reduceSub, Nat.reduceEqDiff, Nat.reduceLT, Nat.reducePow, Nat.reduceLeDiff, st, Option.bind_eq_bind, Option.pure_def, List.length_nil, Int.cast_ofNat_Int, List.reverse_nil, UU, idxP, cellsAt, storeA, fillA, zerosA, putAll, optNat, sliceA, row, Int.reduceLT, Int.reduceLE, Int.reduceGT, Int.reduceGE, Int.reduceEq, Int.reduceNe, Int.reduceToNat, Int.reduceBEq, Int.reduceBNe, Nat.reduceLeDiff, Nat.reduceLT, Nat.reduceBNe, Nat.reduceGT, List.drop_nil, List.take_nil, Option.isSome_none, Int.ofNat_one, Int.ofNat_zero, r, hv.len, ht.len, hb, h]
        · rw [call43 rfl, e3]
          simp only [e] at k
          simp only [headC, F43B, SS, insA, wantedA, Opd.ev, putA, binA, eqbA, unA, fldA, partA, reduceIte, reduceCtorEq, Nat.reduceMod, Nat.reduceDiv, Nat.reduceBEq, resultA, resA, vI, Nat.reduceMul, Nat.reduceAdd, Nat.reduceSub, Nat.reduceEqDiff, Nat.reduceLT, Nat.reducePow, Nat.reduceLeDiff, st, Option.bind_eq_bind, Option.pure_def, List.length_nil, Int.cast_ofNat_Int, List.reverse_nil, UU, idxP, cellsAt, storeA, fillA, zerosA, putAll, optNat, sliceA, row, Int.reduceLT, Int.reduceLE, Int.reduceGT, Int.reduceGE, Int.reduceEq, Int.reduceNe, Int.reduceToNat, Int.reduceBEq, Int.reduceBNe, Nat.reduceLeDiff, Nat.reduceLT, Nat.reduceBNe, Nat.reduceGT, List.drop_nil, List.take_nil, Option.isSome_none, Int.ofNat_one, Int.ofNat_zero, ht.snap, hv.snap, ht.len, r3, k]
      | some q =>
        have e : isOrd t.length l = true := by unfold isOrd; rw [hq]; simp [hlen]
        have h := i1 q hq
        refine ⟨fun _ => ?_, fun h => (h ⟨hok, e⟩).elim⟩
        obtain ⟨w, w1, w2, w3⟩ := rest42 (Y := Y) ht hok hv e
        refine ⟨w, w1, fun H => ?_, fun H => ?_⟩
        · have w2 := w2 H
          rw [call42 rfl, e2]
          simp only [SS, insA, wantedA, Opd.ev, putA, binA, eqbA, unA, fldA, partA, reduceIte, reduceCtorEq, Nat.reduceMod, Nat.reduceDiv, Nat.reduceBEq, resultA, resA, vI, Nat.reduceMul, Nat.reduceAdd, Nat.reduceSub, Nat.reduceEqDiff, Nat.reduceLT, Nat.reducePow, Nat.reduceLeDiff, st, Option.bind_eq_bind, Option.pure_def, List.length_nil, Int.cast_ofNat_Int, List.reverse_nil, Int.ofNat_zero] at h w2
          simp only [headC, F42B, in42_0, SS, insA, wantedA, Opd.ev, putA, binA, eqbA, unA, fldA, partA, reduceIte, reduceCtorEq, Nat.reduceMod, Nat.reduceDiv, Nat.reduceBEq, resultA, resA, vI, Nat.reduceMul, Nat.reduceAdd, Nat.reduceSub, Nat.reduceEqDiff, Nat.reduceLT, Nat.reducePow, Nat.reduceLeDiff, st, Option.bind_eq_bind, Option.pure_def, List.length_nil, Int.cast_ofNat_Int, List.reverse_nil, UU, idxP, cellsAt, storeA, fillA, zerosA, putAll, optNat, sliceA, row, Int.reduceLT, Int.reduceLE, Int.reduceGT, Int.reduceGE, Int.reduceEq, Int.reduceNe, Int.reduceToNat, Int.reduceBEq, Int.reduceBNe, Nat.reduceLeDiff, Nat.reduceLT, Nat.reduceBNe, Nat.reduceGT, List.drop_nil, List.take_nil, Option.isSome_none, Int.ofNat_one, Int.ofNat_zero, r, hv.len, ht.len, hb, h]
          exact w2
        · have w3 := w3 H
          rw [call43 rfl, e3]
          simp only [e] at k
          simp only [headC, F43B, SS, insA, wantedA, Opd.ev, putA, binA, eqbA, unA, fldA, partA, reduceIte, reduceCtorEq, Nat.reduceMod, Nat.reduceDiv, Nat.reduceBEq, resultA, resA, vI, Nat.reduceMul, Nat.reduceAdd, Nat.reduceSub, Nat.reduceEqDiff, Nat.reduceLT, Nat.reducePow, Nat.reduceLeDiff, st, Option.bind_eq_bind, Option.pure_def, List.length_nil, Int.cast_ofNat_Int, List.reverse_nil, UU, idxP, cellsAt, storeA, fillA, zerosA, putAll, optNat, sliceA, row, Int.reduceLT, Int.reduceLE, Int.reduceGT, Int.reduceGE, Int.reduceEq, Int.reduceNe, Int.reduceToNat, Int.reduceBEq, Int.reduceBNe, Nat.reduceLeDiff, Nat.reduceLT, Nat.reduceBNe, Nat.reduceGT, List.drop_nil, List.take_nil, Option.isSome_none, Int.ofNat_one, Int.ofNat_zero, ht.snap, hv.snap, ht.len, r3, k]
          exact w3
    · have hb : ((l.length : Int) != (t.length : Int)) = true := by simp; omega
      have e : isOrd t.length l = false := by unfold isOrd; simp [hlen]
      refine ⟨fun h => by rw [e] at h; exact absurd h.2 (by decide), fun _ => ⟨fun H => ?_, fun H => ?_⟩⟩
      · rw [call42 rfl, e2]
        simp only [headC, F42B, SS, insA, wantedA, Opd.ev, putA, binA, eqbA, unA, fldA, partA, reduceIte, reduceCtorEq, Nat.reduceMod, Nat.reduceDiv, Nat.reduceBEq, resultA, resA, vI, Nat.reduceMul, Nat.reduceAdd, Nat.reduceSub, Nat.reduceEqDiff, Nat.reduceLT, Nat.reducePow, Nat.reduceLeDiff, st, Option.bind_eq_bind, Option.pure_def, List.length_nil, Int.cast_ofNat_Int, List.reverse_nil, UU, idxP, cellsAt, storeA, fillA, zerosA, putAll, optNat, sliceA, row, Int.reduceLT, Int.reduceLE, Int.reduceGT, Int.reduceGE, Int.reduceEq, Int.reduceNe, Int.reduceToNat, Int.reduceBEq, Int.reduceBNe, Nat.reduceLeDiff, Nat.reduceLT, Nat.reduceBNe, Nat.reduceGT, List.drop_nil, List.take_nil, Option.isSome_none, Int.ofNat_one, Int.ofNat_zero, r, hv.len, ht.len, hb]
      · rw [call43 rfl, e3]
        simp only [e] at k
        simp only [headC, F43B, SS, insA, wantedA, Opd.ev, putA, binA, eqbA, unA, fldA, partA, reduceIte, reduceCtorEq, Nat.reduceMod, Nat.reduceDiv, Nat.reduceBEq, resultA, resA, vI, Nat.reduceMul, Nat.reduceAdd, Nat.reduceSub, Nat.reduceEqDiff, Nat.reduceLT, Nat.reducePow, Nat.reduceLeDiff, st, Option.bind_eq_bind, Option.pure_def, List.length_nil, Int.cast_ofNat_Int, List.reverse_nil, UU, idxP, cellsAt, storeA, fillA, zerosA, putAll, optNat, sliceA, row, Int.reduceLT, Int.reduceLE, Int.reduceGT, Int.reduceGE, Int.reduceEq, Int.reduceNe, Int.reduceToNat, Int.reduceBEq, Int.reduceBNe, Nat.reduceLeDiff, Nat.reduceLT, Nat.reduceBNe, Nat.reduceGT, List.drop_nil, List.take_nil, Option.isSome_none, Int.ofNat_one, Int.ofNat_zero, ht.snap, hv.snap, ht.len, r3, k]
  · simp only [hok, if_false, decide_false] at r r3
    refine ⟨fun h => (hok h.1).elim, fun _ => ⟨fun H => ?_, fun H => ?_⟩⟩
    · rw [call42 rfl, e2]
      simp only [headC, F42B, SS, insA, wantedA, Opd.ev, putA, binA, eqbA, unA, fldA, partA, reduceIte, reduceCtorEq, Nat.reduceMod, Nat.reduceDiv, Nat.reduceBEq, resultA, resA, vI, Nat.reduceMul, Nat.reduceAdd, Nat.reduceSub, Nat.reduceEqDiff, Nat.reduceLT, Nat.reducePow, Nat.reduceLeDiff, st, Option.bind_eq_bind, Option.pure_def, List.length_nil, Int.cast_ofNat_Int, List.reverse_nil, UU, idxP, cellsAt, storeA, fillA, zerosA, putAll, optNat, sliceA, row, Int.reduceLT, Int.reduceLE, Int.reduceGT, Int.reduceGE, Int.reduceEq, Int.reduceNe, Int.reduceToNat, Int.reduceBEq, Int.reduceBNe, Nat.reduceLeDiff, Nat.reduceLT, Nat.reduceBNe, Nat.reduceGT, List.drop_nil, List.take_nil, Option.isSome_none, Int.ofNat_one, Int.ofNat_zero, r]
    · rw [call43 rfl, e3]
      simp only [headC, F43B, SS, insA, wantedA, Opd.ev, putA, binA, eqbA, unA, fldA, partA, reduceIte, reduceCtorEq, Nat.reduceMod, Nat.reduceDiv, Nat.reduceBEq, resultA, resA, vI, Nat.reduceMul, Nat.reduceAdd, Nat.reduceSub, Nat.reduceEqDiff, Nat.reduceLT, Nat.reducePow, Nat.reduceLeDiff, st, Option.bind_eq_bind, Option.pure_def, List.length_nil, Int.cast_ofNat_Int, List.reverse_nil, UU, idxP, cellsAt, storeA, fillA, zerosA, putAll, optNat, sliceA, row, Int.reduceLT, Int.reduceLE, Int.reduceGT, Int.reduceGE, Int.reduceEq, Int.reduceNe, Int.reduceToNat, Int.reduceBEq, Int.reduceBNe, Nat.reduceLeDiff, Nat.reduceLT, Nat.reduceBNe, Nat.reduceGT, List.drop_nil, List.take_nil, Option.isSome_none, Int.ofNat_one, Int.ofNat_zero, ht.snap, r3]
end
end Go.X
