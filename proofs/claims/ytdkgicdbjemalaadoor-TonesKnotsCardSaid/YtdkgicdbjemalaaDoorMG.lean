import Derived.Test.YtdkgicdbjemalaaDoorTF
import Derived.Test.YtdkgicdbjemalaaDoorGA
/-! Tones: bits, and what looks at frames. -/
set_option linter.unusedSimpArgs false
set_option linter.unusedVariables false
set_option maxHeartbeats 2000000
set_option maxRecDepth 10000
namespace Go.X
open Go Go.RowKit

/-! ### Bits -/
def sh (x : Int) (k : Nat) : Int := Int.fdiv x (2 ^ k)

theorem min64 {k : Nat} (h : k ≤ 64) : min (Int.toNat (k : Int)) (IntKind.bits .i64) = k := by
  have : IntKind.bits .i64 = 64 := rfl
  rw [this, Int.toNat_natCast]; omega

theorem shr_eq {k : Nat} (h : k ≤ 64) (x : Int) : Int.fdiv x (2 ^ min (Int.toNat (k : Int)) (IntKind.bits .i64)) = sh x k := by rw [min64 h]; rfl

theorem shl_eq {k : Nat} (h : k ≤ 62) : IntKind.wrap .i64 (1 * 2 ^ min (Int.toNat (k : Int)) (IntKind.bits .i64)) = ((2 ^ k : Nat) : Int) := by
  rw [min64 (by omega), Int.one_mul]
  have h1 : (2 : Nat) ^ k ≤ 2 ^ 62 := Nat.pow_le_pow_right (by decide) h
  have h2 : ((2 : Int) ^ k) = ((2 ^ k : Nat) : Int) := by simp
  rw [h2]
  have h3 : (2 : Nat) ^ 62 = 4611686018427387904 := by decide
  rw [h3] at h1
  generalize (2 : Nat) ^ k = b at h1 ⊢
  exact wrap_id (by omega) (by omega)

theorem ofInt_nat (n : Nat) : BitVec.ofInt 64 (n : Int) = BitVec.ofNat 64 n := by
  apply BitVec.eq_of_toNat_eq; simp

theorem and_one (z : Int) : bitsA .and .i64 z 1 = some (vI (z % 2)) := by
  have h0 : bitsA .and .i64 z 1 = some (vI (IntKind.wrap .i64 ((BitVec.ofInt 64 z &&& BitVec.ofInt 64 1).toNat : Int))) := rfl
  rw [h0]
  have h1 : (BitVec.ofInt 64 z &&& BitVec.ofInt 64 1).toNat = (z % 2).toNat := by
    rw [BitVec.toNat_and]
    have : (BitVec.ofInt 64 1).toNat = 1 := by decide
    rw [this, Nat.and_one_is_mod, BitVec.toNat_ofInt]
    omega
  rw [h1, wrap_id (by omega) (by omega)]
  congr 1
  congr 1
  omega

theorem nat_bits {a b : Nat} (ha : a < 4294967296) (hb : b < 4294967296) :
    bitsA .and .i64 (a : Int) (b : Int) = some (vI ((a &&& b : Nat) : Int)) ∧ bitsA .or .i64 (a : Int) (b : Int) = some (vI ((a ||| b : Nat) : Int)) ∧ bitsA .andNot .i64 (a : Int) (b : Int) = some (vI ((a &&& (a ^^^ b) : Nat) : Int)) := by
  have h64 : IntKind.bits .i64 = 64 := rfl
  have e1 : a % 2 ^ 64 = a := Nat.mod_eq_of_lt (by omega)
  have e2 : b % 2 ^ 64 = b := Nat.mod_eq_of_lt (by omega)
  have l1 : a &&& b ≤ a := Nat.and_le_left
  have l2 : a ||| b < 2 ^ 32 := Nat.or_lt_two_pow (by omega) (by omega)
  have l3 : a &&& (a ^^^ b) ≤ a := Nat.and_le_left
  refine ⟨?_, ?_, ?_⟩
  · have h0 : bitsA .and .i64 (a : Int) (b : Int) = some (vI (IntKind.wrap .i64 ((BitVec.ofInt 64 (a : Int) &&& BitVec.ofInt 64 (b : Int)).toNat : Int))) := rfl
    rw [h0]
    simp only [ofInt_nat, BitVec.toNat_and, BitVec.toNat_ofNat, e1, e2]
    rw [wrap_id (by omega) (by omega)]
  · have h0 : bitsA .or .i64 (a : Int) (b : Int) = some (vI (IntKind.wrap .i64 ((BitVec.ofInt 64 (a : Int) ||| BitVec.ofInt 64 (b : Int)).toNat : Int))) := rfl
    rw [h0]
    simp only [ofInt_nat, BitVec.toNat_or, BitVec.toNat_ofNat, e1, e2]
    rw [wrap_id (by omega) (by omega)]
  · have h0 : bitsA .andNot .i64 (a : Int) (b : Int) = some (vI (IntKind.wrap .i64 ((BitVec.ofInt 64 (a : Int) &&& ~~~ BitVec.ofInt 64 (b : Int)).toNat : Int))) := rfl
    rw [h0]
    simp only [ofInt_nat, BitVec.toNat_and, BitVec.toNat_not, BitVec.toNat_ofNat, e1, e2]
    have h3 : a &&& (2 ^ 64 - 1 - b) = a &&& (a ^^^ b) := by
      apply Nat.eq_of_testBit_eq
      intro j
      rw [Nat.testBit_and, Nat.testBit_and, Nat.testBit_xor, Nat.sub_sub, Nat.add_comm 1 b, Nat.testBit_two_pow_sub_succ (by omega)]
      by_cases hj : j < 64
      · simp only [hj, decide_true, Bool.true_and]
        cases a.testBit j <;> cases b.testBit j <;> rfl
      · have : a.testBit j = false := Nat.testBit_lt_two_pow (Nat.lt_of_lt_of_le (by omega : a < 2 ^ 64) (Nat.pow_le_pow_right (by decide) (by omega)))
        simp [this]
    rw [h3, wrap_id (by omega) (by omega)]

/-! ### Frames -/
def okE (n i : Nat) (x : Int) : Bool := decide (0 ≤ x) && decide (x < ((2 ^ n : Nat) : Int)) && (sh x i % 2 != 1)
def symE (l : List Int) (i k : Nat) : Bool := sh (l.getD i 0) k % 2 == sh (l.getD k 0) i % 2
def okL (l : List Int) : Bool := (List.range l.length).all fun i => okE l.length i (l.getD i 0)
def symL (l : List Int) : Bool := (List.range l.length).all fun i => (List.range l.length).all fun k => symE l i k
/-- Is this a frame? -/
def frameB (l : List Int) : Bool := decide (1 ≤ l.length) && decide (l.length ≤ 7) && okL l && symL l

section
variable {Y : Run} {H : Heap}

theorem few16 {v w : AV} {l q : List Int} (hv : IsRow v l) (hw : IsRow w q) : freeX H (callL ET Y 16 [v, w] []) = some (.bool (decide (l.length ≤ 40) && decide (q.length ≤ 40)), H) := by
  rw [call16 rfl]
  by_cases h1 : l.length ≤ 40
  · have c1 : (l.length : Int) ≤ 40 := by omega
    by_cases h2 : q.length ≤ 40
    · have c2 : (q.length : Int) ≤ 40 := by omega
      simp only [F16B, SS, insA, wantedA, Opd.ev, putA, binA, eqbA, unA, fldA, partA, reduceIte, reduceCtorEq, Nat.reduceMod, Nat.reduceDiv, Nat.reduceBEq, resultA, resA, vI, Nat.reduceMul, Nat.reduceAdd, Nat.reduceSub, Nat.reduceEqDiff, Nat.reduceLT, Nat.reducePow, Nat.reduceLeDiff, st, Option.bind_eq_bind, Option.pure_def, List.length_nil, Int.cast_ofNat_Int, List.reverse_nil, UU, idxP, cellsAt, storeA, fillA, zerosA, putAll, optNat, sliceA, row, Int.reduceLT, Int.reduceLE, Int.reduceGT, Int.reduceGE, Int.reduceEq, Int.reduceNe, Int.reduceToNat, Int.reduceBEq, Int.reduceBNe, Nat.reduceLeDiff, Nat.reduceLT, Nat.reduceBNe, Nat.reduceGT, List.drop_nil, List.take_nil, Option.isSome_none, Int.ofNat_one, Int.ofNat_zero, hv.len, hw.len, c1, c2, h1, h2]
    · have c2 : ¬ (q.length : Int) ≤ 40 := by omega
      simp only [F16B, SS, insA, wantedA, Opd.ev, putA, binA, eqbA, unA, fldA, partA, reduceIte, reduceCtorEq, Nat.reduceMod, Nat.reduceDiv, Nat.reduceBEq, resultA, resA, vI, Nat.reduceMul, Nat.reduceAdd, Nat.reduceSub, Nat.reduceEqDiff, Nat.reduceLT, Nat.reducePow, Nat.reduceLeDiff, st, Option.bind_eq_bind, Option.pure_def, List.length_nil, Int.cast_ofNat_Int, List.reverse_nil, UU, idxP, cellsAt, storeA, fillA, zerosA, putAll, optNat, sliceA, row, Int.reduceLT, Int.reduceLE, Int.reduceGT, Int.reduceGE, Int.reduceEq, Int.reduceNe, Int.reduceToNat, Int.reduceBEq, Int.reduceBNe, Nat.reduceLeDiff, Nat.reduceLT, Nat.reduceBNe, Nat.reduceGT, List.drop_nil, List.take_nil, Option.isSome_none, Int.ofNat_one, Int.ofNat_zero, hv.len, hw.len, c1, c2, h1, h2]
  · have c1 : ¬ (l.length : Int) ≤ 40 := by omega
    simp only [F16B, SS, insA, wantedA, Opd.ev, putA, binA, eqbA, unA, fldA, partA, reduceIte, reduceCtorEq, Nat.reduceMod, Nat.reduceDiv, Nat.reduceBEq, resultA, resA, vI, Nat.reduceMul, Nat.reduceAdd, Nat.reduceSub, Nat.reduceEqDiff, Nat.reduceLT, Nat.reducePow, Nat.reduceLeDiff, st, Option.bind_eq_bind, Option.pure_def, List.length_nil, Int.cast_ofNat_Int, List.reverse_nil, UU, idxP, cellsAt, storeA, fillA, zerosA, putAll, optNat, sliceA, row, Int.reduceLT, Int.reduceLE, Int.reduceGT, Int.reduceGE, Int.reduceEq, Int.reduceNe, Int.reduceToNat, Int.reduceBEq, Int.reduceBNe, Nat.reduceLeDiff, Nat.reduceLT, Nat.reduceBNe, Nat.reduceGT, List.drop_nil, List.take_nil, Option.isSome_none, Int.ofNat_one, Int.ofNat_zero, hv.len, hw.len, c1, h1, Bool.false_and]

theorem tmod_emod {x : Int} (h : 0 ≤ x) : x.tmod 2 = x % 2 := Int.tmod_eq_emod_of_nonneg h
theorem sh_nonneg {x : Int} (h : 0 ≤ x) (k : Nat) : 0 ≤ sh x k := by
  unfold sh
  exact Int.fdiv_nonneg h (Int.le_of_lt (Int.pow_pos (by decide)))

theorem L20_0 {v : AV} {l : List Int} (hv : IsRow v l) (hl : l.length ≤ 7) (d : Nat) : ∀ (i : Nat), i + d = l.length →
    lp ET Y F20L0 (sp 69 [(4, vI i), (3, vI l.length), (0, v)]) H = if (List.range' i d).all (fun j => okE l.length j (l.getD j 0)) = true then some (.x 0, sp 69 [(3, vI l.length), (0, v)], H) else some (.r, sp 69 [(2, .bool false)], H) := by
  induction d with
  | zero =>
    intro i hi
    rw [un20_0]
    have : ¬ ((i : Int) < (l.length : Int)) := by omega
    simp only [F20L0b, SS, insA, wantedA, Opd.ev, putA, binA, eqbA, unA, fldA, partA, reduceIte, reduceCtorEq, Nat.reduceMod, Nat.reduceDiv, Nat.reduceBEq, resultA, resA, vI, Nat.reduceMul, Nat.reduceAdd, Nat.reduceSub, Nat.reduceEqDiff, Nat.reduceLT, Nat.reducePow, Nat.reduceLeDiff, st, Option.bind_eq_bind, Option.pure_def, List.length_nil, Int.cast_ofNat_Int, List.reverse_nil, UU, idxP, cellsAt, storeA, fillA, zerosA, putAll, optNat, sliceA, row, Int.reduceLT, Int.reduceLE, Int.reduceGT, Int.reduceGE, Int.reduceEq, Int.reduceNe, Int.reduceToNat, Int.reduceBEq, Int.reduceBNe, Nat.reduceLeDiff, Nat.reduceLT, Nat.reduceBNe, Nat.reduceGT, List.drop_nil, List.take_nil, Option.isSome_none, Int.ofNat_one, Int.ofNat_zero, this, List.range'_zero, List.all_nil]
  | succ d ih =>
    intro i hi
    have hlt : i < l.length := by omega
    have hc : (i : Int) < (l.length : Int) := by omega
    have hw := wrap_succ (n := i) (by omega)
    have ih := ih (i + 1) (by omega)
    have hp1 : (0 : Int) ≤ (l.length : Int) := by omega
    have hp2 : (0 : Int) ≤ (i : Int) := by omega
    have hs1 := shl_eq (k := l.length) (by omega)
    have hs2 := shr_eq (k := i) (by omega)
    rw [un20_0, List.range'_succ, List.all_cons]
    unfold okE
    by_cases c1 : l.getD i 0 < 0
    · have c1' : ¬ 0 ≤ l.getD i 0 := by omega
      simp only [F20L0b, SS, insA, wantedA, Opd.ev, putA, binA, eqbA, unA, fldA, partA, reduceIte, reduceCtorEq, Nat.reduceMod, Nat.reduceDiv, Nat.reduceBEq, resultA, resA, vI, Nat.reduceMul, Nat.reduceAdd, Nat.reduceSub, Nat.reduceEqDiff, Nat.reduceLT, Nat.reducePow, Nat.reduceLeDiff, st, Option.bind_eq_bind, Option.pure_def, List.length_nil, Int.cast_ofNat_Int, List.reverse_nil, UU, idxP, cellsAt, storeA, fillA, zerosA, putAll, optNat, sliceA, row, Int.reduceLT, Int.reduceLE, Int.reduceGT, Int.reduceGE, Int.reduceEq, Int.reduceNe, Int.reduceToNat, Int.reduceBEq, Int.reduceBNe, Nat.reduceLeDiff, Nat.reduceLT, Nat.reduceBNe, Nat.reduceGT, List.drop_nil, List.take_nil, Option.isSome_none, Int.ofNat_one, Int.ofNat_zero, hc, hv.idx hlt, hv.load hlt, hw, c1, c1', decide_false, Bool.false_and, Bool.false_eq_true]
    · have c1' : 0 ≤ l.getD i 0 := by omega
      by_cases c2 : l.getD i 0 ≥ ((2 ^ l.length : Nat) : Int)
      · have c2' : ¬ l.getD i 0 < ((2 ^ l.length : Nat) : Int) := by omega
        simp only [F20L0b, SS, insA, wantedA, Opd.ev, putA, binA, eqbA, unA, fldA, partA, reduceIte, reduceCtorEq, Nat.reduceMod, Nat.reduceDiv, Nat.reduceBEq, resultA, resA, vI, Nat.reduceMul, Nat.reduceAdd, Nat.reduceSub, Nat.reduceEqDiff, Nat.reduceLT, Nat.reducePow, Nat.reduceLeDiff, st, Option.bind_eq_bind, Option.pure_def, List.length_nil, Int.cast_ofNat_Int, List.reverse_nil, UU, idxP, cellsAt, storeA, fillA, zerosA, putAll, optNat, sliceA, row, Int.reduceLT, Int.reduceLE, Int.reduceGT, Int.reduceGE, Int.reduceEq, Int.reduceNe, Int.reduceToNat, Int.reduceBEq, Int.reduceBNe, Nat.reduceLeDiff, Nat.reduceLT, Nat.reduceBNe, Nat.reduceGT, List.drop_nil, List.take_nil, Option.isSome_none, Int.ofNat_one, Int.ofNat_zero, hc, hv.idx hlt, hv.load hlt, hw, c1, c1', c2, c2', hp1, hs1, decide_false, decide_true, Bool.false_and, Bool.true_and, Bool.false_eq_true]
      · have c2' : l.getD i 0 < ((2 ^ l.length : Nat) : Int) := by omega
        have ht := tmod_emod (sh_nonneg c1' i)
        have h20 : (2 : Int) ≠ 0 := by decide
        by_cases c3 : sh (l.getD i 0) i % 2 = 1
        · have c3' : (sh (l.getD i 0) i % 2 == 1) = true := beq_iff_eq.2 c3
          have c3'' : (sh (l.getD i 0) i % 2 != 1) = false := by rw [c3]; rfl
          simp only [F20L0b, SS, insA, wantedA, Opd.ev, putA, binA, eqbA, unA, fldA, partA, reduceIte, reduceCtorEq, Nat.reduceMod, Nat.reduceDiv, Nat.reduceBEq, resultA, resA, vI, Nat.reduceMul, Nat.reduceAdd, Nat.reduceSub, Nat.reduceEqDiff, Nat.reduceLT, Nat.reducePow, Nat.reduceLeDiff, st, Option.bind_eq_bind, Option.pure_def, List.length_nil, Int.cast_ofNat_Int, List.reverse_nil, UU, idxP, cellsAt, storeA, fillA, zerosA, putAll, optNat, sliceA, row, Int.reduceLT, Int.reduceLE, Int.reduceGT, Int.reduceGE, Int.reduceEq, Int.reduceNe, Int.reduceToNat, Int.reduceBEq, Int.reduceBNe, Nat.reduceLeDiff, Nat.reduceLT, Nat.reduceBNe, Nat.reduceGT, List.drop_nil, List.take_nil, Option.isSome_none, Int.ofNat_one, Int.ofNat_zero, hc, hv.idx hlt, hv.load hlt, hw, c1, c1', c2, c2', hp1, hp2, hs1, hs2, ht, h20, c3', c3'', decide_false, decide_true, Bool.false_and, Bool.true_and, Bool.false_eq_true, ne_eq, not_false_eq_true, and_self]
        · have c3' : (sh (l.getD i 0) i % 2 == 1) = false := beq_false_of_ne c3
          have c3'' : (sh (l.getD i 0) i % 2 != 1) = true := bne_iff_ne.2 c3
          simp only [SS, insA, wantedA, Opd.ev, putA, binA, eqbA, unA, fldA, partA, reduceIte, reduceCtorEq, Nat.reduceMod, Nat.reduceDiv, Nat.reduceBEq, resultA, resA, vI, Nat.reduceMul, Nat.reduceAdd, Nat.reduceSub, Nat.reduceEqDiff, Nat.reduceLT, Nat.reducePow, Nat.reduceLeDiff, st, Option.bind_eq_bind, Option.pure_def, List.length_nil, Int.cast_ofNat_Int, List.reverse_nil] at ih
          simp only [F20L0b, SS, insA, wantedA, Opd.ev, putA, binA, eqbA, unA, fldA, partA, reduceIte, reduceCtorEq, Nat.reduceMod, Nat.reduceDiv, Nat.reduceBEq, resultA, resA, vI, Nat.reduceMul, Nat.reduceAdd, Nat.reduceSub, Nat.reduceEqDiff, Nat.reduceLT, Nat.reducePow, Nat.reduceLeDiff, st, Option.bind_eq_bind, Option.pure_def, List.length_nil, Int.cast_ofNat_Int, List.reverse_nil, UU, idxP, cellsAt, storeA, fillA, zerosA, putAll, optNat, sliceA, row, Int.reduceLT, Int.reduceLE, Int.reduceGT, Int.reduceGE, Int.reduceEq, Int.reduceNe, Int.reduceToNat, Int.reduceBEq, Int.reduceBNe, Nat.reduceLeDiff, Nat.reduceLT, Nat.reduceBNe, Nat.reduceGT, List.drop_nil, List.take_nil, Option.isSome_none, Int.ofNat_one, Int.ofNat_zero, hc, hv.idx hlt, hv.load hlt, hw, c1, c1', c2, c2', hp1, hp2, hs1, hs2, ht, h20, c3', c3'', ih, decide_false, decide_true, Bool.false_and, Bool.true_and, Bool.false_eq_true, ne_eq, not_false_eq_true, and_self]
          rfl

theorem L20_1 {v : AV} {l : List Int} (hv : IsRow v l) (hl : l.length ≤ 7) (hnn : ∀ j, j < l.length → 0 ≤ l.getD j 0) {i : Nat} (hi : i < l.length) (d : Nat) : ∀ (k : Nat), k + d = l.length →
    lp ET Y F20L1 (sp 69 [(6, vI k), (5, vI i), (3, vI l.length), (0, v)]) H = if (List.range' k d).all (fun k => symE l i k) = true then some (.x 4, sp 69 [(5, vI i), (3, vI l.length), (0, v)], H) else some (.r, sp 69 [(2, .bool false)], H) := by
  induction d with
  | zero =>
    intro k hk
    rw [un20_1]
    have : ¬ ((k : Int) < (l.length : Int)) := by omega
    simp only [F20L1b, SS, insA, wantedA, Opd.ev, putA, binA, eqbA, unA, fldA, partA, reduceIte, reduceCtorEq, Nat.reduceMod, Nat.reduceDiv, Nat.reduceBEq, resultA, resA, vI, Nat.reduceMul, Nat.reduceAdd, Nat.reduceSub, Nat.reduceEqDiff, Nat.reduceLT, Nat.reducePow, Nat.reduceLeDiff, st, Option.bind_eq_bind, Option.pure_def, List.length_nil, Int.cast_ofNat_Int, List.reverse_nil, UU, idxP, cellsAt, storeA, fillA, zerosA, putAll, optNat, sliceA, row, Int.reduceLT, Int.reduceLE, Int.reduceGT, Int.reduceGE, Int.reduceEq, Int.reduceNe, Int.reduceToNat, Int.reduceBEq, Int.reduceBNe, Nat.reduceLeDiff, Nat.reduceLT, Nat.reduceBNe, Nat.reduceGT, List.drop_nil, List.take_nil, Option.isSome_none, Int.ofNat_one, Int.ofNat_zero, this, List.range'_zero, List.all_nil]
  | succ d ih =>
    intro k hk
    have hlt : k < l.length := by omega
    have hc : (k : Int) < (l.length : Int) := by omega
    have hw := wrap_succ (n := k) (by omega)
    have ih := ih (k + 1) (by omega)
    have hp1 : (0 : Int) ≤ (i : Int) := by omega
    have hp2 : (0 : Int) ≤ (k : Int) := by omega
    have hs1 := shr_eq (k := i) (by omega)
    have hs2 := shr_eq (k := k) (by omega)
    have h20 : (2 : Int) ≠ 0 := by decide
    have t1 := tmod_emod (sh_nonneg (hnn i hi) k)
    have t2 := tmod_emod (sh_nonneg (hnn k hlt) i)
    rw [un20_1, List.range'_succ, List.all_cons]
    unfold symE
    by_cases c : sh (l.getD i 0) k % 2 = sh (l.getD k 0) i % 2
    · have c1 : (sh (l.getD i 0) k % 2 != sh (l.getD k 0) i % 2) = false := by rw [c]; simp
      have c2 : (sh (l.getD i 0) k % 2 == sh (l.getD k 0) i % 2) = true := beq_iff_eq.2 c
      simp only [SS, insA, wantedA, Opd.ev, putA, binA, eqbA, unA, fldA, partA, reduceIte, reduceCtorEq, Nat.reduceMod, Nat.reduceDiv, Nat.reduceBEq, resultA, resA, vI, Nat.reduceMul, Nat.reduceAdd, Nat.reduceSub, Nat.reduceEqDiff, Nat.reduceLT, Nat.reducePow, Nat.reduceLeDiff, st, Option.bind_eq_bind, Option.pure_def, List.length_nil, Int.cast_ofNat_Int, List.reverse_nil] at ih
      simp only [F20L1b, SS, insA, wantedA, Opd.ev, putA, binA, eqbA, unA, fldA, partA, reduceIte, reduceCtorEq, Nat.reduceMod, Nat.reduceDiv, Nat.reduceBEq, resultA, resA, vI, Nat.reduceMul, Nat.reduceAdd, Nat.reduceSub, Nat.reduceEqDiff, Nat.reduceLT, Nat.reducePow, Nat.reduceLeDiff, st, Option.bind_eq_bind, Option.pure_def, List.length_nil, Int.cast_ofNat_Int, List.reverse_nil, UU, idxP, cellsAt, storeA, fillA, zerosA, putAll, optNat, sliceA, row, Int.reduceLT, Int.reduceLE, Int.reduceGT, Int.reduceGE, Int.reduceEq, Int.reduceNe, Int.reduceToNat, Int.reduceBEq, Int.reduceBNe, Nat.reduceLeDiff, Nat.reduceLT, Nat.reduceBNe, Nat.reduceGT, List.drop_nil, List.take_nil, Option.isSome_none, Int.ofNat_one, Int.ofNat_zero, hc, hv.idx hlt, hv.load hlt, hv.idx hi, hv.load hi, hw, hp1, hp2, hs1, hs2, h20, t1, t2, c1, c2, ih, Bool.true_and, ne_eq, not_false_eq_true, and_self]
      rfl
    · have c1 : (sh (l.getD i 0) k % 2 != sh (l.getD k 0) i % 2) = true := bne_iff_ne.2 c
      have c2 : (sh (l.getD i 0) k % 2 == sh (l.getD k 0) i % 2) = false := beq_false_of_ne c
      simp only [F20L1b, SS, insA, wantedA, Opd.ev, putA, binA, eqbA, unA, fldA, partA, reduceIte, reduceCtorEq, Nat.reduceMod, Nat.reduceDiv, Nat.reduceBEq, resultA, resA, vI, Nat.reduceMul, Nat.reduceAdd, Nat.reduceSub, Nat.reduceEqDiff, Nat.reduceLT, Nat.reducePow, Nat.reduceLeDiff, st, Option.bind_eq_bind, Option.pure_def, List.length_nil, Int.cast_ofNat_Int, List.reverse_nil, UU, idxP, cellsAt, storeA, fillA, zerosA, putAll, optNat, sliceA, row, Int.reduceLT, Int.reduceLE, Int.reduceGT, Int.reduceGE, Int.reduceEq, Int.reduceNe, Int.reduceToNat, Int.reduceBEq, Int.reduceBNe, Nat.reduceLeDiff, Nat.reduceLT, Nat.reduceBNe, Nat.reduceGT, List.drop_nil, List.take_nil, Option.isSome_none, Int.ofNat_one, Int.ofNat_zero, hc, hv.idx hlt, hv.load hlt, hv.idx hi, hv.load hi, hw, hp1, hp2, hs1, hs2, h20, t1, t2, c1, c2, Bool.false_and, Bool.false_eq_true, ne_eq, not_false_eq_true, and_self]

theorem L20_2 {v : AV} {l : List Int} (hv : IsRow v l) (hl : l.length ≤ 7) (hnn : ∀ j, j < l.length → 0 ≤ l.getD j 0) (d : Nat) : ∀ (i : Nat), i + d = l.length →
    lp ET Y F20L2 (sp 69 [(5, vI i), (3, vI l.length), (0, v)]) H = if (List.range' i d).all (fun i => (List.range l.length).all fun k => symE l i k) = true then some (.x 2, sp 69 [], H) else some (.r, sp 69 [(2, .bool false)], H) := by
  induction d with
  | zero =>
    intro i hi
    rw [un20_2]
    have : ¬ ((i : Int) < (l.length : Int)) := by omega
    simp only [F20L2b, SS, insA, wantedA, Opd.ev, putA, binA, eqbA, unA, fldA, partA, reduceIte, reduceCtorEq, Nat.reduceMod, Nat.reduceDiv, Nat.reduceBEq, resultA, resA, vI, Nat.reduceMul, Nat.reduceAdd, Nat.reduceSub, Nat.reduceEqDiff, Nat.reduceLT, Nat.reducePow, Nat.reduceLeDiff, st, Option.bind_eq_bind, Option.pure_def, List.length_nil, Int.cast_ofNat_Int, List.reverse_nil, UU, idxP, cellsAt, storeA, fillA, zerosA, putAll, optNat, sliceA, row, Int.reduceLT, Int.reduceLE, Int.reduceGT, Int.reduceGE, Int.reduceEq, Int.reduceNe, Int.reduceToNat, Int.reduceBEq, Int.reduceBNe, Nat.reduceLeDiff, Nat.reduceLT, Nat.reduceBNe, Nat.reduceGT, List.drop_nil, List.take_nil, Option.isSome_none, Int.ofNat_one, Int.ofNat_zero, this, List.range'_zero, List.all_nil]
  | succ d ih =>
    intro i hi
    have hlt : i < l.length := by omega
    have hc : (i : Int) < (l.length : Int) := by omega
    have hw := wrap_succ (n := i) (by omega)
    have ih := ih (i + 1) (by omega)
    have h0 := L20_1 (Y := Y) (H := H) hv hl hnn hlt l.length 0 (by omega)
    rw [un20_2, List.range'_succ, List.all_cons]
    rw [← List.range_eq_range'] at h0
    cases hb : (List.range l.length).all fun k => symE l i k with
    | true =>
      rw [hb, if_pos rfl] at h0
      simp only [SS, insA, wantedA, Opd.ev, putA, binA, eqbA, unA, fldA, partA, reduceIte, reduceCtorEq, Nat.reduceMod, Nat.reduceDiv, Nat.reduceBEq, resultA, resA, vI, Nat.reduceMul, Nat.reduceAdd, Nat.reduceSub, Nat.reduceEqDiff, Nat.reduceLT, Nat.reducePow, Nat.reduceLeDiff, st, Option.bind_eq_bind, Option.pure_def, List.length_nil, Int.cast_ofNat_Int, List.reverse_nil, Int.ofNat_zero] at h0 ih
      simp only [F20L2b, F20T0, in20_1, SS, insA, wantedA, Opd.ev, putA, binA, eqbA, unA, fldA, partA, reduceIte, reduceCtorEq, Nat.reduceMod, Nat.reduceDiv, Nat.reduceBEq, resultA, resA, vI, Nat.reduceMul, Nat.reduceAdd, Nat.reduceSub, Nat.reduceEqDiff, Nat.reduceLT, Nat.reducePow, Nat.reduceLeDiff, st, Option.bind_eq_bind, Option.pure_def, List.length_nil, Int.cast_ofNat_Int, List.reverse_nil, UU, idxP, cellsAt, storeA, fillA, zerosA, putAll, optNat, sliceA, row, Int.reduceLT, Int.reduceLE, Int.reduceGT, Int.reduceGE, Int.reduceEq, Int.reduceNe, Int.reduceToNat, Int.reduceBEq, Int.reduceBNe, Nat.reduceLeDiff, Nat.reduceLT, Nat.reduceBNe, Nat.reduceGT, List.drop_nil, List.take_nil, Option.isSome_none, Int.ofNat_one, Int.ofNat_zero, hc, hw, h0, ih, Bool.true_and]
    | false =>
      rw [hb, if_neg (by simp)] at h0
      simp only [SS, insA, wantedA, Opd.ev, putA, binA, eqbA, unA, fldA, partA, reduceIte, reduceCtorEq, Nat.reduceMod, Nat.reduceDiv, Nat.reduceBEq, resultA, resA, vI, Nat.reduceMul, Nat.reduceAdd, Nat.reduceSub, Nat.reduceEqDiff, Nat.reduceLT, Nat.reducePow, Nat.reduceLeDiff, st, Option.bind_eq_bind, Option.pure_def, List.length_nil, Int.cast_ofNat_Int, List.reverse_nil, Int.ofNat_zero] at h0
      simp only [F20L2b, F20T0, in20_1, SS, insA, wantedA, Opd.ev, putA, binA, eqbA, unA, fldA, partA, reduceIte, reduceCtorEq, Nat.reduceMod, Nat.reduceDiv, Nat.reduceBEq, resultA, resA, vI, Nat.reduceMul, Nat.reduceAdd, Nat.reduceSub, Nat.reduceEqDiff, Nat.reduceLT, Nat.reducePow, Nat.reduceLeDiff, st, Option.bind_eq_bind, Option.pure_def, List.length_nil, Int.cast_ofNat_Int, List.reverse_nil, UU, idxP, cellsAt, storeA, fillA, zerosA, putAll, optNat, sliceA, row, Int.reduceLT, Int.reduceLE, Int.reduceGT, Int.reduceGE, Int.reduceEq, Int.reduceNe, Int.reduceToNat, Int.reduceBEq, Int.reduceBNe, Nat.reduceLeDiff, Nat.reduceLT, Nat.reduceBNe, Nat.reduceGT, List.drop_nil, List.take_nil, Option.isSome_none, Int.ofNat_one, Int.ofNat_zero, hc, h0, Bool.false_and, Bool.false_eq_true]

theorem okL_nn {l : List Int} (h : okL l = true) : ∀ j, j < l.length → 0 ≤ l.getD j 0 := by
  intro j hj
  have := List.all_eq_true.1 h j (List.mem_range.2 hj)
  simp only [okE, Bool.and_eq_true, decide_eq_true_eq] at this
  exact this.1.1

theorem frame20 {v : AV} {l : List Int} (hv : IsRow v l) (hl : l.length ≤ 1000) : freeX H (callL ET Y 20 [v] []) = some (.bool (frameB l), H) := by
  rw [call20 rfl]
  unfold frameB
  by_cases c1 : l.length < 1
  · have d1 : (l.length : Int) < 1 := by omega
    have d2 : decide (1 ≤ l.length) = false := decide_eq_false (by omega)
    simp only [F20B, F20T2, SS, insA, wantedA, Opd.ev, putA, binA, eqbA, unA, fldA, partA, reduceIte, reduceCtorEq, Nat.reduceMod, Nat.reduceDiv, Nat.reduceBEq, resultA, resA, vI, Nat.reduceMul, Nat.reduceAdd, Nat.reduceSub, Nat.reduceEqDiff, Nat.reduceLT, Nat.reducePow, Nat.reduceLeDiff, st, Option.bind_eq_bind, Option.pure_def, List.length_nil, Int.cast_ofNat_Int, List.reverse_nil, UU, idxP, cellsAt, storeA, fillA, zerosA, putAll, optNat, sliceA, row, Int.reduceLT, Int.reduceLE, Int.reduceGT, Int.reduceGE, Int.reduceEq, Int.reduceNe, Int.reduceToNat, Int.reduceBEq, Int.reduceBNe, Nat.reduceLeDiff, Nat.reduceLT, Nat.reduceBNe, Nat.reduceGT, List.drop_nil, List.take_nil, Option.isSome_none, Int.ofNat_one, Int.ofNat_zero, hv.len, d1, d2, Bool.false_and]
  · have d1 : ¬ (l.length : Int) < 1 := by omega
    have d2 : decide (1 ≤ l.length) = true := decide_eq_true (by omega)
    by_cases c2 : l.length > 7
    · have d3 : (l.length : Int) > 7 := by omega
      have d4 : decide (l.length ≤ 7) = false := decide_eq_false (by omega)
      simp only [F20B, F20T2, SS, insA, wantedA, Opd.ev, putA, binA, eqbA, unA, fldA, partA, reduceIte, reduceCtorEq, Nat.reduceMod, Nat.reduceDiv, Nat.reduceBEq, resultA, resA, vI, Nat.reduceMul, Nat.reduceAdd, Nat.reduceSub, Nat.reduceEqDiff, Nat.reduceLT, Nat.reducePow, Nat.reduceLeDiff, st, Option.bind_eq_bind, Option.pure_def, List.length_nil, Int.cast_ofNat_Int, List.reverse_nil, UU, idxP, cellsAt, storeA, fillA, zerosA, putAll, optNat, sliceA, row, Int.reduceLT, Int.reduceLE, Int.reduceGT, Int.reduceGE, Int.reduceEq, Int.reduceNe, Int.reduceToNat, Int.reduceBEq, Int.reduceBNe, Nat.reduceLeDiff, Nat.reduceLT, Nat.reduceBNe, Nat.reduceGT, List.drop_nil, List.take_nil, Option.isSome_none, Int.ofNat_one, Int.ofNat_zero, hv.len, d1, d2, d3, d4, Bool.false_and, Bool.true_and]
    · have d3 : ¬ (l.length : Int) > 7 := by omega
      have d4 : decide (l.length ≤ 7) = true := decide_eq_true (by omega)
      have h0 := L20_0 (Y := Y) (H := []) hv (by omega) l.length 0 (by omega)
      rw [← List.range_eq_range'] at h0
      cases hb : okL l with
      | false =>
        rw [show ((List.range l.length).all fun j => okE l.length j (l.getD j 0)) = false from hb, if_neg (by simp)] at h0
        simp only [SS, insA, wantedA, Opd.ev, putA, binA, eqbA, unA, fldA, partA, reduceIte, reduceCtorEq, Nat.reduceMod, Nat.reduceDiv, Nat.reduceBEq, resultA, resA, vI, Nat.reduceMul, Nat.reduceAdd, Nat.reduceSub, Nat.reduceEqDiff, Nat.reduceLT, Nat.reducePow, Nat.reduceLeDiff, st, Option.bind_eq_bind, Option.pure_def, List.length_nil, Int.cast_ofNat_Int, List.reverse_nil, Int.ofNat_zero] at h0
        simp only [F20B, F20T2, in20_0, SS, insA, wantedA, Opd.ev, putA, binA, eqbA, unA, fldA, partA, reduceIte, reduceCtorEq, Nat.reduceMod, Nat.reduceDiv, Nat.reduceBEq, resultA, resA, vI, Nat.reduceMul, Nat.reduceAdd, Nat.reduceSub, Nat.reduceEqDiff, Nat.reduceLT, Nat.reducePow, Nat.reduceLeDiff, st, Option.bind_eq_bind, Option.pure_def, List.length_nil, Int.cast_ofNat_Int, List.reverse_nil, UU, idxP, cellsAt, storeA, fillA, zerosA, putAll, optNat, sliceA, row, Int.reduceLT, Int.reduceLE, Int.reduceGT, Int.reduceGE, Int.reduceEq, Int.reduceNe, Int.reduceToNat, Int.reduceBEq, Int.reduceBNe, Nat.reduceLeDiff, Nat.reduceLT, Nat.reduceBNe, Nat.reduceGT, List.drop_nil, List.take_nil, Option.isSome_none, Int.ofNat_one, Int.ofNat_zero, hv.len, d1, d2, d3, d4, h0, Bool.false_and, Bool.true_and]
      | true =>
        rw [show ((List.range l.length).all fun j => okE l.length j (l.getD j 0)) = true from hb, if_pos rfl] at h0
        have h1 := L20_2 (Y := Y) (H := []) hv (by omega) (okL_nn hb) l.length 0 (by omega)
        rw [← List.range_eq_range'] at h1
        cases hs : symL l with
        | false =>
          rw [show ((List.range l.length).all fun i => (List.range l.length).all fun k => symE l i k) = false from hs, if_neg (by simp)] at h1
          simp only [SS, insA, wantedA, Opd.ev, putA, binA, eqbA, unA, fldA, partA, reduceIte, reduceCtorEq, Nat.reduceMod, Nat.reduceDiv, Nat.reduceBEq, resultA, resA, vI, Nat.reduceMul, Nat.reduceAdd, Nat.reduceSub, Nat.reduceEqDiff, Nat.reduceLT, Nat.reducePow, Nat.reduceLeDiff, st, Option.bind_eq_bind, Option.pure_def, List.length_nil, Int.cast_ofNat_Int, List.reverse_nil, Int.ofNat_zero] at h0 h1
          simp only [F20B, F20T2, in20_0, in20_2, SS, insA, wantedA, Opd.ev, putA, binA, eqbA, unA, fldA, partA, reduceIte, reduceCtorEq, Nat.reduceMod, Nat.reduceDiv, Nat.reduceBEq, resultA, resA, vI, Nat.reduceMul, Nat.reduceAdd, Nat.reduceSub, Nat.reduceEqDiff, Nat.reduceLT, Nat.reducePow, Nat.reduceLeDiff, st, Option.bind_eq_bind, Option.pure_def, List.length_nil, Int.cast_ofNat_Int, List.reverse_nil, UU, idxP, cellsAt, storeA, fillA, zerosA, putAll, optNat, sliceA, row, Int.reduceLT, Int.reduceLE, Int.reduceGT, Int.reduceGE, Int.reduceEq, Int.reduceNe, Int.reduceToNat, Int.reduceBEq, Int.reduceBNe, Nat.reduceLeDiff, Nat.reduceLT, Nat.reduceBNe, Nat.reduceGT, List.drop_nil, List.take_nil, Option.isSome_none, Int.ofNat_one, Int.ofNat_zero, hv.len, d1, d2, d3, d4, h0, h1, Bool.true_and]
        | true =>
          rw [show ((List.range l.length).all fun i => (List.range l.length).all fun k => symE l i k) = true from hs, if_pos rfl] at h1
          simp only [SS, insA, wantedA, Opd.ev, putA, binA, eqbA, unA, fldA, partA, reduceIte, reduceCtorEq, Nat.reduceMod, Nat.reduceDiv, Nat.reduceBEq, resultA, resA, vI, Nat.reduceMul, Nat.reduceAdd, Nat.reduceSub, Nat.reduceEqDiff, Nat.reduceLT, Nat.reducePow, Nat.reduceLeDiff, st, Option.bind_eq_bind, Option.pure_def, List.length_nil, Int.cast_ofNat_Int, List.reverse_nil, Int.ofNat_zero] at h0 h1
          simp only [F20B, F20T2, F20T1, in20_0, in20_2, SS, insA, wantedA, Opd.ev, putA, binA, eqbA, unA, fldA, partA, reduceIte, reduceCtorEq, Nat.reduceMod, Nat.reduceDiv, Nat.reduceBEq, resultA, resA, vI, Nat.reduceMul, Nat.reduceAdd, Nat.reduceSub, Nat.reduceEqDiff, Nat.reduceLT, Nat.reducePow, Nat.reduceLeDiff, st, Option.bind_eq_bind, Option.pure_def, List.length_nil, Int.cast_ofNat_Int, List.reverse_nil, UU, idxP, cellsAt, storeA, fillA, zerosA, putAll, optNat, sliceA, row, Int.reduceLT, Int.reduceLE, Int.reduceGT, Int.reduceGE, Int.reduceEq, Int.reduceNe, Int.reduceToNat, Int.reduceBEq, Int.reduceBNe, Nat.reduceLeDiff, Nat.reduceLT, Nat.reduceBNe, Nat.reduceGT, List.drop_nil, List.take_nil, Option.isSome_none, Int.ofNat_one, Int.ofNat_zero, hv.len, d1, d2, d3, d4, h0, h1, Bool.true_and]

theorem L51_0 {v : AV} {l : List Int} (hv : IsRow v l) (hl : l.length ≤ 7) {i : Nat} (hi : i < l.length) (d : Nat) : ∀ (k : Nat), k + d = l.length →
    lp ET Y F51L0 (sp 58 [(41, vI k), (40, vI l.length), (39, v), (18, vI i), (17, vI l.length), (16, v), (5, vI (l.getD i 0)), (4, vI i), (0, v)]) H =
      if (List.range' k d).all (fun k => symE l i k) = true then some (.x 2, sp 58 [(18, vI i), (17, vI l.length), (16, v), (0, v)], H) else some (.r, sp 58 [(3, .bool false), (2, .nils)], H) := by
  induction d with
  | zero =>
    intro k hk
    rw [un51_0]
    have : ¬ ((k : Int) < (l.length : Int)) := by omega
    simp only [F51L0b, SS, insA, wantedA, Opd.ev, putA, binA, eqbA, unA, fldA, partA, reduceIte, reduceCtorEq, Nat.reduceMod, Nat.reduceDiv, Nat.reduceBEq, resultA, resA, vI, Nat.reduceMul, Nat.reduceAdd, Nat.reduceSub, Nat.reduceEqDiff, Nat.reduceLT, Nat.reducePow, Nat.reduceLeDiff, st, Option.bind_eq_bind, Option.pure_def, List.length_nil, Int.cast_ofNat_Int, List.reverse_nil, UU, idxP, cellsAt, storeA, fillA, zerosA, putAll, optNat, sliceA, row, Int.reduceLT, Int.reduceLE, Int.reduceGT, Int.reduceGE, Int.reduceEq, Int.reduceNe, Int.reduceToNat, Int.reduceBEq, Int.reduceBNe, Nat.reduceLeDiff, Nat.reduceLT, Nat.reduceBNe, Nat.reduceGT, List.drop_nil, List.take_nil, Option.isSome_none, Int.ofNat_one, Int.ofNat_zero, this, List.range'_zero, List.all_nil]
  | succ d ih =>
    intro k hk
    have hlt : k < l.length := by omega
    have hc : (k : Int) < (l.length : Int) := by omega
    have hw := wrap_succ (n := k) (by omega)
    have ih := ih (k + 1) (by omega)
    have hp1 : (0 : Int) ≤ (i : Int) := by omega
    have hp2 : (0 : Int) ≤ (k : Int) := by omega
    have hs1 := shr_eq (k := i) (by omega)
    have hs2 := shr_eq (k := k) (by omega)
    rw [un51_0, List.range'_succ, List.all_cons]
    unfold symE
    by_cases c : sh (l.getD i 0) k % 2 = sh (l.getD k 0) i % 2
    · have c1 : (sh (l.getD i 0) k % 2 != sh (l.getD k 0) i % 2) = false := by rw [c]; simp
      have c2 : (sh (l.getD i 0) k % 2 == sh (l.getD k 0) i % 2) = true := beq_iff_eq.2 c
      simp only [SS, insA, wantedA, Opd.ev, putA, binA, eqbA, unA, fldA, partA, reduceIte, reduceCtorEq, Nat.reduceMod, Nat.reduceDiv, Nat.reduceBEq, resultA, resA, vI, Nat.reduceMul, Nat.reduceAdd, Nat.reduceSub, Nat.reduceEqDiff, Nat.reduceLT, Nat.reducePow, Nat.reduceLeDiff, st, Option.bind_eq_bind, Option.pure_def, List.length_nil, Int.cast_ofNat_Int, List.reverse_nil] at ih
      simp only [F51L0b, SS, insA, wantedA, Opd.ev, putA, binA, eqbA, unA, fldA, partA, reduceIte, reduceCtorEq, Nat.reduceMod, Nat.reduceDiv, Nat.reduceBEq, resultA, resA, vI, Nat.reduceMul, Nat.reduceAdd, Nat.reduceSub, Nat.reduceEqDiff, Nat.reduceLT, Nat.reducePow, Nat.reduceLeDiff, st, Option.bind_eq_bind, Option.pure_def, List.length_nil, Int.cast_ofNat_Int, List.reverse_nil, UU, idxP, cellsAt, storeA, fillA, zerosA, putAll, optNat, sliceA, row, Int.reduceLT, Int.reduceLE, Int.reduceGT, Int.reduceGE, Int.reduceEq, Int.reduceNe, Int.reduceToNat, Int.reduceBEq, Int.reduceBNe, Nat.reduceLeDiff, Nat.reduceLT, Nat.reduceBNe, Nat.reduceGT, List.drop_nil, List.take_nil, Option.isSome_none, Int.ofNat_one, Int.ofNat_zero, hc, hv.idx hlt, hv.load hlt, hw, hp1, hp2, hs1, hs2, and_one, c1, c2, ih, Bool.true_and]
      rfl
    · have c1 : (sh (l.getD i 0) k % 2 != sh (l.getD k 0) i % 2) = true := bne_iff_ne.2 c
      have c2 : (sh (l.getD i 0) k % 2 == sh (l.getD k 0) i % 2) = false := beq_false_of_ne c
      simp only [F51L0b, SS, insA, wantedA, Opd.ev, putA, binA, eqbA, unA, fldA, partA, reduceIte, reduceCtorEq, Nat.reduceMod, Nat.reduceDiv, Nat.reduceBEq, resultA, resA, vI, Nat.reduceMul, Nat.reduceAdd, Nat.reduceSub, Nat.reduceEqDiff, Nat.reduceLT, Nat.reducePow, Nat.reduceLeDiff, st, Option.bind_eq_bind, Option.pure_def, List.length_nil, Int.cast_ofNat_Int, List.reverse_nil, UU, idxP, cellsAt, storeA, fillA, zerosA, putAll, optNat, sliceA, row, Int.reduceLT, Int.reduceLE, Int.reduceGT, Int.reduceGE, Int.reduceEq, Int.reduceNe, Int.reduceToNat, Int.reduceBEq, Int.reduceBNe, Nat.reduceLeDiff, Nat.reduceLT, Nat.reduceBNe, Nat.reduceGT, List.drop_nil, List.take_nil, Option.isSome_none, Int.ofNat_one, Int.ofNat_zero, hc, hv.idx hlt, hv.load hlt, hw, hp1, hp2, hs1, hs2, and_one, c1, c2, Bool.false_and, Bool.false_eq_true]

def rowOk (l : List Int) (i : Nat) : Bool := okE l.length i (l.getD i 0) && (List.range l.length).all fun k => symE l i k

theorem L51_1 {v : AV} {l : List Int} (hv : IsRow v l) (hl : l.length ≤ 7) (d : Nat) : ∀ (i : Nat), i + d = l.length →
    lp ET Y F51L1 (sp 58 [(18, vI i), (17, vI l.length), (16, v), (0, v)]) H = if (List.range' i d).all (rowOk l) = true then some (.x 0, sp 58 [(0, v)], H) else some (.r, sp 58 [(3, .bool false), (2, .nils)], H) := by
  induction d with
  | zero =>
    intro i hi
    rw [un51_1]
    have : ¬ ((i : Int) < (l.length : Int)) := by omega
    simp only [F51L1b, SS, insA, wantedA, Opd.ev, putA, binA, eqbA, unA, fldA, partA, reduceIte, reduceCtorEq, Nat.reduceMod, Nat.reduceDiv, Nat.reduceBEq, resultA, resA, vI, Nat.reduceMul, Nat.reduceAdd, Nat.reduceSub, Nat.reduceEqDiff, Nat.reduceLT, Nat.reducePow, Nat.reduceLeDiff, st, Option.bind_eq_bind, Option.pure_def, List.length_nil, Int.cast_ofNat_Int, List.reverse_nil, UU, idxP, cellsAt, storeA, fillA, zerosA, putAll, optNat, sliceA, row, Int.reduceLT, Int.reduceLE, Int.reduceGT, Int.reduceGE, Int.reduceEq, Int.reduceNe, Int.reduceToNat, Int.reduceBEq, Int.reduceBNe, Nat.reduceLeDiff, Nat.reduceLT, Nat.reduceBNe, Nat.reduceGT, List.drop_nil, List.take_nil, Option.isSome_none, Int.ofNat_one, Int.ofNat_zero, this, List.range'_zero, List.all_nil]
  | succ d ih =>
    intro i hi
    have hlt : i < l.length := by omega
    have hc : (i : Int) < (l.length : Int) := by omega
    have hw := wrap_succ (n := i) (by omega)
    have ih := ih (i + 1) (by omega)
    have hp1 : (0 : Int) ≤ (l.length : Int) := by omega
    have hp2 : (0 : Int) ≤ (i : Int) := by omega
    have hs1 := shl_eq (k := l.length) (by omega)
    have hs2 := shr_eq (k := i) (by omega)
    have h0 := L51_0 (Y := Y) (H := H) hv hl hlt l.length 0 (by omega)
    rw [un51_1, List.range'_succ, List.all_cons]
    rw [← List.range_eq_range'] at h0
    unfold rowOk okE
    by_cases c1 : l.getD i 0 < 0
    · have c1' : ¬ 0 ≤ l.getD i 0 := by omega
      simp only [F51L1b, SS, insA, wantedA, Opd.ev, putA, binA, eqbA, unA, fldA, partA, reduceIte, reduceCtorEq, Nat.reduceMod, Nat.reduceDiv, Nat.reduceBEq, resultA, resA, vI, Nat.reduceMul, Nat.reduceAdd, Nat.reduceSub, Nat.reduceEqDiff, Nat.reduceLT, Nat.reducePow, Nat.reduceLeDiff, st, Option.bind_eq_bind, Option.pure_def, List.length_nil, Int.cast_ofNat_Int, List.reverse_nil, UU, idxP, cellsAt, storeA, fillA, zerosA, putAll, optNat, sliceA, row, Int.reduceLT, Int.reduceLE, Int.reduceGT, Int.reduceGE, Int.reduceEq, Int.reduceNe, Int.reduceToNat, Int.reduceBEq, Int.reduceBNe, Nat.reduceLeDiff, Nat.reduceLT, Nat.reduceBNe, Nat.reduceGT, List.drop_nil, List.take_nil, Option.isSome_none, Int.ofNat_one, Int.ofNat_zero, hc, hv.idx hlt, hv.load hlt, hw, c1, c1', decide_false, Bool.false_and, Bool.false_eq_true]
    · have c1' : 0 ≤ l.getD i 0 := by omega
      by_cases c2 : l.getD i 0 ≥ ((2 ^ l.length : Nat) : Int)
      · have c2' : ¬ l.getD i 0 < ((2 ^ l.length : Nat) : Int) := by omega
        simp only [F51L1b, SS, insA, wantedA, Opd.ev, putA, binA, eqbA, unA, fldA, partA, reduceIte, reduceCtorEq, Nat.reduceMod, Nat.reduceDiv, Nat.reduceBEq, resultA, resA, vI, Nat.reduceMul, Nat.reduceAdd, Nat.reduceSub, Nat.reduceEqDiff, Nat.reduceLT, Nat.reducePow, Nat.reduceLeDiff, st, Option.bind_eq_bind, Option.pure_def, List.length_nil, Int.cast_ofNat_Int, List.reverse_nil, UU, idxP, cellsAt, storeA, fillA, zerosA, putAll, optNat, sliceA, row, Int.reduceLT, Int.reduceLE, Int.reduceGT, Int.reduceGE, Int.reduceEq, Int.reduceNe, Int.reduceToNat, Int.reduceBEq, Int.reduceBNe, Nat.reduceLeDiff, Nat.reduceLT, Nat.reduceBNe, Nat.reduceGT, List.drop_nil, List.take_nil, Option.isSome_none, Int.ofNat_one, Int.ofNat_zero, hc, hv.idx hlt, hv.load hlt, hv.len, hw, c1, c1', c2, c2', hp1, hs1, decide_false, decide_true, Bool.false_and, Bool.true_and, Bool.false_eq_true]
      · have c2' : l.getD i 0 < ((2 ^ l.length : Nat) : Int) := by omega
        by_cases c3 : sh (l.getD i 0) i % 2 = 1
        · have c3' : (sh (l.getD i 0) i % 2 == 1) = true := beq_iff_eq.2 c3
          have c3'' : (sh (l.getD i 0) i % 2 != 1) = false := by rw [c3]; rfl
          simp only [F51L1b, SS, insA, wantedA, Opd.ev, putA, binA, eqbA, unA, fldA, partA, reduceIte, reduceCtorEq, Nat.reduceMod, Nat.reduceDiv, Nat.reduceBEq, resultA, resA, vI, Nat.reduceMul, Nat.reduceAdd, Nat.reduceSub, Nat.reduceEqDiff, Nat.reduceLT, Nat.reducePow, Nat.reduceLeDiff, st, Option.bind_eq_bind, Option.pure_def, List.length_nil, Int.cast_ofNat_Int, List.reverse_nil, UU, idxP, cellsAt, storeA, fillA, zerosA, putAll, optNat, sliceA, row, Int.reduceLT, Int.reduceLE, Int.reduceGT, Int.reduceGE, Int.reduceEq, Int.reduceNe, Int.reduceToNat, Int.reduceBEq, Int.reduceBNe, Nat.reduceLeDiff, Nat.reduceLT, Nat.reduceBNe, Nat.reduceGT, List.drop_nil, List.take_nil, Option.isSome_none, Int.ofNat_one, Int.ofNat_zero, hc, hv.idx hlt, hv.load hlt, hv.len, hw, c1, c1', c2, c2', hp1, hp2, hs1, hs2, and_one, c3', c3'', decide_false, decide_true, Bool.false_and, Bool.true_and, Bool.false_eq_true]
        · have c3' : (sh (l.getD i 0) i % 2 == 1) = false := beq_false_of_ne c3
          have c3'' : (sh (l.getD i 0) i % 2 != 1) = true := bne_iff_ne.2 c3
          cases hb : (List.range l.length).all fun k => symE l i k with
          | true =>
            rw [hb, if_pos rfl] at h0
            simp only [SS, insA, wantedA, Opd.ev, putA, binA, eqbA, unA, fldA, partA, reduceIte, reduceCtorEq, Nat.reduceMod, Nat.reduceDiv, Nat.reduceBEq, resultA, resA, vI, Nat.reduceMul, Nat.reduceAdd, Nat.reduceSub, Nat.reduceEqDiff, Nat.reduceLT, Nat.reducePow, Nat.reduceLeDiff, st, Option.bind_eq_bind, Option.pure_def, List.length_nil, Int.cast_ofNat_Int, List.reverse_nil, Int.ofNat_zero] at h0 ih
            simp only [F51L1b, F51T0, in51_0, SS, insA, wantedA, Opd.ev, putA, binA, eqbA, unA, fldA, partA, reduceIte, reduceCtorEq, Nat.reduceMod, Nat.reduceDiv, Nat.reduceBEq, resultA, resA, vI, Nat.reduceMul, Nat.reduceAdd, Nat.reduceSub, Nat.reduceEqDiff, Nat.reduceLT, Nat.reducePow, Nat.reduceLeDiff, st, Option.bind_eq_bind, Option.pure_def, List.length_nil, Int.cast_ofNat_Int, List.reverse_nil, UU, idxP, cellsAt, storeA, fillA, zerosA, putAll, optNat, sliceA, row, Int.reduceLT, Int.reduceLE, Int.reduceGT, Int.reduceGE, Int.reduceEq, Int.reduceNe, Int.reduceToNat, Int.reduceBEq, Int.reduceBNe, Nat.reduceLeDiff, Nat.reduceLT, Nat.reduceBNe, Nat.reduceGT, List.drop_nil, List.take_nil, Option.isSome_none, Int.ofNat_one, Int.ofNat_zero, hc, hv.idx hlt, hv.load hlt, hv.len, hw, c1, c1', c2, c2', hp1, hp2, hs1, hs2, and_one, c3', c3'', h0, ih, decide_false, decide_true, Bool.false_and, Bool.true_and, Bool.false_eq_true]
            rfl
          | false =>
            rw [hb, if_neg (by simp)] at h0
            simp only [SS, insA, wantedA, Opd.ev, putA, binA, eqbA, unA, fldA, partA, reduceIte, reduceCtorEq, Nat.reduceMod, Nat.reduceDiv, Nat.reduceBEq, resultA, resA, vI, Nat.reduceMul, Nat.reduceAdd, Nat.reduceSub, Nat.reduceEqDiff, Nat.reduceLT, Nat.reducePow, Nat.reduceLeDiff, st, Option.bind_eq_bind, Option.pure_def, List.length_nil, Int.cast_ofNat_Int, List.reverse_nil, Int.ofNat_zero] at h0
            simp only [F51L1b, F51T0, in51_0, SS, insA, wantedA, Opd.ev, putA, binA, eqbA, unA, fldA, partA, reduceIte, reduceCtorEq, Nat.reduceMod, Nat.reduceDiv, Nat.reduceBEq, resultA, resA, vI, Nat.reduceMul, Nat.reduceAdd, Nat.reduceSub, Nat.reduceEqDiff, Nat.reduceLT, Nat.reducePow, Nat.reduceLeDiff, st, Option.bind_eq_bind, Option.pure_def, List.length_nil, Int.cast_ofNat_Int, List.reverse_nil, UU, idxP, cellsAt, storeA, fillA, zerosA, putAll, optNat, sliceA, row, Int.reduceLT, Int.reduceLE, Int.reduceGT, Int.reduceGE, Int.reduceEq, Int.reduceNe, Int.reduceToNat, Int.reduceBEq, Int.reduceBNe, Nat.reduceLeDiff, Nat.reduceLT, Nat.reduceBNe, Nat.reduceGT, List.drop_nil, List.take_nil, Option.isSome_none, Int.ofNat_one, Int.ofNat_zero, hc, hv.idx hlt, hv.load hlt, hv.len, hw, c1, c1', c2, c2', hp1, hp2, hs1, hs2, and_one, c3', c3'', h0, decide_false, decide_true, Bool.false_and, Bool.true_and, Bool.and_false, Bool.false_eq_true]

theorem all_and' {α : Type} (p q : α → Bool) : ∀ (l : List α), (l.all fun x => p x && q x) = (l.all p && l.all q)
  | [] => rfl
  | x :: l => by simp only [List.all_cons, all_and' p q l]; cases p x <;> cases q x <;> cases l.all p <;> rfl

theorem read51 {v : AV} {l : List Int} (hv : IsRow v l) (hl : l.length ≤ 1000) : callL ET Y 51 [v] H = some (.tup [if frameB l = true then v else .nils, .bool (frameB l)], H) := by
  rw [call51 rfl]
  have hf : frameB l = (decide (1 ≤ l.length) && decide (l.length ≤ 7) && (List.range l.length).all (rowOk l)) := by
    unfold frameB okL symL rowOk
    rw [all_and', Bool.and_assoc]
  rw [hf]
  by_cases c1 : l.length < 1
  · have d1 : (l.length : Int) < 1 := by omega
    have d2 : decide (1 ≤ l.length) = false := decide_eq_false (by omega)
    simp only [F51B, SS, insA, wantedA, Opd.ev, putA, binA, eqbA, unA, fldA, partA, reduceIte, reduceCtorEq, Nat.reduceMod, Nat.reduceDiv, Nat.reduceBEq, resultA, resA, vI, Nat.reduceMul, Nat.reduceAdd, Nat.reduceSub, Nat.reduceEqDiff, Nat.reduceLT, Nat.reducePow, Nat.reduceLeDiff, st, Option.bind_eq_bind, Option.pure_def, List.length_nil, Int.cast_ofNat_Int, List.reverse_nil, UU, idxP, cellsAt, storeA, fillA, zerosA, putAll, optNat, sliceA, row, Int.reduceLT, Int.reduceLE, Int.reduceGT, Int.reduceGE, Int.reduceEq, Int.reduceNe, Int.reduceToNat, Int.reduceBEq, Int.reduceBNe, Nat.reduceLeDiff, Nat.reduceLT, Nat.reduceBNe, Nat.reduceGT, List.drop_nil, List.take_nil, Option.isSome_none, Int.ofNat_one, Int.ofNat_zero, hv.len, d1, d2, Bool.false_and, endX, List.mapM_cons, List.mapM_nil, Bool.false_eq_true]
  · have d1 : ¬ (l.length : Int) < 1 := by omega
    have d2 : decide (1 ≤ l.length) = true := decide_eq_true (by omega)
    by_cases c2 : l.length > 7
    · have d3 : (l.length : Int) > 7 := by omega
      have d4 : decide (l.length ≤ 7) = false := decide_eq_false (by omega)
      simp only [F51B, SS, insA, wantedA, Opd.ev, putA, binA, eqbA, unA, fldA, partA, reduceIte, reduceCtorEq, Nat.reduceMod, Nat.reduceDiv, Nat.reduceBEq, resultA, resA, vI, Nat.reduceMul, Nat.reduceAdd, Nat.reduceSub, Nat.reduceEqDiff, Nat.reduceLT, Nat.reducePow, Nat.reduceLeDiff, st, Option.bind_eq_bind, Option.pure_def, List.length_nil, Int.cast_ofNat_Int, List.reverse_nil, UU, idxP, cellsAt, storeA, fillA, zerosA, putAll, optNat, sliceA, row, Int.reduceLT, Int.reduceLE, Int.reduceGT, Int.reduceGE, Int.reduceEq, Int.reduceNe, Int.reduceToNat, Int.reduceBEq, Int.reduceBNe, Nat.reduceLeDiff, Nat.reduceLT, Nat.reduceBNe, Nat.reduceGT, List.drop_nil, List.take_nil, Option.isSome_none, Int.ofNat_one, Int.ofNat_zero, hv.len, d1, d2, d3, d4, Bool.false_and, Bool.true_and, endX, List.mapM_cons, List.mapM_nil, Bool.false_eq_true]
    · have d3 : ¬ (l.length : Int) > 7 := by omega
      have d4 : decide (l.length ≤ 7) = true := decide_eq_true (by omega)
      have h0 := L51_1 (Y := Y) (H := H) hv (by omega) l.length 0 (by omega)
      rw [← List.range_eq_range'] at h0
      cases hb : (List.range l.length).all (rowOk l) with
      | true =>
        rw [hb, if_pos rfl] at h0
        simp only [SS, insA, wantedA, Opd.ev, putA, binA, eqbA, unA, fldA, partA, reduceIte, reduceCtorEq, Nat.reduceMod, Nat.reduceDiv, Nat.reduceBEq, resultA, resA, vI, Nat.reduceMul, Nat.reduceAdd, Nat.reduceSub, Nat.reduceEqDiff, Nat.reduceLT, Nat.reducePow, Nat.reduceLeDiff, st, Option.bind_eq_bind, Option.pure_def, List.length_nil, Int.cast_ofNat_Int, List.reverse_nil, Int.ofNat_zero] at h0
        simp only [F51B, F51T1, in51_1, SS, insA, wantedA, Opd.ev, putA, binA, eqbA, unA, fldA, partA, reduceIte, reduceCtorEq, Nat.reduceMod, Nat.reduceDiv, Nat.reduceBEq, resultA, resA, vI, Nat.reduceMul, Nat.reduceAdd, Nat.reduceSub, Nat.reduceEqDiff, Nat.reduceLT, Nat.reducePow, Nat.reduceLeDiff, st, Option.bind_eq_bind, Option.pure_def, List.length_nil, Int.cast_ofNat_Int, List.reverse_nil, UU, idxP, cellsAt, storeA, fillA, zerosA, putAll, optNat, sliceA, row, Int.reduceLT, Int.reduceLE, Int.reduceGT, Int.reduceGE, Int.reduceEq, Int.reduceNe, Int.reduceToNat, Int.reduceBEq, Int.reduceBNe, Nat.reduceLeDiff, Nat.reduceLT, Nat.reduceBNe, Nat.reduceGT, List.drop_nil, List.take_nil, Option.isSome_none, Int.ofNat_one, Int.ofNat_zero, hv.len, d1, d2, d3, d4, h0, Bool.false_and, Bool.true_and, endX, List.mapM_cons, List.mapM_nil]
      | false =>
        rw [hb, if_neg (by simp)] at h0
        simp only [SS, insA, wantedA, Opd.ev, putA, binA, eqbA, unA, fldA, partA, reduceIte, reduceCtorEq, Nat.reduceMod, Nat.reduceDiv, Nat.reduceBEq, resultA, resA, vI, Nat.reduceMul, Nat.reduceAdd, Nat.reduceSub, Nat.reduceEqDiff, Nat.reduceLT, Nat.reducePow, Nat.reduceLeDiff, st, Option.bind_eq_bind, Option.pure_def, List.length_nil, Int.cast_ofNat_Int, List.reverse_nil, Int.ofNat_zero] at h0
        simp only [F51B, F51T1, in51_1, SS, insA, wantedA, Opd.ev, putA, binA, eqbA, unA, fldA, partA, reduceIte, reduceCtorEq, Nat.reduceMod, Nat.reduceDiv, Nat.reduceBEq, resultA, resA, vI, Nat.reduceMul, Nat.reduceAdd, Nat.reduceSub, Nat.reduceEqDiff, Nat.reduceLT, Nat.reducePow, Nat.reduceLeDiff, st, Option.bind_eq_bind, Option.pure_def, List.length_nil, Int.cast_ofNat_Int, List.reverse_nil, UU, idxP, cellsAt, storeA, fillA, zerosA, putAll, optNat, sliceA, row, Int.reduceLT, Int.reduceLE, Int.reduceGT, Int.reduceGE, Int.reduceEq, Int.reduceNe, Int.reduceToNat, Int.reduceBEq, Int.reduceBNe, Nat.reduceLeDiff, Nat.reduceLT, Nat.reduceBNe, Nat.reduceGT, List.drop_nil, List.take_nil, Option.isSome_none, Int.ofNat_one, Int.ofNat_zero, hv.len, d1, d2, d3, d4, h0, Bool.false_and, Bool.true_and, endX, List.mapM_cons, List.mapM_nil, Bool.false_eq_true]

theorem frame27 {v : AV} {l : List Int} (hv : IsRow v l) (hl : l.length ≤ 1000) : freeX H (callL ET Y 27 [v] []) = some (.bool (frameB l), H) := by
  rw [call27 rfl]
  have h := read51 (Y := Y) (H := []) hv hl
  simp only [F27B, SS, insA, wantedA, Opd.ev, putA, binA, eqbA, unA, fldA, partA, reduceIte, reduceCtorEq, Nat.reduceMod, Nat.reduceDiv, Nat.reduceBEq, resultA, resA, vI, Nat.reduceMul, Nat.reduceAdd, Nat.reduceSub, Nat.reduceEqDiff, Nat.reduceLT, Nat.reducePow, Nat.reduceLeDiff, st, Option.bind_eq_bind, Option.pure_def, List.length_nil, Int.cast_ofNat_Int, List.reverse_nil, UU, idxP, cellsAt, storeA, fillA, zerosA, putAll, optNat, sliceA, row, Int.reduceLT, Int.reduceLE, Int.reduceGT, Int.reduceGE, Int.reduceEq, Int.reduceNe, Int.reduceToNat, Int.reduceBEq, Int.reduceBNe, Nat.reduceLeDiff, Nat.reduceLT, Nat.reduceBNe, Nat.reduceGT, List.drop_nil, List.take_nil, Option.isSome_none, Int.ofNat_one, Int.ofNat_zero, h]
end
end Go.X
