import Derived.Test.YtdkgicdbjemalaaDoorTF
import Derived.Test.YtdkgicdbjemalaaDoorGA
import Derived.Test.YtdkgicdbjemalaaDoorQC
import Derived.Test.YtdkgicdbjemalaaDoorMF
/-! Tones: bits, and what looks at frames. -/
set_option linter.unusedSimpArgs false
set_option linter.unusedVariables false
set_option maxHeartbeats 2000000
set_option maxRecDepth 10000
namespace Go.X
open Go Go.RowKit

/-! ### Bits -/
def sh (x : Int) (k : Nat) : Int := Int.fdiv x (2 ^ k)

theorem min64 {k : Nat} (h : k ≤ 64) : min (Int.toNat (k : Int)) (IntKind.bits .i64) = k := by
  have : IntKind.bits .i64 = 64 := rfl
  rw [this, Int.toNat_natCast]; omega

theorem shr_eq {k : Nat} (h : k ≤ 64) (x : Int) : Int.fdiv x (2 ^ min (Int.toNat (k : Int)) (IntKind.bits .i64)) = sh x k := by rw [min64 h]; rfl

theorem shl_eq {k : Nat} (h : k ≤ 62) : IntKind.wrap .i64 (1 * 2 ^ min (Int.toNat (k : Int)) (IntKind.bits .i64)) = ((2 ^ k : Nat) : Int) := by
  rw [min64 (by omega), Int.one_mul]
  have h1 : (2 : Nat) ^ k ≤ 2 ^ 62 := Nat.pow_le_pow_right (by decide) h
  have h2 : ((2 : Int) ^ k) = ((2 ^ k : Nat) : Int) := by simp
  rw [h2]
  have h3 : (2 : Nat) ^ 62 = 4611686018427387904 := by decide
  rw [h3] at h1
  generalize (2 : Nat) ^ k = b at h1 ⊢
  exact wrap_id (by omega) (by omega)

theorem ofInt_nat (n : Nat) : BitVec.ofInt 64 (n : Int) = BitVec.ofNat 64 n := by
  apply BitVec.eq_of_toNat_eq; simp

theorem and_one (z : Int) : bitsA .and .i64 z 1 = some (vI (z % 2)) := by
  have h0 : bitsA .and .i64 z 1 = some (vI (IntKind.wrap .i64 ((BitVec.ofInt 64 z &&& BitVec.ofInt 64 1).toNat : Int))) := rfl
  rw [h0]
  have h1 : (BitVec.ofInt 64 z &&& BitVec.ofInt 64 1).toNat = (z % 2).toNat := by
    rw [BitVec.toNat_and]
    have : (BitVec.ofInt 64 1).toNat = 1 := by decide
    rw [this, Nat.and_one_is_mod, BitVec.toNat_ofInt]
    omega
  rw [h1, wrap_id (by omega) (by omega)]
  congr 1
  congr 1
  omega

theorem nat_bits {a b : Nat} (ha : a < 4294967296) (hb : b < 4294967296) :
    bitsA .and .i64 (a : Int) (b : Int) = some (vI ((a &&& b : Nat) : Int)) ∧ bitsA .or .i64 (a : Int) (b : Int) = some (vI ((a ||| b : Nat) : Int)) ∧ bitsA .andNot .i64 (a : Int) (b : Int) = some (vI ((a &&& (a ^^^ b) : Nat) : Int)) := by
  have h64 : IntKind.bits .i64 = 64 := rfl
  have e1 : a % 2 ^ 64 = a := Nat.mod_eq_of_lt (by omega)
  have e2 : b % 2 ^ 64 = b := Nat.mod_eq_of_lt (by omega)
  have l1 : a &&& b ≤ a := Nat.and_le_left
  have l2 : a ||| b < 2 ^ 32 := Nat.or_lt_two_pow (by omega) (by omega)
  have l3 : a &&& (a ^^^ b) ≤ a := Nat.and_le_left
  refine ⟨?_, ?_, ?_⟩
  · have h0 : bitsA .and .i64 (a : Int) (b : Int) = some (vI (IntKind.wrap .i64 ((BitVec.ofInt 64 (a : Int) &&& BitVec.ofInt 64 (b : Int)).toNat : Int))) := rfl
    rw [h0]
    simp only [ofInt_nat, BitVec.toNat_and, BitVec.toNat_ofNat, e1, e2]
    rw [wrap_id (by omega) (by omega)]
  · have h0 : bitsA .or .i64 (a : Int) (b : Int) = some (vI (IntKind.wrap .i64 ((BitVec.ofInt 64 (a : Int) ||| BitVec.ofInt 64 (b : Int)).toNat : Int))) := rfl
    rw [h0]
    simp only [ofInt_nat, BitVec.toNat_or, BitVec.toNat_ofNat, e1, e2]
    rw [wrap_id (by omega) (by omega)]
  · have h0 : bitsA .andNot .i64 (a : Int) (b : Int) = some (vI (IntKind.wrap .i64 ((BitVec.ofInt 64 (a : Int) &&& ~~~ BitVec.ofInt 64 (b : Int)).toNat : Int))) := rfl
    rw [h0]
    simp only [ofInt_nat, BitVec.toNat_and, BitVec.toNat_not, BitVec.toNat_ofNat, e1, e2]
    have h3 : a &&& (2 ^ 64 - 1 - b) = a &&& (a ^^^ b) := by
      apply Nat.eq_of_testBit_eq
      intro j
      rw [Nat.testBit_and, Nat.testBit_and, Nat.testBit_xor, Nat.sub_sub, Nat.add_comm 1 b, Nat.testBit_two_pow_sub_succ (by omega)]
      by_cases hj : j < 64
      · simp only [hj, decide_true, Bool.true_and]
        cases a.testBit j <;> cases b.testBit j <;> rfl
      · have : a.testBit j = false := Nat.testBit_lt_two_pow (Nat.lt_of_lt_of_le (by omega : a < 2 ^ 64) (Nat.pow_le_pow_right (by decide) (by omega)))
        simp [this]
    rw [h3, wrap_id (by omega) (by omega)]

/-! ### Frames -/
def okE (n i : Nat) (x : Int) : Bool := decide (0 ≤ x) && decide (x < ((2 ^ n : Nat) : Int)) && (sh x i % 2 != 1)
def symE (l : List Int) (i k : Nat) : Bool := sh (l.getD i 0) k % 2 == sh (l.getD k 0) i % 2
def okL (l : List Int) : Bool := (List.range l.length).all fun i => okE l.length i (l.getD i 0)
def symL (l : List Int) : Bool := (List.range l.length).all fun i => (List.range l.length).all fun k => symE l i k
/-- Is this a frame? -/
def frameB (l : List Int) : Bool := decide (1 ≤ l.length) && decide (l.length ≤ 7) && okL l && symL l

section
variable {Y : Run} {H : Heap}

theorem few16 {v w : AV} {l q : List Int} (hv : IsRow v l) (hw : IsRow w q) : freeX H (callL ET Y 16 [v, w] []) = some (.bool (decide (l.length ≤ 40) && decide (q.length ≤ 40)), H) := by
  rw [call16 rfl]
  by_cases h1 : l.length ≤ 40
  · have c1 : (l.length : Int) ≤ 40 := by omega
    by_cases h2 : q.length ≤ 40
    · have c2 : (q.length : Int) ≤ 40 := by omega
      simp only [F16B, SS, insA, wantedA, Opd.ev, putA, binA, eqbA, unA, fldA, partA, reduceIte, reduceCtorEq, Nat.reduceMod, Nat.reduceDiv, Nat.reduceBEq, resultA, resA, vI, Nat.reduceMul, Nat.reduceAdd, Nat.reduceSub, Nat.reduceEqDiff, Nat.reduceLT, Nat.reducePow, Nat.reduceLeDiff, st, Option.bind_eq_bind, Option.pure_def, List.length_nil, Int.cast_ofNat_Int, List.reverse_nil, UU, idxP, cellsAt, storeA, fillA, zerosA, putAll, optNat, sliceA, row, Int.reduceLT, Int.reduceLE, Int.reduceGT, Int.reduceGE, Int.reduceEq, Int.reduceNe, Int.reduceToNat, Int.reduceBEq, Int.reduceBNe, Nat.reduceLeDiff, Nat.reduceLT, Nat.reduceBNe, Nat.reduceGT, List.drop_nil, List.take_nil, Option.isSome_none, Int.ofNat_one, Int.ofNat_zero, hv.len, hw.len, c1, c2, h1, h2]
    · have c2 : ¬ (q.length : Int) ≤ 40 := by omega
      simp only [F16B, SS, insA, wantedA, Opd.ev, putA, binA, eqbA, unA, fldA, partA, reduceIte, reduceCtorEq, Nat.reduceMod, Nat.reduceDiv, Nat.reduceBEq, resultA, resA, vI, Nat.reduceMul, Nat.reduceAdd, Nat.reduceSub, Nat.reduceEqDiff, Nat.reduceLT, Nat.reducePow, Nat.reduceLeDiff, st, Option.bind_eq_bind, Option.pure_def, List.length_nil, Int.cast_ofNat_Int, List.reverse_nil, UU, idxP, cellsAt, storeA, fillA, zerosA, putAll, optNat, sliceA, row, Int.reduceLT, Int.reduceLE, Int.reduceGT, Int.reduceGE, Int.reduceEq, Int.reduceNe, Int.reduceToNat, Int.reduceBEq, Int.reduceBNe, Nat.reduceLeDiff, Nat.reduceLT, Nat.reduceBNe, Nat.reduceGT, List.drop_nil, List.take_nil, Option.isSome_none, Int.ofNat_one, Int.ofNat_zero, hv.len, hw.len, c1, c2, h1, h2]
  · have c1 : ¬ (l.length : Int) ≤ 40 := by omega
    simp only [F16B, SS, insA, wantedA, Opd.ev, putA, binA, eqbA, unA, fldA, partA, reduceIte, reduceCtorEq, Nat.reduceMod, Nat.reduceDiv, Nat.reduceBEq, resultA, resA, vI, Nat.reduceMul, Nat.reduceAdd, Nat.reduceSub, Nat.reduceEqDiff, Nat.reduceLT, Nat.reducePow, Nat.reduceLeDiff, st, Option.bind_eq_bind, Option.pure_def, List.length_nil, Int.cast_ofNat_Int, List.reverse_nil, UU, idxP, cellsAt, storeA, fillA, zerosA, putAll, optNat, sliceA, row, Int.reduceLT, Int.reduceLE, Int.reduceGT, Int.reduceGE, Int.reduceEq, Int.reduceNe, Int.reduceToNat, Int.reduceBEq, Int.reduceBNe, Nat.reduceLeDiff, Nat.reduceLT, Nat.reduceBNe, Nat.reduceGT, List.drop_nil, List.take_nil, Option.isSome_none, Int.ofNat_one, Int.ofNat_zero, hv.len, hw.len, c1, h1, Bool.false_and]

theorem tmod_emod {x : Int} (h : 0 ≤ x) : x.tmod 2 = x % 2 := Int.tmod_eq_emod_of_nonneg h
theorem sh_nonneg {x : Int} (h : 0 ≤ x) (k : Nat) : 0 ≤ sh x k := by
  unfold sh
  exact Int.fdiv_nonneg h (Int.le_of_lt (Int.pow_pos (by decide)))

theorem L20_0 {v : AV} {l : List Int} (hv : IsRow v l) (hl : l.length ≤ 7) (d : Nat) : ∀ (i : Nat), i + d = l.length →
    lp ET Y F20L0 (sp 69 [(4, vI i), (3, vI l.length), (0, v)]) H = if (List.range' i d).all (fun j => okE l.length j (l.getD j 0)) = true then some (.x 0, sp 69 [(3, vI l.length), (0, v)], H) else some (.r, sp 69 [(2, .bool false)], H) := by
  induction d with
  | zero =>
    intro i hi
    rw [un20_0]
    have : ¬ ((i : Int) < (l.length : Int)) := by omega
    simp only [F20L0b, SS, insA, wantedA, Opd.ev, putA, binA, eqbA, unA, fldA, partA, reduceIte, reduceCtorEq, Nat.reduceMod, Nat.reduceDiv, Nat.reduceBEq, resultA, resA, vI, Nat.reduceMul, Nat.reduceAdd, Nat.reduceSub, Nat.reduceEqDiff, Nat.reduceLT, Nat.reducePow, Nat.reduceLeDiff, st, Option.bind_eq_bind, Option.pure_def, List.length_nil, Int.cast_ofNat_Int, List.reverse_nil, UU, idxP, cellsAt, storeA, fillA, zerosA, putAll, optNat, sliceA, row, Int.reduceLT, Int.reduceLE, Int.reduceGT, Int.reduceGE, Int.reduceEq, Int.reduceNe, Int.reduceToNat, Int.reduceBEq, Int.reduceBNe, Nat.reduceLeDiff, Nat.reduceLT, Nat.reduceBNe, Nat.reduceGT, List.drop_nil, List.take_nil, Option.isSome_none, Int.ofNat_one, Int.ofNat_zero, this, List.range'_zero, List.all_nil]
  | succ d ih =>
    intro i hi
    have hlt : i < l.length := by omega
    have hc : (i : Int) < (l.length : Int) := by omega
    have hw := wrap_succ (n := i) (by omega)
    have ih := ih (i + 1) (by omega)
    have hp1 : (0 : Int) ≤ (l.length : Int) := by omega
    have hp2 : (0 : Int) ≤ (i : Int) := by omega
    have hs1 := shl_eq (k := l.length) (by omega)
    have hs2 := shr_eq (k := i) (by omega)
    rw [un20_0, List.range'_succ, List.all_cons]
    unfold okE
    by_cases c1 : l.getD i 0 < 0
    · have c1' : ¬ 0 ≤ l.getD i 0 := by omega
      simp only [F20L0b, SS, insA, wantedA, Opd.ev, putA, binA, eqbA, unA, fldA, partA, reduceIte, reduceCtorEq, Nat.reduceMod, Nat.reduceDiv, Nat.reduceBEq, resultA, resA, vI, Nat.reduceMul, Nat.reduceAdd, Nat.reduceSub, Nat.reduceEqDiff, Nat.reduceLT, Nat.reducePow, Nat.reduceLeDiff, st, Option.bind_eq_bind, Option.pure_def, List.length_nil, Int.cast_ofNat_Int, List.reverse_nil, UU, idxP, cellsAt, storeA, fillA, zerosA, putAll, optNat, sliceA, row, Int.reduceLT, Int.reduceLE, Int.reduceGT, Int.reduceGE, Int.reduceEq, Int.reduceNe, Int.reduceToNat, Int.reduceBEq, Int.reduceBNe, Nat.reduceLeDiff, Nat.reduceLT, Nat.reduceBNe, Nat.reduceGT, List.drop_nil, List.take_nil, Option.isSome_none, Int.ofNat_one, Int.ofNat_zero, hc, hv.idx hlt, hv.load hlt, hw, c1, c1', decide_false, Bool.false_and, Bool.false_eq_true]
    · have c1' : 0 ≤ l.getD i 0 := by omega
      by_cases c2 : l.getD i 0 ≥ ((2 ^ l.length : Nat) : Int)
      · have c2' : ¬ l.getD i 0 < ((2 ^ l.length : Nat) : Int) := by omega
        simp only [F20L0b, SS, insA, wantedA, Opd.ev, putA, binA, eqbA, unA, fldA, partA, reduceIte, reduceCtorEq, Nat.reduceMod, Nat.reduceDiv, Nat.reduceBEq, resultA, resA, vI, Nat.reduceMul, Nat.reduceAdd, Nat.reduceSub, Nat.reduceEqDiff, Nat.reduceLT, Nat.reducePow, Nat.reduceLeDiff, st, Option.bind_eq_bind, Option.pure_def, List.length_nil, Int.cast_ofNat_Int, List.reverse_nil, UU, idxP, cellsAt, storeA, fillA, zerosA, putAll, optNat, sliceA, row, Int.reduceLT, Int.reduceLE, Int.reduceGT, Int.reduceGE, Int.reduceEq, Int.reduceNe, Int.reduceToNat, Int.reduceBEq, Int.reduceBNe, Nat.reduceLeDiff, Nat.reduceLT, Nat.reduceBNe, Nat.reduceGT, List.drop_nil, List.take_nil, Option.isSome_none, Int.ofNat_one, Int.ofNat_zero, hc, hv.idx hlt, hv.load hlt, hw, c1, c1', c2, c2', hp1, hs1, decide_false, decide_true, Bool.false_and, Bool.true_and, Bool.false_eq_true]
      · have c2' : l.getD i 0 < ((2 ^ l.length : Nat) : Int) := by omega
        have ht := tmod_emod (sh_nonneg c1' i)
        have h20 : (2 : Int) ≠ 0 := by decide
        by_cases c3 : sh (l.getD i 0) i % 2 = 1
        · have c3' : (sh (l.getD i 0) i % 2 == 1) = true := beq_iff_eq.2 c3
          have c3'' : (sh (l.getD i 0) i % 2 != 1) = false := by rw [c3]; rfl
          simp only [F20L0b, SS, insA, wantedA, Opd.ev, putA, binA, eqbA, unA, fldA, partA, reduceIte, reduceCtorEq, Nat.reduceMod, Nat.reduceDiv, Nat.reduceBEq, resultA, resA, vI, Nat.reduceMul, Nat.reduceAdd, Nat.reduceSub, Nat.reduceEqDiff, Nat.reduceLT, Nat.reducePow, Nat.reduceLeDiff, st, Option.bind_eq_bind, Option.pure_def, List.length_nil, Int.cast_ofNat_Int, List.reverse_nil, UU, idxP, cellsAt, storeA, fillA, zerosA, putAll, optNat, sliceA, row, Int.reduceLT, Int.reduceLE, Int.reduceGT, Int.reduceGE, Int.reduceEq, Int.reduceNe, Int.reduceToNat, Int.reduceBEq, Int.reduceBNe, Nat.reduceLeDiff, Nat.reduceLT, Nat.reduceBNe, Nat.reduceGT, List.drop_nil, List.take_nil, Option.isSome_none, Int.ofNat_one, Int.ofNat_zero, hc, hv.idx hlt, hv.load hlt, hw, c1, c1', c2, c2', hp1, hp2, hs1, hs2, ht, h20, c3', c3'', decide_false, decide_true, Bool.false_and, Bool.true_and, Bool.false_eq_true, ne_eq, not_false_eq_true, and_self]
        · have c3' : (sh (l.getD i 0) i % 2 == 1) = false := beq_false_of_ne c3
          have c3'' : (sh (l.getD i 0) i % 2 != 1) = true := bne_iff_ne.2 c3
          simp only [SS, insA, wantedA, Opd.ev, putA, binA, eqbA, unA, fldA, partA, reduceIte, reduceCtorEq, Nat.reduceMod, Nat.reduceDiv, Nat.reduceBEq, resultA, resA, vI, Nat.reduceMul, Nat.reduceAdd, Nat.reduceSub, Nat.reduceEqDiff, Nat.reduceLT, Nat.reducePow, Nat.reduceLeDiff, st, Option.bind_eq_bind, Option.pure_def, List.length_nil, Int.cast_ofNat_Int, List.reverse_nil] at ih
          simp only [F20L0b, SS, insA, wantedA, Opd.ev, putA, binA, eqbA, unA, fldA, partA, reduceIte, reduceCtorEq, Nat.reduceMod, Nat.reduceDiv, Nat.reduceBEq, resultA, resA, vI, Nat.reduceMul, Nat.reduceAdd, Nat.reduceSub, Nat.reduceEqDiff, Nat.reduceLT, Nat.reducePow, Nat.reduceLeDiff, st, Option.bind_eq_bind, Option.pure_def, List.length_nil, Int.cast_ofNat_Int, List.reverse_nil, UU, idxP, cellsAt, storeA, fillA, zerosA, putAll, optNat, sliceA, row, Int.reduceLT, Int.reduceLE, Int.reduceGT, Int.reduceGE, Int.reduceEq, Int.reduceNe, Int.reduceToNat, Int.reduceBEq, Int.reduceBNe, Nat.reduceLeDiff, Nat.reduceLT, Nat.reduceBNe, Nat.reduceGT, List.drop_nil, List.take_nil, Option.isSome_none, Int.ofNat_one, Int.ofNat_zero, hc, hv.idx hlt, hv.load hlt, hw, c1, c1', c2, c2', hp1, hp2, hs1, hs2, ht, h20, c3', c3'', ih, decide_false, decide_true, Bool.false_and, Bool.true_and, Bool.false_eq_true, ne_eq, not_false_eq_true, and_self]
          rfl

theorem L20_1 {v : AV} {l : List Int} (hv : IsRow v l) (hl : l.length ≤ 7) (hnn : ∀ j, j < l.length → 0 ≤ l.getD j 0) {i : Nat} (hi : i < l.length) (d : Nat) : ∀ (k : Nat), k + d = l.length →
    lp ET Y F20L1 (sp 69 [(6, vI k), (5, vI i), (3, vI l.length), (0, v)]) H = if (List.range' k d).all (fun k => symE l i k) = true then some (.x 4, sp 69 [(5, vI i), (3, vI l.length), (0, v)], H) else some (.r, sp 69 [(2, .bool false)], H) := by
  induction d with
  | zero =>
    intro k hk
    rw [un20_1]
    have : ¬ ((k : Int) < (l.length : Int)) := by omega
    simp only [F20L1b, SS, insA, wantedA, Opd.ev, putA, binA, eqbA, unA, fldA, partA, reduceIte, reduceCtorEq, Nat.reduceMod, Nat.reduceDiv, Nat.reduceBEq, resultA, resA, vI, Nat.reduceMul, Nat.reduceAdd, Nat.reduceSub, Nat.reduceEqDiff, Nat.reduceLT, Nat.reducePow, Nat.reduceLeDiff, st, Option.bind_eq_bind, Option.pure_def, List.length_nil, Int.cast_ofNat_Int, List.reverse_nil, UU, idxP, cellsAt, storeA, fillA, zerosA, putAll, optNat, sliceA, row, Int.reduceLT, Int.reduceLE, Int.reduceGT, Int.reduceGE, Int.reduceEq, Int.reduceNe, Int.reduceToNat, Int.reduceBEq, Int.reduceBNe, Nat.reduceLeDiff, Nat.reduceLT, Nat.reduceBNe, Nat.reduceGT, List.drop_nil, List.take_nil, Option.isSome_none, Int.ofNat_one, Int.ofNat_zero, this, List.range'_zero, List.all_nil]
  | succ d ih =>
    intro k hk
    have hlt : k < l.length := by omega
    have hc : (k : Int) < (l.length : Int) := by omega
    have hw := wrap_succ (n := k) (by omega)
    have ih := ih (k + 1) (by omega)
    have hp1 : (0 : Int) ≤ (i : Int) := by omega
    have hp2 : (0 : Int) ≤ (k : Int) := by omega
    have hs1 := shr_eq (k := i) (by omega)
    have hs2 := shr_eq (k := k) (by omega)
    have h20 : (2 : Int) ≠ 0 := by decide
    have t1 := tmod_emod (sh_nonneg (hnn i hi) k)
    have t2 := tmod_emod (sh_nonneg (hnn k hlt) i)
    rw [un20_1, List.range'_succ, List.all_cons]
    unfold symE
    by_cases c : sh (l.getD i 0) k % 2 = sh (l.getD k 0) i % 2
    · have c1 : (sh (l.getD i 0) k % 2 != sh (l.getD k 0) i % 2) = false := by rw [c]; simp
      have c2 : (sh (l.getD i 0) k % 2 == sh (l.getD k 0) i % 2) = true := beq_iff_eq.2 c
      simp only [SS, insA, wantedA, Opd.ev, putA, binA, eqbA, unA, fldA, partA, reduceIte, reduceCtorEq, Nat.reduceMod, Nat.reduceDiv, Nat.reduceBEq, resultA, resA, vI, Nat.reduceMul, Nat.reduceAdd, Nat.reduceSub, Nat.reduceEqDiff, Nat.reduceLT, Nat.reducePow, Nat.reduceLeDiff, st, Option.bind_eq_bind, Option.pure_def, List.length_nil, Int.cast_ofNat_Int, List.reverse_nil] at ih
      simp only [F20L1b, SS, insA, wantedA, Opd.ev, putA, binA, eqbA, unA, fldA, partA, reduceIte, reduceCtorEq, Nat.reduceMod, Nat.reduceDiv, Nat.reduceBEq, resultA, resA, vI, Nat.reduceMul, Nat.reduceAdd, Nat.reduceSub, Nat.reduceEqDiff, Nat.reduceLT, Nat.reducePow, Nat.reduceLeDiff, st, Option.bind_eq_bind, Option.pure_def, List.length_nil, Int.cast_ofNat_Int, List.reverse_nil, UU, idxP, cellsAt, storeA, fillA, zerosA, putAll, optNat, sliceA, row, Int.reduceLT, Int.reduceLE, Int.reduceGT, Int.reduceGE, Int.reduceEq, Int.reduceNe, Int.reduceToNat, Int.reduceBEq, Int.reduceBNe, Nat.reduceLeDiff, Nat.reduceLT, Nat.reduceBNe, Nat.reduceGT, List.drop_nil, List.take_nil, Option.isSome_none, Int.ofNat_one, Int.ofNat_zero, hc, hv.idx hlt, hv.load hlt, hv.idx hi, hv.load hi, hw, hp1, hp2, hs1, hs2, h20, t1, t2, c1, c2, ih, Bool.true_and, ne_eq, not_false_eq_true, and_self]
      rfl
    · have c1 : (sh (l.getD i 0) k % 2 != sh (l.getD k 0) i % 2) = true := bne_iff_ne.2 c
      have c2 : (sh (l.getD i 0) k % 2 == sh (l.getD k 0) i % 2) = false := beq_false_of_ne c
      simp only [F20L1b, SS, insA, wantedA, Opd.ev, putA, binA, eqbA, unA, fldA, partA, reduceIte, reduceCtorEq, Nat.reduceMod, Nat.reduceDiv, Nat.reduceBEq, resultA, resA, vI, Nat.reduceMul, Nat.reduceAdd, Nat.reduceSub, Nat.reduceEqDiff, Nat.reduceLT, Nat.reducePow, Nat.reduceLeDiff, st, Option.bind_eq_bind, Option.pure_def, List.length_nil, Int.cast_ofNat_Int, List.reverse_nil, UU, idxP, cellsAt, storeA, fillA, zerosA, putAll, optNat, sliceA, row, Int.reduceLT, Int.reduceLE, Int.reduceGT, Int.reduceGE, Int.reduceEq, Int.reduceNe, Int.reduceToNat, Int.reduceBEq, Int.reduceBNe, Nat.reduceLeDiff, Nat.reduceLT, Nat.reduceBNe, Nat.reduceGT, List.drop_nil, List.take_nil, Option.isSome_none, Int.ofNat_one, Int.ofNat_zero, hc, hv.idx hlt, hv.load hlt, hv.idx hi, hv.load hi, hw, hp1, hp2, hs1, hs2, h20, t1, t2, c1, c2, Bool.false_and, Bool.false_eq_true, ne_eq, not_false_eq_true, and_self]

theorem L20_2 {v : AV} {l : List Int} (hv : IsRow v l) (hl : l.length ≤ 7) (hnn : ∀ j, j < l.length → 0 ≤ l.getD j 0) (d : Nat) : ∀ (i : Nat), i + d = l.length →
    lp ET Y F20L2 (sp 69 [(5, vI i), (3, vI l.length), (0, v)]) H = if (List.range' i d).all (fun i => (List.range l.length).all fun k => symE l i k) = true then some (.x 2, sp 69 [], H) else some (.r, sp 69 [(2, .bool false)], H) := by
  induction d with
  | zero =>
    intro i hi
    rw [un20_2]
    have : ¬ ((i : Int) < (l.length : Int)) := by omega
    simp only [F20L2b, SS, insA, wantedA, Opd.ev, putA, binA, eqbA, unA, fldA, partA, reduceIte, reduceCtorEq, Nat.reduceMod, Nat.reduceDiv, Nat.reduceBEq, resultA, resA, vI, Nat.reduceMul, Nat.reduceAdd, Nat.reduceSub, Nat.reduceEqDiff, Nat.reduceLT, Nat.reducePow, Nat.reduceLeDiff, st, Option.bind_eq_bind, Option.pure_def, List.length_nil, Int.cast_ofNat_Int, List.reverse_nil, UU, idxP, cellsAt, storeA, fillA, zerosA, putAll, optNat, sliceA, row, Int.reduceLT, Int.reduceLE, Int.reduceGT, Int.reduceGE, Int.reduceEq, Int.reduceNe, Int.reduceToNat, Int.reduceBEq, Int.reduceBNe, Nat.reduceLeDiff, Nat.reduceLT, Nat.reduceBNe, Nat.reduceGT, List.drop_nil, List.take_nil, Option.isSome_none, Int.ofNat_one, Int.ofNat_zero, this, List.range'_zero, List.all_nil]
  | succ d ih =>
    intro i hi
    have hlt : i < l.length := by omega
    have hc : (i : Int) < (l.length : Int) := by omega
    have hw := wrap_succ (n := i) (by omega)
    have ih := ih (i + 1) (by omega)
    have h0 := L20_1 (Y := Y) (H := H) hv hl hnn hlt l.length 0 (by omega)
    rw [un20_2, List.range'_succ, List.all_cons]
    rw [← List.range_eq_range'] at h0
    cases hb : (List.range l.length).all fun k => symE l i k with
    | true =>
      rw [hb, if_pos rfl] at h0
      simp only [SS, insA, wantedA, Opd.ev, putA, binA, eqbA, unA, fldA, partA, reduceIte, reduceCtorEq, Nat.reduceMod, Nat.reduceDiv, Nat.reduceBEq, resultA, resA, vI, Nat.reduceMul, Nat.reduceAdd, Nat.reduceSub, Nat.reduceEqDiff, Nat.reduceLT, Nat.reducePow, Nat.reduceLeDiff, st, Option.bind_eq_bind, Option.pure_def, List.length_nil, Int.cast_ofNat_Int, List.reverse_nil, Int.ofNat_zero] at h0 ih
      simp only [F20L2b, F20T0, in20_1, SS, insA, wantedA, Opd.ev, putA, binA, eqbA, unA, fldA, partA, reduceIte, reduceCtorEq, Nat.reduceMod, Nat.reduceDiv, Nat.reduceBEq, resultA, resA, vI, Nat.reduceMul, Nat.reduceAdd, Nat.reduceSub, Nat.reduceEqDiff, Nat.reduceLT, Nat.reducePow, Nat.reduceLeDiff, st, Option.bind_eq_bind, Option.pure_def, List.length_nil, Int.cast_ofNat_Int, List.reverse_nil, UU, idxP, cellsAt, storeA, fillA, zerosA, putAll, optNat, sliceA, row, Int.reduceLT, Int.reduceLE, Int.reduceGT, Int.reduceGE, Int.reduceEq, Int.reduceNe, Int.reduceToNat, Int.reduceBEq, Int.reduceBNe, Nat.reduceLeDiff, Nat.reduceLT, Nat.reduceBNe, Nat.reduceGT, List.drop_nil, List.take_nil, Option.isSome_none, Int.ofNat_one, Int.ofNat_zero, hc, hw, h0, ih, Bool.true_and]
    | false =>
      rw [hb, if_neg (by simp)] at h0
      simp only [SS, insA, wantedA, Opd.ev, putA, binA, eqbA, unA, fldA, partA, reduceIte, reduceCtorEq, Nat.reduceMod, Nat.reduceDiv, Nat.reduceBEq, resultA, resA, vI, Nat.reduceMul, Nat.reduceAdd, Nat.reduceSub, Nat.reduceEqDiff, Nat.reduceLT, Nat.reducePow, Nat.reduceLeDiff, st, Option.bind_eq_bind, Option.pure_def, List.length_nil, Int.cast_ofNat_Int, List.reverse_nil, Int.ofNat_zero] at h0
      simp only [F20L2b, F20T0, in20_1, SS, insA, wantedA, Opd.ev, putA, binA, eqbA, unA, fldA, partA, reduceIte, reduceCtorEq, Nat.reduceMod, Nat.reduceDiv, Nat.reduceBEq, resultA, resA, vI, Nat.reduceMul, Nat.reduceAdd, Nat.reduceSub, Nat.reduceEqDiff, Nat.reduceLT, Nat.reducePow, Nat.reduceLeDiff, st, Option.bind_eq_bind, Option.pure_def, List.length_nil, Int.cast_ofNat_Int, List.reverse_nil, UU, idxP, cellsAt, storeA, fillA, zerosA, putAll, optNat, sliceA, row, Int.reduceLT, Int.reduceLE, Int.reduceGT, Int.reduceGE, Int.reduceEq, Int.reduceNe, Int.reduceToNat, Int.reduceBEq, Int.reduceBNe, Nat.reduceLeDiff, Nat.reduceLT, Nat.reduceBNe, Nat.reduceGT, List.drop_nil, List.take_nil, Option.isSome_none, Int.ofNat_one, Int.ofNat_zero, hc, h0, Bool.false_and, Bool.false_eq_true]

theorem okL_nn {l : List Int} (h : okL l = true) : ∀ j, j < l.length → 0 ≤ l.getD j 0 := by
  intro j hj
  have := List.all_eq_true.1 h j (List.mem_range.2 hj)
  simp only [okE, Bool.and_eq_true, decide_eq_true_eq] at this
  exact this.1.1

theorem frame20 {v : AV} {l : List Int} (hv : IsRow v l) (hl : l.length ≤ 1000) : freeX H (callL ET Y 20 [v] []) = some (.bool (frameB l), H) := by
  rw [call20 rfl]
  unfold frameB
  by_cases c1 : l.length < 1
  · have d1 : (l.length : Int) < 1 := by omega
    have d2 : decide (1 ≤ l.length) = false := decide_eq_false (by omega)
    simp only [F20B, F20T2, SS, insA, wantedA, Opd.ev, putA, binA, eqbA, unA, fldA, partA, reduceIte, reduceCtorEq, Nat.reduceMod, Nat.reduceDiv, Nat.reduceBEq, resultA, resA, vI, Nat.reduceMul, Nat.reduceAdd, Nat.reduceSub, Nat.reduceEqDiff, Nat.reduceLT, Nat.reducePow, Nat.reduceLeDiff, st, Option.bind_eq_bind, Option.pure_def, List.length_nil, Int.cast_ofNat_Int, List.reverse_nil, UU, idxP, cellsAt, storeA, fillA, zerosA, putAll, optNat, sliceA, row, Int.reduceLT, Int.reduceLE, Int.reduceGT, Int.reduceGE, Int.reduceEq, Int.reduceNe, Int.reduceToNat, Int.reduceBEq, Int.reduceBNe, Nat.reduceLeDiff, Nat.reduceLT, Nat.reduceBNe, Nat.reduceGT, List.drop_nil, List.take_nil, Option.isSome_none, Int.ofNat_one, Int.ofNat_zero, hv.len, d1, d2, Bool.false_and]
  · have d1 : ¬ (l.length : Int) < 1 := by omega
    have d2 : decide (1 ≤ l.length) = true := decide_eq_true (by omega)
    by_cases c2 : l.length > 7
    · have d3 : (l.length : Int) > 7 := by omega
      have d4 : decide (l.length ≤ 7) = false := decide_eq_false (by omega)
      simp only [F20B, F20T2, SS, insA, wantedA, Opd.ev, putA, binA, eqbA, unA, fldA, partA, reduceIte, reduceCtorEq, Nat.reduceMod, Nat.reduceDiv, Nat.reduceBEq, resultA, resA, vI, Nat.reduceMul, Nat.reduceAdd, Nat.reduceSub, Nat.reduceEqDiff, Nat.reduceLT, Nat.reducePow, Nat.reduceLeDiff, st, Option.bind_eq_bind, Option.pure_def, List.length_nil, Int.cast_ofNat_Int, List.reverse_nil, UU, idxP, cellsAt, storeA, fillA, zerosA, putAll, optNat, sliceA, row, Int.reduceLT, Int.reduceLE, Int.reduceGT, Int.reduceGE, Int.reduceEq, Int.reduceNe, Int.reduceToNat, Int.reduceBEq, Int.reduceBNe, Nat.reduceLeDiff, Nat.reduceLT, Nat.reduceBNe, Nat.reduceGT, List.drop_nil, List.take_nil, Option.isSome_none, Int.ofNat_one, Int.ofNat_zero, hv.len, d1, d2, d3, d4, Bool.false_and, Bool.true_and]
    · have d3 : ¬ (l.length : Int) > 7 := by omega
      have d4 : decide (l.length ≤ 7) = true := decide_eq_true (by omega)
      have h0 := L20_0 (Y := Y) (H := []) hv (by omega) l.length 0 (by omega)
      rw [← List.range_eq_range'] at h0
      cases hb : okL l with
      | false =>
        rw [show ((List.range l.length).all fun j => okE l.length j (l.getD j 0)) = false from hb, if_neg (by simp)] at h0
        simp only [SS, insA, wantedA, Opd.ev, putA, binA, eqbA, unA, fldA, partA, reduceIte, reduceCtorEq, Nat.reduceMod, Nat.reduceDiv, Nat.reduceBEq, resultA, resA, vI, Nat.reduceMul, Nat.reduceAdd, Nat.reduceSub, Nat.reduceEqDiff, Nat.reduceLT, Nat.reducePow, Nat.reduceLeDiff, st, Option.bind_eq_bind, Option.pure_def, List.length_nil, Int.cast_ofNat_Int, List.reverse_nil, Int.ofNat_zero] at h0
        simp only [F20B, F20T2, in20_0, SS, insA, wantedA, Opd.ev, putA, binA, eqbA, unA, fldA, partA, reduceIte, reduceCtorEq, Nat.reduceMod, Nat.reduceDiv, Nat.reduceBEq, resultA, resA, vI, Nat.reduceMul, Nat.reduceAdd, Nat.reduceSub, Nat.reduceEqDiff, Nat.reduceLT, Nat.reducePow, Nat.reduceLeDiff, st, Option.bind_eq_bind, Option.pure_def, List.length_nil, Int.cast_ofNat_Int, List.reverse_nil, UU, idxP, cellsAt, storeA, fillA, zerosA, putAll, optNat, sliceA, row, Int.reduceLT, Int.reduceLE, Int.reduceGT, Int.reduceGE, Int.reduceEq, Int.reduceNe, Int.reduceToNat, Int.reduceBEq, Int.reduceBNe, Nat.reduceLeDiff, Nat.reduceLT, Nat.reduceBNe, Nat.reduceGT, List.drop_nil, List.take_nil, Option.isSome_none, Int.ofNat_one, Int.ofNat_zero, hv.len, d1, d2, d3, d4, h0, Bool.false_and, Bool.true_and]
      | true =>
        rw [show ((List.range l.length).all fun j => okE l.length j (l.getD j 0)) = true from hb, if_pos rfl] at h0
        have h1 := L20_2 (Y := Y) (H := []) hv (by omega) (okL_nn hb) l.length 0 (by omega)
        rw [← List.range_eq_range'] at h1
        cases hs : symL l with
        | false =>
          rw [show ((List.range l.length).all fun i => (List.range l.length).all fun k => symE l i k) = false from hs, if_neg (by simp)] at h1
          simp only [SS, insA, wantedA, Opd.ev, putA, binA, eqbA, unA, fldA, partA, reduceIte, reduceCtorEq, Nat.reduceMod, Nat.reduceDiv, Nat.reduceBEq, resultA, resA, vI, Nat.reduceMul, Nat.reduceAdd, Nat.reduceSub, Nat.reduceEqDiff, Nat.reduceLT, Nat.reducePow, Nat.reduceLeDiff, st, Option.bind_eq_bind, Option.pure_def, List.length_nil, Int.cast_ofNat_Int, List.reverse_nil, Int.ofNat_zero] at h0 h1
          simp only [F20B, F20T2, in20_0, in20_2, SS, insA, wantedA, Opd.ev, putA, binA, eqbA, unA, fldA, partA, reduceIte, reduceCtorEq, Nat.reduceMod, Nat.reduceDiv, Nat.reduceBEq, resultA, resA, vI, Nat.reduceMul, Nat.reduceAdd, Nat.reduceSub, Nat.reduceEqDiff, Nat.reduceLT, Nat.reducePow, Nat.reduceLeDiff, st, Option.bind_eq_bind, Option.pure_def, List.length_nil, Int.cast_ofNat_Int, List.reverse_nil, UU, idxP, cellsAt, storeA, fillA, zerosA, putAll, optNat, sliceA, row, Int.reduceLT, Int.reduceLE, Int.reduceGT, Int.reduceGE, Int.reduceEq, Int.reduceNe, Int.reduceToNat, Int.reduceBEq, Int.reduceBNe, Nat.reduceLeDiff, Nat.reduceLT, Nat.reduceBNe, Nat.reduceGT, List.drop_nil, List.take_nil, Option.isSome_none, Int.ofNat_one, Int.ofNat_zero, hv.len, d1, d2, d3, d4, h0, h1, Bool.true_and]
        | true =>
          rw [show ((List.range l.length).all fun i => (List.range l.length).all fun k => symE l i k) = true from hs, if_pos rfl] at h1
          simp only [SS, insA, wantedA, Opd.ev, putA, binA, eqbA, unA, fldA, partA, reduceIte, reduceCtorEq, Nat.reduceMod, Nat.reduceDiv, Nat.reduceBEq, resultA, resA, vI, Nat.reduceMul, Nat.reduceAdd, Nat.reduceSub, Nat.reduceEqDiff, Nat.reduceLT, Nat.reducePow, Nat.reduceLeDiff, st, Option.bind_eq_bind, Option.pure_def, List.length_nil, Int.cast_ofNat_Int, List.reverse_nil, Int.ofNat_zero] at h0 h1
          simp only [F20B, F20T2, F20T1, in20_0, in20_2, SS, insA, wantedA, Opd.ev, putA, binA, eqbA, unA, fldA, partA, reduceIte, reduceCtorEq, Nat.reduceMod, Nat.reduceDiv, Nat.reduceBEq, resultA, resA, vI, Nat.reduceMul, Nat.reduceAdd, Nat.reduceSub, Nat.reduceEqDiff, Nat.reduceLT, Nat.reducePow, Nat.reduceLeDiff, st, Option.bind_eq_bind, Option.pure_def, List.length_nil, Int.cast_ofNat_Int, List.reverse_nil, UU, idxP, cellsAt, storeA, fillA, zerosA, putAll, optNat, sliceA, row, Int.reduceLT, Int.reduceLE, Int.reduceGT, Int.reduceGE, Int.reduceEq, Int.reduceNe, Int.reduceToNat, Int.reduceBEq, Int.reduceBNe, Nat.reduceLeDiff, Nat.reduceLT, Nat.reduceBNe, Nat.reduceGT, List.drop_nil, List.take_nil, Option.isSome_none, Int.ofNat_one, Int.ofNat_zero, hv.len, d1, d2, d3, d4, h0, h1, Bool.true_and]

theorem L51_0 {v : AV} {l : List Int} (hv : IsRow v l) (hl : l.length ≤ 7) {i : Nat} (hi : i < l.length) (d : Nat) : ∀ (k : Nat), k + d = l.length →
    lp ET Y F51L0 (sp 58 [(41, vI k), (40, vI l.length), (39, v), (18, vI i), (17, vI l.length), (16, v), (5, vI (l.getD i 0)), (4, vI i), (0, v)]) H =
      if (List.range' k d).all (fun k => symE l i k) = true then some (.x 2, sp 58 [(18, vI i), (17, vI l.length), (16, v), (0, v)], H) else some (.r, sp 58 [(3, .bool false), (2, .nils)], H) := by
  induction d with
  | zero =>
    intro k hk
    rw [un51_0]
    have : ¬ ((k : Int) < (l.length : Int)) := by omega
    simp only [F51L0b, SS, insA, wantedA, Opd.ev, putA, binA, eqbA, unA, fldA, partA, reduceIte, reduceCtorEq, Nat.reduceMod, Nat.reduceDiv, Nat.reduceBEq, resultA, resA, vI, Nat.reduceMul, Nat.reduceAdd, Nat.reduceSub, Nat.reduceEqDiff, Nat.reduceLT, Nat.reducePow, Nat.reduceLeDiff, st, Option.bind_eq_bind, Option.pure_def, List.length_nil, Int.cast_ofNat_Int, List.reverse_nil, UU, idxP, cellsAt, storeA, fillA, zerosA, putAll, optNat, sliceA, row, Int.reduceLT, Int.reduceLE, Int.reduceGT, Int.reduceGE, Int.reduceEq, Int.reduceNe, Int.reduceToNat, Int.reduceBEq, Int.reduceBNe, Nat.reduceLeDiff, Nat.reduceLT, Nat.reduceBNe, Nat.reduceGT, List.drop_nil, List.take_nil, Option.isSome_none, Int.ofNat_one, Int.ofNat_zero, this, List.range'_zero, List.all_nil]
  | succ d ih =>
    intro k hk
    have hlt : k < l.length := by omega
    have hc : (k : Int) < (l.length : Int) := by omega
    have hw := wrap_succ (n := k) (by omega)
    have ih := ih (k + 1) (by omega)
    have hp1 : (0 : Int) ≤ (i : Int) := by omega
    have hp2 : (0 : Int) ≤ (k : Int) := by omega
    have hs1 := shr_eq (k := i) (by omega)
    have hs2 := shr_eq (k := k) (by omega)
    rw [un51_0, List.range'_succ, List.all_cons]
    unfold symE
    by_cases c : sh (l.getD i 0) k % 2 = sh (l.getD k 0) i % 2
    · have c1 : (sh (l.getD i 0) k % 2 != sh (l.getD k 0) i % 2) = false := by rw [c]; simp
      have c2 : (sh (l.getD i 0) k % 2 == sh (l.getD k 0) i % 2) = true := beq_iff_eq.2 c
      simp only [SS, insA, wantedA, Opd.ev, putA, binA, eqbA, unA, fldA, partA, reduceIte, reduceCtorEq, Nat.reduceMod, Nat.reduceDiv, Nat.reduceBEq, resultA, resA, vI, Nat.reduceMul, Nat.reduceAdd, Nat.reduceSub, Nat.reduceEqDiff, Nat.reduceLT, Nat.reducePow, Nat.reduceLeDiff, st, Option.bind_eq_bind, Option.pure_def, List.length_nil, Int.cast_ofNat_Int, List.reverse_nil] at ih
      simp only [F51L0b, SS, insA, wantedA, Opd.ev, putA, binA, eqbA, unA, fldA, partA, reduceIte, reduceCtorEq, Nat.reduceMod, Nat.reduceDiv, Nat.reduceBEq, resultA, resA, vI, Nat.reduceMul, Nat.reduceAdd, Nat.reduceSub, Nat.reduceEqDiff, Nat.reduceLT, Nat.reducePow, Nat.reduceLeDiff, st, Option.bind_eq_bind, Option.pure_def, List.length_nil, Int.cast_ofNat_Int, List.reverse_nil, UU, idxP, cellsAt, storeA, fillA, zerosA, putAll, optNat, sliceA, row, Int.reduceLT, Int.reduceLE, Int.reduceGT, Int.reduceGE, Int.reduceEq, Int.reduceNe, Int.reduceToNat, Int.reduceBEq, Int.reduceBNe, Nat.reduceLeDiff, Nat.reduceLT, Nat.reduceBNe, Nat.reduceGT, List.drop_nil, List.take_nil, Option.isSome_none, Int.ofNat_one, Int.ofNat_zero, hc, hv.idx hlt, hv.load hlt, hw, hp1, hp2, hs1, hs2, and_one, c1, c2, ih, Bool.true_and]
      rfl
    · have c1 : (sh (l.getD i 0) k % 2 != sh (l.getD k 0) i % 2) = true := bne_iff_ne.2 c
      have c2 : (sh (l.getD i 0) k % 2 == sh (l.getD k 0) i % 2) = false := beq_false_of_ne c
      simp only [F51L0b, SS, insA, wantedA, Opd.ev, putA, binA, eqbA, unA, fldA, partA, reduceIte, reduceCtorEq, Nat.reduceMod, Nat.reduceDiv, Nat.reduceBEq, resultA, resA, vI, Nat.reduceMul, Nat.reduceAdd, Nat.reduceSub, Nat.reduceEqDiff, Nat.reduceLT, Nat.reducePow, Nat.reduceLeDiff, st, Option.bind_eq_bind, Option.pure_def, List.length_nil, Int.cast_ofNat_Int, List.reverse_nil, UU, idxP, cellsAt, storeA, fillA, zerosA, putAll, optNat, sliceA, row, Int.reduceLT, Int.reduceLE, Int.reduceGT, Int.reduceGE, Int.reduceEq, Int.reduceNe, Int.reduceToNat, Int.reduceBEq, Int.reduceBNe, Nat.reduceLeDiff, Nat.reduceLT, Nat.reduceBNe, Nat.reduceGT, List.drop_nil, List.take_nil, Option.isSome_none, Int.ofNat_one, Int.ofNat_zero, hc, hv.idx hlt, hv.load hlt, hw, hp1, hp2, hs1, hs2, and_one, c1, c2, Bool.false_and, Bool.false_eq_true]

def rowOk (l : List Int) (i : Nat) : Bool := okE l.length i (l.getD i 0) && (List.range l.length).all fun k => symE l i k

theorem L51_1 {v : AV} {l : List Int} (hv : IsRow v l) (hl : l.length ≤ 7) (d : Nat) : ∀ (i : Nat), i + d = l.length →
    lp ET Y F51L1 (sp 58 [(18, vI i), (17, vI l.length), (16, v), (0, v)]) H = if (List.range' i d).all (rowOk l) = true then some (.x 0, sp 58 [(0, v)], H) else some (.r, sp 58 [(3, .bool false), (2, .nils)], H) := by
  induction d with
  | zero =>
    intro i hi
    rw [un51_1]
    have : ¬ ((i : Int) < (l.length : Int)) := by omega
    simp only [F51L1b, SS, insA, wantedA, Opd.ev, putA, binA, eqbA, unA, fldA, partA, reduceIte, reduceCtorEq, Nat.reduceMod, Nat.reduceDiv, Nat.reduceBEq, resultA, resA, vI, Nat.reduceMul, Nat.reduceAdd, Nat.reduceSub, Nat.reduceEqDiff, Nat.reduceLT, Nat.reducePow, Nat.reduceLeDiff, st, Option.bind_eq_bind, Option.pure_def, List.length_nil, Int.cast_ofNat_Int, List.reverse_nil, UU, idxP, cellsAt, storeA, fillA, zerosA, putAll, optNat, sliceA, row, Int.reduceLT, Int.reduceLE, Int.reduceGT, Int.reduceGE, Int.reduceEq, Int.reduceNe, Int.reduceToNat, Int.reduceBEq, Int.reduceBNe, Nat.reduceLeDiff, Nat.reduceLT, Nat.reduceBNe, Nat.reduceGT, List.drop_nil, List.take_nil, Option.isSome_none, Int.ofNat_one, Int.ofNat_zero, this, List.range'_zero, List.all_nil]
  | succ d ih =>
    intro i hi
    have hlt : i < l.length := by omega
    have hc : (i : Int) < (l.length : Int) := by omega
    have hw := wrap_succ (n := i) (by omega)
    have ih := ih (i + 1) (by omega)
    have hp1 : (0 : Int) ≤ (l.length : Int) := by omega
    have hp2 : (0 : Int) ≤ (i : Int) := by omega
    have hs1 := shl_eq (k := l.length) (by omega)
    have hs2 := shr_eq (k := i) (by omega)
    have h0 := L51_0 (Y := Y) (H := H) hv hl hlt l.length 0 (by omega)
    rw [un51_1, List.range'_succ, List.all_cons]
    rw [← List.range_eq_range'] at h0
    unfold rowOk okE
    by_cases c1 : l.getD i 0 < 0
    · have c1' : ¬ 0 ≤ l.getD i 0 := by omega
      simp only [F51L1b, SS, insA, wantedA, Opd.ev, putA, binA, eqbA, unA, fldA, partA, reduceIte, reduceCtorEq, Nat.reduceMod, Nat.reduceDiv, Nat.reduceBEq, resultA, resA, vI, Nat.reduceMul, Nat.reduceAdd, Nat.reduceSub, Nat.reduceEqDiff, Nat.reduceLT, Nat.reducePow, Nat.reduceLeDiff, st, Option.bind_eq_bind, Option.pure_def, List.length_nil, Int.cast_ofNat_Int, List.reverse_nil, UU, idxP, cellsAt, storeA, fillA, zerosA, putAll, optNat, sliceA, row, Int.reduceLT, Int.reduceLE, Int.reduceGT, Int.reduceGE, Int.reduceEq, Int.reduceNe, Int.reduceToNat, Int.reduceBEq, Int.reduceBNe, Nat.reduceLeDiff, Nat.reduceLT, Nat.reduceBNe, Nat.reduceGT, List.drop_nil, List.take_nil, Option.isSome_none, Int.ofNat_one, Int.ofNat_zero, hc, hv.idx hlt, hv.load hlt, hw, c1, c1', decide_false, Bool.false_and, Bool.false_eq_true]
    · have c1' : 0 ≤ l.getD i 0 := by omega
      by_cases c2 : l.getD i 0 ≥ ((2 ^ l.length : Nat) : Int)
      · have c2' : ¬ l.getD i 0 < ((2 ^ l.length : Nat) : Int) := by omega
        simp only [F51L1b, SS, insA, wantedA, Opd.ev, putA, binA, eqbA, unA, fldA, partA, reduceIte, reduceCtorEq, Nat.reduceMod, Nat.reduceDiv, Nat.reduceBEq, resultA, resA, vI, Nat.reduceMul, Nat.reduceAdd, Nat.reduceSub, Nat.reduceEqDiff, Nat.reduceLT, Nat.reducePow, Nat.reduceLeDiff, st, Option.bind_eq_bind, Option.pure_def, List.length_nil, Int.cast_ofNat_Int, List.reverse_nil, UU, idxP, cellsAt, storeA, fillA, zerosA, putAll, optNat, sliceA, row, Int.reduceLT, Int.reduceLE, Int.reduceGT, Int.reduceGE, Int.reduceEq, Int.reduceNe, Int.reduceToNat, Int.reduceBEq, Int.reduceBNe, Nat.reduceLeDiff, Nat.reduceLT, Nat.reduceBNe, Nat.reduceGT, List.drop_nil, List.take_nil, Option.isSome_none, Int.ofNat_one, Int.ofNat_zero, hc, hv.idx hlt, hv.load hlt, hv.len, hw, c1, c1', c2, c2', hp1, hs1, decide_false, decide_true, Bool.false_and, Bool.true_and, Bool.false_eq_true]
      · have c2' : l.getD i 0 < ((2 ^ l.length : Nat) : Int) := by omega
        by_cases c3 : sh (l.getD i 0) i % 2 = 1
        · have c3' : (sh (l.getD i 0) i % 2 == 1) = true := beq_iff_eq.2 c3
          have c3'' : (sh (l.getD i 0) i % 2 != 1) = false := by rw [c3]; rfl
          simp only [F51L1b, SS, insA, wantedA, Opd.ev, putA, binA, eqbA, unA, fldA, partA, reduceIte, reduceCtorEq, Nat.reduceMod, Nat.reduceDiv, Nat.reduceBEq, resultA, resA, vI, Nat.reduceMul, Nat.reduceAdd, Nat.reduceSub, Nat.reduceEqDiff, Nat.reduceLT, Nat.reducePow, Nat.reduceLeDiff, st, Option.bind_eq_bind, Option.pure_def, List.length_nil, Int.cast_ofNat_Int, List.reverse_nil, UU, idxP, cellsAt, storeA, fillA, zerosA, putAll, optNat, sliceA, row, Int.reduceLT, Int.reduceLE, Int.reduceGT, Int.reduceGE, Int.reduceEq, Int.reduceNe, Int.reduceToNat, Int.reduceBEq, Int.reduceBNe, Nat.reduceLeDiff, Nat.reduceLT, Nat.reduceBNe, Nat.reduceGT, List.drop_nil, List.take_nil, Option.isSome_none, Int.ofNat_one, Int.ofNat_zero, hc, hv.idx hlt, hv.load hlt, hv.len, hw, c1, c1', c2, c2', hp1, hp2, hs1, hs2, and_one, c3', c3'', decide_false, decide_true, Bool.false_and, Bool.true_and, Bool.false_eq_true]
        · have c3' : (sh (l.getD i 0) i % 2 == 1) = false := beq_false_of_ne c3
          have c3'' : (sh (l.getD i 0) i % 2 != 1) = true := bne_iff_ne.2 c3
          cases hb : (List.range l.length).all fun k => symE l i k with
          | true =>
            rw [hb, if_pos rfl] at h0
            simp only [SS, insA, wantedA, Opd.ev, putA, binA, eqbA, unA, fldA, partA, reduceIte, reduceCtorEq, Nat.reduceMod, Nat.reduceDiv, Nat.reduceBEq, resultA, resA, vI, Nat.reduceMul, Nat.reduceAdd, Nat.reduceSub, Nat.reduceEqDiff, Nat.reduceLT, Nat.reducePow, Nat.reduceLeDiff, st, Option.bind_eq_bind, Option.pure_def, List.length_nil, Int.cast_ofNat_Int, List.reverse_nil, Int.ofNat_zero] at h0 ih
            simp only [F51L1b, F51T0, in51_0, SS, insA, wantedA, Opd.ev, putA, binA, eqbA, unA, fldA, partA, reduceIte, reduceCtorEq, Nat.reduceMod, Nat.reduceDiv, Nat.reduceBEq, resultA, resA, vI, Nat.reduceMul, Nat.reduceAdd, Nat.reduceSub, Nat.reduceEqDiff, Nat.reduceLT, Nat.reducePow, Nat.reduceLeDiff, st, Option.bind_eq_bind, Option.pure_def, List.length_nil, Int.cast_ofNat_Int, List.reverse_nil, UU, idxP, cellsAt, storeA, fillA, zerosA, putAll, optNat, sliceA, row, Int.reduceLT, Int.reduceLE, Int.reduceGT, Int.reduceGE, Int.reduceEq, Int.reduceNe, Int.reduceToNat, Int.reduceBEq, Int.reduceBNe, Nat.reduceLeDiff, Nat.reduceLT, Nat.reduceBNe, Nat.reduceGT, List.drop_nil, List.take_nil, Option.isSome_none, Int.ofNat_one, Int.ofNat_zero, hc, hv.idx hlt, hv.load hlt, hv.len, hw, c1, c1', c2, c2', hp1, hp2, hs1, hs2, and_one, c3', c3'', h0, ih, decide_false, decide_true, Bool.false_and, Bool.true_and, Bool.false_eq_true]
            rfl
          | false =>
            rw [hb, if_neg (by simp)] at h0
            simp only [SS, insA, wantedA, Opd.ev, putA, binA, eqbA, unA, fldA, partA, reduceIte, reduceCtorEq, Nat.reduceMod, Nat.reduceDiv, Nat.reduceBEq, resultA, resA, vI, Nat.reduceMul, Nat.reduceAdd, Nat.reduceSub, Nat.reduceEqDiff, Nat.reduceLT, Nat.reducePow, Nat.reduceLeDiff, st, Option.bind_eq_bind, Option.pure_def, List.length_nil, Int.cast_ofNat_Int, List.reverse_nil, Int.ofNat_zero] at h0
            simp only [F51L1b, F51T0, in51_0, SS, insA, wantedA, Opd.ev, putA, binA, eqbA, unA, fldA, partA, reduceIte, reduceCtorEq, Nat.reduceMod, Nat.reduceDiv, Nat.reduceBEq, resultA, resA, vI, Nat.reduceMul, Nat.reduceAdd, Nat.reduceSub, Nat.reduceEqDiff, Nat.reduceLT, Nat.reducePow, Nat.reduceLeDiff, st, Option.bind_eq_bind, Option.pure_def, List.length_nil, Int.cast_ofNat_Int, List.reverse_nil, UU, idxP, cellsAt, storeA, fillA, zerosA, putAll, optNat, sliceA, row, Int.reduceLT, Int.reduceLE, Int.reduceGT, Int.reduceGE, Int.reduceEq, Int.reduceNe, Int.reduceToNat, Int.reduceBEq, Int.reduceBNe, Nat.reduceLeDiff, Nat.reduceLT, Nat.reduceBNe, Nat.reduceGT, List.drop_nil, List.take_nil, Option.isSome_none, Int.ofNat_one, Int.ofNat_zero, hc, hv.idx hlt, hv.load hlt, hv.len, hw, c1, c1', c2, c2', hp1, hp2, hs1, hs2, and_one, c3', c3'', h0, decide_false, decide_true, Bool.false_and, Bool.true_and, Bool.and_false, Bool.false_eq_true]

theorem all_and' {α : Type} (p q : α → Bool) : ∀ (l : List α), (l.all fun x => p x && q x) = (l.all p && l.all q)
  | [] => rfl
  | x :: l => by simp only [List.all_cons, all_and' p q l]; cases p x <;> cases q x <;> cases l.all p <;> rfl

theorem read51 {v : AV} {l : List Int} (hv : IsRow v l) (hl : l.length ≤ 1000) : callL ET Y 51 [v] H = some (.tup [if frameB l = true then v else .nils, .bool (frameB l)], H) := by
  rw [call51 rfl]
  have hf : frameB l = (decide (1 ≤ l.length) && decide (l.length ≤ 7) && (List.range l.length).all (rowOk l)) := by
    unfold frameB okL symL rowOk
    rw [all_and', Bool.and_assoc]
  rw [hf]
  by_cases c1 : l.length < 1
  · have d1 : (l.length : Int) < 1 := by omega
    have d2 : decide (1 ≤ l.length) = false := decide_eq_false (by omega)
    simp only [F51B, SS, insA, wantedA, Opd.ev, putA, binA, eqbA, unA, fldA, partA, reduceIte, reduceCtorEq, Nat.reduceMod, Nat.reduceDiv, Nat.reduceBEq, resultA, resA, vI, Nat.reduceMul, Nat.reduceAdd, Nat.reduceSub, Nat.reduceEqDiff, Nat.reduceLT, Nat.reducePow, Nat.reduceLeDiff, st, Option.bind_eq_bind, Option.pure_def, List.length_nil, Int.cast_ofNat_Int, List.reverse_nil, UU, idxP, cellsAt, storeA, fillA, zerosA, putAll, optNat, sliceA, row, Int.reduceLT, Int.reduceLE, Int.reduceGT, Int.reduceGE, Int.reduceEq, Int.reduceNe, Int.reduceToNat, Int.reduceBEq, Int.reduceBNe, Nat.reduceLeDiff, Nat.reduceLT, Nat.reduceBNe, Nat.reduceGT, List.drop_nil, List.take_nil, Option.isSome_none, Int.ofNat_one, Int.ofNat_zero, hv.len, d1, d2, Bool.false_and, endX, List.mapM_cons, List.mapM_nil, Bool.false_eq_true]
  · have d1 : ¬ (l.length : Int) < 1 := by omega
    have d2 : decide (1 ≤ l.length) = true := decide_eq_true (by omega)
    by_cases c2 : l.length > 7
    · have d3 : (l.length : Int) > 7 := by omega
      have d4 : decide (l.length ≤ 7) = false := decide_eq_false (by omega)
      simp only [F51B, SS, insA, wantedA, Opd.ev, putA, binA, eqbA, unA, fldA, partA, reduceIte, reduceCtorEq, Nat.reduceMod, Nat.reduceDiv, Nat.reduceBEq, resultA, resA, vI, Nat.reduceMul, Nat.reduceAdd, Nat.reduceSub, Nat.reduceEqDiff, Nat.reduceLT, Nat.reducePow, Nat.reduceLeDiff, st, Option.bind_eq_bind, Option.pure_def, List.length_nil, Int.cast_ofNat_Int, List.reverse_nil, UU, idxP, cellsAt, storeA, fillA, zerosA, putAll, optNat, sliceA, row, Int.reduceLT, Int.reduceLE, Int.reduceGT, Int.reduceGE, Int.reduceEq, Int.reduceNe, Int.reduceToNat, Int.reduceBEq, Int.reduceBNe, Nat.reduceLeDiff, Nat.reduceLT, Nat.reduceBNe, Nat.reduceGT, List.drop_nil, List.take_nil, Option.isSome_none, Int.ofNat_one, Int.ofNat_zero, hv.len, d1, d2, d3, d4, Bool.false_and, Bool.true_and, endX, List.mapM_cons, List.mapM_nil, Bool.false_eq_true]
    · have d3 : ¬ (l.length : Int) > 7 := by omega
      have d4 : decide (l.length ≤ 7) = true := decide_eq_true (by omega)
      have h0 := L51_1 (Y := Y) (H := H) hv (by omega) l.length 0 (by omega)
      rw [← List.range_eq_range'] at h0
      cases hb : (List.range l.length).all (rowOk l) with
      | true =>
        rw [hb, if_pos rfl] at h0
        simp only [SS, insA, wantedA, Opd.ev, putA, binA, eqbA, unA, fldA, partA, reduceIte, reduceCtorEq, Nat.reduceMod, Nat.reduceDiv, Nat.reduceBEq, resultA, resA, vI, Nat.reduceMul, Nat.reduceAdd, Nat.reduceSub, Nat.reduceEqDiff, Nat.reduceLT, Nat.reducePow, Nat.reduceLeDiff, st, Option.bind_eq_bind, Option.pure_def, List.length_nil, Int.cast_ofNat_Int, List.reverse_nil, Int.ofNat_zero] at h0
        simp only [F51B, F51T1, in51_1, SS, insA, wantedA, Opd.ev, putA, binA, eqbA, unA, fldA, partA, reduceIte, reduceCtorEq, Nat.reduceMod, Nat.reduceDiv, Nat.reduceBEq, resultA, resA, vI, Nat.reduceMul, Nat.reduceAdd, Nat.reduceSub, Nat.reduceEqDiff, Nat.reduceLT, Nat.reducePow, Nat.reduceLeDiff, st, Option.bind_eq_bind, Option.pure_def, List.length_nil, Int.cast_ofNat_Int, List.reverse_nil, UU, idxP, cellsAt, storeA, fillA, zerosA, putAll, optNat, sliceA, row, Int.reduceLT, Int.reduceLE, Int.reduceGT, Int.reduceGE, Int.reduceEq, Int.reduceNe, Int.reduceToNat, Int.reduceBEq, Int.reduceBNe, Nat.reduceLeDiff, Nat.reduceLT, Nat.reduceBNe, Nat.reduceGT, List.drop_nil, List.take_nil, Option.isSome_none, Int.ofNat_one, Int.ofNat_zero, hv.len, d1, d2, d3, d4, h0, Bool.false_and, Bool.true_and, endX, List.mapM_cons, List.mapM_nil]
      | false =>
        rw [hb, if_neg (by simp)] at h0
        simp only [SS, insA, wantedA, Opd.ev, putA, binA, eqbA, unA, fldA, partA, reduceIte, reduceCtorEq, Nat.reduceMod, Nat.reduceDiv, Nat.reduceBEq, resultA, resA, vI, Nat.reduceMul, Nat.reduceAdd, Nat.reduceSub, Nat.reduceEqDiff, Nat.reduceLT, Nat.reducePow, Nat.reduceLeDiff, st, Option.bind_eq_bind, Option.pure_def, List.length_nil, Int.cast_ofNat_Int, List.reverse_nil, Int.ofNat_zero] at h0
        simp only [F51B, F51T1, in51_1, SS, insA, wantedA, Opd.ev, putA, binA, eqbA, unA, fldA, partA, reduceIte, reduceCtorEq, Nat.reduceMod, Nat.reduceDiv, Nat.reduceBEq, resultA, resA, vI, Nat.reduceMul, Nat.reduceAdd, Nat.reduceSub, Nat.reduceEqDiff, Nat.reduceLT, Nat.reducePow, Nat.reduceLeDiff, st, Option.bind_eq_bind, Option.pure_def, List.length_nil, Int.cast_ofNat_Int, List.reverse_nil, UU, idxP, cellsAt, storeA, fillA, zerosA, putAll, optNat, sliceA, row, Int.reduceLT, Int.reduceLE, Int.reduceGT, Int.reduceGE, Int.reduceEq, Int.reduceNe, Int.reduceToNat, Int.reduceBEq, Int.reduceBNe, Nat.reduceLeDiff, Nat.reduceLT, Nat.reduceBNe, Nat.reduceGT, List.drop_nil, List.take_nil, Option.isSome_none, Int.ofNat_one, Int.ofNat_zero, hv.len, d1, d2, d3, d4, h0, Bool.false_and, Bool.true_and, endX, List.mapM_cons, List.mapM_nil, Bool.false_eq_true]

theorem frame27 {v : AV} {l : List Int} (hv : IsRow v l) (hl : l.length ≤ 1000) : freeX H (callL ET Y 27 [v] []) = some (.bool (frameB l), H) := by
  rw [call27 rfl]
  have h := read51 (Y := Y) (H := []) hv hl
  simp only [F27B, SS, insA, wantedA, Opd.ev, putA, binA, eqbA, unA, fldA, partA, reduceIte, reduceCtorEq, Nat.reduceMod, Nat.reduceDiv, Nat.reduceBEq, resultA, resA, vI, Nat.reduceMul, Nat.reduceAdd, Nat.reduceSub, Nat.reduceEqDiff, Nat.reduceLT, Nat.reducePow, Nat.reduceLeDiff, st, Option.bind_eq_bind, Option.pure_def, List.length_nil, Int.cast_ofNat_Int, List.reverse_nil, UU, idxP, cellsAt, storeA, fillA, zerosA, putAll, optNat, sliceA, row, Int.reduceLT, Int.reduceLE, Int.reduceGT, Int.reduceGE, Int.reduceEq, Int.reduceNe, Int.reduceToNat, Int.reduceBEq, Int.reduceBNe, Nat.reduceLeDiff, Nat.reduceLT, Nat.reduceBNe, Nat.reduceGT, List.drop_nil, List.take_nil, Option.isSome_none, Int.ofNat_one, Int.ofNat_zero, h]
end
end Go.X

/-! Tones: sums over figures: what is added (the closure 'more'). -/
set_option linter.unusedSimpArgs false
set_option linter.unusedVariables false
set_option maxHeartbeats 2000000
set_option maxRecDepth 10000
namespace Go.X
open Go Go.RowKit

/-! ### Sets -/
/-- a without b. -/
def dl (a b : Nat) : Nat := a &&& (a ^^^ b)
theorem dl_bit (a b j : Nat) : (dl a b).testBit j = (a.testBit j && !b.testBit j) := by
  unfold dl
  rw [Nat.testBit_and, Nat.testBit_xor]
  cases a.testBit j <;> cases b.testBit j <;> rfl
theorem dl_le (a b : Nat) : dl a b ≤ a := Nat.and_le_left

def pc (a : Nat) : Nat := ((List.range 7).filter fun j => a.testBit j).length

theorem filt_le {p q : Nat → Bool} (h : ∀ j, p j = true → q j = true) : ∀ (l : List Nat), (l.filter p).length ≤ (l.filter q).length
  | [] => Nat.le_refl _
  | x :: l => by
    have ih := filt_le h l
    cases hp : p x with
    | true => rw [List.filter_cons_of_pos hp, List.filter_cons_of_pos (h x hp)]; simpa using ih
    | false =>
      rw [List.filter_cons_of_neg (by simp [hp])]
      cases hq : q x with
      | true => rw [List.filter_cons_of_pos hq]; simp; omega
      | false => rw [List.filter_cons_of_neg (by simp [hq])]; exact ih

theorem filt_lt {p q : Nat → Bool} (h : ∀ j, p j = true → q j = true) {k : Nat} (hk : p k = false ∧ q k = true) : ∀ (l : List Nat), k ∈ l → (l.filter p).length < (l.filter q).length
  | x :: l, hm => by
    rcases List.mem_cons.1 hm with rfl | hm
    · rw [List.filter_cons_of_neg (by simp [hk.1]), List.filter_cons_of_pos hk.2]
      have := filt_le h l
      simp; omega
    · have ih := filt_lt h hk l hm
      cases hp : p x with
      | true => rw [List.filter_cons_of_pos hp, List.filter_cons_of_pos (h x hp)]; simpa using ih
      | false =>
        rw [List.filter_cons_of_neg (by simp [hp])]
        cases hq : q x with
        | true => rw [List.filter_cons_of_pos hq]; simp; omega
        | false => rw [List.filter_cons_of_neg (by simp [hq])]; exact ih

theorem pc_le {a b : Nat} (h : ∀ j, b.testBit j = true → a.testBit j = true) : pc b ≤ pc a := filt_le h _
theorem pc_lt {a b k : Nat} (h : ∀ j, b.testBit j = true → a.testBit j = true) (hk : k < 7) (h1 : b.testBit k = false) (h2 : a.testBit k = true) : pc b < pc a := filt_lt h ⟨h1, h2⟩ _ (List.mem_range.2 hk)
theorem pc_dl (a b : Nat) : pc (dl a b) ≤ pc a := pc_le fun j h => by rw [dl_bit] at h; simp at h; exact h.1

theorem sh_bit (a k : Nat) : sh (a : Int) k % 2 = if a.testBit k then 1 else 0 := by
  have h : sh (a : Int) k = ((a >>> k : Nat) : Int) := by
    unfold sh
    rw [Int.fdiv_eq_ediv_of_nonneg _ (Int.le_of_lt (Int.pow_pos (by decide))), Nat.shiftRight_eq_div_pow]
    simp
  rw [h, Nat.testBit, Nat.and_comm, Nat.and_one_is_mod]
  split
  · rename_i hh
    simp at hh
    omega
  · rename_i hh
    simp at hh
    omega
theorem sh_beq (a k : Nat) : (sh (a : Int) k % 2 == 1) = a.testBit k := by
  rw [sh_bit]; cases a.testBit k <;> rfl
theorem sh_beq0 (a k : Nat) : (sh (a : Int) k % 2 == 0) = !a.testBit k := by
  rw [sh_bit]; cases a.testBit k <;> rfl

/-! ### Numbers that wrap -/
abbrev wr (x : Int) : Int := IntKind.wrap .i64 x
abbrev vW (x : Int) : AV := vI (wr x)
theorem wr_add (a b : Int) : wr (wr a + wr b) = wr (a + b) := by
  simp only [wr, IntKind.wrap_i64]; omega
theorem wr_wr (a : Int) : wr (wr a) = wr a := by
  simp only [wr, IntKind.wrap_i64]; omega

/-- What a figure's part counts. -/
def cm (c : Nat) : Int := if c = 139 ∨ c = 141 then -1 else if c = 140 then -2 else if c = 142 then 0 else 1

section
variable {Y : Run} {H : Heap}

theorem fn_part {c : Nat} (hc : c = 139 ∨ c = 140 ∨ c = 141 ∨ c = 142 ∨ c = 143 ∨ c = 144) (x : Int) : freeX H (callL ET Y c [vW x] []) = some (vW (cm c * x), H) := by
  rcases hc with rfl | rfl | rfl | rfl | rfl | rfl
  · rw [call139 rfl]
    have : IntKind.wrap .i64 (0 - wr x) = wr (cm 139 * x) := by simp only [cm, wr, IntKind.wrap_i64]; simp; omega
    simp only [F139B, SS, insA, wantedA, Opd.ev, putA, binA, eqbA, unA, fldA, partA, reduceIte, reduceCtorEq, Nat.reduceMod, Nat.reduceDiv, Nat.reduceBEq, resultA, resA, vI, Nat.reduceMul, Nat.reduceAdd, Nat.reduceSub, Nat.reduceEqDiff, Nat.reduceLT, Nat.reducePow, Nat.reduceLeDiff, st, Option.bind_eq_bind, Option.pure_def, List.length_nil, Int.cast_ofNat_Int, List.reverse_nil, UU, idxP, cellsAt, storeA, fillA, zerosA, putAll, optNat, sliceA, row, Int.reduceLT, Int.reduceLE, Int.reduceGT, Int.reduceGE, Int.reduceEq, Int.reduceNe, Int.reduceToNat, Int.reduceBEq, Int.reduceBNe, Nat.reduceLeDiff, Nat.reduceLT, Nat.reduceBNe, Nat.reduceGT, List.drop_nil, List.take_nil, Option.isSome_none, Int.ofNat_one, Int.ofNat_zero, this]
  · rw [call140 rfl]
    have : IntKind.wrap .i64 (-2 * wr x) = wr (cm 140 * x) := by simp only [cm, wr, IntKind.wrap_i64]; simp; omega
    simp only [F140B, SS, insA, wantedA, Opd.ev, putA, binA, eqbA, unA, fldA, partA, reduceIte, reduceCtorEq, Nat.reduceMod, Nat.reduceDiv, Nat.reduceBEq, resultA, resA, vI, Nat.reduceMul, Nat.reduceAdd, Nat.reduceSub, Nat.reduceEqDiff, Nat.reduceLT, Nat.reducePow, Nat.reduceLeDiff, st, Option.bind_eq_bind, Option.pure_def, List.length_nil, Int.cast_ofNat_Int, List.reverse_nil, UU, idxP, cellsAt, storeA, fillA, zerosA, putAll, optNat, sliceA, row, Int.reduceLT, Int.reduceLE, Int.reduceGT, Int.reduceGE, Int.reduceEq, Int.reduceNe, Int.reduceToNat, Int.reduceBEq, Int.reduceBNe, Nat.reduceLeDiff, Nat.reduceLT, Nat.reduceBNe, Nat.reduceGT, List.drop_nil, List.take_nil, Option.isSome_none, Int.ofNat_one, Int.ofNat_zero, this]
  · rw [call141 rfl]
    have : IntKind.wrap .i64 (0 - wr x) = wr (cm 141 * x) := by simp only [cm, wr, IntKind.wrap_i64]; simp; omega
    simp only [F141B, SS, insA, wantedA, Opd.ev, putA, binA, eqbA, unA, fldA, partA, reduceIte, reduceCtorEq, Nat.reduceMod, Nat.reduceDiv, Nat.reduceBEq, resultA, resA, vI, Nat.reduceMul, Nat.reduceAdd, Nat.reduceSub, Nat.reduceEqDiff, Nat.reduceLT, Nat.reducePow, Nat.reduceLeDiff, st, Option.bind_eq_bind, Option.pure_def, List.length_nil, Int.cast_ofNat_Int, List.reverse_nil, UU, idxP, cellsAt, storeA, fillA, zerosA, putAll, optNat, sliceA, row, Int.reduceLT, Int.reduceLE, Int.reduceGT, Int.reduceGE, Int.reduceEq, Int.reduceNe, Int.reduceToNat, Int.reduceBEq, Int.reduceBNe, Nat.reduceLeDiff, Nat.reduceLT, Nat.reduceBNe, Nat.reduceGT, List.drop_nil, List.take_nil, Option.isSome_none, Int.ofNat_one, Int.ofNat_zero, this]
  · rw [call142 rfl]
    have : wr (cm 142 * x) = 0 := by simp [cm, wr, IntKind.wrap_i64]
    simp only [F142B, SS, insA, wantedA, Opd.ev, putA, binA, eqbA, unA, fldA, partA, reduceIte, reduceCtorEq, Nat.reduceMod, Nat.reduceDiv, Nat.reduceBEq, resultA, resA, vI, Nat.reduceMul, Nat.reduceAdd, Nat.reduceSub, Nat.reduceEqDiff, Nat.reduceLT, Nat.reducePow, Nat.reduceLeDiff, st, Option.bind_eq_bind, Option.pure_def, List.length_nil, Int.cast_ofNat_Int, List.reverse_nil, UU, idxP, cellsAt, storeA, fillA, zerosA, putAll, optNat, sliceA, row, Int.reduceLT, Int.reduceLE, Int.reduceGT, Int.reduceGE, Int.reduceEq, Int.reduceNe, Int.reduceToNat, Int.reduceBEq, Int.reduceBNe, Nat.reduceLeDiff, Nat.reduceLT, Nat.reduceBNe, Nat.reduceGT, List.drop_nil, List.take_nil, Option.isSome_none, Int.ofNat_one, Int.ofNat_zero, vW, this]
  · rw [call143 rfl]
    have : wr (cm 143 * x) = wr x := by simp [cm]
    simp only [F143B, SS, insA, wantedA, Opd.ev, putA, binA, eqbA, unA, fldA, partA, reduceIte, reduceCtorEq, Nat.reduceMod, Nat.reduceDiv, Nat.reduceBEq, resultA, resA, vI, Nat.reduceMul, Nat.reduceAdd, Nat.reduceSub, Nat.reduceEqDiff, Nat.reduceLT, Nat.reducePow, Nat.reduceLeDiff, st, Option.bind_eq_bind, Option.pure_def, List.length_nil, Int.cast_ofNat_Int, List.reverse_nil, UU, idxP, cellsAt, storeA, fillA, zerosA, putAll, optNat, sliceA, row, Int.reduceLT, Int.reduceLE, Int.reduceGT, Int.reduceGE, Int.reduceEq, Int.reduceNe, Int.reduceToNat, Int.reduceBEq, Int.reduceBNe, Nat.reduceLeDiff, Nat.reduceLT, Nat.reduceBNe, Nat.reduceGT, List.drop_nil, List.take_nil, Option.isSome_none, Int.ofNat_one, Int.ofNat_zero, vW, this]
  · rw [call144 rfl]
    have : wr (cm 144 * x) = wr x := by simp [cm]
    simp only [F144B, SS, insA, wantedA, Opd.ev, putA, binA, eqbA, unA, fldA, partA, reduceIte, reduceCtorEq, Nat.reduceMod, Nat.reduceDiv, Nat.reduceBEq, resultA, resA, vI, Nat.reduceMul, Nat.reduceAdd, Nat.reduceSub, Nat.reduceEqDiff, Nat.reduceLT, Nat.reducePow, Nat.reduceLeDiff, st, Option.bind_eq_bind, Option.pure_def, List.length_nil, Int.cast_ofNat_Int, List.reverse_nil, UU, idxP, cellsAt, storeA, fillA, zerosA, putAll, optNat, sliceA, row, Int.reduceLT, Int.reduceLE, Int.reduceGT, Int.reduceGE, Int.reduceEq, Int.reduceNe, Int.reduceToNat, Int.reduceBEq, Int.reduceBNe, Nat.reduceLeDiff, Nat.reduceLT, Nat.reduceBNe, Nat.reduceGT, List.drop_nil, List.take_nil, Option.isSome_none, Int.ofNat_one, Int.ofNat_zero, vW, this]

/-! ### The list that is added to -/
def adL (out : List Int) (k : Nat) (x : Int) : List Int := (out ++ List.replicate (k + 1 - out.length) 0).set k ((out ++ List.replicate (k + 1 - out.length) 0).getD k 0 + x)
def morL (c : Int) : List Int → Nat → List Int → List Int
  | out, _, [] => out
  | out, j, x :: l => morL c (adL out j (c * x)) (j + 1) l

theorem adL_len (out : List Int) (k : Nat) (x : Int) : (adL out k x).length = max out.length (k + 1) := by
  unfold adL; simp; omega

/-- The list 'out' in the heap, behind its box; other objects stand. -/
structure Out (fz : List (Nat × Ob)) (a8 j0 : Nat) (H : Heap) (out : List Int) : Prop where
  st : ∀ p ∈ fz, H[p.1]? = some p.2
  ap : ∀ p ∈ fz, p.1 ≠ a8 ∧ p.1 ≠ j0
  ne : a8 ≠ j0
  out : ∃ ver, H[a8]? = some ⟨0, [.sl j0 ver 1 0 out.length none]⟩ ∧ H[j0]? = some ⟨ver, out.map vW⟩

theorem Out.to {fz : List (Nat × Ob)} {a8 j0 : Nat} {H' : Heap} {out out' : List Int} (h : Out fz a8 j0 H out) (hs : ∀ i, i < H.length → i ≠ a8 → i ≠ j0 → H'[i]? = H[i]?) {ver : Nat} (h8 : H'[a8]? = some ⟨0, [.sl j0 ver 1 0 out'.length none]⟩) (h0 : H'[j0]? = some ⟨ver, out'.map vW⟩) : Out fz a8 j0 H' out' :=
  ⟨fun p hp => (hs p.1 (hlt_of (h.st p hp)) (h.ap p hp).1 (h.ap p hp).2).trans (h.st p hp), h.ap, h.ne, ver, h8, h0⟩

theorem Out.mono {fz fz' : List (Nat × Ob)} {a8 j0 : Nat} {out : List Int} (h : Out fz a8 j0 H out) (hf : ∀ p ∈ fz', p ∈ fz) : Out fz' a8 j0 H out := ⟨fun p hp => h.st p (hf p hp), fun p hp => h.ap p (hf p hp), h.ne, h.out⟩

theorem app_one {j0 ver L : Nat} {cells : List AV} (h : H[j0]? = some ⟨ver, cells⟩) (hl : cells.length = L) (hb : L ≤ 1000) :
    appA (H ++ [(⟨0, [vI 0]⟩ : Ob)]) 1 8 (.sl j0 ver 1 0 L none) (.sl H.length 0 1 0 1 none) = some (.sl j0 (ver + 1) 1 0 (L + 1) none, (H ++ [(⟨0, [vI 0]⟩ : Ob)]).set j0 ⟨ver + 1, cells ++ [vI 0]⟩) := by
  have h1 : (H ++ [(⟨0, [vI 0]⟩ : Ob)])[j0]? = some ⟨ver, cells⟩ := by rw [List.getElem?_append_left (hlt_of h)]; exact h
  have h2 : (H ++ [(⟨0, [vI 0]⟩ : Ob)])[H.length]? = some ⟨0, [vI 0]⟩ := get_last
  have e1 : (L + 1) * 8 ≤ 140737488355328 := by omega
  have e2 : L + 1 ≤ 9223372036854775807 := by omega
  simp [appA, lenA, content, h1, h2, hl, e1, e2, one]

theorem L92_0 {fz : List (Nat × Ob)} {a8 j0 : Nat} {va vb lv of' vx : AV} {k kn : Nat} (hk : k + kn ≤ 100) (d : Nat) : ∀ {H : Heap} {out : List Int}, Out fz a8 j0 H out → k + kn + 1 - out.length = d →
    ∃ H', lp ET Y F92L0 (sp 37 [(11, va), (10, vb), (9, lv), (8, vx), (7, vI k), (3, .ptr a8 0 0), (2, of'), (0, vI kn)]) H = some (.x 2, sp 37 [(11, va), (10, vb), (9, lv), (8, vx), (7, vI k), (3, .ptr a8 0 0), (2, of'), (0, vI kn)], H') ∧
      Out fz a8 j0 H' (out ++ List.replicate d 0) ∧ H.length ≤ H'.length := by
  have hw : IntKind.wrap .i64 ((k : Int) + (kn : Int)) = ((k + kn : Nat) : Int) := by rw [wrap_id (by omega) (by omega)]; simp
  induction d with
  | zero =>
    intro H out h hd
    obtain ⟨ver, h8, h0⟩ := h.out
    refine ⟨H, ?_, by simpa using h, Nat.le_refl _⟩
    rw [un92_0]
    have c : ¬ ((out.length : Int) ≤ ((k + kn : Nat) : Int)) := by omega
    simp only [F92L0b, SS, insA, wantedA, Opd.ev, putA, binA, eqbA, unA, fldA, partA, reduceIte, reduceCtorEq, Nat.reduceMod, Nat.reduceDiv, Nat.reduceBEq, resultA, resA, vI, Nat.reduceMul, Nat.reduceAdd, Nat.reduceSub, Nat.reduceEqDiff, Nat.reduceLT, Nat.reducePow, Nat.reduceLeDiff, st, Option.bind_eq_bind, Option.pure_def, List.length_nil, Int.cast_ofNat_Int, List.reverse_nil, UU, idxP, cellsAt, storeA, fillA, zerosA, putAll, optNat, sliceA, row, Int.reduceLT, Int.reduceLE, Int.reduceGT, Int.reduceGE, Int.reduceEq, Int.reduceNe, Int.reduceToNat, Int.reduceBEq, Int.reduceBNe, Nat.reduceLeDiff, Nat.reduceLT, Nat.reduceBNe, Nat.reduceGT, List.drop_nil, List.take_nil, Option.isSome_none, Int.ofNat_one, Int.ofNat_zero, h8, hw, c]
  | succ d ih =>
    intro H out h hd
    obtain ⟨ver, h8, h0⟩ := h.out
    have c : (out.length : Int) ≤ ((k + kn : Nat) : Int) := by omega
    have e0 := app_one (L := out.length) h0 (by simp) (by omega)
    have l8 := hlt_of h8
    have l0 := hlt_of h0
    have g8 : ((H ++ [(⟨0, [vI 0]⟩ : Ob)]).set j0 ⟨ver + 1, out.map vW ++ [vI 0]⟩)[a8]? = some ⟨0, [.sl j0 ver 1 0 out.length none]⟩ := by
      rw [List.getElem?_set_ne (Ne.symm h.ne), List.getElem?_append_left l8]; exact h8
    have hn : Out fz a8 j0 (((H ++ [(⟨0, [vI 0]⟩ : Ob)]).set j0 ⟨ver + 1, out.map vW ++ [vI 0]⟩).set a8 ⟨0, [.sl j0 (ver + 1) 1 0 (out.length + 1) none]⟩) (out ++ [0]) := by
      refine h.to (ver := ver + 1) (fun i hi n1 n2 => ?_) ?_ ?_
      · rw [List.getElem?_set_ne (Ne.symm n1), List.getElem?_set_ne (Ne.symm n2), List.getElem?_append_left hi]
      · rw [List.getElem?_set_self (by simp; omega)]; simp
      · rw [List.getElem?_set_ne h.ne, List.getElem?_set_self (by simp; omega)]; simp [vW, wr, IntKind.wrap_i64]
    obtain ⟨H', e1, e2, e3⟩ := ih hn (by simp; omega)
    refine ⟨H', ?_, by rw [List.append_assoc] at e2; exact e2, by simp at e3; omega⟩
    rw [un92_0]
    simp only [SS, insA, wantedA, Opd.ev, putA, binA, eqbA, unA, fldA, partA, reduceIte, reduceCtorEq, Nat.reduceMod, Nat.reduceDiv, Nat.reduceBEq, resultA, resA, vI, Nat.reduceMul, Nat.reduceAdd, Nat.reduceSub, Nat.reduceEqDiff, Nat.reduceLT, Nat.reducePow, Nat.reduceLeDiff, st, Option.bind_eq_bind, Option.pure_def, List.length_nil, Int.cast_ofNat_Int, List.reverse_nil] at e1
    simp only [vI] at e0 g8 e1
    simp only [F92L0b, SS, insA, wantedA, Opd.ev, putA, binA, eqbA, unA, fldA, partA, reduceIte, reduceCtorEq, Nat.reduceMod, Nat.reduceDiv, Nat.reduceBEq, resultA, resA, vI, Nat.reduceMul, Nat.reduceAdd, Nat.reduceSub, Nat.reduceEqDiff, Nat.reduceLT, Nat.reducePow, Nat.reduceLeDiff, st, Option.bind_eq_bind, Option.pure_def, List.length_nil, Int.cast_ofNat_Int, List.reverse_nil, UU, idxP, cellsAt, storeA, fillA, zerosA, putAll, optNat, sliceA, row, Int.reduceLT, Int.reduceLE, Int.reduceGT, Int.reduceGE, Int.reduceEq, Int.reduceNe, Int.reduceToNat, Int.reduceBEq, Int.reduceBNe, Nat.reduceLeDiff, Nat.reduceLT, Nat.reduceBNe, Nat.reduceGT, List.drop_nil, List.take_nil, Option.isSome_none, Int.ofNat_one, Int.ofNat_zero, h8, hw, c, get_last, e0, g8, e1]

theorem map_vW (l : List Int) : l.map vW = (l.map wr).map vI := by simp [vW]

/-- The list, with its slice held abstract. -/
theorem Out.gro {fz : List (Nat × Ob)} {a8 j0 : Nat} {out : List Int} (h : Out fz a8 j0 H out) : ∃ v, H[a8]? = some ⟨0, [v]⟩ ∧ Gro 0 1 H v out.length ((out.map wr).map vI) ∧
    ∀ i, i < out.length → ∀ y, ∃ H', storeA H 1 (gptr 1 v i) (vW y) = some H' ∧ Out fz a8 j0 H' (out.set i y) ∧ H'.length = H.length := by
  obtain ⟨ver, h8, h0⟩ := h.out
  rw [map_vW] at h0
  have hG : Gro 0 1 H (.sl j0 ver 1 0 out.length none) out.length ((out.map wr).map vI) := ⟨by simp, .inr ⟨j0, ver, Nat.zero_le _, rfl, h0⟩⟩
  refine ⟨_, h8, hG, fun i hi y => ?_⟩
  obtain ⟨id, ver', e1, e2, e3, e4⟩ := hG.store (i := i) (x := wr y) hi
  cases e1
  rw [h0] at e2
  cases e2
  refine ⟨_, e3, h.to (ver := ver) (fun k hk n1 n2 => by rw [List.getElem?_set_ne (Ne.symm n2)]) ?_ ?_, by simp⟩
  · rw [List.getElem?_set_ne (Ne.symm h.ne), h8]; simp
  · rw [List.getElem?_set_self (hlt_of h0)]; simp [map_vW, List.map_set]

/-- A list that is read. -/
def Src (fz : List (Nat × Ob)) (lv : AV) (src : List Int) : Prop := ∃ q vq, lv = .sl q vq 1 0 src.length none ∧ (q, (⟨vq, src.map vW⟩ : Ob)) ∈ fz

theorem Src.gro {fz : List (Nat × Ob)} {lv : AV} {src : List Int} (h : Src fz lv src) (hf : ∀ p ∈ fz, H[p.1]? = some p.2) : Gro 0 1 H lv src.length ((src.map wr).map vI) := by
  obtain ⟨q, vq, rfl, hm⟩ := h
  have := hf _ hm
  simp only [map_vW] at this
  exact ⟨by simp, .inr ⟨q, vq, Nat.zero_le _, rfl, this⟩⟩

theorem getD_wr {l : List Int} {i : Nat} (h : i < l.length) : ((l.map wr).map vI).getD i .undef = vW (l.getD i 0) := by
  simp [List.getD_eq_getElem?_getD, h, vW]

theorem L92_1 {fz : List (Nat × Ob)} {a8 j0 c : Nat} {lv : AV} {src : List Int} {kn : Nat} (hc : c = 139 ∨ c = 140 ∨ c = 141 ∨ c = 142 ∨ c = 143 ∨ c = 144) (hs : Src fz lv src) (hl : src.length + kn ≤ 100) (d : Nat) : ∀ {H : Heap} {out : List Int} (m : Nat), m + d = src.length → Out fz a8 j0 H out →
    ∃ H', lp ET Y F92L1 (sp 37 [(11, vI m), (10, vI src.length), (9, lv), (3, .ptr a8 0 0), (2, .fn c []), (0, vI kn)]) H = some (.x 0, sp 37 [], H') ∧
      Out fz a8 j0 H' (morL (cm c) out (m + kn) (src.drop m)) ∧ H.length ≤ H'.length := by
  induction d with
  | zero =>
    intro H out m hm h
    refine ⟨H, ?_, by rw [List.drop_eq_nil_of_le (by omega)]; exact h, Nat.le_refl _⟩
    rw [un92_1]
    have : ¬ ((m : Int) < (src.length : Int)) := by omega
    simp only [F92L1b, SS, insA, wantedA, Opd.ev, putA, binA, eqbA, unA, fldA, partA, reduceIte, reduceCtorEq, Nat.reduceMod, Nat.reduceDiv, Nat.reduceBEq, resultA, resA, vI, Nat.reduceMul, Nat.reduceAdd, Nat.reduceSub, Nat.reduceEqDiff, Nat.reduceLT, Nat.reducePow, Nat.reduceLeDiff, st, Option.bind_eq_bind, Option.pure_def, List.length_nil, Int.cast_ofNat_Int, List.reverse_nil, UU, idxP, cellsAt, fillA, zerosA, putAll, row, Int.reduceLT, Int.reduceLE, Int.reduceGT, Int.reduceGE, Int.reduceEq, Int.reduceNe, Int.reduceToNat, Int.reduceBEq, Int.reduceBNe, Nat.reduceLeDiff, Nat.reduceLT, Nat.reduceBNe, Nat.reduceGT, List.drop_nil, List.take_nil, Option.isSome_none, Int.ofNat_one, Int.ofNat_zero, this]
  | succ d ih =>
    intro H out m hm h
    have hlt : m < src.length := by omega
    have hc1 : (m : Int) < (src.length : Int) := by omega
    have hG := hs.gro h.st
    have hld := hG.load hlt
    rw [getD_wr hlt] at hld
    obtain ⟨H1, e1, h1, g1⟩ := L92_0 (Y := Y) (va := vI m) (vb := vI src.length) (lv := lv) (of' := .fn c []) (vx := vW (src.getD m 0)) (k := m) (kn := kn) (by omega) _ h rfl
    have hw : IntKind.wrap .i64 ((m : Int) + (kn : Int)) = ((m + kn : Nat) : Int) := by rw [wrap_id (by omega) (by omega)]; simp
    have hw1 := wrap_succ (n := m) (by omega)
    generalize hod : out ++ List.replicate (m + kn + 1 - out.length) 0 = od at h1
    have hlen : m + kn < od.length := by rw [← hod]; simp; omega
    obtain ⟨v, v8, vG, vs⟩ := h1.gro
    have hld1 := vG.load hlen
    rw [getD_wr hlen] at hld1
    obtain ⟨H2, e2, h2, g2⟩ := vs (m + kn) hlen (od.getD (m + kn) 0 + cm c * src.getD m 0)
    have hf := fun H => fn_part (Y := Y) (H := H) hc (src.getD m 0)
    have ha := wr_add (od.getD (m + kn) 0) (cm c * src.getD m 0)
    obtain ⟨H', e3, h3, g3⟩ := ih (m + 1) (by omega) h2
    refine ⟨H', ?_, ?_, by omega⟩
    · rw [un92_1]
      simp only [vW, wr, SS, insA, wantedA, Opd.ev, putA, binA, eqbA, unA, fldA, partA, reduceIte, reduceCtorEq, Nat.reduceMod, Nat.reduceDiv, Nat.reduceBEq, resultA, resA, vI, Nat.reduceMul, Nat.reduceAdd, Nat.reduceSub, Nat.reduceEqDiff, Nat.reduceLT, Nat.reducePow, Nat.reduceLeDiff, st, Option.bind_eq_bind, Option.pure_def, List.length_nil, Int.cast_ofNat_Int, List.reverse_nil] at e1 e2 e3 hld hld1 hf ha
      simp only [F92L1b, F92T0, F92T1, in92_0, SS, insA, wantedA, Opd.ev, putA, binA, eqbA, unA, fldA, partA, reduceIte, reduceCtorEq, Nat.reduceMod, Nat.reduceDiv, Nat.reduceBEq, resultA, resA, vI, Nat.reduceMul, Nat.reduceAdd, Nat.reduceSub, Nat.reduceEqDiff, Nat.reduceLT, Nat.reducePow, Nat.reduceLeDiff, st, Option.bind_eq_bind, Option.pure_def, List.length_nil, Int.cast_ofNat_Int, List.reverse_nil, UU, idxP, cellsAt, fillA, zerosA, putAll, row, Int.reduceLT, Int.reduceLE, Int.reduceGT, Int.reduceGE, Int.reduceEq, Int.reduceNe, Int.reduceToNat, Int.reduceBEq, Int.reduceBNe, Nat.reduceLeDiff, Nat.reduceLT, Nat.reduceBNe, Nat.reduceGT, List.drop_nil, List.take_nil, Option.isSome_none, Int.ofNat_one, Int.ofNat_zero, hc1, hG.idx hlt, hld, e1, v8, hw, vG.idx hlen, hld1, hf, ha, e2, hw1, e3, List.append_nil, snap_int]
    · have hmor : morL (cm c) out (m + kn) (src.drop m) = morL (cm c) (od.set (m + kn) (od.getD (m + kn) 0 + cm c * src.getD m 0)) (m + 1 + kn) (src.drop (m + 1)) := by
        rw [List.drop_eq_getElem_cons hlt]
        simp only [morL]
        have : src.getD m 0 = src[m] := getD_get hlt
        rw [this, ← hod, show m + kn + 1 = m + 1 + kn by omega]
        unfold adL
        rw [show m + kn + 1 = m + 1 + kn by omega]
      rw [hmor]; exact h3

/-- The closure 'more': a list is added, so many knots on. -/
theorem more92 {fz : List (Nat × Ob)} {a8 j0 c : Nat} {lv : AV} {src out : List Int} {kn : Nat} (hc : c = 139 ∨ c = 140 ∨ c = 141 ∨ c = 142 ∨ c = 143 ∨ c = 144) (hs : Src fz lv src) (hl : src.length + kn ≤ 100) (h : Out fz a8 j0 H out) :
    ∃ H', callL ET Y 92 [vI kn, lv, .fn c [], .ptr a8 0 0] H = some (.tup [], H') ∧ Out fz a8 j0 H' (morL (cm c) out kn src) ∧ H.length ≤ H'.length := by
  obtain ⟨H', e1, h1, g1⟩ := L92_1 (Y := Y) hc hs hl src.length 0 (by omega) h
  have hG := hs.gro h.st
  refine ⟨H', ?_, by simpa using h1, g1⟩
  rw [call92 rfl]
  simp only [SS, insA, wantedA, Opd.ev, putA, binA, eqbA, unA, fldA, partA, reduceIte, reduceCtorEq, Nat.reduceMod, Nat.reduceDiv, Nat.reduceBEq, resultA, resA, vI, Nat.reduceMul, Nat.reduceAdd, Nat.reduceSub, Nat.reduceEqDiff, Nat.reduceLT, Nat.reducePow, Nat.reduceLeDiff, st, Option.bind_eq_bind, Option.pure_def, List.length_nil, Int.cast_ofNat_Int, List.reverse_nil, Int.ofNat_zero] at e1
  simp only [F92B, in92_1, SS, insA, wantedA, Opd.ev, putA, binA, eqbA, unA, fldA, partA, reduceIte, reduceCtorEq, Nat.reduceMod, Nat.reduceDiv, Nat.reduceBEq, resultA, resA, vI, Nat.reduceMul, Nat.reduceAdd, Nat.reduceSub, Nat.reduceEqDiff, Nat.reduceLT, Nat.reducePow, Nat.reduceLeDiff, st, Option.bind_eq_bind, Option.pure_def, List.length_nil, Int.cast_ofNat_Int, List.reverse_nil, UU, idxP, cellsAt, fillA, zerosA, putAll, row, Int.reduceLT, Int.reduceLE, Int.reduceGT, Int.reduceGE, Int.reduceEq, Int.reduceNe, Int.reduceToNat, Int.reduceBEq, Int.reduceBNe, Nat.reduceLeDiff, Nat.reduceLT, Nat.reduceBNe, Nat.reduceGT, List.drop_nil, List.take_nil, Option.isSome_none, Int.ofNat_one, Int.ofNat_zero, hG.len, e1, endX, List.mapM_nil]
end
end Go.X
