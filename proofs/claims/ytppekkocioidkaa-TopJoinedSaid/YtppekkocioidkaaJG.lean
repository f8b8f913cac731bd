import Derived.Test.YtppekkocioidkaaGA
import Derived.Test.YtppekkocioidkaaQC
/-! Bits. -/
set_option linter.unusedSimpArgs false
set_option linter.unusedVariables false
set_option maxHeartbeats 2000000
set_option maxRecDepth 10000
namespace Go.X
open Go Go.RowKit


/-! ### Bits -/
def sh (x : Int) (k : Nat) : Int := Int.fdiv x (2 ^ k)

theorem min64 {k : Nat} (h : k ≤ 64) : min (Int.toNat (k : Int)) (IntKind.bits .i64) = k := by
  have : IntKind.bits .i64 = 64 := rfl
  rw [this, Int.toNat_natCast]; omega

theorem shr_eq {k : Nat} (h : k ≤ 64) (x : Int) : Int.fdiv x (2 ^ min (Int.toNat (k : Int)) (IntKind.bits .i64)) = sh x k := by rw [min64 h]; rfl

theorem shl_eq {k : Nat} (h : k ≤ 62) : IntKind.wrap .i64 (1 * 2 ^ min (Int.toNat (k : Int)) (IntKind.bits .i64)) = ((2 ^ k : Nat) : Int) := by
  rw [min64 (by omega), Int.one_mul]
  have h1 : (2 : Nat) ^ k ≤ 2 ^ 62 := Nat.pow_le_pow_right (by decide) h
  have h2 : ((2 : Int) ^ k) = ((2 ^ k : Nat) : Int) := by simp
  rw [h2]
  have h3 : (2 : Nat) ^ 62 = 4611686018427387904 := by decide
  rw [h3] at h1
  generalize (2 : Nat) ^ k = b at h1 ⊢
  exact wrap_id (by omega) (by omega)

theorem ofInt_nat (n : Nat) : BitVec.ofInt 64 (n : Int) = BitVec.ofNat 64 n := by
  apply BitVec.eq_of_toNat_eq; simp

theorem and_one (z : Int) : bitsA .and .i64 z 1 = some (vI (z % 2)) := by
  have h0 : bitsA .and .i64 z 1 = some (vI (IntKind.wrap .i64 ((BitVec.ofInt 64 z &&& BitVec.ofInt 64 1).toNat : Int))) := rfl
  rw [h0]
  have h1 : (BitVec.ofInt 64 z &&& BitVec.ofInt 64 1).toNat = (z % 2).toNat := by
    rw [BitVec.toNat_and]
    have : (BitVec.ofInt 64 1).toNat = 1 := by decide
    rw [this, Nat.and_one_is_mod, BitVec.toNat_ofInt]
    omega
  rw [h1, wrap_id (by omega) (by omega)]
  congr 1
  congr 1
  omega

theorem nat_bits {a b : Nat} (ha : a < 4294967296) (hb : b < 4294967296) :
    bitsA .and .i64 (a : Int) (b : Int) = some (vI ((a &&& b : Nat) : Int)) ∧ bitsA .or .i64 (a : Int) (b : Int) = some (vI ((a ||| b : Nat) : Int)) ∧ bitsA .andNot .i64 (a : Int) (b : Int) = some (vI ((a &&& (a ^^^ b) : Nat) : Int)) := by
  have h64 : IntKind.bits .i64 = 64 := rfl
  have e1 : a % 2 ^ 64 = a := Nat.mod_eq_of_lt (by omega)
  have e2 : b % 2 ^ 64 = b := Nat.mod_eq_of_lt (by omega)
  have l1 : a &&& b ≤ a := Nat.and_le_left
  have l2 : a ||| b < 2 ^ 32 := Nat.or_lt_two_pow (by omega) (by omega)
  have l3 : a &&& (a ^^^ b) ≤ a := Nat.and_le_left
  refine ⟨?_, ?_, ?_⟩
  · have h0 : bitsA .and .i64 (a : Int) (b : Int) = some (vI (IntKind.wrap .i64 ((BitVec.ofInt 64 (a : Int) &&& BitVec.ofInt 64 (b : Int)).toNat : Int))) := rfl
    rw [h0]
    simp only [ofInt_nat, BitVec.toNat_and, BitVec.toNat_ofNat, e1, e2]
    rw [wrap_id (by omega) (by omega)]
  · have h0 : bitsA .or .i64 (a : Int) (b : Int) = some (vI (IntKind.wrap .i64 ((BitVec.ofInt 64 (a : Int) ||| BitVec.ofInt 64 (b : Int)).toNat : Int))) := rfl
    rw [h0]
    simp only [ofInt_nat, BitVec.toNat_or, BitVec.toNat_ofNat, e1, e2]
    rw [wrap_id (by omega) (by omega)]
  · have h0 : bitsA .andNot .i64 (a : Int) (b : Int) = some (vI (IntKind.wrap .i64 ((BitVec.ofInt 64 (a : Int) &&& ~~~ BitVec.ofInt 64 (b : Int)).toNat : Int))) := rfl
    rw [h0]
    simp only [ofInt_nat, BitVec.toNat_and, BitVec.toNat_not, BitVec.toNat_ofNat, e1, e2]
    have h3 : a &&& (2 ^ 64 - 1 - b) = a &&& (a ^^^ b) := by
      apply Nat.eq_of_testBit_eq
      intro j
      rw [Nat.testBit_and, Nat.testBit_and, Nat.testBit_xor, Nat.sub_sub, Nat.add_comm 1 b, Nat.testBit_two_pow_sub_succ (by omega)]
      by_cases hj : j < 64
      · simp only [hj, decide_true, Bool.true_and]
        cases a.testBit j <;> cases b.testBit j <;> rfl
      · have : a.testBit j = false := Nat.testBit_lt_two_pow (Nat.lt_of_lt_of_le (by omega : a < 2 ^ 64) (Nat.pow_le_pow_right (by decide) (by omega)))
        simp [this]
    rw [h3, wrap_id (by omega) (by omega)]

theorem sh_bit (a k : Nat) : sh (a : Int) k % 2 = if a.testBit k then 1 else 0 := by
  have h : sh (a : Int) k = ((a >>> k : Nat) : Int) := by
    unfold sh
    rw [Int.fdiv_eq_ediv_of_nonneg _ (Int.le_of_lt (Int.pow_pos (by decide))), Nat.shiftRight_eq_div_pow]
    simp
  rw [h, Nat.testBit, Nat.and_comm, Nat.and_one_is_mod]
  split
  · rename_i hh
    simp at hh
    omega
  · rename_i hh
    simp at hh
    omega
theorem sh_beq (a k : Nat) : (sh (a : Int) k % 2 == 1) = a.testBit k := by
  rw [sh_bit]; cases a.testBit k <;> rfl
theorem sh_beq0 (a k : Nat) : (sh (a : Int) k % 2 == 0) = !a.testBit k := by
  rw [sh_bit]; cases a.testBit k <;> rfl

theorem tmod_emod {x : Int} (h : 0 ≤ x) : x.tmod 2 = x % 2 := Int.tmod_eq_emod_of_nonneg h
theorem sh_nonneg {x : Int} (h : 0 ≤ x) (k : Nat) : 0 ≤ sh x k := by
  unfold sh
  exact Int.fdiv_nonneg h (Int.le_of_lt (Int.pow_pos (by decide)))
theorem sh_nat (a k : Nat) : sh (a : Int) k = ((a >>> k : Nat) : Int) := by
  unfold sh
  rw [Int.fdiv_eq_ediv_of_nonneg _ (Int.le_of_lt (Int.pow_pos (by decide))), Nat.shiftRight_eq_div_pow]
  simp
theorem two_bits (s a b : Nat) : ((((s >>> a) ||| (s >>> b) : Nat) : Int) % 2 == 1) = (s.testBit a || s.testBit b) := by
  have h := sh_beq ((s >>> a) ||| (s >>> b)) 0
  have e : sh ((((s >>> a) ||| (s >>> b) : Nat)) : Int) 0 = (((s >>> a) ||| (s >>> b) : Nat) : Int) := by rw [sh_nat]; rfl
  rw [e] at h
  rw [h, Nat.testBit_or, Nat.testBit_shiftRight, Nat.testBit_shiftRight]
  simp
end Go.X
