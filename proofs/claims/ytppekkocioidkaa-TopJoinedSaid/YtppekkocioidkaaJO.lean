import Derived.Test.YtppekkocioidkaaJE
/-! The number of threads of a set: the library's OnesCount, for sets of at most 13 threads. -/
set_option linter.unusedSimpArgs false
set_option linter.unusedVariables false
set_option maxRecDepth 100000
set_option maxHeartbeats 2000000
namespace Go.X
open Go Go.RowKit

def onesN (x : Nat) : Nat :=
  let x1 := (x >>> 1 &&& 6148914691236517205) + (x &&& 6148914691236517205)
  let x2 := (x1 >>> 2 &&& 3689348814741910323) + (x1 &&& 3689348814741910323)
  let x3 := (x2 >>> 4 + x2) &&& 1085102592571150095
  let x4 := x3 + x3 >>> 8
  let x5 := x4 + x4 >>> 16
  (x5 + x5 >>> 32) &&& 127
theorem onesN_all : ((List.range 8192).all fun x => onesN x == pcN 13 x) = true := by decide +kernel

theorem u64_and {a b : Nat} (ha : a < 18446744073709551616) (hb : b < 18446744073709551616) : bitsA .and .u64 (a : Int) (b : Int) = some (.int .u64 ((a &&& b : Nat) : Int)) := by
  have h64 : IntKind.bits .u64 = 64 := rfl
  have h0 : bitsA .and .u64 (a : Int) (b : Int) = some (.int .u64 (IntKind.wrap .u64 ((BitVec.ofInt 64 (a : Int) &&& BitVec.ofInt 64 (b : Int)).toNat : Int))) := rfl
  have l1 : a &&& b ≤ a := Nat.and_le_left
  rw [h0]
  simp only [ofInt_nat, BitVec.toNat_and, BitVec.toNat_ofNat, Nat.mod_eq_of_lt ha, Nat.mod_eq_of_lt hb]
  have : IntKind.wrap .u64 ((a &&& b : Nat) : Int) = ((a &&& b : Nat) : Int) := by
    rw [IntKind.wrap_u64]; omega
  rw [this]
theorem u64_wrap {a : Nat} (ha : a < 18446744073709551616) : IntKind.wrap .u64 (a : Int) = (a : Int) := by
  rw [IntKind.wrap_u64]; omega
theorem u64_add {a b : Nat} (ha : a + b < 18446744073709551616) : IntKind.wrap .u64 ((a : Int) + (b : Int)) = ((a + b : Nat) : Int) := by
  rw [← Int.natCast_add, u64_wrap ha]
theorem u64_shr (a k : Nat) (h : k ≤ 64) : Int.fdiv (a : Int) (2 ^ min k (IntKind.bits .u64)) = ((a >>> k : Nat) : Int) := by
  have h64 : IntKind.bits .u64 = 64 := rfl
  rw [h64, Nat.min_eq_left h]
  exact sh_nat a k

theorem ones21 {Y : Run} {H : Heap} {x : Nat} (hx : x < 8192) : freeX H (callL EJ Y 21 [.int .u64 (x : Int)] []) = some (vI ((onesN x : Nat) : Int), H) := by
  rw [call21 rfl]
  have a1 := u64_shr x 1 (by omega)
  have l1 : x >>> 1 ≤ x := Nat.shiftRight_le _ _
  have a2 := u64_and (a := x >>> 1) (b := 6148914691236517205) (by omega) (by omega)
  have l2 : x >>> 1 &&& 6148914691236517205 ≤ x >>> 1 := Nat.and_le_left
  have a3 := u64_and (a := x) (b := 6148914691236517205) (by omega) (by omega)
  have l3 : x &&& 6148914691236517205 ≤ x := Nat.and_le_left
  have a4 := u64_add (a := x >>> 1 &&& 6148914691236517205) (b := x &&& 6148914691236517205) (by omega)
  have e : onesN x = onesN x := rfl
  unfold onesN at e ⊢
  simp only at e ⊢
  generalize hx1 : (x >>> 1 &&& 6148914691236517205) + (x &&& 6148914691236517205) = x1 at *
  have m1 : x1 < 16384 := by omega
  have b1 := u64_shr x1 2 (by omega)
  have k1 : x1 >>> 2 ≤ x1 := Nat.shiftRight_le _ _
  have b2 := u64_and (a := x1 >>> 2) (b := 3689348814741910323) (by omega) (by omega)
  have k2 : x1 >>> 2 &&& 3689348814741910323 ≤ x1 >>> 2 := Nat.and_le_left
  have b3 := u64_and (a := x1) (b := 3689348814741910323) (by omega) (by omega)
  have k3 : x1 &&& 3689348814741910323 ≤ x1 := Nat.and_le_left
  have b4 := u64_add (a := x1 >>> 2 &&& 3689348814741910323) (b := x1 &&& 3689348814741910323) (by omega)
  generalize hx2 : (x1 >>> 2 &&& 3689348814741910323) + (x1 &&& 3689348814741910323) = x2 at *
  have m2 : x2 < 32768 := by omega
  have c1 := u64_shr x2 4 (by omega)
  have j1 : x2 >>> 4 ≤ x2 := Nat.shiftRight_le _ _
  have c2 := u64_add (a := x2 >>> 4) (b := x2) (by omega)
  have c3 := u64_and (a := x2 >>> 4 + x2) (b := 1085102592571150095) (by omega) (by omega)
  have j2 : (x2 >>> 4 + x2) &&& 1085102592571150095 ≤ x2 >>> 4 + x2 := Nat.and_le_left
  generalize hx3 : (x2 >>> 4 + x2) &&& 1085102592571150095 = x3 at *
  have m3 : x3 < 65536 := by omega
  have d1 := u64_shr x3 8 (by omega)
  have i1 : x3 >>> 8 ≤ x3 := Nat.shiftRight_le _ _
  have d2 := u64_add (a := x3) (b := x3 >>> 8) (by omega)
  generalize hx4 : x3 + x3 >>> 8 = x4 at *
  have m4 : x4 < 131072 := by omega
  have f1 := u64_shr x4 16 (by omega)
  have i2 : x4 >>> 16 ≤ x4 := Nat.shiftRight_le _ _
  have f2 := u64_add (a := x4) (b := x4 >>> 16) (by omega)
  generalize hx5 : x4 + x4 >>> 16 = x5 at *
  have m5 : x5 < 262144 := by omega
  have g1 := u64_shr x5 32 (by omega)
  have i3 : x5 >>> 32 ≤ x5 := Nat.shiftRight_le _ _
  have g2 := u64_add (a := x5) (b := x5 >>> 32) (by omega)
  generalize hx6 : x5 + x5 >>> 32 = x6 at *
  have g3 := (nat_bits (a := x6) (b := 127) (by omega) (by omega)).1
  have g4 : IntKind.wrap .i64 (x6 : Int) = (x6 : Int) := wrap_id (by omega) (by omega)
  simp only [Int.cast_ofNat_Int] at a2 a3 b2 b3 c3 g3
  simp only [F21B, SS, insA, wantedA, Opd.ev, putA, binA, eqbA, unA, fldA, partA, reduceIte, reduceCtorEq, Nat.reduceMod, Nat.reduceDiv, Nat.reduceBEq, resultA, resA, vI, Nat.reduceMul, Nat.reduceAdd, Nat.reduceSub, Nat.reduceEqDiff, Nat.reduceLT, Nat.reducePow, Nat.reduceLeDiff, st, Option.bind_eq_bind, Option.pure_def, List.length_nil, Int.cast_ofNat_Int, List.reverse_nil, UU, idxP, cellsAt, storeA, fillA, zerosA, putAll, optNat, sliceA, row, Int.reduceLT, Int.reduceLE, Int.reduceGT, Int.reduceGE, Int.reduceEq, Int.reduceNe, Int.reduceToNat, Int.reduceBEq, Int.reduceBNe, Nat.reduceLeDiff, Nat.reduceLT, Nat.reduceBNe, Nat.reduceGT, List.drop_nil, List.take_nil, Option.isSome_none, Int.ofNat_one, Int.ofNat_zero, a1, a2, a3, a4, b1, b2, b3, b4, c1, c2, c3, d1, d2, f1, f2, g1, g2, g3, g4]

theorem ones15 {Y : Run} {H : Heap} {x : Nat} (hx : x < 8192) : freeX H (callL EJ Y 15 [.int .u64 (x : Int)] []) = some (vI ((pcN 13 x : Nat) : Int), H) := by
  have h := List.all_eq_true.1 onesN_all x (List.mem_range.2 hx)
  have e : onesN x = pcN 13 x := by simpa using h
  have h1 := ones21 (Y := Y) (H := []) hx
  rw [call15 rfl]
  simp only [F15B, SS, insA, wantedA, Opd.ev, putA, binA, eqbA, unA, fldA, partA, reduceIte, reduceCtorEq, Nat.reduceMod, Nat.reduceDiv, Nat.reduceBEq, resultA, resA, vI, Nat.reduceMul, Nat.reduceAdd, Nat.reduceSub, Nat.reduceEqDiff, Nat.reduceLT, Nat.reducePow, Nat.reduceLeDiff, st, Option.bind_eq_bind, Option.pure_def, List.length_nil, Int.cast_ofNat_Int, List.reverse_nil, UU, idxP, cellsAt, storeA, fillA, zerosA, putAll, optNat, sliceA, row, Int.reduceLT, Int.reduceLE, Int.reduceGT, Int.reduceGE, Int.reduceEq, Int.reduceNe, Int.reduceToNat, Int.reduceBEq, Int.reduceBNe, Nat.reduceLeDiff, Nat.reduceLT, Nat.reduceBNe, Nat.reduceGT, List.drop_nil, List.take_nil, Option.isSome_none, Int.ofNat_one, Int.ofNat_zero, h1, e]
end Go.X
