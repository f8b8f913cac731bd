import Derived.Test.YtppekkocioidkaaJD
/-! Meshes: reach, joined, the number of threads of a set, a mesh that is read. -/
set_option linter.unusedSimpArgs false
set_option linter.unusedVariables false
set_option maxHeartbeats 2000000
set_option maxRecDepth 10000
namespace Go.X
open Go Go.RowKit

section
variable {Y : Run} {H : Heap}

theorem L19_1 {tv : AV} {T : List (Nat × Nat)} (ht : IsPairs tv (castP T)) (hl : T.length ≤ 31) (hin : Inn 31 T) {set n : Nat} (hn : n ≤ 31) (hs : set < 2147483648) (d : Nat) : ∀ (r out : Nat) (H : Heap), r + d = n → out < 2 ^ 31 → H[0]? = some ⟨0, [vI n, tv]⟩ →
    ∃ H', lp EJ Y F19L1 (sp 54 [(14, vI r), (13, vI n), (7, vI out), (3, .ptr 0 0 0), (1, vI set)]) H = some (.x 0, sp 54 [(7, vI (passes set T d out))], H') := by
  induction d with
  | zero =>
    intro r out H hi ho h0
    refine ⟨H, ?_⟩
    rw [un19_1]
    have : ¬ ((r : Int) < (n : Int)) := by omega
    simp only [F19L1b, passes, SS, insA, wantedA, Opd.ev, putA, binA, eqbA, unA, fldA, partA, reduceIte, reduceCtorEq, Nat.reduceMod, Nat.reduceDiv, Nat.reduceBEq, resultA, resA, vI, Nat.reduceMul, Nat.reduceAdd, Nat.reduceSub, Nat.reduceEqDiff, Nat.reduceLT, Nat.reducePow, Nat.reduceLeDiff, st, Option.bind_eq_bind, Option.pure_def, List.length_nil, Int.cast_ofNat_Int, List.reverse_nil, UU, idxP, cellsAt, storeA, fillA, zerosA, putAll, optNat, sliceA, row, Int.reduceLT, Int.reduceLE, Int.reduceGT, Int.reduceGE, Int.reduceEq, Int.reduceNe, Int.reduceToNat, Int.reduceBEq, Int.reduceBNe, Nat.reduceLeDiff, Nat.reduceLT, Nat.reduceBNe, Nat.reduceGT, List.drop_nil, List.take_nil, Option.isSome_none, Int.ofNat_one, Int.ofNat_zero, this]
  | succ d ih =>
    intro r out H hi ho h0
    have hc : (r : Int) < (n : Int) := by omega
    have hw := wrap_succ (n := r) (by omega)
    have hld : loadA H none (.ptr 0 0 1) = some tv := by simp [loadA, cellsAt, h0]
    have hlen : lenA tv = some T.length := by rw [ht.len]; simp [castP]
    obtain ⟨H1, r1, r2⟩ := L19_0 (Y := Y) ht hl hin (o0 := ⟨0, [vI n, tv]⟩) (n := n) (r := r) hs T.length 0 out H (by omega) ho h0
    have hlt : pass set 0 (T.drop 0) out < 2 ^ 31 := by
      refine Nat.lt_pow_two_of_testBit _ fun v hv => ?_
      cases hb : (pass set 0 (T.drop 0) out).testBit v with
      | false => rfl
      | true =>
        have := pass_lt (set := set) (T := T) hin (fun v hv => bitlt ho hv) v hb
        omega
    obtain ⟨H2, r3⟩ := ih (r + 1) _ H1 (by omega) hlt r1
    refine ⟨H2, ?_⟩
    rw [un19_1]
    simp only [SS, insA, wantedA, Opd.ev, putA, binA, eqbA, unA, fldA, partA, reduceIte, reduceCtorEq, Nat.reduceMod, Nat.reduceDiv, Nat.reduceBEq, resultA, resA, vI, Nat.reduceMul, Nat.reduceAdd, Nat.reduceSub, Nat.reduceEqDiff, Nat.reduceLT, Nat.reducePow, Nat.reduceLeDiff, st, Option.bind_eq_bind, Option.pure_def, List.length_nil, Int.cast_ofNat_Int, List.reverse_nil, Int.ofNat_zero, List.drop_zero] at r2 r3
    simp only [F19L1b, F19T0, in19_0, passes, SS, insA, wantedA, Opd.ev, putA, binA, eqbA, unA, fldA, partA, reduceIte, reduceCtorEq, Nat.reduceMod, Nat.reduceDiv, Nat.reduceBEq, resultA, resA, vI, Nat.reduceMul, Nat.reduceAdd, Nat.reduceSub, Nat.reduceEqDiff, Nat.reduceLT, Nat.reducePow, Nat.reduceLeDiff, st, Option.bind_eq_bind, Option.pure_def, List.length_nil, Int.cast_ofNat_Int, List.reverse_nil, UU, idxP, cellsAt, storeA, fillA, zerosA, putAll, optNat, sliceA, row, Int.reduceLT, Int.reduceLE, Int.reduceGT, Int.reduceGE, Int.reduceEq, Int.reduceNe, Int.reduceToNat, Int.reduceBEq, Int.reduceBNe, Nat.reduceLeDiff, Nat.reduceLT, Nat.reduceBNe, Nat.reduceGT, List.drop_nil, List.take_nil, Option.isSome_none, Int.ofNat_one, Int.ofNat_zero, hc, hw, hld, hlen, r2, r3]

theorem reach19 {tv : AV} {T : List (Nat × Nat)} (ht : IsPairs tv (castP T)) (hl : T.length ≤ 31) {set n a : Nat} (hin : Inn n T) (hn : n ≤ 31) (hs : set < 2147483648) (ha : a < n) :
    freeX H (callL EJ Y 19 [.agg [vI n, tv], vI set, vI a] []) = some (vI (reachN n T set a), H) := by
  have q := Nat.pow_lt_pow_right (by decide : 1 < 2) (by omega : a < 31)
  obtain ⟨H1, h1⟩ := L19_1 (Y := Y) ht hl (fun p hp => by have := hin p hp; omega) hn hs n 0 (2 ^ a) [⟨0, [vI n, tv]⟩] (by omega) q rfl
  have ja := shl_eq (k := a) (by omega)
  have hp : (0 : Int) ≤ (a : Int) := by omega
  have hld : loadA [⟨0, [vI n, tv]⟩] none (.ptr 0 0 0) = some (vI n) := rfl
  rw [call19 rfl]
  simp only [SS, insA, wantedA, Opd.ev, putA, binA, eqbA, unA, fldA, partA, reduceIte, reduceCtorEq, Nat.reduceMod, Nat.reduceDiv, Nat.reduceBEq, resultA, resA, vI, Nat.reduceMul, Nat.reduceAdd, Nat.reduceSub, Nat.reduceEqDiff, Nat.reduceLT, Nat.reducePow, Nat.reduceLeDiff, st, Option.bind_eq_bind, Option.pure_def, List.length_nil, Int.cast_ofNat_Int, List.reverse_nil, Int.ofNat_zero] at h1
  simp only [F19B, F19T1, in19_1, SS, insA, wantedA, Opd.ev, putA, binA, eqbA, unA, fldA, partA, reduceIte, reduceCtorEq, Nat.reduceMod, Nat.reduceDiv, Nat.reduceBEq, resultA, resA, vI, Nat.reduceMul, Nat.reduceAdd, Nat.reduceSub, Nat.reduceEqDiff, Nat.reduceLT, Nat.reducePow, Nat.reduceLeDiff, st, Option.bind_eq_bind, Option.pure_def, List.length_nil, Int.cast_ofNat_Int, List.reverse_nil, UU, idxP, cellsAt, storeA, fillA, zerosA, putAll, optNat, sliceA, row, Int.reduceLT, Int.reduceLE, Int.reduceGT, Int.reduceGE, Int.reduceEq, Int.reduceNe, Int.reduceToNat, Int.reduceBEq, Int.reduceBNe, Nat.reduceLeDiff, Nat.reduceLT, Nat.reduceBNe, Nat.reduceGT, List.drop_nil, List.take_nil, Option.isSome_none, Int.ofNat_one, Int.ofNat_zero, hp, ja, isU, cellsOf, hld, List.nil_append, h1, Bool.false_eq_true, reachN]

theorem joined14 {tv : AV} {T : List (Nat × Nat)} (ht : IsPairs tv (castP T)) (hl : T.length ≤ 31) {set n a b : Nat} (hin : Inn n T) (hn : n ≤ 31) (hs : set < 2147483648) (ha : a < n) (hb : b < n) :
    freeX H (callL EJ Y 14 [.agg [vI n, tv], vI set, vI a, vI b] []) = some (.bool ((reachN n T set a).testBit b), H) := by
  have h1 := reach19 (Y := Y) (H := [⟨0, [vI n, tv]⟩]) ht hl hin hn hs ha
  have kb := shr_eq (k := b) (by omega)
  have hp : (0 : Int) ≤ (b : Int) := by omega
  have hld : loadA [⟨0, [vI n, tv]⟩] (some 2) (.ptr 0 0 0) = some (.agg [vI n, tv]) := rfl
  have e := sh_beq (reachN n T set a) b
  rw [call14 rfl]
  simp only [F14B, SS, insA, wantedA, Opd.ev, putA, binA, eqbA, unA, fldA, partA, reduceIte, reduceCtorEq, Nat.reduceMod, Nat.reduceDiv, Nat.reduceBEq, resultA, resA, vI, Nat.reduceMul, Nat.reduceAdd, Nat.reduceSub, Nat.reduceEqDiff, Nat.reduceLT, Nat.reducePow, Nat.reduceLeDiff, st, Option.bind_eq_bind, Option.pure_def, List.length_nil, Int.cast_ofNat_Int, List.reverse_nil, UU, idxP, cellsAt, storeA, fillA, zerosA, putAll, optNat, sliceA, row, Int.reduceLT, Int.reduceLE, Int.reduceGT, Int.reduceGE, Int.reduceEq, Int.reduceNe, Int.reduceToNat, Int.reduceBEq, Int.reduceBNe, Nat.reduceLeDiff, Nat.reduceLT, Nat.reduceBNe, Nat.reduceGT, List.drop_nil, List.take_nil, Option.isSome_none, Int.ofNat_one, Int.ofNat_zero, isU, cellsOf, hld, ht.snapM, h1, hp, kb, and_one, e, List.nil_append]
end
end Go.X
