import Derived.Test.YtppekkocioidkaaJF
import Derived.Test.YtppekkocioidkaaJG
import Derived.Test.YtppekkocioidkaaJA
/-! Meshes: who is reached in a set. -/
set_option linter.unusedSimpArgs false
set_option linter.unusedVariables false
set_option maxHeartbeats 2000000
set_option maxRecDepth 10000
namespace Go.X
open Go Go.RowKit

/-- A list of pairs as cells. -/
def thc (l : List (Int × Int)) : List AV := l.flatMap fun p => [vI p.1, vI p.2]
/-- A value that is a list of pairs. -/
inductive IsPairs : AV → List (Int × Int) → Prop where
  | nil : IsPairs .nils []
  | imm (sn : Bool) (l : List (Int × Int)) : IsPairs (.imm sn (thc l) l.length) l
def tptr (v : AV) (i : Nat) : AV := match v with
  | .imm s cells _ => .cptr s (cells.drop (i * 2))
  | _ => .undef
def castP (T : List (Nat × Nat)) : List (Int × Int) := T.map fun p => ((p.1 : Int), (p.2 : Int))

theorem thc_drop : ∀ (l : List (Int × Int)) (i : Nat), i < l.length → ∃ r, (thc l).drop (i * 2) = vI (l.getD i (0, 0)).1 :: vI (l.getD i (0, 0)).2 :: r
  | [], i, h => by simp at h
  | p :: l, 0, h => ⟨_, rfl⟩
  | p :: l, i + 1, h => by
    obtain ⟨r, hr⟩ := thc_drop l i (by simpa using h)
    refine ⟨r, ?_⟩
    rw [show (i + 1) * 2 = i * 2 + 2 by omega]
    simpa [thc] using hr
theorem thc_len (l : List (Int × Int)) : (thc l).length = l.length * 2 := by
  induction l with
  | nil => rfl
  | cons p l ih => simp [thc] at ih ⊢; omega

section
variable {v : AV} {l : List (Int × Int)} {H : Heap}
theorem IsPairs.len (h : IsPairs v l) : lenA v = some l.length := by cases h <;> rfl
theorem IsPairs.idx (h : IsPairs v l) {i : Nat} (hi : i < l.length) : idxA 2 v (.int .i64 (i : Int)) = some (tptr v i) := by
  cases h with
  | nil => simp at hi
  | imm sn l => simp [idxA, natOf, hi, tptr]
theorem IsPairs.load (h : IsPairs v l) {i : Nat} (hi : i < l.length) : loadA H (some 2) (tptr v i) = some (.agg [vI (l.getD i (0, 0)).1, vI (l.getD i (0, 0)).2]) := by
  cases h with
  | nil => simp at hi
  | imm sn l =>
    obtain ⟨r, hr⟩ := thc_drop l i hi
    simp only [tptr, loadA, cellsAt, hr, List.length_cons, Nat.le_add_left, if_true, Option.map_some, List.take_succ_cons, List.take_zero]
theorem IsPairs.snap (h : IsPairs v l) {n : Nat} : snapA H (n + 1) v = some v := by cases h <;> rfl
theorem IsPairs.one (h : IsPairs v l) : one v = true ∧ isU v = false ∧ cellsOf v = [v] := by cases h <;> exact ⟨rfl, rfl, rfl⟩
theorem IsPairs.snapM (h : IsPairs v l) {n : Nat} {x : Int} : List.mapM (snapA H (n + 1)) [vI x, v] = some [vI x, v] := by
  simp only [List.mapM_cons, h.snap, List.mapM_nil]; rfl
end

section
variable {Y : Run} {H : Heap}

theorem bitlt {out v k : Nat} (h : out < 2 ^ k) (hv : out.testBit v = true) : v < k := by
  rcases Nat.lt_or_ge v k with h1 | h1
  · exact h1
  · rw [Nat.testBit_lt_two_pow (Nat.lt_of_lt_of_le h (Nat.pow_le_pow_right (by omega) h1))] at hv; cases hv

theorem pass_cons (set i out : Nat) (p : Nat × Nat) (T : List (Nat × Nat)) : pass set i (p :: T) out = pass set (i + 1) T (if set.testBit i = true ∧ (out.testBit p.1 = true ∨ out.testBit p.2 = true) then out ||| (2 ^ p.1 ||| 2 ^ p.2) else out) := rfl

theorem getD_castP {T : List (Nat × Nat)} {i : Nat} (hi : i < T.length) : (castP T).getD i (0, 0) = ((T[i].1 : Int), (T[i].2 : Int)) := by
  simp [castP, List.getD_eq_getElem?_getD, hi]

theorem L19_0 {tv : AV} {T : List (Nat × Nat)} (ht : IsPairs tv (castP T)) (hl : T.length ≤ 31) (hin : Inn 31 T) {o0 : Ob} {set n r : Nat} (hs : set < 2147483648) (d : Nat) : ∀ (i out : Nat) (H : Heap), i + d = T.length → out < 2 ^ 31 → H[0]? = some o0 →
    ∃ H', H'[0]? = some o0 ∧ lp EJ Y F19L0 (sp 54 [(19, vI i), (18, vI T.length), (17, tv), (14, vI r), (13, vI n), (7, vI out), (3, .ptr 0 0 0), (1, vI set)]) H =
      some (.x 2, sp 54 [(14, vI r), (13, vI n), (7, vI (pass set i (T.drop i) out)), (3, .ptr 0 0 0), (1, vI set)], H') := by
  induction d with
  | zero =>
    intro i out H hi ho h0
    refine ⟨H, h0, ?_⟩
    rw [un19_0, List.drop_eq_nil_of_le (by omega)]
    have : ¬ ((i : Int) < (T.length : Int)) := by omega
    simp only [F19L0b, pass, SS, insA, wantedA, Opd.ev, putA, binA, eqbA, unA, fldA, partA, reduceIte, reduceCtorEq, Nat.reduceMod, Nat.reduceDiv, Nat.reduceBEq, resultA, resA, vI, Nat.reduceMul, Nat.reduceAdd, Nat.reduceSub, Nat.reduceEqDiff, Nat.reduceLT, Nat.reducePow, Nat.reduceLeDiff, st, Option.bind_eq_bind, Option.pure_def, List.length_nil, Int.cast_ofNat_Int, List.reverse_nil, UU, idxP, cellsAt, storeA, fillA, zerosA, putAll, optNat, sliceA, row, Int.reduceLT, Int.reduceLE, Int.reduceGT, Int.reduceGE, Int.reduceEq, Int.reduceNe, Int.reduceToNat, Int.reduceBEq, Int.reduceBNe, Nat.reduceLeDiff, Nat.reduceLT, Nat.reduceBNe, Nat.reduceGT, List.drop_nil, List.take_nil, Option.isSome_none, Int.ofNat_one, Int.ofNat_zero, this]
  | succ d ih =>
    intro i out H hi ho h0
    have hlt : i < T.length := by omega
    have hlt' : i < (castP T).length := by simpa [castP] using hlt
    have hc : (i : Int) < (T.length : Int) := by omega
    have hw := wrap_succ (n := i) (by omega)
    have hp := hin _ (List.getElem_mem hlt)
    have hg := getD_castP hlt
    have hl1 := ht.load (H := H) hlt'
    rw [hg] at hl1
    generalize ha : T[i].1 = a at *
    generalize hb : T[i].2 = b at *
    have e0 : (T.drop i) = (a, b) :: T.drop (i + 1) := by rw [List.drop_eq_getElem_cons hlt, ← ha, ← hb]
    have hs1 := shr_eq (k := i) (by omega)
    have ka := shr_eq (k := a) (by omega)
    have kb := shr_eq (k := b) (by omega)
    have ja := shl_eq (k := a) (by omega)
    have jb := shl_eq (k := b) (by omega)
    have hp1 : (0 : Int) ≤ (i : Int) := by omega
    have hp2 : (0 : Int) ≤ (a : Int) := by omega
    have hp3 : (0 : Int) ≤ (b : Int) := by omega
    have ho' : out < 2147483648 := ho
    have q1 : out >>> a < 4294967296 := Nat.lt_of_le_of_lt (Nat.shiftRight_le _ _) (by omega)
    have q2 : out >>> b < 4294967296 := Nat.lt_of_le_of_lt (Nat.shiftRight_le _ _) (by omega)
    have q3 : 2 ^ a < 2147483648 := Nat.pow_lt_pow_right (by decide) (by omega : a < 31)
    have q4 : 2 ^ b < 2147483648 := Nat.pow_lt_pow_right (by decide) (by omega : b < 31)
    have q5 : (2 ^ a ||| 2 ^ b) < 2 ^ 31 := Nat.or_lt_two_pow q3 q4
    have q6 : (out ||| (2 ^ a ||| 2 ^ b)) < 2 ^ 31 := Nat.or_lt_two_pow ho q5
    have b1 := (nat_bits q1 q2).2.1
    have b2 := (nat_bits (a := 2 ^ a) (b := 2 ^ b) (by omega) (by omega)).2.1
    have b3 := (nat_bits (a := out) (b := 2 ^ a ||| 2 ^ b) (by omega) (by omega)).2.1
    have g0 : (H ++ [(⟨0, [vI a, vI b]⟩ : Ob)])[0]? = some o0 := by
      have : 0 < H.length := by cases H with
        | nil => simp at h0
        | cons => simp
      rw [List.getElem?_append_left this]; exact h0
    rw [un19_0, e0, pass_cons]
    cases c1 : set.testBit i with
    | false =>
      have c1' : (sh (set : Int) i % 2 == 1) = false := by rw [sh_beq, c1]
      obtain ⟨H', r1, r2⟩ := ih (i + 1) out (H ++ [⟨0, [vI a, vI b]⟩]) (by omega) ho g0
      refine ⟨H', r1, ?_⟩
      simp only [Bool.false_eq_true, false_and, if_false]
      simp only [SS, insA, wantedA, Opd.ev, putA, binA, eqbA, unA, fldA, partA, reduceIte, reduceCtorEq, Nat.reduceMod, Nat.reduceDiv, Nat.reduceBEq, resultA, resA, vI, Nat.reduceMul, Nat.reduceAdd, Nat.reduceSub, Nat.reduceEqDiff, Nat.reduceLT, Nat.reducePow, Nat.reduceLeDiff, st, Option.bind_eq_bind, Option.pure_def, List.length_nil, Int.cast_ofNat_Int, List.reverse_nil] at r2
      simp only [F19L0b, SS, insA, wantedA, Opd.ev, putA, binA, eqbA, unA, fldA, partA, reduceIte, reduceCtorEq, Nat.reduceMod, Nat.reduceDiv, Nat.reduceBEq, resultA, resA, vI, Nat.reduceMul, Nat.reduceAdd, Nat.reduceSub, Nat.reduceEqDiff, Nat.reduceLT, Nat.reducePow, Nat.reduceLeDiff, st, Option.bind_eq_bind, Option.pure_def, List.length_nil, Int.cast_ofNat_Int, List.reverse_nil, UU, idxP, cellsAt, storeA, fillA, zerosA, putAll, optNat, sliceA, row, Int.reduceLT, Int.reduceLE, Int.reduceGT, Int.reduceGE, Int.reduceEq, Int.reduceNe, Int.reduceToNat, Int.reduceBEq, Int.reduceBNe, Nat.reduceLeDiff, Nat.reduceLT, Nat.reduceBNe, Nat.reduceGT, List.drop_nil, List.take_nil, Option.isSome_none, Int.ofNat_one, Int.ofNat_zero, hc, ht.idx hlt', hl1, hw, hp1, hs1, and_one, c1', get_last, set_last, cellsOf, List.set_cons_zero, List.set_cons_succ, List.all_cons, List.all_nil, one, Bool.true_and, r2]
    | true =>
      have c1' : (sh (set : Int) i % 2 == 1) = true := by rw [sh_beq, c1]
      cases c2 : (out.testBit a || out.testBit b) with
      | false =>
        have c2' := two_bits out a b
        rw [c2] at c2'
        simp only [Bool.or_eq_false_iff] at c2
        obtain ⟨H', r1, r2⟩ := ih (i + 1) out (H ++ [⟨0, [vI a, vI b]⟩]) (by omega) ho g0
        refine ⟨H', r1, ?_⟩
        simp only [c2.1, c2.2, Bool.false_eq_true, or_self, and_false, if_false]
        simp only [SS, insA, wantedA, Opd.ev, putA, binA, eqbA, unA, fldA, partA, reduceIte, reduceCtorEq, Nat.reduceMod, Nat.reduceDiv, Nat.reduceBEq, resultA, resA, vI, Nat.reduceMul, Nat.reduceAdd, Nat.reduceSub, Nat.reduceEqDiff, Nat.reduceLT, Nat.reducePow, Nat.reduceLeDiff, st, Option.bind_eq_bind, Option.pure_def, List.length_nil, Int.cast_ofNat_Int, List.reverse_nil] at r2
        simp only [F19L0b, SS, insA, wantedA, Opd.ev, putA, binA, eqbA, unA, fldA, partA, reduceIte, reduceCtorEq, Nat.reduceMod, Nat.reduceDiv, Nat.reduceBEq, resultA, resA, vI, Nat.reduceMul, Nat.reduceAdd, Nat.reduceSub, Nat.reduceEqDiff, Nat.reduceLT, Nat.reducePow, Nat.reduceLeDiff, st, Option.bind_eq_bind, Option.pure_def, List.length_nil, Int.cast_ofNat_Int, List.reverse_nil, UU, idxP, cellsAt, storeA, fillA, zerosA, putAll, optNat, sliceA, row, Int.reduceLT, Int.reduceLE, Int.reduceGT, Int.reduceGE, Int.reduceEq, Int.reduceNe, Int.reduceToNat, Int.reduceBEq, Int.reduceBNe, Nat.reduceLeDiff, Nat.reduceLT, Nat.reduceBNe, Nat.reduceGT, List.drop_nil, List.take_nil, Option.isSome_none, Int.ofNat_one, Int.ofNat_zero, hc, ht.idx hlt', hl1, hw, hp1, hp2, hp3, hs1, ka, kb, sh_nat out, b1, and_one, c1', c2', get_last, set_last, cellsOf, List.set_cons_zero, List.set_cons_succ, List.all_cons, List.all_nil, one, Bool.true_and, r2]
      | true =>
        have c2' := two_bits out a b
        rw [c2] at c2'
        simp only [Bool.or_eq_true] at c2
        obtain ⟨H', r1, r2⟩ := ih (i + 1) (out ||| (2 ^ a ||| 2 ^ b)) (H ++ [⟨0, [vI a, vI b]⟩]) (by omega) q6 g0
        refine ⟨H', r1, ?_⟩
        simp only [c2, and_self, if_true]
        simp only [SS, insA, wantedA, Opd.ev, putA, binA, eqbA, unA, fldA, partA, reduceIte, reduceCtorEq, Nat.reduceMod, Nat.reduceDiv, Nat.reduceBEq, resultA, resA, vI, Nat.reduceMul, Nat.reduceAdd, Nat.reduceSub, Nat.reduceEqDiff, Nat.reduceLT, Nat.reducePow, Nat.reduceLeDiff, st, Option.bind_eq_bind, Option.pure_def, List.length_nil, Int.cast_ofNat_Int, List.reverse_nil] at r2
        simp only [F19L0b, SS, insA, wantedA, Opd.ev, putA, binA, eqbA, unA, fldA, partA, reduceIte, reduceCtorEq, Nat.reduceMod, Nat.reduceDiv, Nat.reduceBEq, resultA, resA, vI, Nat.reduceMul, Nat.reduceAdd, Nat.reduceSub, Nat.reduceEqDiff, Nat.reduceLT, Nat.reducePow, Nat.reduceLeDiff, st, Option.bind_eq_bind, Option.pure_def, List.length_nil, Int.cast_ofNat_Int, List.reverse_nil, UU, idxP, cellsAt, storeA, fillA, zerosA, putAll, optNat, sliceA, row, Int.reduceLT, Int.reduceLE, Int.reduceGT, Int.reduceGE, Int.reduceEq, Int.reduceNe, Int.reduceToNat, Int.reduceBEq, Int.reduceBNe, Nat.reduceLeDiff, Nat.reduceLT, Nat.reduceBNe, Nat.reduceGT, List.drop_nil, List.take_nil, Option.isSome_none, Int.ofNat_one, Int.ofNat_zero, hc, ht.idx hlt', hl1, hw, hp1, hp2, hp3, hs1, ka, kb, ja, jb, sh_nat out, b1, b2, b3, and_one, c1', c2', get_last, set_last, cellsOf, List.set_cons_zero, List.set_cons_succ, List.all_cons, List.all_nil, one, Bool.true_and, r2]
end
end Go.X
