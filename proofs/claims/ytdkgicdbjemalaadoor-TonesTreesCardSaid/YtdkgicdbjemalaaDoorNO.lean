import Derived.Test.YtdkgicdbjemalaaDoorNN
/-! Tones: Parts, the specification's IsTree; the law Cuts. -/
set_option linter.unusedSimpArgs false
set_option linter.unusedVariables false
set_option maxHeartbeats 2000000
set_option maxRecDepth 10000
namespace Go.X
open Go Go.RowKit

theorem low_all : (List.range 128).all (fun m => m == 0 || dl m (m - 1) == 2 ^ ctz m) = true := by decide +kernel
theorem low_bit {m : Nat} (h : m < 128) (h0 : m ≠ 0) : dl m (m - 1) = 2 ^ ctz m := by
  have := List.all_eq_true.1 low_all m (List.mem_range.2 h)
  rw [Bool.or_eq_true] at this
  rcases this with h1 | h1
  · exact absurd (by simpa using h1) h0
  · simpa using h1

theorem or_dl {x y : Nat} (h : dl y x = 0) : x ||| y = x := by
  apply Nat.eq_of_testBit_eq
  intro j
  have : (dl y x).testBit j = false := by rw [h]; simp
  rw [dl_bit] at this
  rw [Nat.testBit_or]
  generalize x.testBit j = a at *
  generalize y.testBit j = b at *
  revert this
  cases a <;> cases b <;> simp
theorem or_dl_ne {x y : Nat} (h : dl y x ≠ 0) : x ||| y ≠ x := fun e => h (by
  apply Nat.eq_of_testBit_eq
  intro j
  rw [dl_bit, Nat.zero_testBit]
  have : (x ||| y).testBit j = x.testBit j := by rw [e]
  rw [Nat.testBit_or] at this
  generalize x.testBit j = a at *
  generalize y.testBit j = b at *
  revert this
  cases a <;> cases b <;> simp)
theorem mtL_ne {f : List Nat} {ks : List Nat} {x y : Nat} (h : Sub x y) (hne : y ≠ x) : mtL f ks y ≠ x := fun e => hne (by
  have h2 := mtL_sub f ks y
  rw [e] at h2
  exact Nat.le_antisymm h2.le h.le)
theorem sub_or_left (x y : Nat) : Sub x (x ||| y) := fun j h => by rw [Nat.testBit_or, h, Bool.true_or]

theorem mtN_sub (f : List Nat) : ∀ (r x : Nat), Sub x (mtN f r x)
  | 0, x => Sub.refl x
  | r + 1, x => (mtL_sub f _ x).trans (mtN_sub f r _)

section
variable {Y : Run}

theorem L42_0 {fr v3 v4 : AV} {f : List Nat} {H : Heap} (hF : Fr fr f) (d : Nat) : ∀ (i part : Nat) (ag : Bool), i + d = f.length → part < 128 →
    lp ET Y F42L0 (sp 51 [(7, vI i), (6, .bool ag), (5, vI part), (4, v4), (3, v3), (0, fr)]) H =
      some (.x 4, sp 51 [(6, .bool (ag || decide (mtL f (List.range' i d) part ≠ part))), (5, vI (mtL f (List.range' i d) part)), (4, v4), (3, v3), (0, fr)], H) := by
  have hn7 := hF.n7
  have h128 := hF.p7
  have hflen := hF.hv.len
  rw [List.length_map] at hflen
  induction d with
  | zero =>
    intro i part ag hi hm
    rw [un42_0]
    have : ¬ ((i : Int) < (f.length : Int)) := by omega
    have e : decide (part ≠ part) = false := by simp
    simp only [F42L0b, SS, insA, wantedA, Opd.ev, putA, binA, eqbA, unA, fldA, partA, reduceIte, reduceCtorEq, Nat.reduceMod, Nat.reduceDiv, Nat.reduceBEq, resultA, resA, vI, Nat.reduceMul, Nat.reduceAdd, Nat.reduceSub, Nat.reduceEqDiff, Nat.reduceLT, Nat.reducePow, Nat.reduceLeDiff, st, Option.bind_eq_bind, Option.pure_def, List.length_nil, Int.cast_ofNat_Int, List.reverse_nil, UU, idxP, cellsAt, storeA, fillA, zerosA, putAll, optNat, sliceA, row, Int.reduceLT, Int.reduceLE, Int.reduceGT, Int.reduceGE, Int.reduceEq, Int.reduceNe, Int.reduceToNat, Int.reduceBEq, Int.reduceBNe, Nat.reduceLeDiff, Nat.reduceLT, Nat.reduceBNe, Nat.reduceGT, List.drop_nil, List.take_nil, Option.isSome_none, Int.ofNat_one, Int.ofNat_zero, hflen, this, List.range'_zero, mtL, List.foldl_nil, e]
  | succ d ih =>
    intro i part ag hi hm
    have hi1 : i < f.length := by omega
    have hc : (i : Int) < (f.length : Int) := by omega
    have hw := wrap_succ (n := i) (by omega)
    have hp2 : (0 : Int) ≤ (i : Int) := by omega
    have hs2 := shr_eq (k := i) (by omega)
    have h20 : (2 : Int) ≠ 0 := by decide
    have ht := tmod_emod (sh_nonneg (x := (part : Int)) (by omega) i)
    have hip := hF.hv.idx (i := i) (by simpa using hi1)
    have hlp := hF.hv.load (H := H) (i := i) (by simpa using hi1)
    rw [getD_nat hi1] at hlp
    have q0 := sh_beq part i
    have hfi := hF.fb i
    have b1 : bitsA .andNot .i64 ((f.getD i 0 : Nat) : Int) (part : Int) = some (vI ((dl (f.getD i 0) part : Nat) : Int)) := (nat_bits (by omega) (by omega)).2.2
    have b2 := (nat_bits (a := part) (b := f.getD i 0) (by omega) (by omega)).2.1
    have hx : mtL f (List.range' i (d + 1)) part = mtL f (List.range' (i + 1) d) (if part.testBit i then part ||| f.getD i 0 else part) := by
      rw [List.range'_succ]; rfl
    rw [hx, un42_0]
    cases hb : part.testBit i with
    | false =>
      rw [hb] at q0
      rw [if_neg (by simp)]
      have ih := ih (i + 1) part ag (by omega) hm
      simp only [SS, insA, wantedA, Opd.ev, putA, binA, eqbA, unA, fldA, partA, reduceIte, reduceCtorEq, Nat.reduceMod, Nat.reduceDiv, Nat.reduceBEq, resultA, resA, vI, Nat.reduceMul, Nat.reduceAdd, Nat.reduceSub, Nat.reduceEqDiff, Nat.reduceLT, Nat.reducePow, Nat.reduceLeDiff, st, Option.bind_eq_bind, Option.pure_def, List.length_nil, Int.cast_ofNat_Int, List.reverse_nil] at ih
      simp only [F42L0b, SS, insA, wantedA, Opd.ev, putA, binA, eqbA, unA, fldA, partA, reduceIte, reduceCtorEq, Nat.reduceMod, Nat.reduceDiv, Nat.reduceBEq, resultA, resA, vI, Nat.reduceMul, Nat.reduceAdd, Nat.reduceSub, Nat.reduceEqDiff, Nat.reduceLT, Nat.reducePow, Nat.reduceLeDiff, st, Option.bind_eq_bind, Option.pure_def, List.length_nil, Int.cast_ofNat_Int, List.reverse_nil, UU, idxP, cellsAt, storeA, fillA, zerosA, putAll, optNat, sliceA, row, Int.reduceLT, Int.reduceLE, Int.reduceGT, Int.reduceGE, Int.reduceEq, Int.reduceNe, Int.reduceToNat, Int.reduceBEq, Int.reduceBNe, Nat.reduceLeDiff, Nat.reduceLT, Nat.reduceBNe, Nat.reduceGT, List.drop_nil, List.take_nil, Option.isSome_none, Int.ofNat_one, Int.ofNat_zero, hflen, hc, hw, hp2, hs2, h20, ht, q0, ih, ne_eq, not_false_eq_true, and_self]
    | true =>
      rw [hb] at q0
      rw [if_pos rfl]
      by_cases c : dl (f.getD i 0) part = 0
      · have c1 : (((dl (f.getD i 0) part : Nat) : Int) != 0) = false := by rw [c]; rfl
        rw [or_dl c]
        have ih := ih (i + 1) part ag (by omega) hm
        simp only [SS, insA, wantedA, Opd.ev, putA, binA, eqbA, unA, fldA, partA, reduceIte, reduceCtorEq, Nat.reduceMod, Nat.reduceDiv, Nat.reduceBEq, resultA, resA, vI, Nat.reduceMul, Nat.reduceAdd, Nat.reduceSub, Nat.reduceEqDiff, Nat.reduceLT, Nat.reducePow, Nat.reduceLeDiff, st, Option.bind_eq_bind, Option.pure_def, List.length_nil, Int.cast_ofNat_Int, List.reverse_nil] at ih
        simp only [F42L0b, SS, insA, wantedA, Opd.ev, putA, binA, eqbA, unA, fldA, partA, reduceIte, reduceCtorEq, Nat.reduceMod, Nat.reduceDiv, Nat.reduceBEq, resultA, resA, vI, Nat.reduceMul, Nat.reduceAdd, Nat.reduceSub, Nat.reduceEqDiff, Nat.reduceLT, Nat.reducePow, Nat.reduceLeDiff, st, Option.bind_eq_bind, Option.pure_def, List.length_nil, Int.cast_ofNat_Int, List.reverse_nil, UU, idxP, cellsAt, storeA, fillA, zerosA, putAll, optNat, sliceA, row, Int.reduceLT, Int.reduceLE, Int.reduceGT, Int.reduceGE, Int.reduceEq, Int.reduceNe, Int.reduceToNat, Int.reduceBEq, Int.reduceBNe, Nat.reduceLeDiff, Nat.reduceLT, Nat.reduceBNe, Nat.reduceGT, List.drop_nil, List.take_nil, Option.isSome_none, Int.ofNat_one, Int.ofNat_zero, hflen, hc, hw, hp2, hs2, h20, ht, q0, hip, hlp, b1, c1, ih, ne_eq, not_false_eq_true, and_self]
      · have c1 : (((dl (f.getD i 0) part : Nat) : Int) != 0) = true := bne_iff_ne.2 (by omega)
        have ih := ih (i + 1) (part ||| f.getD i 0) true (by omega) (Nat.or_lt_two_pow (n := 7) hm (by omega))
        have hne := mtL_ne (f := f) (ks := List.range' (i + 1) d) (sub_or_left part (f.getD i 0)) (or_dl_ne c)
        have e : decide (mtL f (List.range' (i + 1) d) (part ||| f.getD i 0) ≠ part) = true := decide_eq_true hne
        rw [e, Bool.or_true]
        rw [Bool.true_or] at ih
        simp only [SS, insA, wantedA, Opd.ev, putA, binA, eqbA, unA, fldA, partA, reduceIte, reduceCtorEq, Nat.reduceMod, Nat.reduceDiv, Nat.reduceBEq, resultA, resA, vI, Nat.reduceMul, Nat.reduceAdd, Nat.reduceSub, Nat.reduceEqDiff, Nat.reduceLT, Nat.reducePow, Nat.reduceLeDiff, st, Option.bind_eq_bind, Option.pure_def, List.length_nil, Int.cast_ofNat_Int, List.reverse_nil] at ih
        simp only [F42L0b, SS, insA, wantedA, Opd.ev, putA, binA, eqbA, unA, fldA, partA, reduceIte, reduceCtorEq, Nat.reduceMod, Nat.reduceDiv, Nat.reduceBEq, resultA, resA, vI, Nat.reduceMul, Nat.reduceAdd, Nat.reduceSub, Nat.reduceEqDiff, Nat.reduceLT, Nat.reducePow, Nat.reduceLeDiff, st, Option.bind_eq_bind, Option.pure_def, List.length_nil, Int.cast_ofNat_Int, List.reverse_nil, UU, idxP, cellsAt, storeA, fillA, zerosA, putAll, optNat, sliceA, row, Int.reduceLT, Int.reduceLE, Int.reduceGT, Int.reduceGE, Int.reduceEq, Int.reduceNe, Int.reduceToNat, Int.reduceBEq, Int.reduceBNe, Nat.reduceLeDiff, Nat.reduceLT, Nat.reduceBNe, Nat.reduceGT, List.drop_nil, List.take_nil, Option.isSome_none, Int.ofNat_one, Int.ofNat_zero, hflen, hc, hw, hp2, hs2, h20, ht, q0, hip, hlp, b1, b2, c1, ih, ne_eq, not_false_eq_true, and_self]

theorem L42_1 {fr v3 v4 : AV} {f : List Nat} {H : Heap} (hF : Fr fr f) (d : Nat) : ∀ (part : Nat), part < 128 → 8 ≤ pc part + d →
    lp ET Y F42L1 (sp 51 [(6, .bool true), (5, vI part), (4, v4), (3, v3), (0, fr)]) H = some (.x 2, sp 51 [(5, vI (clo f d part)), (4, v4), (3, v3), (0, fr)], H) := by
  have h128 := hF.p7
  have hfb : ∀ j, f.getD j 0 < 128 := fun j => by have := hF.fb j; omega
  induction d with
  | zero =>
    intro part hm hp
    have := pc_le7 part
    omega
  | succ d ih =>
    intro part hm hp
    have h0 := L42_0 (Y := Y) (H := H) (v3 := v3) (v4 := v4) hF f.length 0 part false (by omega) hm
    rw [← List.range_eq_range', Bool.false_or, show mtL f (List.range f.length) part = mt1 f part from rfl] at h0
    rw [un42_1]
    simp only [clo]
    by_cases c : mt1 f part = part
    · rw [if_pos c]
      have e : decide (mt1 f part ≠ part) = false := by simp [c]
      rw [e, c] at h0
      have hend : lp ET Y F42L1 (sp 51 [(6, .bool false), (5, vI part), (4, v4), (3, v3), (0, fr)]) H = some (.x 2, sp 51 [(5, vI part), (4, v4), (3, v3), (0, fr)], H) := by
        rw [un42_1]
        simp only [F42L1b, SS, insA, wantedA, Opd.ev, putA, binA, eqbA, unA, fldA, partA, reduceIte, reduceCtorEq, Nat.reduceMod, Nat.reduceDiv, Nat.reduceBEq, resultA, resA, vI, Nat.reduceMul, Nat.reduceAdd, Nat.reduceSub, Nat.reduceEqDiff, Nat.reduceLT, Nat.reducePow, Nat.reduceLeDiff, st, Option.bind_eq_bind, Option.pure_def, List.length_nil, Int.cast_ofNat_Int, List.reverse_nil, UU, idxP, cellsAt, storeA, fillA, zerosA, putAll, optNat, sliceA, row, Int.reduceLT, Int.reduceLE, Int.reduceGT, Int.reduceGE, Int.reduceEq, Int.reduceNe, Int.reduceToNat, Int.reduceBEq, Int.reduceBNe, Nat.reduceLeDiff, Nat.reduceLT, Nat.reduceBNe, Nat.reduceGT, List.drop_nil, List.take_nil, Option.isSome_none, Int.ofNat_one, Int.ofNat_zero]
      simp only [SS, insA, wantedA, Opd.ev, putA, binA, eqbA, unA, fldA, partA, reduceIte, reduceCtorEq, Nat.reduceMod, Nat.reduceDiv, Nat.reduceBEq, resultA, resA, vI, Nat.reduceMul, Nat.reduceAdd, Nat.reduceSub, Nat.reduceEqDiff, Nat.reduceLT, Nat.reducePow, Nat.reduceLeDiff, st, Option.bind_eq_bind, Option.pure_def, List.length_nil, Int.cast_ofNat_Int, List.reverse_nil, Int.ofNat_zero] at h0 hend
      simp only [F42L1b, in42_0, SS, insA, wantedA, Opd.ev, putA, binA, eqbA, unA, fldA, partA, reduceIte, reduceCtorEq, Nat.reduceMod, Nat.reduceDiv, Nat.reduceBEq, resultA, resA, vI, Nat.reduceMul, Nat.reduceAdd, Nat.reduceSub, Nat.reduceEqDiff, Nat.reduceLT, Nat.reducePow, Nat.reduceLeDiff, st, Option.bind_eq_bind, Option.pure_def, List.length_nil, Int.cast_ofNat_Int, List.reverse_nil, UU, idxP, cellsAt, storeA, fillA, zerosA, putAll, optNat, sliceA, row, Int.reduceLT, Int.reduceLE, Int.reduceGT, Int.reduceGE, Int.reduceEq, Int.reduceNe, Int.reduceToNat, Int.reduceBEq, Int.reduceBNe, Nat.reduceLeDiff, Nat.reduceLT, Nat.reduceBNe, Nat.reduceGT, List.drop_nil, List.take_nil, Option.isSome_none, Int.ofNat_one, Int.ofNat_zero, h0, hend]
    · rw [if_neg c]
      have e : decide (mt1 f part ≠ part) = true := by simp [c]
      rw [e] at h0
      have hg := mt1_grow hfb hm c
      have ih := ih (mt1 f part) (mtL_lt (n := 7) hfb _ _ hm) (by omega)
      simp only [SS, insA, wantedA, Opd.ev, putA, binA, eqbA, unA, fldA, partA, reduceIte, reduceCtorEq, Nat.reduceMod, Nat.reduceDiv, Nat.reduceBEq, resultA, resA, vI, Nat.reduceMul, Nat.reduceAdd, Nat.reduceSub, Nat.reduceEqDiff, Nat.reduceLT, Nat.reducePow, Nat.reduceLeDiff, st, Option.bind_eq_bind, Option.pure_def, List.length_nil, Int.cast_ofNat_Int, List.reverse_nil, Int.ofNat_zero] at h0 ih
      simp only [F42L1b, in42_0, SS, insA, wantedA, Opd.ev, putA, binA, eqbA, unA, fldA, partA, reduceIte, reduceCtorEq, Nat.reduceMod, Nat.reduceDiv, Nat.reduceBEq, resultA, resA, vI, Nat.reduceMul, Nat.reduceAdd, Nat.reduceSub, Nat.reduceEqDiff, Nat.reduceLT, Nat.reducePow, Nat.reduceLeDiff, st, Option.bind_eq_bind, Option.pure_def, List.length_nil, Int.cast_ofNat_Int, List.reverse_nil, UU, idxP, cellsAt, storeA, fillA, zerosA, putAll, optNat, sliceA, row, Int.reduceLT, Int.reduceLE, Int.reduceGT, Int.reduceGE, Int.reduceEq, Int.reduceNe, Int.reduceToNat, Int.reduceBEq, Int.reduceBNe, Nat.reduceLeDiff, Nat.reduceLT, Nat.reduceBNe, Nat.reduceGT, List.drop_nil, List.take_nil, Option.isSome_none, Int.ofNat_one, Int.ofNat_zero, h0, ih]

theorem L42_2 {fr : AV} {f : List Nat} {H : Heap} (hF : Fr fr f) (d : Nat) : ∀ (left many : Nat), left < 128 → pc left ≤ d → many ≤ 1000 - d → d ≤ 1000 →
    lp ET Y F42L2 (sp 51 [(4, vI many), (3, vI left), (0, fr)]) H = some (.x 0, sp 51 [(4, vI (partsP f d left many))], H) := by
  have h128 := hF.p7
  have hfb : ∀ j, f.getD j 0 < 128 := fun j => by have := hF.fb j; omega
  induction d with
  | zero =>
    intro left many hl hd hm _
    have h0 : left = 0 := by
      rcases Nat.eq_zero_or_pos left with e | e
      · exact e
      · have := (pc_pos hl).1 e; omega
    subst h0
    rw [un42_2]
    simp only [F42L2b, SS, insA, wantedA, Opd.ev, putA, binA, eqbA, unA, fldA, partA, reduceIte, reduceCtorEq, Nat.reduceMod, Nat.reduceDiv, Nat.reduceBEq, resultA, resA, vI, Nat.reduceMul, Nat.reduceAdd, Nat.reduceSub, Nat.reduceEqDiff, Nat.reduceLT, Nat.reducePow, Nat.reduceLeDiff, st, Option.bind_eq_bind, Option.pure_def, List.length_nil, Int.cast_ofNat_Int, List.reverse_nil, UU, idxP, cellsAt, storeA, fillA, zerosA, putAll, optNat, sliceA, row, Int.reduceLT, Int.reduceLE, Int.reduceGT, Int.reduceGE, Int.reduceEq, Int.reduceNe, Int.reduceToNat, Int.reduceBEq, Int.reduceBNe, Nat.reduceLeDiff, Nat.reduceLT, Nat.reduceBNe, Nat.reduceGT, List.drop_nil, List.take_nil, Option.isSome_none, Int.ofNat_one, Int.ofNat_zero, partsP, Int.ofNat_zero]
  | succ d ih =>
    intro left many hl hd hm hd'
    rw [un42_2]
    simp only [partsP]
    by_cases c : left = 0
    · subst c
      simp only [F42L2b, SS, insA, wantedA, Opd.ev, putA, binA, eqbA, unA, fldA, partA, reduceIte, reduceCtorEq, Nat.reduceMod, Nat.reduceDiv, Nat.reduceBEq, resultA, resA, vI, Nat.reduceMul, Nat.reduceAdd, Nat.reduceSub, Nat.reduceEqDiff, Nat.reduceLT, Nat.reducePow, Nat.reduceLeDiff, st, Option.bind_eq_bind, Option.pure_def, List.length_nil, Int.cast_ofNat_Int, List.reverse_nil, UU, idxP, cellsAt, storeA, fillA, zerosA, putAll, optNat, sliceA, row, Int.reduceLT, Int.reduceLE, Int.reduceGT, Int.reduceGE, Int.reduceEq, Int.reduceNe, Int.reduceToNat, Int.reduceBEq, Int.reduceBNe, Nat.reduceLeDiff, Nat.reduceLT, Nat.reduceBNe, Nat.reduceGT, List.drop_nil, List.take_nil, Option.isSome_none, Int.ofNat_one, Int.ofNat_zero, Int.ofNat_zero]
    · rw [if_neg c]
      have hc : (left : Int) > 0 := by omega
      have hb := ctz_ok hl c
      have h7 := ctz_lt left
      have hsub : IntKind.wrap .i64 ((left : Int) - 1) = ((left - 1 : Nat) : Int) := by rw [wrap_id (by omega) (by omega)]; omega
      have b1 : bitsA .andNot .i64 (left : Int) ((left - 1 : Nat) : Int) = some (vI ((dl left (left - 1) : Nat) : Int)) := (nat_bits (by omega) (by omega)).2.2
      rw [low_bit hl c] at b1
      have hp := pow_lt h7
      have h1 := L42_1 (Y := Y) (H := H) (v3 := vI left) (v4 := vI many) hF 8 (2 ^ ctz left) hp (by omega)
      have hcl : clo f 8 (2 ^ ctz left) < 128 := by rw [clo_eq]; exact mtN_lt (n := 7) hfb _ _ hp
      have b2 : bitsA .andNot .i64 (left : Int) ((clo f 8 (2 ^ ctz left) : Nat) : Int) = some (vI ((dl left (clo f 8 (2 ^ ctz left)) : Nat) : Int)) := (nat_bits (by omega) (by omega)).2.2
      have hlt : pc (dl left (clo f 8 (2 ^ ctz left))) < pc left := by
        refine pc_lt (k := ctz left) (fun j h => by rw [dl_bit] at h; simp at h; exact h.1) h7 ?_ hb
        have : (clo f 8 (2 ^ ctz left)).testBit (ctz left) = true := by rw [clo_eq]; exact mtN_sub f 8 _ _ Nat.testBit_two_pow_self
        rw [dl_bit, this]; simp
      have hw := wrap_succ (n := many) (by omega)
      have ih := ih (dl left (clo f 8 (2 ^ ctz left))) (many + 1) (Nat.lt_of_le_of_lt (dl_le _ _) hl) (by omega) (by omega) (by omega)
      generalize clo f 8 (2 ^ ctz left) = cl at *
      generalize 2 ^ ctz left = pw at *
      simp only [SS, insA, wantedA, Opd.ev, putA, binA, eqbA, unA, fldA, partA, reduceIte, reduceCtorEq, Nat.reduceMod, Nat.reduceDiv, Nat.reduceBEq, resultA, resA, vI, Nat.reduceMul, Nat.reduceAdd, Nat.reduceSub, Nat.reduceEqDiff, Nat.reduceLT, Nat.reducePow, Nat.reduceLeDiff, st, Option.bind_eq_bind, Option.pure_def, List.length_nil, Int.cast_ofNat_Int, List.reverse_nil] at h1 ih
      simp only [F42L2b, F42T0, in42_1, SS, insA, wantedA, Opd.ev, putA, binA, eqbA, unA, fldA, partA, reduceIte, reduceCtorEq, Nat.reduceMod, Nat.reduceDiv, Nat.reduceBEq, resultA, resA, vI, Nat.reduceMul, Nat.reduceAdd, Nat.reduceSub, Nat.reduceEqDiff, Nat.reduceLT, Nat.reducePow, Nat.reduceLeDiff, st, Option.bind_eq_bind, Option.pure_def, List.length_nil, Int.cast_ofNat_Int, List.reverse_nil, UU, idxP, cellsAt, storeA, fillA, zerosA, putAll, optNat, sliceA, row, Int.reduceLT, Int.reduceLE, Int.reduceGT, Int.reduceGE, Int.reduceEq, Int.reduceNe, Int.reduceToNat, Int.reduceBEq, Int.reduceBNe, Nat.reduceLeDiff, Nat.reduceLT, Nat.reduceBNe, Nat.reduceGT, List.drop_nil, List.take_nil, Option.isSome_none, Int.ofNat_one, Int.ofNat_zero, hc, hsub, b1, h1, b2, hw, ih]

theorem parts42 {fr : AV} {f : List Nat} (hF : Fr fr f) {H : Heap} : freeX H (callL ET Y 42 [fr] []) = some (vI (partsP f 8 (2 ^ f.length - 1) 0), H) := by
  have hn7 := hF.n7
  have h3 := hF.p7
  have h2 : 1 ≤ 2 ^ f.length := Nat.pow_pos (by decide)
  have hflen := hF.hv.len
  rw [List.length_map] at hflen
  have hs3 := shl_eq (k := f.length) (by omega)
  have hp2 : (0 : Int) ≤ ((f.length : Nat) : Int) := by omega
  have h1 := L42_2 (Y := Y) (H := []) hF 8 (2 ^ f.length - 1) 0 (by omega) (by have := pc_le7 (2 ^ f.length - 1); omega) (by omega) (by omega)
  have hw : IntKind.wrap .i64 (((2 ^ f.length : Nat) : Int) - 1) = ((2 ^ f.length - 1 : Nat) : Int) := by
    generalize 2 ^ f.length = b at h2 h3
    rw [wrap_id (by omega) (by omega)]; omega
  rw [call42 rfl]
  simp only [SS, insA, wantedA, Opd.ev, putA, binA, eqbA, unA, fldA, partA, reduceIte, reduceCtorEq, Nat.reduceMod, Nat.reduceDiv, Nat.reduceBEq, resultA, resA, vI, Nat.reduceMul, Nat.reduceAdd, Nat.reduceSub, Nat.reduceEqDiff, Nat.reduceLT, Nat.reducePow, Nat.reduceLeDiff, st, Option.bind_eq_bind, Option.pure_def, List.length_nil, Int.cast_ofNat_Int, List.reverse_nil, Int.ofNat_zero] at h1
  simp only [F42B, F42T1, in42_2, SS, insA, wantedA, Opd.ev, putA, binA, eqbA, unA, fldA, partA, reduceIte, reduceCtorEq, Nat.reduceMod, Nat.reduceDiv, Nat.reduceBEq, resultA, resA, vI, Nat.reduceMul, Nat.reduceAdd, Nat.reduceSub, Nat.reduceEqDiff, Nat.reduceLT, Nat.reducePow, Nat.reduceLeDiff, st, Option.bind_eq_bind, Option.pure_def, List.length_nil, Int.cast_ofNat_Int, List.reverse_nil, UU, idxP, cellsAt, storeA, fillA, zerosA, putAll, optNat, sliceA, row, Int.reduceLT, Int.reduceLE, Int.reduceGT, Int.reduceGE, Int.reduceEq, Int.reduceNe, Int.reduceToNat, Int.reduceBEq, Int.reduceBNe, Nat.reduceLeDiff, Nat.reduceLT, Nat.reduceBNe, Nat.reduceGT, List.drop_nil, List.take_nil, Option.isSome_none, Int.ofNat_one, Int.ofNat_zero, hflen, hs3, hp2, hw, h1]
end

/-! ### Wires, counted twice -/
theorem sumZ_app (g : Nat → Int) : ∀ (l m : List Nat), sumZ (l ++ m) g = sumZ l g + sumZ m g
  | [], m => by simp [sumZ]
  | k :: l, m => by simp only [List.cons_append, sumZ]; rw [sumZ_app g l m]; omega
theorem sumZ_succ (g : Nat → Int) (m : Nat) : sumZ (List.range (m + 1)) g = sumZ (List.range m) g + g m := by
  rw [List.range_succ, sumZ_app]; simp [sumZ]
theorem sumZ_map (g : Nat → Int) (h : Nat → Nat) : ∀ l : List Nat, sumZ (l.map h) g = sumZ l (fun k => g (h k))
  | [] => rfl
  | k :: l => by simp only [List.map_cons, sumZ]; rw [sumZ_map g h l]
theorem sumZ_first (g : Nat → Int) (m : Nat) : sumZ (List.range (m + 1)) g = g 0 + sumZ (List.range m) (fun k => g (k + 1)) := by
  rw [List.range_succ_eq_map]
  simp only [sumZ]
  rw [sumZ_map]
theorem wiR_sum (x : Nat) : ∀ ks : List Nat, (wiR x ks : Int) = sumZ ks (fun k => if x.testBit k then 1 else 0)
  | [] => rfl
  | k :: ks => by
    have := wiR_sum x ks
    unfold wiR at this ⊢
    rw [List.filter_cons]
    simp only [sumZ]
    split
    · simp only [List.length_cons]; omega
    · omega
theorem sumZ_cut {g : Nat → Int} {n : Nat} (h : ∀ k, n ≤ k → g k = 0) : ∀ m, n ≤ m → sumZ (List.range m) g = sumZ (List.range n) g
  | 0, hm => by have : n = 0 := by omega
                subst this; rfl
  | m + 1, hm => by
    rcases Nat.lt_or_ge m n with e | e
    · have : m + 1 = n := by omega
      rw [this]
    · rw [sumZ_succ, h m e, sumZ_cut h m e]; omega

theorem wires_two {f : List Nat} (hS : Sy f) (hloop : ∀ i, i < f.length → (f.getD i 0).testBit i = false) (hn : f.length ≤ 7) (hf : ∀ j, f.getD j 0 < 2 ^ f.length) : wsum f = 2 * wiN f := by
  have h1 : (wsum f : Int) = sumZ (List.range f.length) (fun i => sumZ (List.range f.length) (fun k => if (f.getD i 0).testBit k then 1 else 0)) := by
    have : ∀ l : List Nat, ((l.map pc).sum : Int) = sumZ (List.range l.length) (fun i => (pc (l.getD i 0) : Int)) := by
      intro l
      induction l with
      | nil => rfl
      | cons x l ih =>
        rw [List.length_cons, sumZ_first, List.map_cons, List.sum_cons]
        have e1 : sumZ (List.range l.length) (fun k => (pc ((x :: l).getD (k + 1) 0) : Int)) = sumZ (List.range l.length) (fun i => (pc (l.getD i 0) : Int)) := rfl
        rw [e1, ← ih]
        simp
    unfold wsum
    rw [this]
    refine sumZ_congr fun i _ => ?_
    have : pc (f.getD i 0) = wiR (f.getD i 0) (List.range 7) := rfl
    rw [this, wiR_sum]
    refine sumZ_cut (fun k hk => ?_) 7 hn
    rw [Nat.testBit_lt_two_pow (Nat.lt_of_lt_of_le (hf i) (Nat.pow_le_pow_right (by decide) hk))]
    rfl
  have h2 : ∀ m, m ≤ f.length → sumZ (List.range m) (fun i => sumZ (List.range m) (fun k => if (f.getD i 0).testBit k then (1 : Int) else 0)) = 2 * (((List.range m).map fun i => wiR (f.getD i 0) (List.range i)).sum : Nat) := by
    intro m
    induction m with
    | zero => intro _; rfl
    | succ m ih =>
      intro hm
      have ih := ih (by omega)
      rw [sumZ_succ, sumZ_succ, hloop m (by omega)]
      have e : sumZ (List.range m) (fun i => sumZ (List.range (m + 1)) (fun k => if (f.getD i 0).testBit k then (1 : Int) else 0)) = sumZ (List.range m) (fun i => sumZ (List.range m) (fun k => if (f.getD i 0).testBit k then (1 : Int) else 0)) + sumZ (List.range m) (fun k => if (f.getD m 0).testBit k then (1 : Int) else 0) := by
        rw [← sumZ_add]
        refine sumZ_congr fun i hi => ?_
        have hi' := List.mem_range.1 hi
        rw [sumZ_succ, hS i m (by omega) (by omega)]
      rw [e, ih, List.range_succ, List.map_append, List.sum_append]
      have := wiR_sum (f.getD m 0) (List.range m)
      simp only [List.map_cons, List.map_nil, List.sum_cons, List.sum_nil, Bool.false_eq_true, if_false]
      omega
  have h3 := h2 f.length (Nat.le_refl _)
  unfold wiN
  omega
end Go.X
