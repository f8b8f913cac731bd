import Derived.Test.YtdkgicdbjemalaaDoorNA
/-! Tones: trees. -/
set_option linter.unusedSimpArgs false
set_option linter.unusedVariables false
set_option maxHeartbeats 2000000
set_option maxRecDepth 10000
namespace Go.X
open Go Go.RowKit

/-! ### What can be reached -/
def mtL (f : List Nat) (ks : List Nat) (x : Nat) : Nat := ks.foldl (fun met i => if met.testBit i then met ||| f.getD i 0 else met) x
def mt1 (f : List Nat) (x : Nat) : Nat := mtL f (List.range f.length) x
def mtN (f : List Nat) : Nat → Nat → Nat
  | 0, x => x
  | r + 1, x => mtN f r (mt1 f x)

theorem mtL_sub (f : List Nat) : ∀ (ks : List Nat) (x : Nat), Sub x (mtL f ks x)
  | [], x => Sub.refl x
  | k :: ks, x => by
    unfold mtL; rw [List.foldl_cons]
    refine Sub.trans ?_ (mtL_sub f ks _)
    split
    · exact fun j h => by rw [Nat.testBit_or, h, Bool.true_or]
    · exact Sub.refl x
theorem mtL_lt {f : List Nat} {n : Nat} (h : ∀ j, f.getD j 0 < 2 ^ n) : ∀ (ks : List Nat) (x : Nat), x < 2 ^ n → mtL f ks x < 2 ^ n
  | [], x, hx => hx
  | k :: ks, x, hx => by
    unfold mtL; rw [List.foldl_cons]
    refine mtL_lt h ks _ ?_
    split
    · exact Nat.or_lt_two_pow hx (h k)
    · exact hx
theorem mtN_lt {f : List Nat} {n : Nat} (h : ∀ j, f.getD j 0 < 2 ^ n) : ∀ (r : Nat) (x : Nat), x < 2 ^ n → mtN f r x < 2 ^ n
  | 0, x, hx => hx
  | r + 1, x, hx => mtN_lt h r _ (mtL_lt h _ _ hx)
theorem sub_eq {x y : Nat} (h : Sub x y) (hy : y < 128) (hp : pc y ≤ pc x) : x = y := by
  have hx : x < 128 := Nat.lt_of_le_of_lt h.le hy
  have h1 := pc_add h
  have h2 : pc (dl y x) = 0 := by omega
  have h3 : dl y x = 0 := by
    rcases Nat.eq_zero_or_pos (dl y x) with e | e
    · exact e
    · have := (pc_pos (Nat.lt_of_le_of_lt (dl_le y x) hy)).1 e; omega
  apply Nat.eq_of_testBit_eq
  intro j
  cases hx' : x.testBit j with
  | true => rw [h j hx']
  | false =>
    cases hy' : y.testBit j with
    | false => rfl
    | true =>
      have : (dl y x).testBit j = true := by rw [dl_bit, hx', hy']; rfl
      rw [h3] at this; simp at this
theorem mt1_grow {f : List Nat} {x : Nat} (hf : ∀ j, f.getD j 0 < 128) (hx : x < 128) (h : mt1 f x ≠ x) : pc x < pc (mt1 f x) := by
  have hs := mtL_sub f (List.range f.length) x
  have hl : mt1 f x < 128 := mtL_lt (n := 7) hf _ _ hx
  rcases Nat.lt_or_ge (pc x) (pc (mt1 f x)) with e | e
  · exact e
  · exact absurd (sub_eq hs hl e).symm h
theorem mtN_stable {f : List Nat} {x : Nat} (h : mt1 f x = x) : ∀ r, mtN f r x = x
  | 0 => rfl
  | r + 1 => by simp only [mtN]; rw [h]; exact mtN_stable h r
theorem mtN_add (f : List Nat) : ∀ (r s x : Nat), mtN f (r + s) x = mtN f s (mtN f r x)
  | 0, s, x => by rw [Nat.zero_add]; rfl
  | r + 1, s, x => by rw [Nat.succ_add]; simp only [mtN]; exact mtN_add f r s _
theorem mtN_grow {f : List Nat} (hf : ∀ j, f.getD j 0 < 128) : ∀ (r x : Nat), x < 128 → mt1 f (mtN f r x) = mtN f r x ∨ pc x + r ≤ pc (mtN f r x)
  | 0, x, _ => .inr (Nat.le_refl _)
  | r + 1, x, hx => by
    simp only [mtN]
    by_cases h : mt1 f x = x
    · rw [h, mtN_stable h]; exact .inl h
    · have hl : mt1 f x < 128 := mtL_lt (n := 7) hf _ _ hx
      rcases mtN_grow hf r (mt1 f x) hl with e | e
      · exact .inl e
      · have := mt1_grow hf hx h
        exact .inr (by omega)
theorem pc_lim {n x : Nat} (hn : n ≤ 7) (hx : x < 2 ^ n) : pc x ≤ n := by
  have : Sub x (2 ^ n - 1) := fun j hj => by
    rw [Nat.testBit_two_pow_sub_one]
    rcases Nat.lt_or_ge j n with h | h
    · simpa using h
    · rw [Nat.testBit_lt_two_pow (Nat.lt_of_lt_of_le hx (Nat.pow_le_pow_right (by decide) h))] at hj; cases hj
  exact Nat.le_trans (pc_le this) (pc_full hn)
/-- As many rounds as there are knots are enough. -/
theorem mtN_end {f : List Nat} (hn : f.length ≤ 7) (h1 : 1 ≤ f.length) (hf : ∀ j, f.getD j 0 < 2 ^ f.length) : mtN f 8 1 = mtN f f.length 1 := by
  have h128 : 2 ^ f.length ≤ 128 := by
    have : (2 : Nat) ^ f.length ≤ 2 ^ 7 := Nat.pow_le_pow_right (by decide) hn
    omega
  have h2 : 2 ^ 1 ≤ 2 ^ f.length := Nat.pow_le_pow_right (by decide) h1
  have hst : mt1 f (mtN f f.length 1) = mtN f f.length 1 := by
    rcases mtN_grow (fun j => Nat.lt_of_lt_of_le (hf j) h128) f.length 1 (by decide) with e | e
    · exact e
    · have := pc_lim hn (mtN_lt hf f.length 1 (by omega))
      have : pc 1 = 1 := by decide
      omega
  have : 8 = f.length + (8 - f.length) := by omega
  rw [this, mtN_add, mtN_stable hst]

def clo (f : List Nat) : Nat → Nat → Nat
  | 0, x => x
  | d + 1, x => if mt1 f x = x then x else clo f d (mt1 f x)
theorem clo_eq (f : List Nat) : ∀ (d x : Nat), clo f d x = mtN f d x
  | 0, x => rfl
  | d + 1, x => by
    simp only [clo, mtN]
    split
    · rename_i h; rw [h, mtN_stable h]
    · exact clo_eq f d _

/-- How many parts. -/
def partsP (f : List Nat) : Nat → Nat → Nat → Nat
  | 0, _, many => many
  | d + 1, left, many => if left = 0 then many else partsP f d (dl left (clo f 8 (2 ^ ctz left))) (many + 1)
theorem partsP_ge (f : List Nat) : ∀ (d left many : Nat), many ≤ partsP f d left many
  | 0, _, _ => Nat.le_refl _
  | d + 1, left, many => by
    simp only [partsP]
    split
    · exact Nat.le_refl _
    · have := partsP_ge f d (dl left (clo f 8 (2 ^ ctz left))) (many + 1); omega

theorem ctz_full {n : Nat} (h1 : 1 ≤ n) (h7 : n ≤ 7) : ctz (2 ^ n - 1) = 0 := by
  have : ∀ n, n < 8 → 1 ≤ n → ctz (2 ^ n - 1) = 0 := by decide
  exact this n (by omega) h1

theorem parts_one {f : List Nat} (hn : f.length ≤ 7) (h1 : 1 ≤ f.length) (hf : ∀ j, f.getD j 0 < 2 ^ f.length) : partsP f 8 (2 ^ f.length - 1) 0 = 1 ↔ mtN f f.length 1 = 2 ^ f.length - 1 := by
  have h2 : 2 ^ 1 ≤ 2 ^ f.length := Nat.pow_le_pow_right (by decide) h1
  have hM := mtN_lt hf f.length 1 (by omega)
  rw [partsP, if_neg (by omega), ctz_full h1 hn, clo_eq, mtN_end hn h1 hf]
  generalize mtN f f.length 1 = M at *
  constructor
  · intro h
    rw [partsP] at h
    split at h
    · rename_i h0
      apply Nat.eq_of_testBit_eq
      intro j
      have hj : (dl (2 ^ f.length - 1) M).testBit j = false := by rw [h0]; simp
      rw [dl_bit, Nat.testBit_two_pow_sub_one] at hj
      rw [Nat.testBit_two_pow_sub_one]
      by_cases e : j < f.length
      · simp only [e, decide_true, Bool.true_and, Bool.not_eq_false'] at hj
        simp [e, hj]
      · rw [Nat.testBit_lt_two_pow (Nat.lt_of_lt_of_le hM (Nat.pow_le_pow_right (by decide) (by omega)))]
        simp [e]
    · have := partsP_ge f 6 (dl (dl (2 ^ f.length - 1) M) (clo f 8 (2 ^ ctz (dl (2 ^ f.length - 1) M)))) (0 + 1 + 1)
      omega
  · intro h
    have h0 : dl (2 ^ f.length - 1) M = 0 := by rw [h]; unfold dl; simp
    rw [h0]; rfl

/-! ### Wires -/
def wiR (x : Nat) (ks : List Nat) : Nat := (ks.filter fun k => x.testBit k).length
def wiN (f : List Nat) : Nat := ((List.range f.length).map fun i => wiR (f.getD i 0) (List.range i)).sum
def wsum (f : List Nat) : Nat := (f.map pc).sum

section
variable {Y : Run}

theorem L32_0 {fr : AV} {f : List Nat} {i : Nat} {H : Heap} (hF : Fr fr f) (hi : i < f.length) (d : Nat) : ∀ (k s : Nat), k + d = i → s + d ≤ 1000 →
    lp ET Y F32L0 (sp 27 [(5, vI k), (4, vI i), (3, vI s), (0, fr)]) H = some (.x 2, sp 27 [(4, vI i), (3, vI ((s + wiR (f.getD i 0) (List.range' k d) : Nat) : Int)), (0, fr)], H) := by
  have hn7 := hF.n7
  induction d with
  | zero =>
    intro k s hk hs
    rw [un32_0]
    have : ¬ ((k : Int) < (i : Int)) := by omega
    simp only [F32L0b, SS, insA, wantedA, Opd.ev, putA, binA, eqbA, unA, fldA, partA, reduceIte, reduceCtorEq, Nat.reduceMod, Nat.reduceDiv, Nat.reduceBEq, resultA, resA, vI, Nat.reduceMul, Nat.reduceAdd, Nat.reduceSub, Nat.reduceEqDiff, Nat.reduceLT, Nat.reducePow, Nat.reduceLeDiff, st, Option.bind_eq_bind, Option.pure_def, List.length_nil, Int.cast_ofNat_Int, List.reverse_nil, UU, idxP, cellsAt, storeA, fillA, zerosA, putAll, optNat, sliceA, row, Int.reduceLT, Int.reduceLE, Int.reduceGT, Int.reduceGE, Int.reduceEq, Int.reduceNe, Int.reduceToNat, Int.reduceBEq, Int.reduceBNe, Nat.reduceLeDiff, Nat.reduceLT, Nat.reduceBNe, Nat.reduceGT, List.drop_nil, List.take_nil, Option.isSome_none, Int.ofNat_one, Int.ofNat_zero, this, List.range'_zero, wiR, List.filter_nil, List.length_nil]
  | succ d ih =>
    intro k s hk hs
    have hc : (k : Int) < (i : Int) := by omega
    have hw := wrap_succ (n := k) (by omega)
    have hp2 : (0 : Int) ≤ (k : Int) := by omega
    have hs2 := shr_eq (k := k) (by omega)
    have h20 : (2 : Int) ≠ 0 := by decide
    have hip := hF.hv.idx (i := i) (by simpa using hi)
    have hlp := hF.hv.load (H := H) (i := i) (by simpa using hi)
    rw [getD_nat hi] at hlp
    have ht := tmod_emod (sh_nonneg (x := ((f.getD i 0 : Nat) : Int)) (by omega) k)
    have e1 : sh ((f.getD i 0 : Nat) : Int) k % 2 = ((if (f.getD i 0).testBit k then 1 else 0 : Nat) : Int) := by rw [sh_bit]; split <;> rfl
    have hz : (if (f.getD i 0).testBit k then 1 else 0 : Nat) ≤ 1 := by split <;> omega
    have hr : s + wiR (f.getD i 0) (List.range' k (d + 1)) = s + (if (f.getD i 0).testBit k then 1 else 0) + wiR (f.getD i 0) (List.range' (k + 1) d) := by
      rw [List.range'_succ]
      unfold wiR; rw [List.filter_cons]; split
      · simp only [List.length_cons]; omega
      · omega
    rw [hr, un32_0]
    generalize (if (f.getD i 0).testBit k then 1 else 0 : Nat) = z at *
    have hadd : IntKind.wrap .i64 ((s : Int) + (z : Int)) = ((s + z : Nat) : Int) := by
      rw [wrap_id (by omega) (by omega)]; omega
    have ih := ih (k + 1) (s + z) (by omega) (by omega)
    simp only [SS, insA, wantedA, Opd.ev, putA, binA, eqbA, unA, fldA, partA, reduceIte, reduceCtorEq, Nat.reduceMod, Nat.reduceDiv, Nat.reduceBEq, resultA, resA, vI, Nat.reduceMul, Nat.reduceAdd, Nat.reduceSub, Nat.reduceEqDiff, Nat.reduceLT, Nat.reducePow, Nat.reduceLeDiff, st, Option.bind_eq_bind, Option.pure_def, List.length_nil, Int.cast_ofNat_Int, List.reverse_nil] at ih
    simp only [F32L0b, SS, insA, wantedA, Opd.ev, putA, binA, eqbA, unA, fldA, partA, reduceIte, reduceCtorEq, Nat.reduceMod, Nat.reduceDiv, Nat.reduceBEq, resultA, resA, vI, Nat.reduceMul, Nat.reduceAdd, Nat.reduceSub, Nat.reduceEqDiff, Nat.reduceLT, Nat.reducePow, Nat.reduceLeDiff, st, Option.bind_eq_bind, Option.pure_def, List.length_nil, Int.cast_ofNat_Int, List.reverse_nil, UU, idxP, cellsAt, storeA, fillA, zerosA, putAll, optNat, sliceA, row, Int.reduceLT, Int.reduceLE, Int.reduceGT, Int.reduceGE, Int.reduceEq, Int.reduceNe, Int.reduceToNat, Int.reduceBEq, Int.reduceBNe, Nat.reduceLeDiff, Nat.reduceLT, Nat.reduceBNe, Nat.reduceGT, List.drop_nil, List.take_nil, Option.isSome_none, Int.ofNat_one, Int.ofNat_zero, hc, hw, hp2, hs2, h20, ht, hip, hlp, e1, hadd, ih, ne_eq, not_false_eq_true, and_self]

theorem wiR_le (x : Nat) (ks : List Nat) : wiR x ks ≤ ks.length := List.length_filter_le _ _

theorem L32_1 {fr : AV} {f : List Nat} {H : Heap} (hF : Fr fr f) (d : Nat) : ∀ (i s : Nat), i + d = f.length → s ≤ 10 * i →
    lp ET Y F32L1 (sp 27 [(4, vI i), (3, vI s), (0, fr)]) H = some (.x 0, sp 27 [(3, vI ((s + ((List.range' i d).map fun i => wiR (f.getD i 0) (List.range i)).sum : Nat) : Int))], H) := by
  have hn7 := hF.n7
  have hflen := hF.hv.len
  rw [List.length_map] at hflen
  induction d with
  | zero =>
    intro i s hi hs
    rw [un32_1]
    have : ¬ ((i : Int) < (f.length : Int)) := by omega
    simp only [F32L1b, SS, insA, wantedA, Opd.ev, putA, binA, eqbA, unA, fldA, partA, reduceIte, reduceCtorEq, Nat.reduceMod, Nat.reduceDiv, Nat.reduceBEq, resultA, resA, vI, Nat.reduceMul, Nat.reduceAdd, Nat.reduceSub, Nat.reduceEqDiff, Nat.reduceLT, Nat.reducePow, Nat.reduceLeDiff, st, Option.bind_eq_bind, Option.pure_def, List.length_nil, Int.cast_ofNat_Int, List.reverse_nil, UU, idxP, cellsAt, storeA, fillA, zerosA, putAll, optNat, sliceA, row, Int.reduceLT, Int.reduceLE, Int.reduceGT, Int.reduceGE, Int.reduceEq, Int.reduceNe, Int.reduceToNat, Int.reduceBEq, Int.reduceBNe, Nat.reduceLeDiff, Nat.reduceLT, Nat.reduceBNe, Nat.reduceGT, List.drop_nil, List.take_nil, Option.isSome_none, Int.ofNat_one, Int.ofNat_zero, hflen, this, List.range'_zero, List.sum_nil]
  | succ d ih =>
    intro i s hi hs
    have hc : (i : Int) < (f.length : Int) := by omega
    have hw := wrap_succ (n := i) (by omega)
    have h0 := L32_0 (Y := Y) (H := H) hF (by omega : i < f.length) i 0 s (by omega) (by omega)
    rw [← List.range_eq_range'] at h0
    have hle := wiR_le (f.getD i 0) (List.range i)
    rw [List.length_range] at hle
    rw [un32_1, List.range'_succ, List.map_cons, List.sum_cons, ← Nat.add_assoc]
    generalize wiR (f.getD i 0) (List.range i) = z at *
    have ih := ih (i + 1) (s + z) (by omega) (by omega)
    simp only [SS, insA, wantedA, Opd.ev, putA, binA, eqbA, unA, fldA, partA, reduceIte, reduceCtorEq, Nat.reduceMod, Nat.reduceDiv, Nat.reduceBEq, resultA, resA, vI, Nat.reduceMul, Nat.reduceAdd, Nat.reduceSub, Nat.reduceEqDiff, Nat.reduceLT, Nat.reducePow, Nat.reduceLeDiff, st, Option.bind_eq_bind, Option.pure_def, List.length_nil, Int.cast_ofNat_Int, List.reverse_nil, Int.ofNat_zero] at h0 ih
    simp only [F32L1b, F32T0, in32_0, SS, insA, wantedA, Opd.ev, putA, binA, eqbA, unA, fldA, partA, reduceIte, reduceCtorEq, Nat.reduceMod, Nat.reduceDiv, Nat.reduceBEq, resultA, resA, vI, Nat.reduceMul, Nat.reduceAdd, Nat.reduceSub, Nat.reduceEqDiff, Nat.reduceLT, Nat.reducePow, Nat.reduceLeDiff, st, Option.bind_eq_bind, Option.pure_def, List.length_nil, Int.cast_ofNat_Int, List.reverse_nil, UU, idxP, cellsAt, storeA, fillA, zerosA, putAll, optNat, sliceA, row, Int.reduceLT, Int.reduceLE, Int.reduceGT, Int.reduceGE, Int.reduceEq, Int.reduceNe, Int.reduceToNat, Int.reduceBEq, Int.reduceBNe, Nat.reduceLeDiff, Nat.reduceLT, Nat.reduceBNe, Nat.reduceGT, List.drop_nil, List.take_nil, Option.isSome_none, Int.ofNat_one, Int.ofNat_zero, hflen, hc, hw, h0, ih]

theorem wires32 {fr : AV} {f : List Nat} (hF : Fr fr f) {H : Heap} : freeX H (callL ET Y 32 [fr] []) = some (vI (wiN f), H) := by
  have h0 := L32_1 (Y := Y) (H := []) hF f.length 0 0 (by omega) (by omega)
  rw [← List.range_eq_range', Nat.zero_add] at h0
  rw [call32 rfl]
  unfold wiN
  generalize ((List.range f.length).map fun i => wiR (f.getD i 0) (List.range i)).sum = z at *
  simp only [SS, insA, wantedA, Opd.ev, putA, binA, eqbA, unA, fldA, partA, reduceIte, reduceCtorEq, Nat.reduceMod, Nat.reduceDiv, Nat.reduceBEq, resultA, resA, vI, Nat.reduceMul, Nat.reduceAdd, Nat.reduceSub, Nat.reduceEqDiff, Nat.reduceLT, Nat.reducePow, Nat.reduceLeDiff, st, Option.bind_eq_bind, Option.pure_def, List.length_nil, Int.cast_ofNat_Int, List.reverse_nil, Int.ofNat_zero] at h0
  simp only [F32B, F32T1, in32_1, SS, insA, wantedA, Opd.ev, putA, binA, eqbA, unA, fldA, partA, reduceIte, reduceCtorEq, Nat.reduceMod, Nat.reduceDiv, Nat.reduceBEq, resultA, resA, vI, Nat.reduceMul, Nat.reduceAdd, Nat.reduceSub, Nat.reduceEqDiff, Nat.reduceLT, Nat.reducePow, Nat.reduceLeDiff, st, Option.bind_eq_bind, Option.pure_def, List.length_nil, Int.cast_ofNat_Int, List.reverse_nil, UU, idxP, cellsAt, storeA, fillA, zerosA, putAll, optNat, sliceA, row, Int.reduceLT, Int.reduceLE, Int.reduceGT, Int.reduceGE, Int.reduceEq, Int.reduceNe, Int.reduceToNat, Int.reduceBEq, Int.reduceBNe, Nat.reduceLeDiff, Nat.reduceLT, Nat.reduceBNe, Nat.reduceGT, List.drop_nil, List.take_nil, Option.isSome_none, Int.ofNat_one, Int.ofNat_zero, h0]

/-! ### IsTree -/
theorem L41_0 {fr v6 v20 v21 : AV} {f : List Nat} {H : Heap} (hF : Fr fr f) (d : Nat) : ∀ (i met : Nat), i + d = f.length → met < 128 →
    lp ET Y F41L0 (sp 64 [(25, vI i), (24, vI f.length), (23, fr), (21, v21), (20, v20), (7, vI met), (6, v6), (4, fr)]) H = some (.x 2, sp 64 [(21, v21), (20, v20), (7, vI (mtL f (List.range' i d) met)), (6, v6), (4, fr)], H) := by
  have hn7 := hF.n7
  have h128 := hF.p7
  induction d with
  | zero =>
    intro i met hi hm
    rw [un41_0]
    have : ¬ ((i : Int) < (f.length : Int)) := by omega
    simp only [F41L0b, SS, insA, wantedA, Opd.ev, putA, binA, eqbA, unA, fldA, partA, reduceIte, reduceCtorEq, Nat.reduceMod, Nat.reduceDiv, Nat.reduceBEq, resultA, resA, vI, Nat.reduceMul, Nat.reduceAdd, Nat.reduceSub, Nat.reduceEqDiff, Nat.reduceLT, Nat.reducePow, Nat.reduceLeDiff, st, Option.bind_eq_bind, Option.pure_def, List.length_nil, Int.cast_ofNat_Int, List.reverse_nil, UU, idxP, cellsAt, storeA, fillA, zerosA, putAll, optNat, sliceA, row, Int.reduceLT, Int.reduceLE, Int.reduceGT, Int.reduceGE, Int.reduceEq, Int.reduceNe, Int.reduceToNat, Int.reduceBEq, Int.reduceBNe, Nat.reduceLeDiff, Nat.reduceLT, Nat.reduceBNe, Nat.reduceGT, List.drop_nil, List.take_nil, Option.isSome_none, Int.ofNat_one, Int.ofNat_zero, this, List.range'_zero, mtL, List.foldl_nil]
  | succ d ih =>
    intro i met hi hm
    have hi1 : i < f.length := by omega
    have hc : (i : Int) < (f.length : Int) := by omega
    have hw := wrap_succ (n := i) (by omega)
    have hp2 : (0 : Int) ≤ (i : Int) := by omega
    have hs2 := shr_eq (k := i) (by omega)
    have hip := hF.hv.idx (i := i) (by simpa using hi1)
    have hlp := hF.hv.load (H := H) (i := i) (by simpa using hi1)
    rw [getD_nat hi1] at hlp
    have q0 := sh_beq met i
    have hfi := hF.fb i
    rw [un41_0, List.range'_succ]
    unfold mtL
    rw [List.foldl_cons]
    unfold mtL at ih
    cases hb : met.testBit i with
    | false =>
      rw [hb] at q0
      rw [if_neg (by simp)]
      have ih := ih (i + 1) met (by omega) hm
      simp only [SS, insA, wantedA, Opd.ev, putA, binA, eqbA, unA, fldA, partA, reduceIte, reduceCtorEq, Nat.reduceMod, Nat.reduceDiv, Nat.reduceBEq, resultA, resA, vI, Nat.reduceMul, Nat.reduceAdd, Nat.reduceSub, Nat.reduceEqDiff, Nat.reduceLT, Nat.reducePow, Nat.reduceLeDiff, st, Option.bind_eq_bind, Option.pure_def, List.length_nil, Int.cast_ofNat_Int, List.reverse_nil] at ih
      simp only [F41L0b, SS, insA, wantedA, Opd.ev, putA, binA, eqbA, unA, fldA, partA, reduceIte, reduceCtorEq, Nat.reduceMod, Nat.reduceDiv, Nat.reduceBEq, resultA, resA, vI, Nat.reduceMul, Nat.reduceAdd, Nat.reduceSub, Nat.reduceEqDiff, Nat.reduceLT, Nat.reducePow, Nat.reduceLeDiff, st, Option.bind_eq_bind, Option.pure_def, List.length_nil, Int.cast_ofNat_Int, List.reverse_nil, UU, idxP, cellsAt, storeA, fillA, zerosA, putAll, optNat, sliceA, row, Int.reduceLT, Int.reduceLE, Int.reduceGT, Int.reduceGE, Int.reduceEq, Int.reduceNe, Int.reduceToNat, Int.reduceBEq, Int.reduceBNe, Nat.reduceLeDiff, Nat.reduceLT, Nat.reduceBNe, Nat.reduceGT, List.drop_nil, List.take_nil, Option.isSome_none, Int.ofNat_one, Int.ofNat_zero, hc, hw, hp2, hs2, hip, hlp, and_one, q0, ih]
    | true =>
      rw [hb] at q0
      rw [if_pos rfl]
      have b2 := (nat_bits (a := met) (b := f.getD i 0) (by omega) (by omega)).2.1
      have ih := ih (i + 1) (met ||| f.getD i 0) (by omega) (Nat.or_lt_two_pow (n := 7) hm (by omega))
      simp only [SS, insA, wantedA, Opd.ev, putA, binA, eqbA, unA, fldA, partA, reduceIte, reduceCtorEq, Nat.reduceMod, Nat.reduceDiv, Nat.reduceBEq, resultA, resA, vI, Nat.reduceMul, Nat.reduceAdd, Nat.reduceSub, Nat.reduceEqDiff, Nat.reduceLT, Nat.reducePow, Nat.reduceLeDiff, st, Option.bind_eq_bind, Option.pure_def, List.length_nil, Int.cast_ofNat_Int, List.reverse_nil] at ih
      simp only [F41L0b, SS, insA, wantedA, Opd.ev, putA, binA, eqbA, unA, fldA, partA, reduceIte, reduceCtorEq, Nat.reduceMod, Nat.reduceDiv, Nat.reduceBEq, resultA, resA, vI, Nat.reduceMul, Nat.reduceAdd, Nat.reduceSub, Nat.reduceEqDiff, Nat.reduceLT, Nat.reducePow, Nat.reduceLeDiff, st, Option.bind_eq_bind, Option.pure_def, List.length_nil, Int.cast_ofNat_Int, List.reverse_nil, UU, idxP, cellsAt, storeA, fillA, zerosA, putAll, optNat, sliceA, row, Int.reduceLT, Int.reduceLE, Int.reduceGT, Int.reduceGE, Int.reduceEq, Int.reduceNe, Int.reduceToNat, Int.reduceBEq, Int.reduceBNe, Nat.reduceLeDiff, Nat.reduceLT, Nat.reduceBNe, Nat.reduceGT, List.drop_nil, List.take_nil, Option.isSome_none, Int.ofNat_one, Int.ofNat_zero, hc, hw, hp2, hs2, hip, hlp, and_one, q0, b2, ih]

theorem L41_1 {fr v6 : AV} {f : List Nat} {H : Heap} (hF : Fr fr f) (d : Nat) : ∀ (r met : Nat), r + d = f.length → met < 128 →
    lp ET Y F41L1 (sp 64 [(21, vI r), (20, vI f.length), (7, vI met), (6, v6), (4, fr)]) H = some (.x 0, sp 64 [(7, vI (mtN f d met)), (6, v6), (4, fr)], H) := by
  have hn7 := hF.n7
  have h128 := hF.p7
  have hflen := hF.hv.len
  rw [List.length_map] at hflen
  induction d with
  | zero =>
    intro r met hi hm
    rw [un41_1]
    have : ¬ ((r : Int) < (f.length : Int)) := by omega
    simp only [F41L1b, SS, insA, wantedA, Opd.ev, putA, binA, eqbA, unA, fldA, partA, reduceIte, reduceCtorEq, Nat.reduceMod, Nat.reduceDiv, Nat.reduceBEq, resultA, resA, vI, Nat.reduceMul, Nat.reduceAdd, Nat.reduceSub, Nat.reduceEqDiff, Nat.reduceLT, Nat.reducePow, Nat.reduceLeDiff, st, Option.bind_eq_bind, Option.pure_def, List.length_nil, Int.cast_ofNat_Int, List.reverse_nil, UU, idxP, cellsAt, storeA, fillA, zerosA, putAll, optNat, sliceA, row, Int.reduceLT, Int.reduceLE, Int.reduceGT, Int.reduceGE, Int.reduceEq, Int.reduceNe, Int.reduceToNat, Int.reduceBEq, Int.reduceBNe, Nat.reduceLeDiff, Nat.reduceLT, Nat.reduceBNe, Nat.reduceGT, List.drop_nil, List.take_nil, Option.isSome_none, Int.ofNat_one, Int.ofNat_zero, this, mtN]
  | succ d ih =>
    intro r met hi hm
    have hc : (r : Int) < (f.length : Int) := by omega
    have hw := wrap_succ (n := r) (by omega)
    have h0 := L41_0 (Y := Y) (H := H) (v6 := v6) (v20 := vI f.length) (v21 := vI r) hF f.length 0 met (by omega) hm
    rw [← List.range_eq_range'] at h0
    have ih := ih (r + 1) (mt1 f met) (by omega) (mtL_lt (n := 7) (fun j => by have := hF.fb j; omega) _ _ hm)
    rw [un41_1]
    simp only [mtN]
    unfold mt1 at ih ⊢
    simp only [SS, insA, wantedA, Opd.ev, putA, binA, eqbA, unA, fldA, partA, reduceIte, reduceCtorEq, Nat.reduceMod, Nat.reduceDiv, Nat.reduceBEq, resultA, resA, vI, Nat.reduceMul, Nat.reduceAdd, Nat.reduceSub, Nat.reduceEqDiff, Nat.reduceLT, Nat.reducePow, Nat.reduceLeDiff, st, Option.bind_eq_bind, Option.pure_def, List.length_nil, Int.cast_ofNat_Int, List.reverse_nil, Int.ofNat_zero] at h0 ih
    simp only [F41L1b, F41T0, in41_0, SS, insA, wantedA, Opd.ev, putA, binA, eqbA, unA, fldA, partA, reduceIte, reduceCtorEq, Nat.reduceMod, Nat.reduceDiv, Nat.reduceBEq, resultA, resA, vI, Nat.reduceMul, Nat.reduceAdd, Nat.reduceSub, Nat.reduceEqDiff, Nat.reduceLT, Nat.reducePow, Nat.reduceLeDiff, st, Option.bind_eq_bind, Option.pure_def, List.length_nil, Int.cast_ofNat_Int, List.reverse_nil, UU, idxP, cellsAt, storeA, fillA, zerosA, putAll, optNat, sliceA, row, Int.reduceLT, Int.reduceLE, Int.reduceGT, Int.reduceGE, Int.reduceEq, Int.reduceNe, Int.reduceToNat, Int.reduceBEq, Int.reduceBNe, Nat.reduceLeDiff, Nat.reduceLT, Nat.reduceBNe, Nat.reduceGT, List.drop_nil, List.take_nil, Option.isSome_none, Int.ofNat_one, Int.ofNat_zero, hflen, hc, hw, h0, ih]

theorem pc_le7 (x : Nat) : pc x ≤ 7 := by unfold pc; exact Nat.le_trans (List.length_filter_le _ _) (by simp)

theorem L41_2 {fr v7 : AV} {f : List Nat} {H : Heap} (hF : Fr fr f) (d : Nat) : ∀ (i s : Nat), i + d = f.length → s ≤ 10 * i →
    lp ET Y F41L2 (sp 64 [(42, vI i), (41, vI f.length), (40, fr), (7, v7), (6, vI s), (4, fr)]) H = some (.x 4, sp 64 [(7, v7), (6, vI ((s + ((f.drop i).map pc).sum : Nat) : Int)), (4, fr)], H) := by
  have hn7 := hF.n7
  have h128 := hF.p7
  induction d with
  | zero =>
    intro i s hi hs
    rw [un41_2]
    have : ¬ ((i : Int) < (f.length : Int)) := by omega
    rw [List.drop_eq_nil_of_le (by omega)]
    simp only [F41L2b, SS, insA, wantedA, Opd.ev, putA, binA, eqbA, unA, fldA, partA, reduceIte, reduceCtorEq, Nat.reduceMod, Nat.reduceDiv, Nat.reduceBEq, resultA, resA, vI, Nat.reduceMul, Nat.reduceAdd, Nat.reduceSub, Nat.reduceEqDiff, Nat.reduceLT, Nat.reducePow, Nat.reduceLeDiff, st, Option.bind_eq_bind, Option.pure_def, List.length_nil, Int.cast_ofNat_Int, List.reverse_nil, UU, idxP, cellsAt, storeA, fillA, zerosA, putAll, optNat, sliceA, row, Int.reduceLT, Int.reduceLE, Int.reduceGT, Int.reduceGE, Int.reduceEq, Int.reduceNe, Int.reduceToNat, Int.reduceBEq, Int.reduceBNe, Nat.reduceLeDiff, Nat.reduceLT, Nat.reduceBNe, Nat.reduceGT, List.drop_nil, List.take_nil, Option.isSome_none, Int.ofNat_one, Int.ofNat_zero, this, List.sum_nil]
  | succ d ih =>
    intro i s hi hs
    have hi1 : i < f.length := by omega
    have hc : (i : Int) < (f.length : Int) := by omega
    have hw := wrap_succ (n := i) (by omega)
    have hip := hF.hv.idx (i := i) (by simpa using hi1)
    have hlp := hF.hv.load (H := H) (i := i) (by simpa using hi1)
    rw [getD_nat hi1] at hlp
    have hfi := hF.fb i
    have hu := wrap_u64 (n := f.getD i 0) (by omega)
    have hpop := fun H => pop68 (Y := Y) (H := H) (m := f.getD i 0) (by omega)
    have h7 := pc_le7 (f.getD i 0)
    have e : f[i] = f.getD i 0 := (getD_get hi1).symm
    rw [un41_2, List.drop_eq_getElem_cons hi1, List.map_cons, List.sum_cons, ← Nat.add_assoc, e]
    generalize pc (f.getD i 0) = z at *
    have hadd : IntKind.wrap .i64 ((s : Int) + (z : Int)) = ((s + z : Nat) : Int) := by rw [wrap_id (by omega) (by omega)]; omega
    have ih := ih (i + 1) (s + z) (by omega) (by omega)
    simp only [SS, insA, wantedA, Opd.ev, putA, binA, eqbA, unA, fldA, partA, reduceIte, reduceCtorEq, Nat.reduceMod, Nat.reduceDiv, Nat.reduceBEq, resultA, resA, vI, Nat.reduceMul, Nat.reduceAdd, Nat.reduceSub, Nat.reduceEqDiff, Nat.reduceLT, Nat.reducePow, Nat.reduceLeDiff, st, Option.bind_eq_bind, Option.pure_def, List.length_nil, Int.cast_ofNat_Int, List.reverse_nil] at ih
    simp only [F41L2b, SS, insA, wantedA, Opd.ev, putA, binA, eqbA, unA, fldA, partA, reduceIte, reduceCtorEq, Nat.reduceMod, Nat.reduceDiv, Nat.reduceBEq, resultA, resA, vI, Nat.reduceMul, Nat.reduceAdd, Nat.reduceSub, Nat.reduceEqDiff, Nat.reduceLT, Nat.reducePow, Nat.reduceLeDiff, st, Option.bind_eq_bind, Option.pure_def, List.length_nil, Int.cast_ofNat_Int, List.reverse_nil, UU, idxP, cellsAt, storeA, fillA, zerosA, putAll, optNat, sliceA, row, Int.reduceLT, Int.reduceLE, Int.reduceGT, Int.reduceGE, Int.reduceEq, Int.reduceNe, Int.reduceToNat, Int.reduceBEq, Int.reduceBNe, Nat.reduceLeDiff, Nat.reduceLT, Nat.reduceBNe, Nat.reduceGT, List.drop_nil, List.take_nil, Option.isSome_none, Int.ofNat_one, Int.ofNat_zero, hc, hw, hip, hlp, hu, hpop, hadd, ih]

theorem wsum_le {f : List Nat} : wsum f ≤ 10 * f.length := by
  unfold wsum
  induction f with
  | nil => simp
  | cons x l ih => rw [List.map_cons, List.sum_cons, List.length_cons]; have := pc_le7 x; omega

def treB (f : List Nat) : Bool := decide (mtN f f.length 1 = 2 ^ f.length - 1) && decide (wsum f = 2 * (f.length - 1))

theorem tree41 {v : AV} {l : List Int} (hv : IsRow v l) (hl : l.length ≤ 1000) {H : Heap} : freeX H (callL ET Y 41 [v] []) = some (.tup [.bool (frameB l && treB (l.map Int.toNat)), vI (if frameB l = true then 0 else 2)], H) := by
  have hr := read51 (Y := Y) (H := []) hv hl
  rw [call41 rfl]
  cases hf : frameB l with
  | false =>
    rw [hf, if_neg (by simp)] at hr
    simp only [F41B, SS, insA, wantedA, Opd.ev, putA, binA, eqbA, unA, fldA, partA, reduceIte, reduceCtorEq, Nat.reduceMod, Nat.reduceDiv, Nat.reduceBEq, resultA, resA, vI, Nat.reduceMul, Nat.reduceAdd, Nat.reduceSub, Nat.reduceEqDiff, Nat.reduceLT, Nat.reducePow, Nat.reduceLeDiff, st, Option.bind_eq_bind, Option.pure_def, List.length_nil, Int.cast_ofNat_Int, List.reverse_nil, UU, idxP, cellsAt, storeA, fillA, zerosA, putAll, optNat, sliceA, row, Int.reduceLT, Int.reduceLE, Int.reduceGT, Int.reduceGE, Int.reduceEq, Int.reduceNe, Int.reduceToNat, Int.reduceBEq, Int.reduceBNe, Nat.reduceLeDiff, Nat.reduceLT, Nat.reduceBNe, Nat.reduceGT, List.drop_nil, List.take_nil, Option.isSome_none, Int.ofNat_one, Int.ofNat_zero, hr, Bool.false_eq_true, Bool.false_and]
  | true =>
    rw [hf, if_pos rfl] at hr
    have hn := frame_n hf
    obtain ⟨hF, _⟩ := Fr.of hv hf
    have hlen : (l.map Int.toNat).length = l.length := by simp
    have h1 := L41_1 (Y := Y) (H := []) (v6 := vI 0) hF (l.map Int.toNat).length 0 1 (by omega) (by decide)
    have h2 := L41_2 (Y := Y) (H := []) (v7 := vI (mtN (l.map Int.toNat) (l.map Int.toNat).length 1)) hF (l.map Int.toNat).length 0 0 (by omega) (by omega)
    have ha := fun H => all69 (Y := Y) (H := H) hF
    rw [List.drop_zero, Nat.zero_add, show ((l.map Int.toNat).map pc).sum = wsum (l.map Int.toNat) from rfl] at h2
    have hle := wsum_le (f := l.map Int.toNat)
    have hws : IntKind.wrap .i64 ((l.length : Int) - 1) = ((l.length - 1 : Nat) : Int) := by rw [wrap_id (by omega) (by omega)]; omega
    have hwm : IntKind.wrap .i64 (2 * ((l.length - 1 : Nat) : Int)) = ((2 * (l.length - 1) : Nat) : Int) := by rw [wrap_id (by omega) (by omega)]; omega
    have e1 : (((mtN (l.map Int.toNat) l.length 1 : Nat) : Int) == ((2 ^ l.length - 1 : Nat) : Int)) = decide (mtN (l.map Int.toNat) l.length 1 = 2 ^ l.length - 1) := by
      generalize mtN (l.map Int.toNat) l.length 1 = x
      generalize 2 ^ l.length - 1 = y
      by_cases e : x = y
      · subst e; simp
      · rw [decide_eq_false e]; simp; omega
    have e2 : (((wsum (l.map Int.toNat) : Nat) : Int) == ((2 * (l.length - 1) : Nat) : Int)) = decide (wsum (l.map Int.toNat) = 2 * (l.length - 1)) := by
      generalize wsum (l.map Int.toNat) = x
      generalize 2 * (l.length - 1) = y
      by_cases e : x = y
      · subst e; simp
      · rw [decide_eq_false e]; simp; omega
    unfold treB
    rw [hlen] at *
    generalize wsum (l.map Int.toNat) = ws at *
    generalize mtN (l.map Int.toNat) l.length 1 = mm at *
    generalize 2 * (l.length - 1) = tw at *
    generalize 2 ^ l.length - 1 = al at *
    generalize decide (ws = tw) = d2 at *
    generalize decide (mm = al) = d1 at *
    simp only [SS, insA, wantedA, Opd.ev, putA, binA, eqbA, unA, fldA, partA, reduceIte, reduceCtorEq, Nat.reduceMod, Nat.reduceDiv, Nat.reduceBEq, resultA, resA, vI, Nat.reduceMul, Nat.reduceAdd, Nat.reduceSub, Nat.reduceEqDiff, Nat.reduceLT, Nat.reducePow, Nat.reduceLeDiff, st, Option.bind_eq_bind, Option.pure_def, List.length_nil, Int.cast_ofNat_Int, List.reverse_nil, Int.ofNat_zero, Int.ofNat_one] at h1 h2
    cases d1 <;> simp only [F41B, F41T2, F41T1, in41_1, in41_2, SS, insA, wantedA, Opd.ev, putA, binA, eqbA, unA, fldA, partA, reduceIte, reduceCtorEq, Nat.reduceMod, Nat.reduceDiv, Nat.reduceBEq, resultA, resA, vI, Nat.reduceMul, Nat.reduceAdd, Nat.reduceSub, Nat.reduceEqDiff, Nat.reduceLT, Nat.reducePow, Nat.reduceLeDiff, st, Option.bind_eq_bind, Option.pure_def, List.length_nil, Int.cast_ofNat_Int, List.reverse_nil, UU, idxP, cellsAt, storeA, fillA, zerosA, putAll, optNat, sliceA, row, Int.reduceLT, Int.reduceLE, Int.reduceGT, Int.reduceGE, Int.reduceEq, Int.reduceNe, Int.reduceToNat, Int.reduceBEq, Int.reduceBNe, Nat.reduceLeDiff, Nat.reduceLT, Nat.reduceBNe, Nat.reduceGT, List.drop_nil, List.take_nil, Option.isSome_none, Int.ofNat_one, Int.ofNat_zero, hr, hv.len, hv.snap, h1, h2, ha, hws, hwm, e1, e2, Bool.false_and]
end
end Go.X
