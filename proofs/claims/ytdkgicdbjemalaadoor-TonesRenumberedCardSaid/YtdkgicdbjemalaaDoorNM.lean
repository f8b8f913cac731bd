import Derived.Test.YtdkgicdbjemalaaDoorNA
/-! Tones: Without and Less. -/
set_option linter.unusedSimpArgs false
set_option linter.unusedVariables false
set_option maxHeartbeats 2000000
set_option maxRecDepth 10000
namespace Go.X
open Go Go.RowKit

/-- A row without the knots of a set: bits closed up. Pairs: where it is laid, and what. -/
def lsRow (x set : Nat) (ks : List Nat) (q : Nat × Nat) : Nat × Nat := ks.foldl (fun q k => if set.testBit k then q else (q.1 + 1, q.2 + (if x.testBit k then 1 else 0) * 2 ^ q.1)) q
/-- A frame without the knots of a set. -/
def lsF (f : List Nat) (set : Nat) : List Nat := ((List.range f.length).filter fun i => !set.testBit i).map fun i => (lsRow (f.getD i 0) set (List.range f.length) (0, 0)).2

theorem lsRow_lt (x set : Nat) : ∀ (ks : List Nat) (q : Nat × Nat), q.2 < 2 ^ q.1 → (lsRow x set ks q).2 < 2 ^ (lsRow x set ks q).1 ∧ (lsRow x set ks q).1 ≤ q.1 + ks.length
  | [], q, h => ⟨h, by simp [lsRow]⟩
  | k :: ks, q, h => by
    unfold lsRow
    rw [List.foldl_cons]
    split
    · have := lsRow_lt x set ks q h
      exact ⟨this.1, by have := this.2; unfold lsRow at this; simp; omega⟩
    · have hq : q.2 + (if x.testBit k then 1 else 0) * 2 ^ q.1 < 2 ^ (q.1 + 1) := by
        rw [Nat.pow_succ]
        split <;> omega
      have := lsRow_lt x set ks (q.1 + 1, q.2 + (if x.testBit k then 1 else 0) * 2 ^ q.1) hq
      exact ⟨this.1, by have := this.2; unfold lsRow at this; simp at this ⊢; omega⟩

section
variable {Y : Run}

theorem shl_bit {b k : Nat} (hb : b ≤ 1) (h : k ≤ 30) : IntKind.wrap .i64 ((b : Int) * 2 ^ min (Int.toNat (k : Int)) (IntKind.bits .i64)) = ((b * 2 ^ k : Nat) : Int) := by
  rw [min64 (by omega)]
  have h1 : (2 : Nat) ^ k ≤ 2 ^ 30 := Nat.pow_le_pow_right (by decide) h
  have h2 : ((2 : Int) ^ k) = ((2 ^ k : Nat) : Int) := by simp
  rw [h2, ← Int.natCast_mul]
  have h3 : b * 2 ^ k ≤ 1 * 2 ^ k := Nat.mul_le_mul_right _ hb
  have h4 : (2 : Nat) ^ 30 = 1073741824 := by decide
  generalize b * 2 ^ k = z at *
  exact wrap_id (by omega) (by omega)

theorem L39_0 {fr v5 : AV} {f : List Nat} {set i : Nat} {H : Heap} (hF : Fr fr f) (hi : i < f.length) (hs : set < 128) (d : Nat) : ∀ (k : Nat) (q : Nat × Nat), k + d = f.length → q.1 ≤ k → q.2 < 2 ^ q.1 →
    lp ET Y F39L0 (sp 50 [(9, vI k), (8, vI q.1), (7, vI q.2), (6, vI i), (5, v5), (1, vI set), (0, fr)]) H = some (.x 2, sp 50 [(7, vI (lsRow (f.getD i 0) set (List.range' k d) q).2), (6, vI i), (5, v5), (1, vI set), (0, fr)], H) := by
  have hn7 := hF.n7
  have hflen := hF.hv.len
  rw [List.length_map] at hflen
  induction d with
  | zero =>
    intro k q hk hq h2
    rw [un39_0]
    have : ¬ ((k : Int) < (f.length : Int)) := by omega
    simp only [F39L0b, SS, insA, wantedA, Opd.ev, putA, binA, eqbA, unA, fldA, partA, reduceIte, reduceCtorEq, Nat.reduceMod, Nat.reduceDiv, Nat.reduceBEq, resultA, resA, vI, Nat.reduceMul, Nat.reduceAdd, Nat.reduceSub, Nat.reduceEqDiff, Nat.reduceLT, Nat.reducePow, Nat.reduceLeDiff, st, Option.bind_eq_bind, Option.pure_def, List.length_nil, Int.cast_ofNat_Int, List.reverse_nil, UU, idxP, cellsAt, storeA, fillA, zerosA, putAll, optNat, sliceA, row, Int.reduceLT, Int.reduceLE, Int.reduceGT, Int.reduceGE, Int.reduceEq, Int.reduceNe, Int.reduceToNat, Int.reduceBEq, Int.reduceBNe, Nat.reduceLeDiff, Nat.reduceLT, Nat.reduceBNe, Nat.reduceGT, List.drop_nil, List.take_nil, Option.isSome_none, Int.ofNat_one, Int.ofNat_zero, hflen, this, List.range'_zero, lsRow, List.foldl_nil]
  | succ d ih =>
    intro k q hk hq h2
    have hc : (k : Int) < (f.length : Int) := by omega
    have hw := wrap_succ (n := k) (by omega)
    have hp2 : (0 : Int) ≤ (k : Int) := by omega
    have hs2 := shr_eq (k := k) (by omega)
    have h20 : (2 : Int) ≠ 0 := by decide
    have ht := tmod_emod (sh_nonneg (x := (set : Int)) (by omega) k)
    have q0 := sh_beq0 set k
    rw [un39_0, List.range'_succ]
    unfold lsRow
    rw [List.foldl_cons]
    unfold lsRow at ih
    cases hb : set.testBit k with
    | true =>
      rw [hb] at q0
      rw [if_pos rfl]
      have ih := ih (k + 1) q (by omega) (by omega) h2
      simp only [Bool.not_true] at q0
      simp only [SS, insA, wantedA, Opd.ev, putA, binA, eqbA, unA, fldA, partA, reduceIte, reduceCtorEq, Nat.reduceMod, Nat.reduceDiv, Nat.reduceBEq, resultA, resA, vI, Nat.reduceMul, Nat.reduceAdd, Nat.reduceSub, Nat.reduceEqDiff, Nat.reduceLT, Nat.reducePow, Nat.reduceLeDiff, st, Option.bind_eq_bind, Option.pure_def, List.length_nil, Int.cast_ofNat_Int, List.reverse_nil] at ih
      simp only [F39L0b, SS, insA, wantedA, Opd.ev, putA, binA, eqbA, unA, fldA, partA, reduceIte, reduceCtorEq, Nat.reduceMod, Nat.reduceDiv, Nat.reduceBEq, resultA, resA, vI, Nat.reduceMul, Nat.reduceAdd, Nat.reduceSub, Nat.reduceEqDiff, Nat.reduceLT, Nat.reducePow, Nat.reduceLeDiff, st, Option.bind_eq_bind, Option.pure_def, List.length_nil, Int.cast_ofNat_Int, List.reverse_nil, UU, idxP, cellsAt, storeA, fillA, zerosA, putAll, optNat, sliceA, row, Int.reduceLT, Int.reduceLE, Int.reduceGT, Int.reduceGE, Int.reduceEq, Int.reduceNe, Int.reduceToNat, Int.reduceBEq, Int.reduceBNe, Nat.reduceLeDiff, Nat.reduceLT, Nat.reduceBNe, Nat.reduceGT, List.drop_nil, List.take_nil, Option.isSome_none, Int.ofNat_one, Int.ofNat_zero, hflen, hc, hw, hp2, hs2, h20, ht, q0, ih, ne_eq, not_false_eq_true, and_self]
    | false =>
      rw [hb] at q0
      rw [if_neg (by simp)]
      have hip := hF.hv.idx (i := i) (by simpa using hi)
      have hlp := hF.hv.load (H := H) (i := i) (by simpa using hi)
      rw [getD_nat hi] at hlp
      have ht1 := tmod_emod (sh_nonneg (x := ((f.getD i 0 : Nat) : Int)) (by omega) k)
      have e1 : sh ((f.getD i 0 : Nat) : Int) k % 2 = ((if (f.getD i 0).testBit k then 1 else 0 : Nat) : Int) := by rw [sh_bit]; split <;> rfl
      have hb1 : (if (f.getD i 0).testBit k then 1 else 0 : Nat) ≤ 1 := by split <;> omega
      have hq' : q.2 + (if (f.getD i 0).testBit k then 1 else 0) * 2 ^ q.1 < 2 ^ (q.1 + 1) := by
        rw [Nat.pow_succ]
        have := Nat.mul_le_mul_right (2 ^ q.1) hb1
        omega
      have hsh := shl_bit (b := if (f.getD i 0).testBit k then 1 else 0) (k := q.1) hb1 (by omega)
      have hp3 : (0 : Int) ≤ (q.1 : Int) := by omega
      have hlim : 2 ^ (q.1 + 1) ≤ 2 ^ 8 := Nat.pow_le_pow_right (by decide) (by omega)
      have hadd : IntKind.wrap .i64 ((q.2 : Int) + (((if (f.getD i 0).testBit k then 1 else 0) * 2 ^ q.1 : Nat) : Int)) = ((q.2 + (if (f.getD i 0).testBit k then 1 else 0) * 2 ^ q.1 : Nat) : Int) := by
        generalize (if (f.getD i 0).testBit k then 1 else 0) * 2 ^ q.1 = z at *
        rw [wrap_id (by omega) (by omega)]; omega
      have hwq := wrap_succ (n := q.1) (by omega)
      have ih := ih (k + 1) (q.1 + 1, q.2 + (if (f.getD i 0).testBit k then 1 else 0) * 2 ^ q.1) (by omega) (by simp only; omega) hq'
      generalize (if (f.getD i 0).testBit k then 1 else 0 : Nat) = bb at *
      simp only [Bool.not_false] at q0
      simp only [SS, insA, wantedA, Opd.ev, putA, binA, eqbA, unA, fldA, partA, reduceIte, reduceCtorEq, Nat.reduceMod, Nat.reduceDiv, Nat.reduceBEq, resultA, resA, vI, Nat.reduceMul, Nat.reduceAdd, Nat.reduceSub, Nat.reduceEqDiff, Nat.reduceLT, Nat.reducePow, Nat.reduceLeDiff, st, Option.bind_eq_bind, Option.pure_def, List.length_nil, Int.cast_ofNat_Int, List.reverse_nil] at ih
      simp only [F39L0b, SS, insA, wantedA, Opd.ev, putA, binA, eqbA, unA, fldA, partA, reduceIte, reduceCtorEq, Nat.reduceMod, Nat.reduceDiv, Nat.reduceBEq, resultA, resA, vI, Nat.reduceMul, Nat.reduceAdd, Nat.reduceSub, Nat.reduceEqDiff, Nat.reduceLT, Nat.reducePow, Nat.reduceLeDiff, st, Option.bind_eq_bind, Option.pure_def, List.length_nil, Int.cast_ofNat_Int, List.reverse_nil, UU, idxP, cellsAt, storeA, fillA, zerosA, putAll, optNat, sliceA, row, Int.reduceLT, Int.reduceLE, Int.reduceGT, Int.reduceGE, Int.reduceEq, Int.reduceNe, Int.reduceToNat, Int.reduceBEq, Int.reduceBNe, Nat.reduceLeDiff, Nat.reduceLT, Nat.reduceBNe, Nat.reduceGT, List.drop_nil, List.take_nil, Option.isSome_none, Int.ofNat_one, Int.ofNat_zero, hflen, hc, hw, hp2, hp3, hs2, h20, ht, ht1, q0, hip, hlp, e1, hsh, hadd, hwq, ih, ne_eq, not_false_eq_true, and_self]

theorem L39_1 {fr : AV} {f : List Nat} {set : Nat} (hF : Fr fr f) (hs : set < 128) (d : Nat) : ∀ {H : Heap} {v5 : AV} {n : Nat} {out : List Nat} (i : Nat), i + d = f.length → n = out.length → n ≤ i → Gro 0 1 H v5 n ((out.map fun n : Nat => (n : Int)).map vI) →
    ∃ H' v5' n', lp ET Y F39L1 (sp 50 [(6, vI i), (5, v5), (1, vI set), (0, fr)]) H = some (.x 0, sp 50 [(5, v5')], H') ∧
      Gro 0 1 H' v5' n' (((out ++ ((List.range' i d).filter fun i => !set.testBit i).map fun i => (lsRow (f.getD i 0) set (List.range f.length) (0, 0)).2).map fun n : Nat => (n : Int)).map vI) := by
  have hn7 := hF.n7
  have hflen := hF.hv.len
  rw [List.length_map] at hflen
  induction d with
  | zero =>
    intro H v5 n out i hi hn hni h
    refine ⟨H, v5, n, ?_, by simpa using h⟩
    rw [un39_1]
    have : ¬ ((i : Int) < (f.length : Int)) := by omega
    simp only [F39L1b, SS, insA, wantedA, Opd.ev, putA, binA, eqbA, unA, fldA, partA, reduceIte, reduceCtorEq, Nat.reduceMod, Nat.reduceDiv, Nat.reduceBEq, resultA, resA, vI, Nat.reduceMul, Nat.reduceAdd, Nat.reduceSub, Nat.reduceEqDiff, Nat.reduceLT, Nat.reducePow, Nat.reduceLeDiff, st, Option.bind_eq_bind, Option.pure_def, List.length_nil, Int.cast_ofNat_Int, List.reverse_nil, UU, idxP, cellsAt, storeA, fillA, zerosA, putAll, optNat, sliceA, row, Int.reduceLT, Int.reduceLE, Int.reduceGT, Int.reduceGE, Int.reduceEq, Int.reduceNe, Int.reduceToNat, Int.reduceBEq, Int.reduceBNe, Nat.reduceLeDiff, Nat.reduceLT, Nat.reduceBNe, Nat.reduceGT, List.drop_nil, List.take_nil, Option.isSome_none, Int.ofNat_one, Int.ofNat_zero, hflen, this]
  | succ d ih =>
    intro H v5 n out i hi hn hni h
    have hi1 : i < f.length := by omega
    have hc : (i : Int) < (f.length : Int) := by omega
    have hw := wrap_succ (n := i) (by omega)
    have hp2 : (0 : Int) ≤ (i : Int) := by omega
    have hs2 := shr_eq (k := i) (by omega)
    have h20 : (2 : Int) ≠ 0 := by decide
    have ht := tmod_emod (sh_nonneg (x := (set : Int)) (by omega) i)
    have q0 := sh_beq set i
    rw [un39_1, List.range'_succ]
    cases hb : set.testBit i with
    | true =>
      rw [hb] at q0
      obtain ⟨H', v5', n', e1, r1⟩ := ih (i + 1) (by omega) hn (by omega) h
      refine ⟨H', v5', n', ?_, by rw [List.filter_cons_of_neg (by simp [hb])]; exact r1⟩
      simp only [SS, insA, wantedA, Opd.ev, putA, binA, eqbA, unA, fldA, partA, reduceIte, reduceCtorEq, Nat.reduceMod, Nat.reduceDiv, Nat.reduceBEq, resultA, resA, vI, Nat.reduceMul, Nat.reduceAdd, Nat.reduceSub, Nat.reduceEqDiff, Nat.reduceLT, Nat.reducePow, Nat.reduceLeDiff, st, Option.bind_eq_bind, Option.pure_def, List.length_nil, Int.cast_ofNat_Int, List.reverse_nil] at e1
      simp only [F39L1b, F39T1, SS, insA, wantedA, Opd.ev, putA, binA, eqbA, unA, fldA, partA, reduceIte, reduceCtorEq, Nat.reduceMod, Nat.reduceDiv, Nat.reduceBEq, resultA, resA, vI, Nat.reduceMul, Nat.reduceAdd, Nat.reduceSub, Nat.reduceEqDiff, Nat.reduceLT, Nat.reducePow, Nat.reduceLeDiff, st, Option.bind_eq_bind, Option.pure_def, List.length_nil, Int.cast_ofNat_Int, List.reverse_nil, UU, idxP, cellsAt, storeA, fillA, zerosA, putAll, optNat, sliceA, row, Int.reduceLT, Int.reduceLE, Int.reduceGT, Int.reduceGE, Int.reduceEq, Int.reduceNe, Int.reduceToNat, Int.reduceBEq, Int.reduceBNe, Nat.reduceLeDiff, Nat.reduceLT, Nat.reduceBNe, Nat.reduceGT, List.drop_nil, List.take_nil, Option.isSome_none, Int.ofNat_one, Int.ofNat_zero, hflen, hc, hw, hp2, hs2, h20, ht, q0, e1, ne_eq, not_false_eq_true, and_self]
    | false =>
      rw [hb] at q0
      have L0 := fun H => L39_0 (Y := Y) (H := H) (v5 := v5) hF hi1 hs f.length 0 (0, 0) (by omega) (Nat.le_refl _) (by decide)
      rw [← List.range_eq_range'] at L0
      generalize hy : (lsRow (f.getD i 0) set (List.range f.length) (0, 0)).2 = y at *
      obtain ⟨v5', H1, a1, a2, _, _⟩ := h.app (ys := [vI (y : Int)]) (bytes := 8) (Nat.zero_le _) rfl rfl (by omega) (by decide)
      obtain ⟨H', v5'', n', e1, r1⟩ := ih (i + 1) (n := n + 1) (out := out ++ [y]) (by omega) (by simp [hn]) (by omega) (by simpa using a2)
      refine ⟨H', v5'', n', ?_, by rw [List.filter_cons_of_pos (by simp [hb]), List.map_cons, hy]; simpa using r1⟩
      simp only [SS, insA, wantedA, Opd.ev, putA, binA, eqbA, unA, fldA, partA, reduceIte, reduceCtorEq, Nat.reduceMod, Nat.reduceDiv, Nat.reduceBEq, resultA, resA, vI, Nat.reduceMul, Nat.reduceAdd, Nat.reduceSub, Nat.reduceEqDiff, Nat.reduceLT, Nat.reducePow, Nat.reduceLeDiff, st, Option.bind_eq_bind, Option.pure_def, List.length_nil, Int.cast_ofNat_Int, List.reverse_nil, Int.ofNat_zero] at e1 a1 L0
      simp only [F39L1b, F39T0, F39T1, in39_0, SS, insA, wantedA, Opd.ev, putA, binA, eqbA, unA, fldA, partA, reduceIte, reduceCtorEq, Nat.reduceMod, Nat.reduceDiv, Nat.reduceBEq, resultA, resA, vI, Nat.reduceMul, Nat.reduceAdd, Nat.reduceSub, Nat.reduceEqDiff, Nat.reduceLT, Nat.reducePow, Nat.reduceLeDiff, st, Option.bind_eq_bind, Option.pure_def, List.length_nil, Int.cast_ofNat_Int, List.reverse_nil, UU, idxP, cellsAt, storeA, fillA, zerosA, putAll, optNat, sliceA, row, Int.reduceLT, Int.reduceLE, Int.reduceGT, Int.reduceGE, Int.reduceEq, Int.reduceNe, Int.reduceToNat, Int.reduceBEq, Int.reduceBNe, Nat.reduceLeDiff, Nat.reduceLT, Nat.reduceBNe, Nat.reduceGT, List.drop_nil, List.take_nil, Option.isSome_none, Int.ofNat_one, Int.ofNat_zero, hflen, hc, hw, hp2, hs2, h20, ht, q0, L0, a1, e1, ne_eq, not_false_eq_true, and_self]

theorem gro_free {H : Heap} {v : AV} {n m : Nat} {l : List Int} (h : Gro 0 1 H v n (l.map vI)) : ∃ w, freeA H (m + 2) v = some w ∧ IsFree w l := by
  obtain ⟨h1, ⟨rfl, rfl⟩ | ⟨id, ver, _, rfl, h2⟩⟩ := h
  · have : l = [] := List.eq_nil_of_length_eq_zero (by simpa using h1)
    subst this
    exact ⟨.nils, rfl, .inl ⟨rfl, rfl⟩⟩
  · have hn : n = l.length := by simpa using h1.symm
    subst hn
    refine ⟨.imm false (l.map vI) l.length, ?_, .inr rfl⟩
    have hfree := mapM_free (H := H) (n := m) l
    rw [free_sl, h2, freeS_some, if_pos ⟨rfl, by simp⟩, List.drop_zero, Nat.mul_one, List.take_of_length_le (by simp), hfree, freeB_some]

theorem less39 {fr : AV} {f : List Nat} {set : Nat} (hF : Fr fr f) (hs : set < 128) : ∃ w, (∀ H, freeX H (callL ET Y 39 [fr, vI set] []) = some (w, H)) ∧ IsFree w ((lsF f set).map fun n : Nat => (n : Int)) := by
  obtain ⟨H', v5, n', e1, r1⟩ := L39_1 (Y := Y) hF hs f.length (H := []) (v5 := .nils) (n := 0) (out := []) 0 (by omega) rfl (Nat.le_refl _) (Gro.nil 0 1 [])
  rw [← List.range_eq_range', List.nil_append] at r1
  obtain ⟨w, w1, w2⟩ := gro_free (m := 4) r1
  refine ⟨w, fun H => ?_, w2⟩
  rw [call39 rfl]
  simp only [SS, insA, wantedA, Opd.ev, putA, binA, eqbA, unA, fldA, partA, reduceIte, reduceCtorEq, Nat.reduceMod, Nat.reduceDiv, Nat.reduceBEq, resultA, resA, vI, Nat.reduceMul, Nat.reduceAdd, Nat.reduceSub, Nat.reduceEqDiff, Nat.reduceLT, Nat.reducePow, Nat.reduceLeDiff, st, Option.bind_eq_bind, Option.pure_def, List.length_nil, Int.cast_ofNat_Int, List.reverse_nil, Int.ofNat_zero] at e1
  simp only [F39B, F39T2, in39_1, SS, insA, wantedA, Opd.ev, putA, binA, eqbA, unA, fldA, partA, reduceIte, reduceCtorEq, Nat.reduceMod, Nat.reduceDiv, Nat.reduceBEq, resultA, resA, vI, Nat.reduceMul, Nat.reduceAdd, Nat.reduceSub, Nat.reduceEqDiff, Nat.reduceLT, Nat.reducePow, Nat.reduceLeDiff, st, Option.bind_eq_bind, Option.pure_def, List.length_nil, Int.cast_ofNat_Int, List.reverse_nil, UU, idxP, cellsAt, storeA, fillA, zerosA, putAll, optNat, sliceA, row, Int.reduceLT, Int.reduceLE, Int.reduceGT, Int.reduceGE, Int.reduceEq, Int.reduceNe, Int.reduceToNat, Int.reduceBEq, Int.reduceBNe, Nat.reduceLeDiff, Nat.reduceLT, Nat.reduceBNe, Nat.reduceGT, List.drop_nil, List.take_nil, Option.isSome_none, Int.ofNat_one, Int.ofNat_zero, e1, w1]

def witR (l : List Int) (a : Int) : List Int × Int :=
  if frameB l = true ∧ 0 ≤ a ∧ a < l.length then if l.length = 1 then ([], 9) else ((lsF (l.map Int.toNat) (2 ^ a.toNat)).map (fun n : Nat => (n : Int)), 0) else ([], 2)

theorem without46 {v : AV} {l : List Int} (hv : IsRow v l) (hl : l.length ≤ 1000) (a : Int) : ∃ w, (∀ H, freeX H (callL ET Y 46 [v, .int .i64 a] []) = some (.tup [w, vI (witR l a).2], H)) ∧ IsFree w (witR l a).1 := by
  have hr := fun H => frame20 (Y := Y) (H := H) hv hl
  unfold witR
  cases hf : frameB l with
  | false =>
    rw [hf] at hr
    rw [if_neg (by simp)]
    refine ⟨.nils, fun H => ?_, .inl ⟨rfl, rfl⟩⟩
    rw [call46 rfl]
    simp only [F46B, SS, insA, wantedA, Opd.ev, putA, binA, eqbA, unA, fldA, partA, reduceIte, reduceCtorEq, Nat.reduceMod, Nat.reduceDiv, Nat.reduceBEq, resultA, resA, vI, Nat.reduceMul, Nat.reduceAdd, Nat.reduceSub, Nat.reduceEqDiff, Nat.reduceLT, Nat.reducePow, Nat.reduceLeDiff, st, Option.bind_eq_bind, Option.pure_def, List.length_nil, Int.cast_ofNat_Int, List.reverse_nil, UU, idxP, cellsAt, storeA, fillA, zerosA, putAll, optNat, sliceA, row, Int.reduceLT, Int.reduceLE, Int.reduceGT, Int.reduceGE, Int.reduceEq, Int.reduceNe, Int.reduceToNat, Int.reduceBEq, Int.reduceBNe, Nat.reduceLeDiff, Nat.reduceLT, Nat.reduceBNe, Nat.reduceGT, List.drop_nil, List.take_nil, Option.isSome_none, Int.ofNat_one, Int.ofNat_zero, hv.snap, hr]
  | true =>
    rw [hf] at hr
    have hn := frame_n hf
    by_cases c1 : a < 0
    · rw [if_neg (by omega)]
      refine ⟨.nils, fun H => ?_, .inl ⟨rfl, rfl⟩⟩
      rw [call46 rfl]
      simp only [F46B, SS, insA, wantedA, Opd.ev, putA, binA, eqbA, unA, fldA, partA, reduceIte, reduceCtorEq, Nat.reduceMod, Nat.reduceDiv, Nat.reduceBEq, resultA, resA, vI, Nat.reduceMul, Nat.reduceAdd, Nat.reduceSub, Nat.reduceEqDiff, Nat.reduceLT, Nat.reducePow, Nat.reduceLeDiff, st, Option.bind_eq_bind, Option.pure_def, List.length_nil, Int.cast_ofNat_Int, List.reverse_nil, UU, idxP, cellsAt, storeA, fillA, zerosA, putAll, optNat, sliceA, row, Int.reduceLT, Int.reduceLE, Int.reduceGT, Int.reduceGE, Int.reduceEq, Int.reduceNe, Int.reduceToNat, Int.reduceBEq, Int.reduceBNe, Nat.reduceLeDiff, Nat.reduceLT, Nat.reduceBNe, Nat.reduceGT, List.drop_nil, List.take_nil, Option.isSome_none, Int.ofNat_one, Int.ofNat_zero, hv.snap, hr, c1]
    · by_cases c2 : a ≥ (l.length : Int)
      · rw [if_neg (by omega)]
        refine ⟨.nils, fun H => ?_, .inl ⟨rfl, rfl⟩⟩
        rw [call46 rfl]
        simp only [F46B, SS, insA, wantedA, Opd.ev, putA, binA, eqbA, unA, fldA, partA, reduceIte, reduceCtorEq, Nat.reduceMod, Nat.reduceDiv, Nat.reduceBEq, resultA, resA, vI, Nat.reduceMul, Nat.reduceAdd, Nat.reduceSub, Nat.reduceEqDiff, Nat.reduceLT, Nat.reducePow, Nat.reduceLeDiff, st, Option.bind_eq_bind, Option.pure_def, List.length_nil, Int.cast_ofNat_Int, List.reverse_nil, UU, idxP, cellsAt, storeA, fillA, zerosA, putAll, optNat, sliceA, row, Int.reduceLT, Int.reduceLE, Int.reduceGT, Int.reduceGE, Int.reduceEq, Int.reduceNe, Int.reduceToNat, Int.reduceBEq, Int.reduceBNe, Nat.reduceLeDiff, Nat.reduceLT, Nat.reduceBNe, Nat.reduceGT, List.drop_nil, List.take_nil, Option.isSome_none, Int.ofNat_one, Int.ofNat_zero, hv.snap, hr, hv.len, c1, c2]
      · rw [if_pos ⟨rfl, by omega, by omega⟩]
        by_cases c3 : l.length = 1
        · rw [if_pos c3]
          have d3 : ((l.length : Int) == 1) = true := by rw [c3]; rfl
          refine ⟨.nils, fun H => ?_, .inl ⟨rfl, rfl⟩⟩
          rw [call46 rfl]
          simp only [F46B, SS, insA, wantedA, Opd.ev, putA, binA, eqbA, unA, fldA, partA, reduceIte, reduceCtorEq, Nat.reduceMod, Nat.reduceDiv, Nat.reduceBEq, resultA, resA, vI, Nat.reduceMul, Nat.reduceAdd, Nat.reduceSub, Nat.reduceEqDiff, Nat.reduceLT, Nat.reducePow, Nat.reduceLeDiff, st, Option.bind_eq_bind, Option.pure_def, List.length_nil, Int.cast_ofNat_Int, List.reverse_nil, UU, idxP, cellsAt, storeA, fillA, zerosA, putAll, optNat, sliceA, row, Int.reduceLT, Int.reduceLE, Int.reduceGT, Int.reduceGE, Int.reduceEq, Int.reduceNe, Int.reduceToNat, Int.reduceBEq, Int.reduceBNe, Nat.reduceLeDiff, Nat.reduceLT, Nat.reduceBNe, Nat.reduceGT, List.drop_nil, List.take_nil, Option.isSome_none, Int.ofNat_one, Int.ofNat_zero, hv.snap, hr, hv.len, c1, c2, d3]
        · rw [if_neg c3]
          have d3 : ((l.length : Int) == 1) = false := by simp; omega
          obtain ⟨hF, he⟩ := Fr.of hv hf
          obtain ⟨A, rfl⟩ : ∃ A : Nat, a = (A : Int) := ⟨a.toNat, by omega⟩
          have hlt := pow_lt (show A < 7 by omega)
          obtain ⟨w, w1, w2⟩ := less39 (Y := Y) (set := 2 ^ A) hF hlt
          have hs3 := shl_eq (k := A) (by omega)
          have hp1 : (0 : Int) ≤ (A : Int) := by omega
          refine ⟨w, fun H => ?_, w2⟩
          rw [call46 rfl]
          simp only [F46B, SS, insA, wantedA, Opd.ev, putA, binA, eqbA, unA, fldA, partA, reduceIte, reduceCtorEq, Nat.reduceMod, Nat.reduceDiv, Nat.reduceBEq, resultA, resA, vI, Nat.reduceMul, Nat.reduceAdd, Nat.reduceSub, Nat.reduceEqDiff, Nat.reduceLT, Nat.reducePow, Nat.reduceLeDiff, st, Option.bind_eq_bind, Option.pure_def, List.length_nil, Int.cast_ofNat_Int, List.reverse_nil, UU, idxP, cellsAt, storeA, fillA, zerosA, putAll, optNat, sliceA, row, Int.reduceLT, Int.reduceLE, Int.reduceGT, Int.reduceGE, Int.reduceEq, Int.reduceNe, Int.reduceToNat, Int.reduceBEq, Int.reduceBNe, Nat.reduceLeDiff, Nat.reduceLT, Nat.reduceBNe, Nat.reduceGT, List.drop_nil, List.take_nil, Option.isSome_none, Int.ofNat_one, Int.ofNat_zero, hv.snap, hr, hv.len, c1, c2, d3, hp1, hs3, w1, w2.free]
end

theorem wit_all : ((List.range 8).all fun n => (List.range n).all fun k => (List.range (2 ^ n)).all fun x => ((x &&& (2 ^ k - 1)) ||| ((x >>> (k + 1)) * 2 ^ k)) == (lsRow x (2 ^ k) (List.range n) (0, 0)).2) = true := by decide +kernel
theorem wit_row {n k x : Nat} (hn : n ≤ 7) (hk : k < n) (hx : x < 2 ^ n) : (x &&& (2 ^ k - 1)) ||| ((x >>> (k + 1)) * 2 ^ k) = (lsRow x (2 ^ k) (List.range n) (0, 0)).2 := by
  have := List.all_eq_true.1 (List.all_eq_true.1 (List.all_eq_true.1 wit_all n (List.mem_range.2 (by omega))) k (List.mem_range.2 hk)) x (List.mem_range.2 hx)
  simpa using this
theorem sh_nat (a k : Nat) : sh (a : Int) k = ((a >>> k : Nat) : Int) := by
  unfold sh
  rw [Int.fdiv_eq_ediv_of_nonneg _ (Int.le_of_lt (Int.pow_pos (by decide))), Nat.shiftRight_eq_div_pow]
  simp
theorem shl_nat {b k : Nat} (hb : b < 128) (h : k ≤ 30) : IntKind.wrap .i64 ((b : Int) * 2 ^ min (Int.toNat (k : Int)) (IntKind.bits .i64)) = ((b * 2 ^ k : Nat) : Int) := by
  rw [min64 (by omega)]
  have h1 : (2 : Nat) ^ k ≤ 2 ^ 30 := Nat.pow_le_pow_right (by decide) h
  have h2 : ((2 : Int) ^ k) = ((2 ^ k : Nat) : Int) := by simp
  rw [h2, ← Int.natCast_mul]
  have h3 : b * 2 ^ k ≤ 128 * 2 ^ 30 := Nat.mul_le_mul (by omega) h1
  have h4 : (2 : Nat) ^ 30 = 1073741824 := by decide
  generalize b * 2 ^ k = z at *
  exact wrap_id (by omega) (by omega)

section
variable {Y : Run}

theorem L38 {fr : AV} {f : List Nat} {k : Nat} (hF : Fr fr f) (hk : k < f.length) (d : Nat) : ∀ {H : Heap} {v8 : AV} {n : Nat} {out : List Nat} (i : Nat), i + d = f.length → n = out.length → n ≤ i → Gro 0 1 H v8 n ((out.map fun n : Nat => (n : Int)).map vI) →
    ∃ H' v8' n', lp ET Y F38L0 (sp 62 [(36, vI i), (35, vI f.length), (34, fr), (8, v8), (1, vI k)]) H = some (.x 1, sp 62 [(8, v8')], H') ∧
      Gro 0 1 H' v8' n' (((out ++ ((List.range' i d).filter fun i => !(2 ^ k).testBit i).map fun i => (lsRow (f.getD i 0) (2 ^ k) (List.range f.length) (0, 0)).2).map fun n : Nat => (n : Int)).map vI) := by
  have hn7 := hF.n7
  have h128 := hF.p7
  induction d with
  | zero =>
    intro H v8 n out i hi hn hni h
    refine ⟨H, v8, n, ?_, by simpa using h⟩
    rw [un38_0]
    have : ¬ ((i : Int) < (f.length : Int)) := by omega
    simp only [F38L0b, SS, insA, wantedA, Opd.ev, putA, binA, eqbA, unA, fldA, partA, reduceIte, reduceCtorEq, Nat.reduceMod, Nat.reduceDiv, Nat.reduceBEq, resultA, resA, vI, Nat.reduceMul, Nat.reduceAdd, Nat.reduceSub, Nat.reduceEqDiff, Nat.reduceLT, Nat.reducePow, Nat.reduceLeDiff, st, Option.bind_eq_bind, Option.pure_def, List.length_nil, Int.cast_ofNat_Int, List.reverse_nil, UU, idxP, cellsAt, storeA, fillA, zerosA, putAll, optNat, sliceA, row, Int.reduceLT, Int.reduceLE, Int.reduceGT, Int.reduceGE, Int.reduceEq, Int.reduceNe, Int.reduceToNat, Int.reduceBEq, Int.reduceBNe, Nat.reduceLeDiff, Nat.reduceLT, Nat.reduceBNe, Nat.reduceGT, List.drop_nil, List.take_nil, Option.isSome_none, Int.ofNat_one, Int.ofNat_zero, this]
  | succ d ih =>
    intro H v8 n out i hi hn hni h
    have hi1 : i < f.length := by omega
    have hc : (i : Int) < (f.length : Int) := by omega
    have hw := wrap_succ (n := i) (by omega)
    have hip := hF.hv.idx (i := i) (by simpa using hi1)
    have hlp := fun H => hF.hv.load (H := H) (i := i) (by simpa using hi1)
    rw [getD_nat hi1] at hlp
    rw [un38_0, List.range'_succ]
    by_cases e : i = k
    · have hb : (2 ^ k).testBit i = true := by rw [e]; exact Nat.testBit_two_pow_self
      have c1 : ((i : Int) != (k : Int)) = false := by rw [e]; simp
      obtain ⟨H', v8', n', e1, r1⟩ := ih (i + 1) (by omega) hn (by omega) h
      refine ⟨H', v8', n', ?_, by rw [List.filter_cons_of_neg (by simp [hb])]; exact r1⟩
      simp only [SS, insA, wantedA, Opd.ev, putA, binA, eqbA, unA, fldA, partA, reduceIte, reduceCtorEq, Nat.reduceMod, Nat.reduceDiv, Nat.reduceBEq, resultA, resA, vI, Nat.reduceMul, Nat.reduceAdd, Nat.reduceSub, Nat.reduceEqDiff, Nat.reduceLT, Nat.reducePow, Nat.reduceLeDiff, st, Option.bind_eq_bind, Option.pure_def, List.length_nil, Int.cast_ofNat_Int, List.reverse_nil] at e1
      simp only [F38L0b, SS, insA, wantedA, Opd.ev, putA, binA, eqbA, unA, fldA, partA, reduceIte, reduceCtorEq, Nat.reduceMod, Nat.reduceDiv, Nat.reduceBEq, resultA, resA, vI, Nat.reduceMul, Nat.reduceAdd, Nat.reduceSub, Nat.reduceEqDiff, Nat.reduceLT, Nat.reducePow, Nat.reduceLeDiff, st, Option.bind_eq_bind, Option.pure_def, List.length_nil, Int.cast_ofNat_Int, List.reverse_nil, UU, idxP, cellsAt, storeA, fillA, zerosA, putAll, optNat, sliceA, row, Int.reduceLT, Int.reduceLE, Int.reduceGT, Int.reduceGE, Int.reduceEq, Int.reduceNe, Int.reduceToNat, Int.reduceBEq, Int.reduceBNe, Nat.reduceLeDiff, Nat.reduceLT, Nat.reduceBNe, Nat.reduceGT, List.drop_nil, List.take_nil, Option.isSome_none, Int.ofNat_one, Int.ofNat_zero, hc, hw, hip, hlp, c1, e1]
    · have hb : (2 ^ k).testBit i = false := by rw [Nat.testBit_two_pow]; simpa using fun h => e h.symm
      have c1 : ((i : Int) != (k : Int)) = true := by simp; omega
      have hx := hF.fb i
      have hrow := wit_row hn7 hk hx
      have hp1 : (0 : Int) ≤ (k : Int) := by omega
      have hp3 : (0 : Int) ≤ ((k + 1 : Nat) : Int) := by omega
      have hk7 := pow_lt (show k < 7 by omega)
      have hk1 : 1 ≤ 2 ^ k := Nat.pow_pos (by decide)
      have hs3 := shl_eq (k := k) (by omega)
      have hwk := wrap_succ (n := k) (by omega)
      have hsub : IntKind.wrap .i64 (((2 ^ k : Nat) : Int) - 1) = ((2 ^ k - 1 : Nat) : Int) := by
        generalize 2 ^ k = z at *
        rw [wrap_id (by omega) (by omega)]; omega
      have hs4 := shr_eq (k := k + 1) (by omega)
      have hsn := sh_nat (f.getD i 0) (k + 1)
      have hle : f.getD i 0 >>> (k + 1) ≤ f.getD i 0 := by rw [Nat.shiftRight_eq_div_pow]; exact Nat.div_le_self _ _
      have hs5 := shl_nat (b := f.getD i 0 >>> (k + 1)) (k := k) (by omega) (by omega)
      have b1 := (nat_bits (a := f.getD i 0) (b := 2 ^ k - 1) (by omega) (by omega)).1
      have hz : (f.getD i 0 >>> (k + 1)) * 2 ^ k ≤ 128 * 128 := Nat.mul_le_mul (by omega) (by omega)
      have hlo : f.getD i 0 &&& (2 ^ k - 1) ≤ f.getD i 0 := Nat.and_le_left
      have b2 := (nat_bits (a := f.getD i 0 &&& (2 ^ k - 1)) (b := (f.getD i 0 >>> (k + 1)) * 2 ^ k) (by omega) (by omega)).2.1
      rw [hrow] at b2
      generalize hy : (lsRow (f.getD i 0) (2 ^ k) (List.range f.length) (0, 0)).2 = y at *
      obtain ⟨v8', H1, a1, a2, _, _⟩ := h.app (ys := [vI (y : Int)]) (bytes := 8) (Nat.zero_le _) rfl rfl (by omega) (by decide)
      obtain ⟨H', v8'', n', e1, r1⟩ := ih (i + 1) (n := n + 1) (out := out ++ [y]) (by omega) (by simp [hn]) (by omega) (by simpa using a2)
      refine ⟨H', v8'', n', ?_, by rw [List.filter_cons_of_pos (by simp [hb]), List.map_cons, hy]; simpa using r1⟩
      simp only [SS, insA, wantedA, Opd.ev, putA, binA, eqbA, unA, fldA, partA, reduceIte, reduceCtorEq, Nat.reduceMod, Nat.reduceDiv, Nat.reduceBEq, resultA, resA, vI, Nat.reduceMul, Nat.reduceAdd, Nat.reduceSub, Nat.reduceEqDiff, Nat.reduceLT, Nat.reducePow, Nat.reduceLeDiff, st, Option.bind_eq_bind, Option.pure_def, List.length_nil, Int.cast_ofNat_Int, List.reverse_nil] at e1 a1
      simp only [F38L0b, SS, insA, wantedA, Opd.ev, putA, binA, eqbA, unA, fldA, partA, reduceIte, reduceCtorEq, Nat.reduceMod, Nat.reduceDiv, Nat.reduceBEq, resultA, resA, vI, Nat.reduceMul, Nat.reduceAdd, Nat.reduceSub, Nat.reduceEqDiff, Nat.reduceLT, Nat.reducePow, Nat.reduceLeDiff, st, Option.bind_eq_bind, Option.pure_def, List.length_nil, Int.cast_ofNat_Int, List.reverse_nil, UU, idxP, cellsAt, storeA, fillA, zerosA, putAll, optNat, sliceA, row, Int.reduceLT, Int.reduceLE, Int.reduceGT, Int.reduceGE, Int.reduceEq, Int.reduceNe, Int.reduceToNat, Int.reduceBEq, Int.reduceBNe, Nat.reduceLeDiff, Nat.reduceLT, Nat.reduceBNe, Nat.reduceGT, List.drop_nil, List.take_nil, Option.isSome_none, Int.ofNat_one, Int.ofNat_zero, hc, hw, hip, hlp, c1, hp1, hp3, hs3, hwk, hsub, hs4, hsn, hs5, b1, b2, a1, e1]

theorem without38 {v : AV} {l : List Int} (hv : IsRow v l) (hl : l.length ≤ 1000) (a : Int) : ∃ w, (∀ H, freeX H (callL ET Y 38 [v, .int .i64 a] []) = some (.tup [w, vI (witR l a).2], H)) ∧ IsFree w (witR l a).1 := by
  have hr := read51 (Y := Y) (H := []) hv hl
  unfold witR
  cases hf : frameB l with
  | false =>
    rw [hf, if_neg (by simp)] at hr
    rw [if_neg (by simp)]
    refine ⟨.nils, fun H => ?_, .inl ⟨rfl, rfl⟩⟩
    rw [call38 rfl]
    simp only [F38B, SS, insA, wantedA, Opd.ev, putA, binA, eqbA, unA, fldA, partA, reduceIte, reduceCtorEq, Nat.reduceMod, Nat.reduceDiv, Nat.reduceBEq, resultA, resA, vI, Nat.reduceMul, Nat.reduceAdd, Nat.reduceSub, Nat.reduceEqDiff, Nat.reduceLT, Nat.reducePow, Nat.reduceLeDiff, st, Option.bind_eq_bind, Option.pure_def, List.length_nil, Int.cast_ofNat_Int, List.reverse_nil, UU, idxP, cellsAt, storeA, fillA, zerosA, putAll, optNat, sliceA, row, Int.reduceLT, Int.reduceLE, Int.reduceGT, Int.reduceGE, Int.reduceEq, Int.reduceNe, Int.reduceToNat, Int.reduceBEq, Int.reduceBNe, Nat.reduceLeDiff, Nat.reduceLT, Nat.reduceBNe, Nat.reduceGT, List.drop_nil, List.take_nil, Option.isSome_none, Int.ofNat_one, Int.ofNat_zero, hr, Bool.false_eq_true]
  | true =>
    rw [hf, if_pos rfl] at hr
    have hn := frame_n hf
    by_cases c1 : a < 0
    · rw [if_neg (by omega)]
      refine ⟨.nils, fun H => ?_, .inl ⟨rfl, rfl⟩⟩
      rw [call38 rfl]
      simp only [F38B, SS, insA, wantedA, Opd.ev, putA, binA, eqbA, unA, fldA, partA, reduceIte, reduceCtorEq, Nat.reduceMod, Nat.reduceDiv, Nat.reduceBEq, resultA, resA, vI, Nat.reduceMul, Nat.reduceAdd, Nat.reduceSub, Nat.reduceEqDiff, Nat.reduceLT, Nat.reducePow, Nat.reduceLeDiff, st, Option.bind_eq_bind, Option.pure_def, List.length_nil, Int.cast_ofNat_Int, List.reverse_nil, UU, idxP, cellsAt, storeA, fillA, zerosA, putAll, optNat, sliceA, row, Int.reduceLT, Int.reduceLE, Int.reduceGT, Int.reduceGE, Int.reduceEq, Int.reduceNe, Int.reduceToNat, Int.reduceBEq, Int.reduceBNe, Nat.reduceLeDiff, Nat.reduceLT, Nat.reduceBNe, Nat.reduceGT, List.drop_nil, List.take_nil, Option.isSome_none, Int.ofNat_one, Int.ofNat_zero, hr, c1]
    · by_cases c2 : a ≥ (l.length : Int)
      · rw [if_neg (by omega)]
        refine ⟨.nils, fun H => ?_, .inl ⟨rfl, rfl⟩⟩
        rw [call38 rfl]
        simp only [F38B, SS, insA, wantedA, Opd.ev, putA, binA, eqbA, unA, fldA, partA, reduceIte, reduceCtorEq, Nat.reduceMod, Nat.reduceDiv, Nat.reduceBEq, resultA, resA, vI, Nat.reduceMul, Nat.reduceAdd, Nat.reduceSub, Nat.reduceEqDiff, Nat.reduceLT, Nat.reducePow, Nat.reduceLeDiff, st, Option.bind_eq_bind, Option.pure_def, List.length_nil, Int.cast_ofNat_Int, List.reverse_nil, UU, idxP, cellsAt, storeA, fillA, zerosA, putAll, optNat, sliceA, row, Int.reduceLT, Int.reduceLE, Int.reduceGT, Int.reduceGE, Int.reduceEq, Int.reduceNe, Int.reduceToNat, Int.reduceBEq, Int.reduceBNe, Nat.reduceLeDiff, Nat.reduceLT, Nat.reduceBNe, Nat.reduceGT, List.drop_nil, List.take_nil, Option.isSome_none, Int.ofNat_one, Int.ofNat_zero, hr, hv.len, c1, c2]
      · rw [if_pos ⟨rfl, by omega, by omega⟩]
        by_cases c3 : l.length = 1
        · rw [if_pos c3]
          have d3 : ((l.length : Int) == 1) = true := by rw [c3]; rfl
          refine ⟨.nils, fun H => ?_, .inl ⟨rfl, rfl⟩⟩
          rw [call38 rfl]
          simp only [F38B, SS, insA, wantedA, Opd.ev, putA, binA, eqbA, unA, fldA, partA, reduceIte, reduceCtorEq, Nat.reduceMod, Nat.reduceDiv, Nat.reduceBEq, resultA, resA, vI, Nat.reduceMul, Nat.reduceAdd, Nat.reduceSub, Nat.reduceEqDiff, Nat.reduceLT, Nat.reducePow, Nat.reduceLeDiff, st, Option.bind_eq_bind, Option.pure_def, List.length_nil, Int.cast_ofNat_Int, List.reverse_nil, UU, idxP, cellsAt, storeA, fillA, zerosA, putAll, optNat, sliceA, row, Int.reduceLT, Int.reduceLE, Int.reduceGT, Int.reduceGE, Int.reduceEq, Int.reduceNe, Int.reduceToNat, Int.reduceBEq, Int.reduceBNe, Nat.reduceLeDiff, Nat.reduceLT, Nat.reduceBNe, Nat.reduceGT, List.drop_nil, List.take_nil, Option.isSome_none, Int.ofNat_one, Int.ofNat_zero, hr, hv.len, c1, c2, d3]
        · rw [if_neg c3]
          have d3 : ((l.length : Int) == 1) = false := by simp; omega
          obtain ⟨hF, he⟩ := Fr.of hv hf
          obtain ⟨A, rfl⟩ : ∃ A : Nat, a = (A : Int) := ⟨a.toNat, by omega⟩
          have hlen : (l.map Int.toNat).length = l.length := by simp
          obtain ⟨H', v8, n', e1, r1⟩ := L38 (Y := Y) (k := A) hF (by omega) (l.map Int.toNat).length (H := []) (v8 := .nils) (n := 0) (out := []) 0 (by omega) rfl (Nat.le_refl _) (Gro.nil 0 1 [])
          rw [← List.range_eq_range', List.nil_append] at r1
          obtain ⟨w, w1, w2⟩ := gro_free (m := 3) r1
          rw [hlen] at e1
          refine ⟨w, fun H => ?_, w2⟩
          rw [call38 rfl]
          simp only [SS, insA, wantedA, Opd.ev, putA, binA, eqbA, unA, fldA, partA, reduceIte, reduceCtorEq, Nat.reduceMod, Nat.reduceDiv, Nat.reduceBEq, resultA, resA, vI, Nat.reduceMul, Nat.reduceAdd, Nat.reduceSub, Nat.reduceEqDiff, Nat.reduceLT, Nat.reducePow, Nat.reduceLeDiff, st, Option.bind_eq_bind, Option.pure_def, List.length_nil, Int.cast_ofNat_Int, List.reverse_nil, Int.ofNat_zero] at e1
          simp only [F38B, F38T0, in38_0, SS, insA, wantedA, Opd.ev, putA, binA, eqbA, unA, fldA, partA, reduceIte, reduceCtorEq, Nat.reduceMod, Nat.reduceDiv, Nat.reduceBEq, resultA, resA, vI, Nat.reduceMul, Nat.reduceAdd, Nat.reduceSub, Nat.reduceEqDiff, Nat.reduceLT, Nat.reducePow, Nat.reduceLeDiff, st, Option.bind_eq_bind, Option.pure_def, List.length_nil, Int.cast_ofNat_Int, List.reverse_nil, UU, idxP, cellsAt, storeA, fillA, zerosA, putAll, optNat, sliceA, row, Int.reduceLT, Int.reduceLE, Int.reduceGT, Int.reduceGE, Int.reduceEq, Int.reduceNe, Int.reduceToNat, Int.reduceBEq, Int.reduceBNe, Nat.reduceLeDiff, Nat.reduceLT, Nat.reduceBNe, Nat.reduceGT, List.drop_nil, List.take_nil, Option.isSome_none, Int.ofNat_one, Int.ofNat_zero, hr, hv.len, c1, c2, d3, e1, w1]
end
end Go.X
