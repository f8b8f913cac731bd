import Derived.Test.YtdkgicdbjemalaaDoorNC
/-! Tones: the specification's polynomials, walked: determinants and matchings. -/
set_option linter.unusedSimpArgs false
set_option linter.unusedVariables false
set_option maxHeartbeats 2000000
set_option maxRecDepth 10000
namespace Go.X
open Go Go.RowKit

def sgn (used : Nat) (ks : List Nat) (s : Int) : Int := ks.foldl (fun s k => if used.testBit k then -s else s) s
def addP (out : List Int) (u : Nat) (x : Int) : List Int := out.set u (out.getD u 0 + x)

/-- What determinant adds. -/
def detP (f : List Nat) (n : Nat) : Nat → Nat → Nat → Nat → Int → List Int → List Int
  | 0, _, _, own, sign, out => addP out own sign
  | d + 1, rr, used, own, sign, out => (List.range n).foldl (fun out c =>
      if used.testBit c then out else if c = rr then detP f n d (rr + 1) (used ||| 2 ^ c) (own + 1) (sgn used (List.range' (c + 1) (n - (c + 1))) sign) out
      else if (f.getD rr 0).testBit c then detP f n d (rr + 1) (used ||| 2 ^ c) own (-(sgn used (List.range' (c + 1) (n - (c + 1))) sign)) out else out) out

/-- What pair adds. -/
def pairT (f : List Nat) (n : Nat) : Nat → Nat → Nat → Int → List Int → List Int
  | 0, _, at', sign, out => addP out at' sign
  | d + 1, left, at', sign, out => if left = 0 then addP out at' sign else
    (List.range n).foldl (fun out k => if (f.getD (ctz left) 0 &&& dl left (2 ^ ctz left)).testBit k then pairT f n d (dl (dl left (2 ^ ctz left)) (2 ^ k)) (at' - 2) (-sign) out else out)
      (pairT f n d (dl left (2 ^ ctz left)) at' sign out)

theorem addP_len (out : List Int) (u : Nat) (x : Int) : (addP out u x).length = out.length := by simp [addP]
theorem foldl_len {α : Type} {F : List Int → α → List Int} (h : ∀ out a, (F out a).length = out.length) : ∀ (l : List α) (out : List Int), (l.foldl F out).length = out.length
  | [], out => rfl
  | a :: l, out => by rw [List.foldl_cons, foldl_len h l, h]
theorem detP_len (f : List Nat) (n : Nat) : ∀ (d rr used own : Nat) (sign : Int) (out : List Int), (detP f n d rr used own sign out).length = out.length
  | 0, _, _, _, _, _ => addP_len _ _ _
  | d + 1, rr, used, own, sign, out => by
    simp only [detP]
    refine foldl_len (fun out c => ?_) _ _
    split
    · rfl
    · split
      · exact detP_len f n d _ _ _ _ _
      · split
        · exact detP_len f n d _ _ _ _ _
        · rfl
theorem pairT_len (f : List Nat) (n : Nat) : ∀ (d left at' : Nat) (sign : Int) (out : List Int), (pairT f n d left at' sign out).length = out.length
  | 0, _, _, _, _ => addP_len _ _ _
  | d + 1, left, at', sign, out => by
    simp only [pairT]
    split
    · exact addP_len _ _ _
    · rw [foldl_len, pairT_len f n d]
      intro out k
      split
      · exact pairT_len f n d _ _ _ _
      · rfl

section
variable {Y : Run}

/-! ### Same -/
/-! ### determinant -/
def DetOk (Y : Run) (fr : AV) (f : List Nat) (v : AV) (p d : Nat) : Prop :=
  ∀ (H : Heap) (out : List Int) (rr used own : Nat) (sign : Int), rr + d = f.length → used < 2 ^ f.length → own ≤ rr → Rw H v p out → out.length = f.length + 1 →
    ∃ H', callL ET Y 72 [fr, vI rr, vI used, vI own, vW sign, v] H = some (.tup [], H') ∧ Rw H' v p (detP f f.length d rr used own sign out)

theorem L72_0 {fr v v4 w1 w3 : AV} {f : List Nat} {used c : Nat} {H : Heap} (hF : Fr fr f) (hu : used < 2 ^ f.length) (d : Nat) : ∀ (k : Nat) (s : Int), k + d = f.length →
    lp ET Y F72L0 (sp 95 [(14, vI k), (13, vW s), (12, vI c), (5, v), (4, v4), (3, w3), (2, vI used), (1, w1), (0, fr)]) H =
      some (.x 2, sp 95 [(13, vW (sgn used (List.range' k d) s)), (12, vI c), (5, v), (4, v4), (3, w3), (2, vI used), (1, w1), (0, fr)], H) := by
  have hn7 := hF.n7
  have hflen := hF.hv.len
  rw [List.length_map] at hflen
  have h128 := hF.p7
  induction d with
  | zero =>
    intro k s hk
    rw [un72_0]
    have : ¬ ((k : Int) < (f.length : Int)) := by omega
    simp only [F72L0b, SS, insA, wantedA, Opd.ev, putA, binA, eqbA, unA, fldA, partA, reduceIte, reduceCtorEq, Nat.reduceMod, Nat.reduceDiv, Nat.reduceBEq, resultA, resA, vI, Nat.reduceMul, Nat.reduceAdd, Nat.reduceSub, Nat.reduceEqDiff, Nat.reduceLT, Nat.reducePow, Nat.reduceLeDiff, st, Option.bind_eq_bind, Option.pure_def, List.length_nil, Int.cast_ofNat_Int, List.reverse_nil, UU, idxP, cellsAt, storeA, fillA, zerosA, putAll, optNat, sliceA, row, Int.reduceLT, Int.reduceLE, Int.reduceGT, Int.reduceGE, Int.reduceEq, Int.reduceNe, Int.reduceToNat, Int.reduceBEq, Int.reduceBNe, Nat.reduceLeDiff, Nat.reduceLT, Nat.reduceBNe, Nat.reduceGT, List.drop_nil, List.take_nil, Option.isSome_none, Int.ofNat_one, Int.ofNat_zero, hflen, this, List.range'_zero, sgn, List.foldl_nil]
  | succ d ih =>
    intro k s hk
    have hc : (k : Int) < (f.length : Int) := by omega
    have hw := wrap_succ (n := k) (by omega)
    have hp2 : (0 : Int) ≤ (k : Int) := by omega
    have hs2 := shr_eq (k := k) (by omega)
    have h20 : (2 : Int) ≠ 0 := by decide
    have ht := tmod_emod (sh_nonneg (x := (used : Int)) (by omega) k)
    have q0 := sh_beq used k
    have hng : IntKind.wrap .i64 (0 - wr s) = wr (-s) := by simp only [wr, IntKind.wrap_i64]; omega
    have ih1 := ih (k + 1) s (by omega)
    have ih2 := ih (k + 1) (-s) (by omega)
    rw [un72_0, List.range'_succ]
    unfold sgn
    rw [List.foldl_cons]
    unfold sgn at ih1 ih2
    cases hb : used.testBit k with
    | false =>
      rw [hb] at q0
      rw [if_neg (by simp)]
      simp only [vW, wr, SS, insA, wantedA, Opd.ev, putA, binA, eqbA, unA, fldA, partA, reduceIte, reduceCtorEq, Nat.reduceMod, Nat.reduceDiv, Nat.reduceBEq, resultA, resA, vI, Nat.reduceMul, Nat.reduceAdd, Nat.reduceSub, Nat.reduceEqDiff, Nat.reduceLT, Nat.reducePow, Nat.reduceLeDiff, st, Option.bind_eq_bind, Option.pure_def, List.length_nil, Int.cast_ofNat_Int, List.reverse_nil] at ih1
      simp only [F72L0b, SS, insA, wantedA, Opd.ev, putA, binA, eqbA, unA, fldA, partA, reduceIte, reduceCtorEq, Nat.reduceMod, Nat.reduceDiv, Nat.reduceBEq, resultA, resA, vI, Nat.reduceMul, Nat.reduceAdd, Nat.reduceSub, Nat.reduceEqDiff, Nat.reduceLT, Nat.reducePow, Nat.reduceLeDiff, st, Option.bind_eq_bind, Option.pure_def, List.length_nil, Int.cast_ofNat_Int, List.reverse_nil, UU, idxP, cellsAt, storeA, fillA, zerosA, putAll, optNat, sliceA, row, Int.reduceLT, Int.reduceLE, Int.reduceGT, Int.reduceGE, Int.reduceEq, Int.reduceNe, Int.reduceToNat, Int.reduceBEq, Int.reduceBNe, Nat.reduceLeDiff, Nat.reduceLT, Nat.reduceBNe, Nat.reduceGT, List.drop_nil, List.take_nil, Option.isSome_none, Int.ofNat_one, Int.ofNat_zero, hflen, hc, hw, hp2, hs2, h20, ht, q0, ih1, ne_eq, not_false_eq_true, and_self]
    | true =>
      rw [hb] at q0
      rw [if_pos rfl]
      simp only [vW, wr, SS, insA, wantedA, Opd.ev, putA, binA, eqbA, unA, fldA, partA, reduceIte, reduceCtorEq, Nat.reduceMod, Nat.reduceDiv, Nat.reduceBEq, resultA, resA, vI, Nat.reduceMul, Nat.reduceAdd, Nat.reduceSub, Nat.reduceEqDiff, Nat.reduceLT, Nat.reducePow, Nat.reduceLeDiff, st, Option.bind_eq_bind, Option.pure_def, List.length_nil, Int.cast_ofNat_Int, List.reverse_nil] at ih2 hng
      simp only [F72L0b, SS, insA, wantedA, Opd.ev, putA, binA, eqbA, unA, fldA, partA, reduceIte, reduceCtorEq, Nat.reduceMod, Nat.reduceDiv, Nat.reduceBEq, resultA, resA, vI, Nat.reduceMul, Nat.reduceAdd, Nat.reduceSub, Nat.reduceEqDiff, Nat.reduceLT, Nat.reducePow, Nat.reduceLeDiff, st, Option.bind_eq_bind, Option.pure_def, List.length_nil, Int.cast_ofNat_Int, List.reverse_nil, UU, idxP, cellsAt, storeA, fillA, zerosA, putAll, optNat, sliceA, row, Int.reduceLT, Int.reduceLE, Int.reduceGT, Int.reduceGE, Int.reduceEq, Int.reduceNe, Int.reduceToNat, Int.reduceBEq, Int.reduceBNe, Nat.reduceLeDiff, Nat.reduceLT, Nat.reduceBNe, Nat.reduceGT, List.drop_nil, List.take_nil, Option.isSome_none, Int.ofNat_one, Int.ofNat_zero, hflen, hc, hw, hp2, hs2, h20, ht, q0, hng, ih2, ne_eq, not_false_eq_true, and_self]

theorem L72_1 {fr v : AV} {f : List Nat} {used own rr p D : Nat} {sign : Int} (hF : Fr fr f) (hdet : DetOk Y fr f v p D) (hr : rr + (D + 1) = f.length) (hu : used < 2 ^ f.length) (ho : own ≤ rr) (d : Nat) : ∀ {H : Heap} {out : List Int} (c : Nat), c + d = f.length → Rw H v p out → out.length = f.length + 1 →
    ∃ H', lp ET Y F72L1 (sp 95 [(12, vI c), (5, v), (4, vW sign), (3, vI own), (2, vI used), (1, vI rr), (0, fr)]) H = some (.x 0, sp 95 [], H') ∧
      Rw H' v p ((List.range' c d).foldl (fun out c => if used.testBit c then out else if c = rr then detP f f.length D (rr + 1) (used ||| 2 ^ c) (own + 1) (sgn used (List.range' (c + 1) (f.length - (c + 1))) sign) out
      else if (f.getD rr 0).testBit c then detP f f.length D (rr + 1) (used ||| 2 ^ c) own (-(sgn used (List.range' (c + 1) (f.length - (c + 1))) sign)) out else out) out) := by
  have hn7 := hF.n7
  have hflen := hF.hv.len
  rw [List.length_map] at hflen
  have h128 := hF.p7
  induction d with
  | zero =>
    intro H out c hk h hl
    refine ⟨H, ?_, by simpa using h⟩
    rw [un72_1]
    have : ¬ ((c : Int) < (f.length : Int)) := by omega
    simp only [F72L1b, SS, insA, wantedA, Opd.ev, putA, binA, eqbA, unA, fldA, partA, reduceIte, reduceCtorEq, Nat.reduceMod, Nat.reduceDiv, Nat.reduceBEq, resultA, resA, vI, Nat.reduceMul, Nat.reduceAdd, Nat.reduceSub, Nat.reduceEqDiff, Nat.reduceLT, Nat.reducePow, Nat.reduceLeDiff, st, Option.bind_eq_bind, Option.pure_def, List.length_nil, Int.cast_ofNat_Int, List.reverse_nil, UU, idxP, cellsAt, storeA, fillA, zerosA, putAll, optNat, sliceA, row, Int.reduceLT, Int.reduceLE, Int.reduceGT, Int.reduceGE, Int.reduceEq, Int.reduceNe, Int.reduceToNat, Int.reduceBEq, Int.reduceBNe, Nat.reduceLeDiff, Nat.reduceLT, Nat.reduceBNe, Nat.reduceGT, List.drop_nil, List.take_nil, Option.isSome_none, Int.ofNat_one, Int.ofNat_zero, hflen, this]
  | succ d ih =>
    intro H out c hk h hl
    have hc1 : c < f.length := by omega
    have hc : (c : Int) < (f.length : Int) := by omega
    have hw := wrap_succ (n := c) (by omega)
    have hp2 : (0 : Int) ≤ (c : Int) := by omega
    have hs2 := shr_eq (k := c) (by omega)
    have hs3 := shl_eq (k := c) (by omega)
    have h20 : (2 : Int) ≠ 0 := by decide
    have ht := tmod_emod (sh_nonneg (x := (used : Int)) (by omega) c)
    have q0 := sh_beq used c
    have hor : bitsA .or .i64 (used : Int) ((2 ^ c : Nat) : Int) = some (vI ((used ||| 2 ^ c : Nat) : Int)) := (nat_bits (by omega) (by have := pow_lt (show c < 7 by omega); omega)).2.1
    have hu2 : used ||| 2 ^ c < 2 ^ f.length := Nat.or_lt_two_pow hu (Nat.pow_lt_pow_right (by decide) hc1)
    have hwr : IntKind.wrap .i64 ((rr : Int) + 1) = ((rr + 1 : Nat) : Int) := wrap_succ (by omega)
    have hwo : IntKind.wrap .i64 ((own : Int) + 1) = ((own + 1 : Nat) : Int) := wrap_succ (by omega)
    rw [un72_1, List.range'_succ, List.foldl_cons]
    cases hb : used.testBit c with
    | true =>
      rw [hb] at q0
      rw [if_pos rfl]
      obtain ⟨H', e1, r1⟩ := ih (c + 1) (by omega) h hl
      refine ⟨H', ?_, r1⟩
      simp only [vW, wr, SS, insA, wantedA, Opd.ev, putA, binA, eqbA, unA, fldA, partA, reduceIte, reduceCtorEq, Nat.reduceMod, Nat.reduceDiv, Nat.reduceBEq, resultA, resA, vI, Nat.reduceMul, Nat.reduceAdd, Nat.reduceSub, Nat.reduceEqDiff, Nat.reduceLT, Nat.reducePow, Nat.reduceLeDiff, st, Option.bind_eq_bind, Option.pure_def, List.length_nil, Int.cast_ofNat_Int, List.reverse_nil] at e1
      simp only [F72L1b, F72T1, SS, insA, wantedA, Opd.ev, putA, binA, eqbA, unA, fldA, partA, reduceIte, reduceCtorEq, Nat.reduceMod, Nat.reduceDiv, Nat.reduceBEq, resultA, resA, vI, Nat.reduceMul, Nat.reduceAdd, Nat.reduceSub, Nat.reduceEqDiff, Nat.reduceLT, Nat.reducePow, Nat.reduceLeDiff, st, Option.bind_eq_bind, Option.pure_def, List.length_nil, Int.cast_ofNat_Int, List.reverse_nil, UU, idxP, cellsAt, storeA, fillA, zerosA, putAll, optNat, sliceA, row, Int.reduceLT, Int.reduceLE, Int.reduceGT, Int.reduceGE, Int.reduceEq, Int.reduceNe, Int.reduceToNat, Int.reduceBEq, Int.reduceBNe, Nat.reduceLeDiff, Nat.reduceLT, Nat.reduceBNe, Nat.reduceGT, List.drop_nil, List.take_nil, Option.isSome_none, Int.ofNat_one, Int.ofNat_zero, hflen, hc, hw, hp2, hs2, h20, ht, q0, e1, ne_eq, not_false_eq_true, and_self]
    | false =>
      rw [hb] at q0
      rw [if_neg (by simp)]
      have hl0 := L72_0 (Y := Y) (v := v) (v4 := vW sign) (w1 := vI rr) (w3 := vI own) (c := c) (H := H) hF hu (f.length - (c + 1)) (c + 1) sign (by omega)
      generalize sgn used (List.range' (c + 1) (f.length - (c + 1))) sign = sg at *
      by_cases cr : c = rr
      · have d1 : ((c : Int) != (rr : Int)) = false := by rw [cr]; simp
        have d2 : ((c : Int) == (rr : Int)) = true := by rw [cr]; simp
        rw [if_pos cr]
        obtain ⟨H1, a1, a2⟩ := hdet H out (rr + 1) (used ||| 2 ^ c) (own + 1) sg (by omega) hu2 (by omega) h hl
        obtain ⟨H', e1, r1⟩ := ih (c + 1) (by omega) a2 (by rw [detP_len]; exact hl)
        refine ⟨H', ?_, r1⟩
        simp only [vW, wr, SS, insA, wantedA, Opd.ev, putA, binA, eqbA, unA, fldA, partA, reduceIte, reduceCtorEq, Nat.reduceMod, Nat.reduceDiv, Nat.reduceBEq, resultA, resA, vI, Nat.reduceMul, Nat.reduceAdd, Nat.reduceSub, Nat.reduceEqDiff, Nat.reduceLT, Nat.reducePow, Nat.reduceLeDiff, st, Option.bind_eq_bind, Option.pure_def, List.length_nil, Int.cast_ofNat_Int, List.reverse_nil] at e1 a1 hl0
        simp only [F72L1b, F72T0, F72T1, in72_0, SS, insA, wantedA, Opd.ev, putA, binA, eqbA, unA, fldA, partA, reduceIte, reduceCtorEq, Nat.reduceMod, Nat.reduceDiv, Nat.reduceBEq, resultA, resA, vI, Nat.reduceMul, Nat.reduceAdd, Nat.reduceSub, Nat.reduceEqDiff, Nat.reduceLT, Nat.reducePow, Nat.reduceLeDiff, st, Option.bind_eq_bind, Option.pure_def, List.length_nil, Int.cast_ofNat_Int, List.reverse_nil, UU, idxP, cellsAt, storeA, fillA, zerosA, putAll, optNat, sliceA, row, Int.reduceLT, Int.reduceLE, Int.reduceGT, Int.reduceGE, Int.reduceEq, Int.reduceNe, Int.reduceToNat, Int.reduceBEq, Int.reduceBNe, Nat.reduceLeDiff, Nat.reduceLT, Nat.reduceBNe, Nat.reduceGT, List.drop_nil, List.take_nil, Option.isSome_none, Int.ofNat_one, Int.ofNat_zero, hflen, hc, hw, hp2, hs2, hs3, h20, ht, q0, d1, d2, hl0, hwr, hwo, hor, a1, e1, ne_eq, not_false_eq_true, and_self]
      · have d1 : ((c : Int) != (rr : Int)) = true := by simp; omega
        have d2 : ((c : Int) == (rr : Int)) = false := by simp; omega
        rw [if_neg cr]
        have hrow : rr < f.length := by omega
        have hip := hF.hv.idx (i := rr) (by simpa using hrow)
        have hlp := hF.hv.load (H := H) (i := rr) (by simpa using hrow)
        rw [getD_nat hrow] at hlp
        have ht1 := tmod_emod (sh_nonneg (x := ((f.getD rr 0 : Nat) : Int)) (by omega) c)
        have q1 := sh_beq0 (f.getD rr 0) c
        have hng : IntKind.wrap .i64 (0 - wr sg) = wr (-sg) := by simp only [wr, IntKind.wrap_i64]; omega
        cases hb1 : (f.getD rr 0).testBit c with
        | false =>
          rw [hb1] at q1
          rw [if_neg (by simp)]
          obtain ⟨H', e1, r1⟩ := ih (c + 1) (by omega) h hl
          refine ⟨H', ?_, r1⟩
          simp only [Bool.not_false] at q1
          simp only [vW, wr, SS, insA, wantedA, Opd.ev, putA, binA, eqbA, unA, fldA, partA, reduceIte, reduceCtorEq, Nat.reduceMod, Nat.reduceDiv, Nat.reduceBEq, resultA, resA, vI, Nat.reduceMul, Nat.reduceAdd, Nat.reduceSub, Nat.reduceEqDiff, Nat.reduceLT, Nat.reducePow, Nat.reduceLeDiff, st, Option.bind_eq_bind, Option.pure_def, List.length_nil, Int.cast_ofNat_Int, List.reverse_nil] at e1
          simp only [F72L1b, F72T1, SS, insA, wantedA, Opd.ev, putA, binA, eqbA, unA, fldA, partA, reduceIte, reduceCtorEq, Nat.reduceMod, Nat.reduceDiv, Nat.reduceBEq, resultA, resA, vI, Nat.reduceMul, Nat.reduceAdd, Nat.reduceSub, Nat.reduceEqDiff, Nat.reduceLT, Nat.reducePow, Nat.reduceLeDiff, st, Option.bind_eq_bind, Option.pure_def, List.length_nil, Int.cast_ofNat_Int, List.reverse_nil, UU, idxP, cellsAt, storeA, fillA, zerosA, putAll, optNat, sliceA, row, Int.reduceLT, Int.reduceLE, Int.reduceGT, Int.reduceGE, Int.reduceEq, Int.reduceNe, Int.reduceToNat, Int.reduceBEq, Int.reduceBNe, Nat.reduceLeDiff, Nat.reduceLT, Nat.reduceBNe, Nat.reduceGT, List.drop_nil, List.take_nil, Option.isSome_none, Int.ofNat_one, Int.ofNat_zero, hflen, hc, hw, hp2, hs2, h20, ht, ht1, q0, q1, d1, hip, hlp, e1, ne_eq, not_false_eq_true, and_self]
        | true =>
          rw [hb1] at q1
          rw [if_pos rfl]
          obtain ⟨H1, a1, a2⟩ := hdet H out (rr + 1) (used ||| 2 ^ c) own (-sg) (by omega) hu2 (by omega) h hl
          obtain ⟨H', e1, r1⟩ := ih (c + 1) (by omega) a2 (by rw [detP_len]; exact hl)
          refine ⟨H', ?_, r1⟩
          simp only [Bool.not_true] at q1
          simp only [vW, wr, SS, insA, wantedA, Opd.ev, putA, binA, eqbA, unA, fldA, partA, reduceIte, reduceCtorEq, Nat.reduceMod, Nat.reduceDiv, Nat.reduceBEq, resultA, resA, vI, Nat.reduceMul, Nat.reduceAdd, Nat.reduceSub, Nat.reduceEqDiff, Nat.reduceLT, Nat.reducePow, Nat.reduceLeDiff, st, Option.bind_eq_bind, Option.pure_def, List.length_nil, Int.cast_ofNat_Int, List.reverse_nil] at e1 a1 hl0 hng
          simp only [F72L1b, F72T0, F72T1, in72_0, SS, insA, wantedA, Opd.ev, putA, binA, eqbA, unA, fldA, partA, reduceIte, reduceCtorEq, Nat.reduceMod, Nat.reduceDiv, Nat.reduceBEq, resultA, resA, vI, Nat.reduceMul, Nat.reduceAdd, Nat.reduceSub, Nat.reduceEqDiff, Nat.reduceLT, Nat.reducePow, Nat.reduceLeDiff, st, Option.bind_eq_bind, Option.pure_def, List.length_nil, Int.cast_ofNat_Int, List.reverse_nil, UU, idxP, cellsAt, storeA, fillA, zerosA, putAll, optNat, sliceA, row, Int.reduceLT, Int.reduceLE, Int.reduceGT, Int.reduceGE, Int.reduceEq, Int.reduceNe, Int.reduceToNat, Int.reduceBEq, Int.reduceBNe, Nat.reduceLeDiff, Nat.reduceLT, Nat.reduceBNe, Nat.reduceGT, List.drop_nil, List.take_nil, Option.isSome_none, Int.ofNat_one, Int.ofNat_zero, hflen, hc, hw, hp2, hs2, hs3, h20, ht, ht1, q0, q1, d1, d2, hip, hlp, hl0, hwr, hor, hng, a1, e1, ne_eq, not_false_eq_true, and_self]

theorem det72 {fr v : AV} {f : List Nat} {p : Nat} (hF : Fr fr f) : ∀ d, DetOk Y fr f v p d := by
  have hn7 := hF.n7
  have hflen := hF.hv.len
  rw [List.length_map] at hflen
  intro d
  induction d with
  | zero =>
    intro H out rr used own sign hr hu ho h hl
    have e : rr = f.length := by omega
    subst e
    obtain ⟨H1, e1, r1, r2, r3⟩ := h.st (i := own) (by omega) (out.getD own 0 + sign)
    have i1 := h.gro.idx (i := own) (by omega)
    have l1 := h.gro.load (i := own) (by omega)
    rw [getD_wr (by omega)] at l1
    have w2 := wr_add (out.getD own 0) sign
    have q : ((f.length : Int) == (f.length : Int)) = true := by simp
    refine ⟨H1, ?_, r1⟩
    rw [call72 rfl]
    simp only [vW, wr, SS, insA, wantedA, Opd.ev, putA, binA, eqbA, unA, fldA, partA, reduceIte, reduceCtorEq, Nat.reduceMod, Nat.reduceDiv, Nat.reduceBEq, resultA, resA, vI, Nat.reduceMul, Nat.reduceAdd, Nat.reduceSub, Nat.reduceEqDiff, Nat.reduceLT, Nat.reducePow, Nat.reduceLeDiff, st, Option.bind_eq_bind, Option.pure_def, List.length_nil, Int.cast_ofNat_Int, List.reverse_nil] at e1 l1 w2
    simp only [F72B, SS, insA, wantedA, Opd.ev, putA, binA, eqbA, unA, fldA, partA, reduceIte, reduceCtorEq, Nat.reduceMod, Nat.reduceDiv, Nat.reduceBEq, resultA, resA, vI, Nat.reduceMul, Nat.reduceAdd, Nat.reduceSub, Nat.reduceEqDiff, Nat.reduceLT, Nat.reducePow, Nat.reduceLeDiff, st, Option.bind_eq_bind, Option.pure_def, List.length_nil, Int.cast_ofNat_Int, List.reverse_nil, UU, idxP, cellsAt, fillA, zerosA, putAll, row, Int.reduceLT, Int.reduceLE, Int.reduceGT, Int.reduceGE, Int.reduceEq, Int.reduceNe, Int.reduceToNat, Int.reduceBEq, Int.reduceBNe, Nat.reduceLeDiff, Nat.reduceLT, Nat.reduceBNe, Nat.reduceGT, List.drop_nil, List.take_nil, Option.isSome_none, Int.ofNat_one, Int.ofNat_zero, hflen, q, i1, l1, w2, e1, endX, List.mapM_nil]
  | succ d ih =>
    intro H out rr used own sign hr hu ho h hl
    obtain ⟨H1, e1, r1⟩ := L72_1 (Y := Y) (sign := sign) hF ih hr hu ho f.length 0 (by omega) h hl
    rw [← List.range_eq_range'] at r1
    refine ⟨H1, ?_, r1⟩
    have q : ((rr : Int) == (f.length : Int)) = false := by simp; omega
    rw [call72 rfl]
    simp only [vW, wr, SS, insA, wantedA, Opd.ev, putA, binA, eqbA, unA, fldA, partA, reduceIte, reduceCtorEq, Nat.reduceMod, Nat.reduceDiv, Nat.reduceBEq, resultA, resA, vI, Nat.reduceMul, Nat.reduceAdd, Nat.reduceSub, Nat.reduceEqDiff, Nat.reduceLT, Nat.reducePow, Nat.reduceLeDiff, st, Option.bind_eq_bind, Option.pure_def, List.length_nil, Int.cast_ofNat_Int, List.reverse_nil, Int.ofNat_zero] at e1
    simp only [F72B, in72_1, SS, insA, wantedA, Opd.ev, putA, binA, eqbA, unA, fldA, partA, reduceIte, reduceCtorEq, Nat.reduceMod, Nat.reduceDiv, Nat.reduceBEq, resultA, resA, vI, Nat.reduceMul, Nat.reduceAdd, Nat.reduceSub, Nat.reduceEqDiff, Nat.reduceLT, Nat.reducePow, Nat.reduceLeDiff, st, Option.bind_eq_bind, Option.pure_def, List.length_nil, Int.cast_ofNat_Int, List.reverse_nil, UU, idxP, cellsAt, storeA, fillA, zerosA, putAll, optNat, sliceA, row, Int.reduceLT, Int.reduceLE, Int.reduceGT, Int.reduceGE, Int.reduceEq, Int.reduceNe, Int.reduceToNat, Int.reduceBEq, Int.reduceBNe, Nat.reduceLeDiff, Nat.reduceLT, Nat.reduceBNe, Nat.reduceGT, List.drop_nil, List.take_nil, Option.isSome_none, Int.ofNat_one, Int.ofNat_zero, hflen, q, e1, endX, List.mapM_nil]

/-! ### pair -/
def PairOk (Y : Run) (fr : AV) (f : List Nat) (v : AV) (p d : Nat) : Prop :=
  ∀ (H : Heap) (out : List Int) (left at' : Nat) (sign : Int), left < 2 ^ f.length → pc left ≤ d → pc left ≤ at' → at' ≤ f.length → Rw H v p out → out.length = f.length + 1 →
    ∃ H', callL ET Y 73 [fr, vI left, vI at', vW sign, v] H = some (.tup [], H') ∧ Rw H' v p (pairT f f.length d left at' sign out)

theorem L73_0 {H : Heap} {fr v wv uv : AV} {left : Nat} (hl : left < 128) (h0 : left ≠ 0) (d : Nat) : ∀ (i : Nat), i + d = ctz left →
    lp ET Y F73L0 (sp 66 [(10, vI i), (4, v), (3, wv), (2, uv), (1, vI left), (0, fr)]) H = some (.x 0, sp 66 [(10, vI (ctz left)), (4, v), (3, wv), (2, uv), (1, vI left), (0, fr)], H) := by
  have h20 : (2 : Int) ≠ 0 := by decide
  have h7 := ctz_lt left
  induction d with
  | zero =>
    intro i hi
    have e : i = ctz left := by omega
    subst e
    have hp2 : (0 : Int) ≤ ((ctz left : Nat) : Int) := by omega
    have hs2 := shr_eq (k := ctz left) (by omega)
    have ht := tmod_emod (sh_nonneg (x := (left : Int)) (by omega) (ctz left))
    have q0 := sh_beq0 left (ctz left)
    rw [ctz_ok hl h0] at q0
    rw [un73_0]
    simp only [Bool.not_true] at q0
    simp only [F73L0b, SS, insA, wantedA, Opd.ev, putA, binA, eqbA, unA, fldA, partA, reduceIte, reduceCtorEq, Nat.reduceMod, Nat.reduceDiv, Nat.reduceBEq, resultA, resA, vI, Nat.reduceMul, Nat.reduceAdd, Nat.reduceSub, Nat.reduceEqDiff, Nat.reduceLT, Nat.reducePow, Nat.reduceLeDiff, st, Option.bind_eq_bind, Option.pure_def, List.length_nil, Int.cast_ofNat_Int, List.reverse_nil, UU, idxP, cellsAt, storeA, fillA, zerosA, putAll, optNat, sliceA, row, Int.reduceLT, Int.reduceLE, Int.reduceGT, Int.reduceGE, Int.reduceEq, Int.reduceNe, Int.reduceToNat, Int.reduceBEq, Int.reduceBNe, Nat.reduceLeDiff, Nat.reduceLT, Nat.reduceBNe, Nat.reduceGT, List.drop_nil, List.take_nil, Option.isSome_none, Int.ofNat_one, Int.ofNat_zero, hp2, hs2, h20, ht, q0, ne_eq, not_false_eq_true, and_self]
  | succ d ih =>
    intro i hi
    have hp2 : (0 : Int) ≤ (i : Int) := by omega
    have hs2 := shr_eq (k := i) (by omega)
    have ht := tmod_emod (sh_nonneg (x := (left : Int)) (by omega) i)
    have q0 := sh_beq0 left i
    have hw := wrap_succ (n := i) (by omega)
    rw [ctz_min hl (by omega)] at q0
    have ih := ih (i + 1) (by omega)
    rw [un73_0]
    simp only [Bool.not_false] at q0
    simp only [SS, insA, wantedA, Opd.ev, putA, binA, eqbA, unA, fldA, partA, reduceIte, reduceCtorEq, Nat.reduceMod, Nat.reduceDiv, Nat.reduceBEq, resultA, resA, vI, Nat.reduceMul, Nat.reduceAdd, Nat.reduceSub, Nat.reduceEqDiff, Nat.reduceLT, Nat.reducePow, Nat.reduceLeDiff, st, Option.bind_eq_bind, Option.pure_def, List.length_nil, Int.cast_ofNat_Int, List.reverse_nil] at ih
    simp only [F73L0b, SS, insA, wantedA, Opd.ev, putA, binA, eqbA, unA, fldA, partA, reduceIte, reduceCtorEq, Nat.reduceMod, Nat.reduceDiv, Nat.reduceBEq, resultA, resA, vI, Nat.reduceMul, Nat.reduceAdd, Nat.reduceSub, Nat.reduceEqDiff, Nat.reduceLT, Nat.reducePow, Nat.reduceLeDiff, st, Option.bind_eq_bind, Option.pure_def, List.length_nil, Int.cast_ofNat_Int, List.reverse_nil, UU, idxP, cellsAt, storeA, fillA, zerosA, putAll, optNat, sliceA, row, Int.reduceLT, Int.reduceLE, Int.reduceGT, Int.reduceGE, Int.reduceEq, Int.reduceNe, Int.reduceToNat, Int.reduceBEq, Int.reduceBNe, Nat.reduceLeDiff, Nat.reduceLT, Nat.reduceBNe, Nat.reduceGT, List.drop_nil, List.take_nil, Option.isSome_none, Int.ofNat_one, Int.ofNat_zero, hp2, hs2, h20, ht, q0, hw, ih, ne_eq, not_false_eq_true, and_self]

theorem L73_1 {fr v : AV} {f : List Nat} {i S at' p D : Nat} {sign : Int} (hF : Fr fr f) (hpair : PairOk Y fr f v p D) (hi : i < f.length) (hS : S < 2 ^ f.length) (hd : pc S ≤ D) (ha : pc S + 1 ≤ at') (hn : at' ≤ f.length) (m : Nat) : ∀ {H : Heap} {out : List Int} (k : Nat), k + m = f.length → Rw H v p out → out.length = f.length + 1 →
    ∃ H', lp ET Y F73L1 (sp 66 [(12, vI k), (11, vI S), (10, vI i), (4, v), (3, vW sign), (2, vI at'), (0, fr)]) H = some (.x 2, sp 66 [], H') ∧
      Rw H' v p ((List.range' k m).foldl (fun out k => if (f.getD i 0 &&& S).testBit k then pairT f f.length D (dl S (2 ^ k)) (at' - 2) (-sign) out else out) out) := by
  have hflen := hF.hv.len
  rw [List.length_map] at hflen
  have h128 := hF.p7
  have hn7 := hF.n7
  induction m with
  | zero =>
    intro H out k hk h hl
    refine ⟨H, ?_, by simpa using h⟩
    rw [un73_1]
    have : ¬ ((k : Int) < (f.length : Int)) := by omega
    simp only [F73L1b, SS, insA, wantedA, Opd.ev, putA, binA, eqbA, unA, fldA, partA, reduceIte, reduceCtorEq, Nat.reduceMod, Nat.reduceDiv, Nat.reduceBEq, resultA, resA, vI, Nat.reduceMul, Nat.reduceAdd, Nat.reduceSub, Nat.reduceEqDiff, Nat.reduceLT, Nat.reducePow, Nat.reduceLeDiff, st, Option.bind_eq_bind, Option.pure_def, List.length_nil, Int.cast_ofNat_Int, List.reverse_nil, UU, idxP, cellsAt, storeA, fillA, zerosA, putAll, optNat, sliceA, row, Int.reduceLT, Int.reduceLE, Int.reduceGT, Int.reduceGE, Int.reduceEq, Int.reduceNe, Int.reduceToNat, Int.reduceBEq, Int.reduceBNe, Nat.reduceLeDiff, Nat.reduceLT, Nat.reduceBNe, Nat.reduceGT, List.drop_nil, List.take_nil, Option.isSome_none, Int.ofNat_one, Int.ofNat_zero, hflen, this]
  | succ m ihm =>
    intro H out k hk h hl
    have hk1 : k < f.length := by omega
    have hc : (k : Int) < (f.length : Int) := by omega
    have hw := wrap_succ (n := k) (by omega)
    have hip := hF.hv.idx (i := i) (by simpa using hi)
    have hlp := hF.hv.load (H := H) (i := i) (by simpa using hi)
    rw [getD_nat hi] at hlp
    have b1 := (nat_bits (a := f.getD i 0) (b := S) (by have := hF.fb i; omega) (by omega)).1
    have hp2 : (0 : Int) ≤ (k : Int) := by omega
    have hs2 := shr_eq (k := k) (by omega)
    have hs3 := shl_eq (k := k) (by omega)
    have h20 : (2 : Int) ≠ 0 := by decide
    have ht := tmod_emod (sh_nonneg (x := ((f.getD i 0 &&& S : Nat) : Int)) (by omega) k)
    have q0 := sh_beq (f.getD i 0 &&& S) k
    rw [un73_1, List.range'_succ, List.foldl_cons]
    cases c1 : (f.getD i 0 &&& S).testBit k with
    | false =>
      rw [c1] at q0
      obtain ⟨H', e1, h1⟩ := ihm (k + 1) (by omega) h hl
      refine ⟨H', ?_, by simpa using h1⟩
      simp only [vW, wr, SS, insA, wantedA, Opd.ev, putA, binA, eqbA, unA, fldA, partA, reduceIte, reduceCtorEq, Nat.reduceMod, Nat.reduceDiv, Nat.reduceBEq, resultA, resA, vI, Nat.reduceMul, Nat.reduceAdd, Nat.reduceSub, Nat.reduceEqDiff, Nat.reduceLT, Nat.reducePow, Nat.reduceLeDiff, st, Option.bind_eq_bind, Option.pure_def, List.length_nil, Int.cast_ofNat_Int, List.reverse_nil] at e1
      simp only [F73L1b, SS, insA, wantedA, Opd.ev, putA, binA, eqbA, unA, fldA, partA, reduceIte, reduceCtorEq, Nat.reduceMod, Nat.reduceDiv, Nat.reduceBEq, resultA, resA, vI, Nat.reduceMul, Nat.reduceAdd, Nat.reduceSub, Nat.reduceEqDiff, Nat.reduceLT, Nat.reducePow, Nat.reduceLeDiff, st, Option.bind_eq_bind, Option.pure_def, List.length_nil, Int.cast_ofNat_Int, List.reverse_nil, UU, idxP, cellsAt, storeA, fillA, zerosA, putAll, optNat, sliceA, row, Int.reduceLT, Int.reduceLE, Int.reduceGT, Int.reduceGE, Int.reduceEq, Int.reduceNe, Int.reduceToNat, Int.reduceBEq, Int.reduceBNe, Nat.reduceLeDiff, Nat.reduceLT, Nat.reduceBNe, Nat.reduceGT, List.drop_nil, List.take_nil, Option.isSome_none, Int.ofNat_one, Int.ofNat_zero, hflen, hc, hip, hlp, b1, hp2, hs2, h20, ht, q0, hw, e1, ne_eq, not_false_eq_true, and_self]
    | true =>
      rw [c1] at q0
      have hlk : S.testBit k = true := by rw [Nat.testBit_and, Bool.and_eq_true] at c1; exact c1.2
      have hpk := pc_del hlk (by omega)
      have hsub := dl_sub (m := S) (j := k) (by omega) (by omega) hlk
      have hT : dl S (2 ^ k) < 2 ^ f.length := Nat.lt_of_le_of_lt (dl_le _ _) hS
      have hwu : IntKind.wrap .i64 ((at' : Int) - 2) = ((at' - 2 : Nat) : Int) := by rw [wrap_id (by omega) (by omega)]; omega
      have hwt : IntKind.wrap .i64 (0 - wr sign) = wr (-sign) := by simp only [wr, IntKind.wrap_i64]; omega
      obtain ⟨H1, a1, a2⟩ := hpair H out (dl S (2 ^ k)) (at' - 2) (-sign) hT (by omega) (by omega) (by omega) h hl
      obtain ⟨H', e3, h3⟩ := ihm (k + 1) (by omega) a2 (by rw [pairT_len]; exact hl)
      refine ⟨H', ?_, by rw [if_pos rfl]; exact h3⟩
      simp only [vW, wr, SS, insA, wantedA, Opd.ev, putA, binA, eqbA, unA, fldA, partA, reduceIte, reduceCtorEq, Nat.reduceMod, Nat.reduceDiv, Nat.reduceBEq, resultA, resA, vI, Nat.reduceMul, Nat.reduceAdd, Nat.reduceSub, Nat.reduceEqDiff, Nat.reduceLT, Nat.reducePow, Nat.reduceLeDiff, st, Option.bind_eq_bind, Option.pure_def, List.length_nil, Int.cast_ofNat_Int, List.reverse_nil] at a1 e3 hwt
      simp only [F73L1b, SS, insA, wantedA, Opd.ev, putA, binA, eqbA, unA, fldA, partA, reduceIte, reduceCtorEq, Nat.reduceMod, Nat.reduceDiv, Nat.reduceBEq, resultA, resA, vI, Nat.reduceMul, Nat.reduceAdd, Nat.reduceSub, Nat.reduceEqDiff, Nat.reduceLT, Nat.reducePow, Nat.reduceLeDiff, st, Option.bind_eq_bind, Option.pure_def, List.length_nil, Int.cast_ofNat_Int, List.reverse_nil, UU, idxP, cellsAt, storeA, fillA, zerosA, putAll, optNat, sliceA, row, Int.reduceLT, Int.reduceLE, Int.reduceGT, Int.reduceGE, Int.reduceEq, Int.reduceNe, Int.reduceToNat, Int.reduceBEq, Int.reduceBNe, Nat.reduceLeDiff, Nat.reduceLT, Nat.reduceBNe, Nat.reduceGT, List.drop_nil, List.take_nil, Option.isSome_none, Int.ofNat_one, Int.ofNat_zero, hflen, hc, hip, hlp, b1, hp2, hs2, hs3, h20, ht, q0, hw, hsub, hwu, hwt, a1, e3, ne_eq, not_false_eq_true, and_self]

theorem put73 {fr v : AV} {f : List Nat} {p at' : Nat} {sign : Int} {H : Heap} {out : List Int} (h : Rw H v p out) (ha : at' ≤ f.length) (hl : out.length = f.length + 1) :
    ∃ H', callL ET Y 73 [fr, vI 0, vI at', vW sign, v] H = some (.tup [], H') ∧ Rw H' v p (addP out at' sign) := by
  obtain ⟨H1, e1, r1, r2, r3⟩ := h.st (i := at') (by omega) (out.getD at' 0 + sign)
  have i1 := h.gro.idx (i := at') (by omega)
  have l1 := h.gro.load (i := at') (by omega)
  rw [getD_wr (by omega)] at l1
  have w2 := wr_add (out.getD at' 0) sign
  refine ⟨H1, ?_, r1⟩
  rw [call73 rfl]
  simp only [vW, wr, SS, insA, wantedA, Opd.ev, putA, binA, eqbA, unA, fldA, partA, reduceIte, reduceCtorEq, Nat.reduceMod, Nat.reduceDiv, Nat.reduceBEq, resultA, resA, vI, Nat.reduceMul, Nat.reduceAdd, Nat.reduceSub, Nat.reduceEqDiff, Nat.reduceLT, Nat.reducePow, Nat.reduceLeDiff, st, Option.bind_eq_bind, Option.pure_def, List.length_nil, Int.cast_ofNat_Int, List.reverse_nil] at e1 l1 w2
  simp only [F73B, SS, insA, wantedA, Opd.ev, putA, binA, eqbA, unA, fldA, partA, reduceIte, reduceCtorEq, Nat.reduceMod, Nat.reduceDiv, Nat.reduceBEq, resultA, resA, vI, Nat.reduceMul, Nat.reduceAdd, Nat.reduceSub, Nat.reduceEqDiff, Nat.reduceLT, Nat.reducePow, Nat.reduceLeDiff, st, Option.bind_eq_bind, Option.pure_def, List.length_nil, Int.cast_ofNat_Int, List.reverse_nil, UU, idxP, cellsAt, fillA, zerosA, putAll, row, Int.reduceLT, Int.reduceLE, Int.reduceGT, Int.reduceGE, Int.reduceEq, Int.reduceNe, Int.reduceToNat, Int.reduceBEq, Int.reduceBNe, Nat.reduceLeDiff, Nat.reduceLT, Nat.reduceBNe, Nat.reduceGT, List.drop_nil, List.take_nil, Option.isSome_none, Int.ofNat_one, Int.ofNat_zero, i1, l1, w2, e1, endX, List.mapM_nil]

theorem pair73 {fr v : AV} {f : List Nat} {p : Nat} (hF : Fr fr f) : ∀ d, PairOk Y fr f v p d := by
  have h128 := hF.p7
  have hn7 := hF.n7
  intro d
  induction d with
  | zero =>
    intro H out left at' sign hl hd ha hn h hlen
    have h0 : left = 0 := by
      rcases Nat.eq_zero_or_pos left with e | e
      · exact e
      · have := (pc_pos (met := left) (by omega)).1 e; omega
    subst h0
    simp only [pairT]
    exact put73 h hn hlen
  | succ d ih =>
    intro H out left at' sign hl hd ha hn h hlen
    by_cases h0 : left = 0
    · subst h0
      simp only [pairT, if_pos]
      exact put73 h hn hlen
    · simp only [pairT]
      rw [if_neg h0]
      have hb := ctz_ok (m := left) (by omega) h0
      have h7 := ctz_lt left
      have hp := pc_del hb h7
      have hin : ctz left < f.length := by
        rcases Nat.lt_or_ge (ctz left) f.length with e | e
        · exact e
        · rw [Nat.testBit_lt_two_pow (Nat.lt_of_lt_of_le hl (Nat.pow_le_pow_right (by decide) e))] at hb; cases hb
      have hS : dl left (2 ^ ctz left) < 2 ^ f.length := Nat.lt_of_le_of_lt (dl_le _ _) hl
      have hsub := dl_sub (m := left) (j := ctz left) (by omega) h7 hb
      have hs3 := shl_eq (k := ctz left) (by omega)
      have hp2 : (0 : Int) ≤ ((ctz left : Nat) : Int) := by omega
      have hne : ((left : Int) == 0) = false := by simp [h0]
      have L0 := L73_0 (Y := Y) (H := H) (fr := fr) (v := v) (wv := vW sign) (uv := vI at') (left := left) (by omega) h0 (ctz left) 0 (by omega)
      generalize ctz left = i at *
      generalize dl left (2 ^ i) = S at *
      obtain ⟨H1, a1, a2⟩ := ih H out S at' sign hS (by omega) (by omega) hn h hlen
      obtain ⟨H2, e1, e2⟩ := L73_1 (Y := Y) (sign := sign) hF ih hin hS (by omega) (by omega) hn f.length 0 (by omega) a2 (by rw [pairT_len]; exact hlen)
      rw [← List.range_eq_range'] at e2
      refine ⟨H2, ?_, e2⟩
      rw [call73 rfl]
      simp only [vW, wr, SS, insA, wantedA, Opd.ev, putA, binA, eqbA, unA, fldA, partA, reduceIte, reduceCtorEq, Nat.reduceMod, Nat.reduceDiv, Nat.reduceBEq, resultA, resA, vI, Nat.reduceMul, Nat.reduceAdd, Nat.reduceSub, Nat.reduceEqDiff, Nat.reduceLT, Nat.reducePow, Nat.reduceLeDiff, st, Option.bind_eq_bind, Option.pure_def, List.length_nil, Int.cast_ofNat_Int, List.reverse_nil, Int.ofNat_zero] at a1 e1 L0
      simp only [F73B, F73T0, in73_0, in73_1, SS, insA, wantedA, Opd.ev, putA, binA, eqbA, unA, fldA, partA, reduceIte, reduceCtorEq, Nat.reduceMod, Nat.reduceDiv, Nat.reduceBEq, resultA, resA, vI, Nat.reduceMul, Nat.reduceAdd, Nat.reduceSub, Nat.reduceEqDiff, Nat.reduceLT, Nat.reducePow, Nat.reduceLeDiff, st, Option.bind_eq_bind, Option.pure_def, List.length_nil, Int.cast_ofNat_Int, List.reverse_nil, UU, idxP, cellsAt, storeA, fillA, zerosA, putAll, optNat, sliceA, row, Int.reduceLT, Int.reduceLE, Int.reduceGT, Int.reduceGE, Int.reduceEq, Int.reduceNe, Int.reduceToNat, Int.reduceBEq, Int.reduceBNe, Nat.reduceLeDiff, Nat.reduceLT, Nat.reduceBNe, Nat.reduceGT, List.drop_nil, List.take_nil, Option.isSome_none, Int.ofNat_one, Int.ofNat_zero, hne, L0, hp2, hs3, hsub, a1, e1, endX, List.mapM_nil, vW]
end
end Go.X

/-! Tones: the specification's polynomials; its matchings are ours. -/
set_option linter.unusedSimpArgs false
set_option linter.unusedVariables false
set_option maxHeartbeats 2000000
set_option maxRecDepth 10000
namespace Go.X
open Go Go.RowKit

/-- A list of numbers, read backwards from a place. -/
def rft (m : Nat) (p : Nat → Int) (j : Nat) : Int := if j ≤ m then p (m - j) else 0
theorem rft_add (a : Nat) (p q : Nat → Int) (j : Nat) : rft a (fun j => p j + q j) j = rft a p j + rft a q j := by
  unfold rft; split <;> simp
theorem rft_mul (a : Nat) (c : Int) (p : Nat → Int) (j : Nat) : rft a (fun j => c * p j) j = c * rft a p j := by
  unfold rft; split <;> simp
theorem rft_congr {a : Nat} {p q : Nat → Int} (h : ∀ j, p j = q j) (j : Nat) : rft a p j = rft a q j := by
  unfold rft; rw [h]
theorem rft_sum (a : Nat) (g : Nat → Nat → Int) (j : Nat) (l : List Nat) : rft a (fun j => sumZ l (fun k => g k j)) j = sumZ l (fun k => rft a (g k) j) := by
  unfold rft
  split
  · rfl
  · rw [sumZ_zero]
theorem rft_sft {a : Nat} (h : 2 ≤ a) (p : Nat → Int) (j : Nat) : rft (a - 2) p j = rft a (sft 2 p) j := by
  unfold rft sft
  by_cases h1 : j ≤ a - 2
  · rw [if_pos h1, if_pos (by omega), if_pos (by omega), show a - j - 2 = a - 2 - j by omega]
  · rw [if_neg h1]
    split
    · rw [if_neg (by omega)]
    · rfl
theorem rft_one (u j : Nat) (x : Int) : (if j = u then x else 0) = x * rft u (fun j => if j = 0 then 1 else 0) j := by
  unfold rft
  by_cases e : j = u
  · subst e; simp
  · rw [if_neg e]
    by_cases h : j ≤ u
    · have : u - j ≠ 0 := by omega
      simp only [if_pos h, if_neg this, Int.mul_zero]
    · rw [if_neg h, Int.mul_zero]

theorem addP_get {out : List Int} {u n : Nat} (hl : out.length = n + 1) (hu : u ≤ n) (x : Int) (j : Nat) : (addP out u x).getD j 0 = out.getD j 0 + if j = u then x else 0 := by
  unfold addP
  simp only [List.getD_eq_getElem?_getD, List.getElem?_set]
  by_cases h : u = j
  · subst h; rw [if_pos rfl, if_pos (by omega), if_pos rfl]; simp
  · rw [if_neg h, if_neg (fun e => h e.symm)]; omega

theorem foldl_get2 {F : List Int → Nat → List Int} {g : Nat → Int} {j m : Nat} (hF : ∀ out k, (F out k).length = out.length) : ∀ (l : List Nat) (out : List Int), out.length = m → (∀ out k, out.length = m → k ∈ l → (F out k).getD j 0 = out.getD j 0 + g k) → (l.foldl F out).getD j 0 = out.getD j 0 + sumZ l g
  | [], out, _, _ => by simp [sumZ]
  | k :: l, out, hm, h => by
    rw [List.foldl_cons, foldl_get2 hF l _ (by rw [hF]; exact hm) fun out k' hm h' => h out k' hm (List.mem_cons_of_mem _ h'), h out k hm List.mem_cons_self]
    simp only [sumZ]; omega

theorem pair_get {f : List Nat} (hn : f.length ≤ 7) : ∀ (d left : Nat), left < 128 → ∀ (at' : Nat) (sign : Int) (out : List Int) (j : Nat), pc left ≤ at' → at' ≤ f.length → out.length = f.length + 1 →
    (pairT f f.length d left at' sign out).getD j 0 = out.getD j 0 + sign * rft at' (ovS f (-1) 0 d left) j
  | 0, left, _, at', sign, out, j, ha, hn', hl => by
    simp only [pairT, ovS]
    rw [addP_get hl hn', rft_one]
  | d + 1, left, h, at', sign, out, j, ha, hn', hl => by
    simp only [pairT, ovS]
    by_cases h0 : left = 0
    · simp only [if_pos h0]
      rw [addP_get hl hn', rft_one]
    · simp only [if_neg h0]
      have hb := ctz_ok h h0
      have hp := pc_del hb (ctz_lt left)
      have hS : dl left (2 ^ ctz left) < 128 := Nat.lt_of_le_of_lt (dl_le _ _) h
      generalize ctz left = i at *
      generalize dl left (2 ^ i) = S at *
      have e1 := pair_get hn d S hS at' sign out j (by omega) hn' hl
      rw [foldl_get2 (m := f.length + 1) (g := fun k => sign * rft at' (fun j => if (f.getD i 0 &&& S).testBit k = true then -1 * sft 2 (ovS f (-1) 0 d (dl S (2 ^ k))) j else 0) j) (fun out k => by split; exact pairT_len _ _ _ _ _ _ _; rfl) _ _ (by rw [pairT_len]; exact hl) (fun out k hm hk => ?_), e1]
      · rw [sumZ_mul, ← rft_sum, Int.add_assoc, ← Int.mul_add, ← rft_add]
        congr 2
        refine rft_congr (fun j => ?_) j
        rw [onS_zero, Int.add_zero]
      · by_cases c : (f.getD i 0 &&& S).testBit k = true
        · have c' := c
          rw [Nat.testBit_and, Bool.and_eq_true] at c'
          have hk7 : k < 7 := by have := List.mem_range.1 hk; omega
          have hpk := pc_del c'.2 hk7
          rw [if_pos c, pair_get hn d (dl S (2 ^ k)) (Nat.lt_of_le_of_lt (dl_le _ _) hS) (at' - 2) (-sign) out j (by omega) (by omega) hm, rft_sft (by omega)]
          congr 1
          rw [rft_congr (q := fun j => -1 * sft 2 (ovS f (-1) 0 d (dl S (2 ^ k))) j) (fun j => if_pos c), rft_mul, ← Int.mul_assoc, Int.mul_neg, Int.mul_one]
        · rw [if_neg c, rft_congr (q := fun _ => 0) (fun j => if_neg c)]
          simp [rft]

def detL (f : List Nat) : List Int := detP f f.length f.length 0 0 0 1 (List.replicate (f.length + 1) 0)
def pairL (f : List Nat) : List Int := pairT f f.length 7 (2 ^ f.length - 1) f.length 1 (List.replicate (f.length + 1) 0)
theorem detL_len (f : List Nat) : (detL f).length = f.length + 1 := by rw [detL, detP_len, List.length_replicate]
theorem pairL_len (f : List Nat) : (pairL f).length = f.length + 1 := by rw [pairL, pairT_len, List.length_replicate]

/-- Our matchings are the specification's. -/
theorem match_same {f : List Nat} (hn : f.length ≤ 7) : polyL f (-1) 0 = pairL f := by
  refine ext_getD (by rw [polyL_len, pairL_len]) fun j hj => ?_
  rw [polyL_len] at hj
  rw [polyL_get (by omega), pairL, pair_get hn 7 _ (full_lt hn) _ _ _ _ (pc_full hn) (Nat.le_refl _) (by simp), rep_getD, Int.zero_add, Int.one_mul]
  unfold rft
  rw [if_pos (by omega)]

section
variable {Y : Run}

theorem dets55 {fr : AV} {f : List Nat} (hF : Fr fr f) {H : Heap} : freeX H (callL ET Y 55 [fr] []) = some (.imm false (((detL f).map wr).map vI) (f.length + 1), H) := by
  have hlen := hF.hv.len
  rw [List.length_map] at hlen
  have n7 := hF.n7
  have h2 : 1 ≤ 2 ^ f.length := Nat.pow_pos (by decide)
  have hR : Rw [⟨0, (List.replicate (f.length + 1) (0 : Int)).map vI⟩] (.sl 0 0 1 0 (f.length + 1) none) 0 (List.replicate (f.length + 1) 0) := by
    have := Rw.fresh [] (f.length + 1); simpa using this
  obtain ⟨H', e1, r1⟩ := det72 (Y := Y) hF f.length _ _ 0 0 0 1 (by omega) (by omega) (Nat.le_refl _) hR (by simp)
  rw [show detP f f.length f.length 0 0 0 1 (List.replicate (f.length + 1) 0) = detL f from rfl] at r1
  have hws : IntKind.wrap .i64 ((f.length : Int) + 1) = ((f.length + 1 : Nat) : Int) := wrap_succ (by omega)
  have hki : (0 : Int) ≤ ((f.length + 1 : Nat) : Int) ∧ ((f.length + 1 : Nat) : Int) * 8 ≤ 140737488355328 ∧ ((f.length + 1 : Nat) : Int) ≤ 9223372036854775807 := by omega
  have hzr := zeros_int (n := f.length + 1)
  have hfin := free_row r1.2
  rw [detL_len] at hfin
  have e01 : vW 1 = vI 1 := by simp [vW, wr, IntKind.wrap_i64]
  rw [e01] at e1
  clear hR r1
  generalize hZ : List.map vI (List.replicate (f.length + 1) (0 : Int)) = Z at *
  have hc : callL ET Y 55 [fr] [] = some (.sl 0 0 1 0 (f.length + 1) none, H') := by
    rw [call55 rfl]
    simp only [vW, wr, SS, insA, wantedA, Opd.ev, putA, binA, eqbA, unA, fldA, partA, reduceIte, reduceCtorEq, Nat.reduceMod, Nat.reduceDiv, Nat.reduceBEq, resultA, resA, vI, Nat.reduceMul, Nat.reduceAdd, Nat.reduceSub, Nat.reduceEqDiff, Nat.reduceLT, Nat.reducePow, Nat.reduceLeDiff, st, Option.bind_eq_bind, Option.pure_def, List.length_nil, Int.cast_ofNat_Int, List.reverse_nil, Int.ofNat_zero] at e1 hzr
    simp only [F55B, SS, insA, wantedA, Opd.ev, putA, binA, eqbA, unA, fldA, partA, reduceIte, reduceCtorEq, Nat.reduceMod, Nat.reduceDiv, Nat.reduceBEq, resultA, resA, vI, Nat.reduceMul, Nat.reduceAdd, Nat.reduceSub, Nat.reduceEqDiff, Nat.reduceLT, Nat.reducePow, Nat.reduceLeDiff, st, Option.bind_eq_bind, Option.pure_def, List.length_nil, Int.cast_ofNat_Int, List.reverse_nil, UU, idxP, cellsAt, storeA, fillA, putAll, optNat, sliceA, row, Int.reduceLT, Int.reduceLE, Int.reduceGT, Int.reduceGE, Int.reduceEq, Int.reduceNe, Int.reduceToNat, Int.reduceBEq, Int.reduceBNe, Nat.reduceLeDiff, Nat.reduceLT, Nat.reduceBNe, Nat.reduceGT, List.drop_nil, List.take_nil, Option.isSome_none, Int.ofNat_one, Int.ofNat_zero, hlen, hws, hki, hzr, Int.toNat_natCast, Int.natCast_nonneg, Nat.mul_one, e1, endX]
  rw [hc, freeX_some, hfin]
  rfl

theorem pairs56 {fr : AV} {f : List Nat} (hF : Fr fr f) {H : Heap} : freeX H (callL ET Y 56 [fr] []) = some (.imm false (((pairL f).map wr).map vI) (f.length + 1), H) := by
  have hlen := hF.hv.len
  rw [List.length_map] at hlen
  have n7 := hF.n7
  have h3 := hF.p7
  have h2 : 1 ≤ 2 ^ f.length := Nat.pow_pos (by decide)
  have hR : Rw [⟨0, (List.replicate (f.length + 1) (0 : Int)).map vI⟩] (.sl 0 0 1 0 (f.length + 1) none) 0 (List.replicate (f.length + 1) 0) := by
    have := Rw.fresh [] (f.length + 1); simpa using this
  obtain ⟨H', e1, r1⟩ := pair73 (Y := Y) hF 7 _ _ (2 ^ f.length - 1) f.length 1 (by omega) (by have := pc_full n7; omega) (pc_full n7) (Nat.le_refl _) hR (by simp)
  rw [show pairT f f.length 7 (2 ^ f.length - 1) f.length 1 (List.replicate (f.length + 1) 0) = pairL f from rfl] at r1
  have hws : IntKind.wrap .i64 ((f.length : Int) + 1) = ((f.length + 1 : Nat) : Int) := wrap_succ (by omega)
  have hki : (0 : Int) ≤ ((f.length + 1 : Nat) : Int) ∧ ((f.length + 1 : Nat) : Int) * 8 ≤ 140737488355328 ∧ ((f.length + 1 : Nat) : Int) ≤ 9223372036854775807 := by omega
  have hzr := zeros_int (n := f.length + 1)
  have hfin := free_row r1.2
  rw [pairL_len] at hfin
  have e01 : vW 1 = vI 1 := by simp [vW, wr, IntKind.wrap_i64]
  rw [e01] at e1
  have hs3 := shl_eq (k := f.length) (by omega)
  rw [Int.toNat_natCast] at hs3
  have hp2 : (0 : Int) ≤ ((f.length : Nat) : Int) := by omega
  have hw : IntKind.wrap .i64 (((2 ^ f.length : Nat) : Int) - 1) = ((2 ^ f.length - 1 : Nat) : Int) := by
    generalize 2 ^ f.length = b at h2 h3
    rw [wrap_id (by omega) (by omega)]; omega
  clear hR r1
  generalize hZ : List.map vI (List.replicate (f.length + 1) (0 : Int)) = Z at *
  have hc : callL ET Y 56 [fr] [] = some (.sl 0 0 1 0 (f.length + 1) none, H') := by
    rw [call56 rfl]
    simp only [vW, wr, SS, insA, wantedA, Opd.ev, putA, binA, eqbA, unA, fldA, partA, reduceIte, reduceCtorEq, Nat.reduceMod, Nat.reduceDiv, Nat.reduceBEq, resultA, resA, vI, Nat.reduceMul, Nat.reduceAdd, Nat.reduceSub, Nat.reduceEqDiff, Nat.reduceLT, Nat.reducePow, Nat.reduceLeDiff, st, Option.bind_eq_bind, Option.pure_def, List.length_nil, Int.cast_ofNat_Int, List.reverse_nil, Int.ofNat_zero] at e1 hzr
    simp only [F56B, SS, insA, wantedA, Opd.ev, putA, binA, eqbA, unA, fldA, partA, reduceIte, reduceCtorEq, Nat.reduceMod, Nat.reduceDiv, Nat.reduceBEq, resultA, resA, vI, Nat.reduceMul, Nat.reduceAdd, Nat.reduceSub, Nat.reduceEqDiff, Nat.reduceLT, Nat.reducePow, Nat.reduceLeDiff, st, Option.bind_eq_bind, Option.pure_def, List.length_nil, Int.cast_ofNat_Int, List.reverse_nil, UU, idxP, cellsAt, storeA, fillA, putAll, optNat, sliceA, row, Int.reduceLT, Int.reduceLE, Int.reduceGT, Int.reduceGE, Int.reduceEq, Int.reduceNe, Int.reduceToNat, Int.reduceBEq, Int.reduceBNe, Nat.reduceLeDiff, Nat.reduceLT, Nat.reduceBNe, Nat.reduceGT, List.drop_nil, List.take_nil, Option.isSome_none, Int.ofNat_one, Int.ofNat_zero, hlen, hws, hki, hzr, hs3, hp2, hw, Int.toNat_natCast, Int.natCast_nonneg, Nat.mul_one, e1, endX]
  rw [hc, freeX_some, hfin]
  rfl

theorem tones28 {v : AV} {l : List Int} (hv : IsRow v l) (hl : l.length ≤ 1000) : ∃ w, (∀ H, freeX H (callL ET Y 28 [v] []) = some (.tup [w, vI (if frameB l = true then 0 else 2)], H)) ∧
    IsFree w (if frameB l = true then (detL (l.map Int.toNat)).map wr else []) := by
  have hr := fun H => frame20 (Y := Y) (H := H) hv hl
  cases hf : frameB l with
  | false =>
    rw [hf] at hr
    refine ⟨.nils, fun H => ?_, .inl ⟨rfl, rfl⟩⟩
    rw [call28 rfl]
    simp only [F28B, SS, insA, wantedA, Opd.ev, putA, binA, eqbA, unA, fldA, partA, reduceIte, reduceCtorEq, Nat.reduceMod, Nat.reduceDiv, Nat.reduceBEq, resultA, resA, vI, Nat.reduceMul, Nat.reduceAdd, Nat.reduceSub, Nat.reduceEqDiff, Nat.reduceLT, Nat.reducePow, Nat.reduceLeDiff, st, Option.bind_eq_bind, Option.pure_def, List.length_nil, Int.cast_ofNat_Int, List.reverse_nil, UU, idxP, cellsAt, storeA, fillA, zerosA, putAll, optNat, sliceA, row, Int.reduceLT, Int.reduceLE, Int.reduceGT, Int.reduceGE, Int.reduceEq, Int.reduceNe, Int.reduceToNat, Int.reduceBEq, Int.reduceBNe, Nat.reduceLeDiff, Nat.reduceLT, Nat.reduceBNe, Nat.reduceGT, List.drop_nil, List.take_nil, Option.isSome_none, Int.ofNat_one, Int.ofNat_zero, hv.snap, hr, Bool.false_eq_true]
  | true =>
    rw [hf] at hr
    obtain ⟨hF, _⟩ := Fr.of hv hf
    have ho := fun H => dets55 (Y := Y) (H := H) hF
    have hfree : IsFree (.imm false (((detL (l.map Int.toNat)).map wr).map vI) ((l.map Int.toNat).length + 1)) ((detL (l.map Int.toNat)).map wr) := .inr (by simp [detL_len])
    refine ⟨_, fun H => ?_, by rw [if_pos rfl]; exact hfree⟩
    generalize AV.imm false (((detL (l.map Int.toNat)).map wr).map vI) ((l.map Int.toNat).length + 1) = pv at *
    rw [call28 rfl]
    simp only [F28B, SS, insA, wantedA, Opd.ev, putA, binA, eqbA, unA, fldA, partA, reduceIte, reduceCtorEq, Nat.reduceMod, Nat.reduceDiv, Nat.reduceBEq, resultA, resA, vI, Nat.reduceMul, Nat.reduceAdd, Nat.reduceSub, Nat.reduceEqDiff, Nat.reduceLT, Nat.reducePow, Nat.reduceLeDiff, st, Option.bind_eq_bind, Option.pure_def, List.length_nil, Int.cast_ofNat_Int, List.reverse_nil, UU, idxP, cellsAt, storeA, fillA, zerosA, putAll, optNat, sliceA, row, Int.reduceLT, Int.reduceLE, Int.reduceGT, Int.reduceGE, Int.reduceEq, Int.reduceNe, Int.reduceToNat, Int.reduceBEq, Int.reduceBNe, Nat.reduceLeDiff, Nat.reduceLT, Nat.reduceBNe, Nat.reduceGT, List.drop_nil, List.take_nil, Option.isSome_none, Int.ofNat_one, Int.ofNat_zero, hv.snap, hr, ho, hfree.free, if_true]

theorem match30 {v : AV} {l : List Int} (hv : IsRow v l) (hl : l.length ≤ 1000) : ∃ w, (∀ H, freeX H (callL ET Y 30 [v] []) = some (.tup [w, vI (if frameB l = true then 0 else 2)], H)) ∧
    IsFree w (if frameB l = true then (pairL (l.map Int.toNat)).map wr else []) := by
  have hr := fun H => frame20 (Y := Y) (H := H) hv hl
  cases hf : frameB l with
  | false =>
    rw [hf] at hr
    refine ⟨.nils, fun H => ?_, .inl ⟨rfl, rfl⟩⟩
    rw [call30 rfl]
    simp only [F30B, SS, insA, wantedA, Opd.ev, putA, binA, eqbA, unA, fldA, partA, reduceIte, reduceCtorEq, Nat.reduceMod, Nat.reduceDiv, Nat.reduceBEq, resultA, resA, vI, Nat.reduceMul, Nat.reduceAdd, Nat.reduceSub, Nat.reduceEqDiff, Nat.reduceLT, Nat.reducePow, Nat.reduceLeDiff, st, Option.bind_eq_bind, Option.pure_def, List.length_nil, Int.cast_ofNat_Int, List.reverse_nil, UU, idxP, cellsAt, storeA, fillA, zerosA, putAll, optNat, sliceA, row, Int.reduceLT, Int.reduceLE, Int.reduceGT, Int.reduceGE, Int.reduceEq, Int.reduceNe, Int.reduceToNat, Int.reduceBEq, Int.reduceBNe, Nat.reduceLeDiff, Nat.reduceLT, Nat.reduceBNe, Nat.reduceGT, List.drop_nil, List.take_nil, Option.isSome_none, Int.ofNat_one, Int.ofNat_zero, hv.snap, hr, Bool.false_eq_true]
  | true =>
    rw [hf] at hr
    obtain ⟨hF, _⟩ := Fr.of hv hf
    have ho := fun H => pairs56 (Y := Y) (H := H) hF
    have hfree : IsFree (.imm false (((pairL (l.map Int.toNat)).map wr).map vI) ((l.map Int.toNat).length + 1)) ((pairL (l.map Int.toNat)).map wr) := .inr (by simp [pairL_len])
    refine ⟨_, fun H => ?_, by rw [if_pos rfl]; exact hfree⟩
    generalize AV.imm false (((pairL (l.map Int.toNat)).map wr).map vI) ((l.map Int.toNat).length + 1) = pv at *
    rw [call30 rfl]
    simp only [F30B, SS, insA, wantedA, Opd.ev, putA, binA, eqbA, unA, fldA, partA, reduceIte, reduceCtorEq, Nat.reduceMod, Nat.reduceDiv, Nat.reduceBEq, resultA, resA, vI, Nat.reduceMul, Nat.reduceAdd, Nat.reduceSub, Nat.reduceEqDiff, Nat.reduceLT, Nat.reducePow, Nat.reduceLeDiff, st, Option.bind_eq_bind, Option.pure_def, List.length_nil, Int.cast_ofNat_Int, List.reverse_nil, UU, idxP, cellsAt, storeA, fillA, zerosA, putAll, optNat, sliceA, row, Int.reduceLT, Int.reduceLE, Int.reduceGT, Int.reduceGE, Int.reduceEq, Int.reduceNe, Int.reduceToNat, Int.reduceBEq, Int.reduceBNe, Nat.reduceLeDiff, Nat.reduceLT, Nat.reduceBNe, Nat.reduceGT, List.drop_nil, List.take_nil, Option.isSome_none, Int.ofNat_one, Int.ofNat_zero, hv.snap, hr, ho, hfree.free, if_true]
end
end Go.X
