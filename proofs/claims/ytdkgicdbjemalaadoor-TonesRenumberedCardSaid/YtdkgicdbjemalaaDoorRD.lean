import Derived.Test.YtdkgicdbjemalaaDoorRC
import Derived.Test.YtdkgicdbjemalaaDoorNK0
/-! Tones: the law Renumbered. -/
set_option linter.unusedSimpArgs false
set_option linter.unusedVariables false
set_option maxHeartbeats 2000000
set_option maxRecDepth 10000
namespace Go.X
open Go Go.RowKit

/-- An order from a place on. -/
def GoodO (n : Nat) (q : List Int) (i met : Nat) : Prop :=
  (∀ j, i ≤ j → j < n → 0 ≤ q.getD j 0 ∧ q.getD j 0 < (n : Int) ∧ met.testBit (q.getD j 0).toNat = false) ∧ ∀ j k, i ≤ j → j < k → k < n → q.getD j 0 ≠ q.getD k 0

theorem GoodO.step {n : Nat} {q : List Int} {i met z : Nat} (hz : q.getD i 0 = (z : Int)) (hzn : z < n) (hm : met.testBit z = false) (h : GoodO n q (i + 1) (met ||| 2 ^ z)) : GoodO n q i met := by
  refine ⟨fun j h1 h2 => ?_, fun j k h1 h2 h3 => ?_⟩
  · rcases Nat.lt_or_ge i j with c | c
    · obtain ⟨a1, a2, a3⟩ := h.1 j (by omega) h2
      rw [Nat.testBit_or] at a3
      exact ⟨a1, a2, (Bool.or_eq_false_iff.1 a3).1⟩
    · have : j = i := by omega
      subst this
      rw [hz]
      exact ⟨by omega, by omega, by rw [Int.toNat_natCast]; exact hm⟩
  · rcases Nat.lt_or_ge i j with c | c
    · exact h.2 j k (by omega) h2 h3
    · have : j = i := by omega
      subst this
      obtain ⟨a1, a2, a3⟩ := h.1 k (by omega) h3
      rw [Nat.testBit_or, Nat.testBit_two_pow] at a3
      intro e
      rw [← e, hz, Int.toNat_natCast] at a3
      simp at a3

section
variable {Y : Run}

theorem L14_0 (hal : ∀ H, freeX H (callL ET Y 17 [] []) = some (.bool true, H)) {v w x2 : AV} {l q : List Int} (hv : IsRow v l) (hw : IsRow w q) (hq : q.length = l.length) (h7 : l.length ≤ 7) {H : Heap} (d : Nat) : ∀ (i met : Nat), i + d = l.length → met < 128 →
    lp ET Y F14L0 (sp 157 [(8, vI i), (7, vI met), (2, x2), (1, w), (0, v)]) H = some (.r, sp 157 [(6, .bool true)], H) ∨
    (lp ET Y F14L0 (sp 157 [(8, vI i), (7, vI met), (2, x2), (1, w), (0, v)]) H = some (.x 0, sp 157 [(2, x2), (1, w), (0, v)], H) ∧ GoodO l.length q i met) := by
  induction d with
  | zero =>
    intro i met hi hm
    right
    refine ⟨?_, fun j h1 h2 => by omega, fun j k h1 h2 h3 => by omega⟩
    rw [un14_0]
    have : ¬ ((i : Int) < (q.length : Int)) := by omega
    simp only [F14L0b, SS, insA, wantedA, Opd.ev, putA, binA, eqbA, unA, fldA, partA, reduceIte, reduceCtorEq, Nat.reduceMod, Nat.reduceDiv, Nat.reduceBEq, resultA, resA, vI, Nat.reduceMul, Nat.reduceAdd, Nat.reduceSub, Nat.reduceEqDiff, Nat.reduceLT, Nat.reducePow, Nat.reduceLeDiff, st, Option.bind_eq_bind, Option.pure_def, List.length_nil, Int.cast_ofNat_Int, List.reverse_nil, UU, idxP, cellsAt, storeA, fillA, zerosA, putAll, optNat, sliceA, row, Int.reduceLT, Int.reduceLE, Int.reduceGT, Int.reduceGE, Int.reduceEq, Int.reduceNe, Int.reduceToNat, Int.reduceBEq, Int.reduceBNe, Nat.reduceLeDiff, Nat.reduceLT, Nat.reduceBNe, Nat.reduceGT, List.drop_nil, List.take_nil, Option.isSome_none, Int.ofNat_one, Int.ofNat_zero, hw.len, this]
  | succ d ih =>
    intro i met hi hm
    have hlt : i < q.length := by omega
    have hc : (i : Int) < (q.length : Int) := by omega
    have hwi := wrap_succ (n := i) (by omega)
    have i1 := hw.idx hlt
    have l1 := hw.load (H := H) hlt
    rw [un14_0]
    by_cases c1 : q.getD i 0 < 0
    · left
      simp only [F14L0b, SS, insA, wantedA, Opd.ev, putA, binA, eqbA, unA, fldA, partA, reduceIte, reduceCtorEq, Nat.reduceMod, Nat.reduceDiv, Nat.reduceBEq, resultA, resA, vI, Nat.reduceMul, Nat.reduceAdd, Nat.reduceSub, Nat.reduceEqDiff, Nat.reduceLT, Nat.reducePow, Nat.reduceLeDiff, st, Option.bind_eq_bind, Option.pure_def, List.length_nil, Int.cast_ofNat_Int, List.reverse_nil, UU, idxP, cellsAt, storeA, fillA, zerosA, putAll, optNat, sliceA, row, Int.reduceLT, Int.reduceLE, Int.reduceGT, Int.reduceGE, Int.reduceEq, Int.reduceNe, Int.reduceToNat, Int.reduceBEq, Int.reduceBNe, Nat.reduceLeDiff, Nat.reduceLT, Nat.reduceBNe, Nat.reduceGT, List.drop_nil, List.take_nil, Option.isSome_none, Int.ofNat_one, Int.ofNat_zero, hw.len, hv.len, hc, i1, l1, c1, hal]
    · obtain ⟨z, hz⟩ : ∃ z : Nat, q.getD i 0 = (z : Int) := ⟨(q.getD i 0).toNat, by omega⟩
      rw [hz] at l1
      have c1 : ¬ ((z : Int) < 0) := by omega
      by_cases c2 : (z : Int) ≥ (l.length : Int)
      · left
        simp only [F14L0b, SS, insA, wantedA, Opd.ev, putA, binA, eqbA, unA, fldA, partA, reduceIte, reduceCtorEq, Nat.reduceMod, Nat.reduceDiv, Nat.reduceBEq, resultA, resA, vI, Nat.reduceMul, Nat.reduceAdd, Nat.reduceSub, Nat.reduceEqDiff, Nat.reduceLT, Nat.reducePow, Nat.reduceLeDiff, st, Option.bind_eq_bind, Option.pure_def, List.length_nil, Int.cast_ofNat_Int, List.reverse_nil, UU, idxP, cellsAt, storeA, fillA, zerosA, putAll, optNat, sliceA, row, Int.reduceLT, Int.reduceLE, Int.reduceGT, Int.reduceGE, Int.reduceEq, Int.reduceNe, Int.reduceToNat, Int.reduceBEq, Int.reduceBNe, Nat.reduceLeDiff, Nat.reduceLT, Nat.reduceBNe, Nat.reduceGT, List.drop_nil, List.take_nil, Option.isSome_none, Int.ofNat_one, Int.ofNat_zero, hw.len, hv.len, hc, i1, l1, c1, c2, hal]
      · have hp2 : (0 : Int) ≤ (z : Int) := by omega
        have hs2 := shr_eq (k := z) (by omega)
        have hs3 := shl_eq (k := z) (by omega)
        have h20 : (2 : Int) ≠ 0 := by decide
        have ht := tmod_emod (sh_nonneg (x := (met : Int)) (by omega) z)
        have q0 := sh_beq met z
        cases hb : met.testBit z with
        | true =>
          left
          rw [hb] at q0
          simp only [F14L0b, SS, insA, wantedA, Opd.ev, putA, binA, eqbA, unA, fldA, partA, reduceIte, reduceCtorEq, Nat.reduceMod, Nat.reduceDiv, Nat.reduceBEq, resultA, resA, vI, Nat.reduceMul, Nat.reduceAdd, Nat.reduceSub, Nat.reduceEqDiff, Nat.reduceLT, Nat.reducePow, Nat.reduceLeDiff, st, Option.bind_eq_bind, Option.pure_def, List.length_nil, Int.cast_ofNat_Int, List.reverse_nil, UU, idxP, cellsAt, storeA, fillA, zerosA, putAll, optNat, sliceA, row, Int.reduceLT, Int.reduceLE, Int.reduceGT, Int.reduceGE, Int.reduceEq, Int.reduceNe, Int.reduceToNat, Int.reduceBEq, Int.reduceBNe, Nat.reduceLeDiff, Nat.reduceLT, Nat.reduceBNe, Nat.reduceGT, List.drop_nil, List.take_nil, Option.isSome_none, Int.ofNat_one, Int.ofNat_zero, hw.len, hv.len, hc, i1, l1, c1, c2, hp2, hs2, h20, ht, q0, hal, ne_eq, not_false_eq_true, and_self]
        | false =>
          rw [hb] at q0
          have hp : (2 : Nat) ^ z < 2 ^ 7 := Nat.pow_lt_pow_right (by decide) (by omega)
          have hadd : IntKind.wrap .i64 ((met : Int) + ((2 ^ z : Nat) : Int)) = ((met ||| 2 ^ z : Nat) : Int) := by
            rw [← add_pow met hm z (by omega) hb]
            clear hs3
            generalize (2 : Nat) ^ z = b at hp ⊢
            rw [wrap_id (by omega) (by omega)]; omega
          rcases ih (i + 1) (met ||| 2 ^ z) (by omega) (Nat.or_lt_two_pow (n := 7) hm hp) with e | ⟨e, g⟩
          · left
            simp only [SS, insA, wantedA, Opd.ev, putA, binA, eqbA, unA, fldA, partA, reduceIte, reduceCtorEq, Nat.reduceMod, Nat.reduceDiv, Nat.reduceBEq, resultA, resA, vI, Nat.reduceMul, Nat.reduceAdd, Nat.reduceSub, Nat.reduceEqDiff, Nat.reduceLT, Nat.reducePow, Nat.reduceLeDiff, st, Option.bind_eq_bind, Option.pure_def, List.length_nil, Int.cast_ofNat_Int, List.reverse_nil] at e
            simp only [F14L0b, SS, insA, wantedA, Opd.ev, putA, binA, eqbA, unA, fldA, partA, reduceIte, reduceCtorEq, Nat.reduceMod, Nat.reduceDiv, Nat.reduceBEq, resultA, resA, vI, Nat.reduceMul, Nat.reduceAdd, Nat.reduceSub, Nat.reduceEqDiff, Nat.reduceLT, Nat.reducePow, Nat.reduceLeDiff, st, Option.bind_eq_bind, Option.pure_def, List.length_nil, Int.cast_ofNat_Int, List.reverse_nil, UU, idxP, cellsAt, storeA, fillA, zerosA, putAll, optNat, sliceA, row, Int.reduceLT, Int.reduceLE, Int.reduceGT, Int.reduceGE, Int.reduceEq, Int.reduceNe, Int.reduceToNat, Int.reduceBEq, Int.reduceBNe, Nat.reduceLeDiff, Nat.reduceLT, Nat.reduceBNe, Nat.reduceGT, List.drop_nil, List.take_nil, Option.isSome_none, Int.ofNat_one, Int.ofNat_zero, hw.len, hv.len, hc, i1, l1, c1, c2, hp2, hs2, hs3, h20, ht, q0, hadd, hwi, e, ne_eq, not_false_eq_true, and_self]
          · right
            refine ⟨?_, g.step hz (by omega) hb⟩
            simp only [SS, insA, wantedA, Opd.ev, putA, binA, eqbA, unA, fldA, partA, reduceIte, reduceCtorEq, Nat.reduceMod, Nat.reduceDiv, Nat.reduceBEq, resultA, resA, vI, Nat.reduceMul, Nat.reduceAdd, Nat.reduceSub, Nat.reduceEqDiff, Nat.reduceLT, Nat.reducePow, Nat.reduceLeDiff, st, Option.bind_eq_bind, Option.pure_def, List.length_nil, Int.cast_ofNat_Int, List.reverse_nil] at e
            simp only [F14L0b, SS, insA, wantedA, Opd.ev, putA, binA, eqbA, unA, fldA, partA, reduceIte, reduceCtorEq, Nat.reduceMod, Nat.reduceDiv, Nat.reduceBEq, resultA, resA, vI, Nat.reduceMul, Nat.reduceAdd, Nat.reduceSub, Nat.reduceEqDiff, Nat.reduceLT, Nat.reducePow, Nat.reduceLeDiff, st, Option.bind_eq_bind, Option.pure_def, List.length_nil, Int.cast_ofNat_Int, List.reverse_nil, UU, idxP, cellsAt, storeA, fillA, zerosA, putAll, optNat, sliceA, row, Int.reduceLT, Int.reduceLE, Int.reduceGT, Int.reduceGE, Int.reduceEq, Int.reduceNe, Int.reduceToNat, Int.reduceBEq, Int.reduceBNe, Nat.reduceLeDiff, Nat.reduceLT, Nat.reduceBNe, Nat.reduceGT, List.drop_nil, List.take_nil, Option.isSome_none, Int.ofNat_one, Int.ofNat_zero, hw.len, hv.len, hc, i1, l1, c1, c2, hp2, hs2, hs3, h20, ht, q0, hadd, hwi, e, ne_eq, not_false_eq_true, and_self]

theorem wr_addr (a z : Int) : wr (wr a + z) = wr (a + z) := by
  simp only [wr, IntKind.wrap_i64]; omega

theorem natL_len {l : List Nat} : (l.map fun n : Nat => (n : Int)).length = l.length := List.length_map _
theorem natL_set {l : List Nat} {i x : Nat} : (l.map fun n : Nat => (n : Int)).set i (x : Int) = (l.set i x).map fun n : Nat => (n : Int) := by rw [List.map_set]

theorem L14_1 {fr w nv x2 : AV} {f o : List Nat} {p i : Nat} (hF : Fr fr f) (hw : IsRow w (o.map fun n : Nat => (n : Int))) (hl : o.length = f.length) (ho : ∀ j, j < f.length → o.getD j 0 < f.length) (hi : i < f.length) (d : Nat) :
    ∀ {H : Heap} {kk : List Nat} (j : Nat), j + d = f.length → kk.length = f.length → Rw H nv p (kk.map fun n : Nat => (n : Int)) →
    ∃ H', lp ET Y F14L1 (sp 157 [(11, vI j), (10, vI i), (9, nv), (2, x2), (1, w), (0, fr)]) H = some (.x 4, sp 157 [(10, vI i), (9, nv), (2, x2), (1, w), (0, fr)], H') ∧
      Rw H' nv p ((kk.set (o.getD i 0) (rnJ (f.getD i 0) o (List.range' j d) (kk.getD (o.getD i 0) 0))).map fun n : Nat => (n : Int)) := by
  have hn7 := hF.n7
  have hflen := hF.hv.len
  rw [List.length_map] at hflen
  induction d with
  | zero =>
    intro H kk j hj hk h
    refine ⟨H, ?_, ?_⟩
    · rw [un14_1]
      have : ¬ ((j : Int) < (f.length : Int)) := by omega
      simp only [F14L1b, SS, insA, wantedA, Opd.ev, putA, binA, eqbA, unA, fldA, partA, reduceIte, reduceCtorEq, Nat.reduceMod, Nat.reduceDiv, Nat.reduceBEq, resultA, resA, vI, Nat.reduceMul, Nat.reduceAdd, Nat.reduceSub, Nat.reduceEqDiff, Nat.reduceLT, Nat.reducePow, Nat.reduceLeDiff, st, Option.bind_eq_bind, Option.pure_def, List.length_nil, Int.cast_ofNat_Int, List.reverse_nil, UU, idxP, cellsAt, storeA, fillA, zerosA, putAll, optNat, sliceA, row, Int.reduceLT, Int.reduceLE, Int.reduceGT, Int.reduceGE, Int.reduceEq, Int.reduceNe, Int.reduceToNat, Int.reduceBEq, Int.reduceBNe, Nat.reduceLeDiff, Nat.reduceLT, Nat.reduceBNe, Nat.reduceGT, List.drop_nil, List.take_nil, Option.isSome_none, Int.ofNat_one, Int.ofNat_zero, hflen, this]
    · have : kk.set (o.getD i 0) (rnJ (f.getD i 0) o (List.range' j 0) (kk.getD (o.getD i 0) 0)) = kk := by
        apply List.ext_getElem?
        intro c
        rw [List.getElem?_set]
        split
        · rename_i e
          subst e
          have := ho i hi
          rw [if_pos (by omega), List.range'_zero]
          simp only [rnJ, List.foldl_nil, List.getD_eq_getElem?_getD, List.getElem?_eq_getElem (show o[i]?.getD 0 < kk.length by rw [← List.getD_eq_getElem?_getD]; omega), Option.getD_some]
        · rfl
      rw [this]; exact h
  | succ d ih =>
    intro H kk j hj hk h
    have hj1 : j < f.length := by omega
    have hc : (j : Int) < (f.length : Int) := by omega
    have hwj := wrap_succ (n := j) (by omega)
    have oi := ho i hi
    have oj := ho j hj1
    have hp2 : (0 : Int) ≤ (j : Int) := by omega
    have hs2 := shr_eq (k := j) (by omega)
    have h20 : (2 : Int) ≠ 0 := by decide
    have hip := hF.hv.idx (i := i) (by simpa using hi)
    have hlp := fun H => hF.hv.load (H := H) (i := i) (by simpa using hi)
    rw [getD_nat hi] at hlp
    have a1 := hw.idx (i := i) (by rw [natL_len]; omega)
    have a2 := fun H => hw.load (H := H) (i := i) (by rw [natL_len]; omega)
    rw [getD_nat (by omega)] at a2
    have b1 := hw.idx (i := j) (by rw [natL_len]; omega)
    have b2 := fun H => hw.load (H := H) (i := j) (by rw [natL_len]; omega)
    rw [getD_nat (by omega)] at b2
    have i2 := h.gro.idx (i := o.getD i 0) (by rw [natL_len]; omega)
    have l2 := h.gro.load (i := o.getD i 0) (by rw [natL_len]; omega)
    rw [getD_wr (by rw [natL_len]; omega), getD_nat (by omega)] at l2
    have ht := tmod_emod (sh_nonneg (x := ((f.getD i 0 : Nat) : Int)) (by omega) j)
    have e1 : sh ((f.getD i 0 : Nat) : Int) j % 2 = ((if (f.getD i 0).testBit j then 1 else 0 : Nat) : Int) := by rw [sh_bit]; split <;> rfl
    have hb1 : (if (f.getD i 0).testBit j then 1 else 0 : Nat) ≤ 1 := by split <;> omega
    have hsh := shl_bit (b := if (f.getD i 0).testBit j then 1 else 0) (k := o.getD j 0) hb1 (by omega)
    have hp3 : (0 : Int) ≤ ((o.getD j 0 : Nat) : Int) := by omega
    have e2 : rnJ (f.getD i 0) o (List.range' j (d + 1)) (kk.getD (o.getD i 0) 0) = rnJ (f.getD i 0) o (List.range' (j + 1) d) (kk.getD (o.getD i 0) 0 + (if (f.getD i 0).testBit j then 1 else 0) * 2 ^ o.getD j 0) := by
      rw [List.range'_succ]; rfl
    have hadd := wr_addr ((kk.getD (o.getD i 0) 0 : Nat) : Int) (((if (f.getD i 0).testBit j then 1 else 0) * 2 ^ o.getD j 0 : Nat) : Int)
    rw [← Int.natCast_add] at hadd
    rw [e2]
    generalize (if (f.getD i 0).testBit j then 1 else 0 : Nat) * 2 ^ o.getD j 0 = zz at *
    obtain ⟨H1, s1, r1, _, _⟩ := h.st (i := o.getD i 0) (by rw [natL_len]; omega) ((kk.getD (o.getD i 0) 0 + zz : Nat) : Int)
    rw [natL_set] at r1
    obtain ⟨H', e3, r3⟩ := ih (j + 1) (by omega) (by simpa using hk) r1
    refine ⟨H', ?_, ?_⟩
    · rw [un14_1]
      generalize (if (f.getD i 0).testBit j then 1 else 0 : Nat) = bb at *
      simp only [vW, wr, SS, insA, wantedA, Opd.ev, putA, binA, eqbA, unA, fldA, partA, reduceIte, reduceCtorEq, Nat.reduceMod, Nat.reduceDiv, Nat.reduceBEq, resultA, resA, vI, Nat.reduceMul, Nat.reduceAdd, Nat.reduceSub, Nat.reduceEqDiff, Nat.reduceLT, Nat.reducePow, Nat.reduceLeDiff, st, Option.bind_eq_bind, Option.pure_def, List.length_nil, Int.cast_ofNat_Int, List.reverse_nil] at e3 s1 l2 hadd
      simp only [F14L1b, SS, insA, wantedA, Opd.ev, putA, binA, eqbA, unA, fldA, partA, reduceIte, reduceCtorEq, Nat.reduceMod, Nat.reduceDiv, Nat.reduceBEq, resultA, resA, vI, Nat.reduceMul, Nat.reduceAdd, Nat.reduceSub, Nat.reduceEqDiff, Nat.reduceLT, Nat.reducePow, Nat.reduceLeDiff, st, Option.bind_eq_bind, Option.pure_def, List.length_nil, Int.cast_ofNat_Int, List.reverse_nil, UU, idxP, cellsAt, fillA, zerosA, putAll, row, Int.reduceLT, Int.reduceLE, Int.reduceGT, Int.reduceGE, Int.reduceEq, Int.reduceNe, Int.reduceToNat, Int.reduceBEq, Int.reduceBNe, Nat.reduceLeDiff, Nat.reduceLT, Nat.reduceBNe, Nat.reduceGT, List.drop_nil, List.take_nil, Option.isSome_none, Int.ofNat_one, Int.ofNat_zero, hflen, hc, hwj, hip, hlp, a1, a2, b1, b2, i2, l2, hp2, hp3, hs2, h20, ht, e1, hsh, hadd, s1, e3, vW, ne_eq, not_false_eq_true, and_self]
    · have hg : (kk.set (o.getD i 0) (kk.getD (o.getD i 0) 0 + zz)).getD (o.getD i 0) 0 = kk.getD (o.getD i 0) 0 + zz := by
        rw [List.getD_eq_getElem?_getD (l := kk.set _ _), List.getElem?_set_self (by omega)]; rfl
      rw [hg, List.set_set] at r3
      exact r3

theorem L14_2 {fr w nv x2 : AV} {f o : List Nat} {p : Nat} (hF : Fr fr f) (hw : IsRow w (o.map fun n : Nat => (n : Int))) (hl : o.length = f.length) (ho : ∀ j, j < f.length → o.getD j 0 < f.length) (d : Nat) :
    ∀ {H : Heap} {kk : List Nat} (i : Nat), i + d = f.length → kk.length = f.length → Rw H nv p (kk.map fun n : Nat => (n : Int)) →
    ∃ H', lp ET Y F14L2 (sp 157 [(10, vI i), (9, nv), (2, x2), (1, w), (0, fr)]) H = some (.x 2, sp 157 [(9, nv), (2, x2), (0, fr)], H') ∧ Rw H' nv p ((rnI f o f.length (List.range' i d) kk).map fun n : Nat => (n : Int)) := by
  have hn7 := hF.n7
  have hflen := hF.hv.len
  rw [List.length_map] at hflen
  induction d with
  | zero =>
    intro H kk i hi hk h
    refine ⟨H, ?_, h⟩
    rw [un14_2]
    have : ¬ ((i : Int) < (f.length : Int)) := by omega
    simp only [F14L2b, SS, insA, wantedA, Opd.ev, putA, binA, eqbA, unA, fldA, partA, reduceIte, reduceCtorEq, Nat.reduceMod, Nat.reduceDiv, Nat.reduceBEq, resultA, resA, vI, Nat.reduceMul, Nat.reduceAdd, Nat.reduceSub, Nat.reduceEqDiff, Nat.reduceLT, Nat.reducePow, Nat.reduceLeDiff, st, Option.bind_eq_bind, Option.pure_def, List.length_nil, Int.cast_ofNat_Int, List.reverse_nil, UU, idxP, cellsAt, storeA, fillA, zerosA, putAll, optNat, sliceA, row, Int.reduceLT, Int.reduceLE, Int.reduceGT, Int.reduceGE, Int.reduceEq, Int.reduceNe, Int.reduceToNat, Int.reduceBEq, Int.reduceBNe, Nat.reduceLeDiff, Nat.reduceLT, Nat.reduceBNe, Nat.reduceGT, List.drop_nil, List.take_nil, Option.isSome_none, Int.ofNat_one, Int.ofNat_zero, hflen, this]
  | succ d ih =>
    intro H kk i hi hk h
    have hc : (i : Int) < (f.length : Int) := by omega
    have hwi := wrap_succ (n := i) (by omega)
    obtain ⟨H1, e1, r1⟩ := L14_1 (Y := Y) (x2 := x2) hF hw hl ho (by omega : i < f.length) f.length 0 (by omega) hk h
    rw [← List.range_eq_range'] at r1
    obtain ⟨H', e2, r2⟩ := ih (i + 1) (by omega) (by simpa using hk) r1
    refine ⟨H', ?_, by rw [List.range'_succ]; exact r2⟩
    rw [un14_2]
    simp only [SS, insA, wantedA, Opd.ev, putA, binA, eqbA, unA, fldA, partA, reduceIte, reduceCtorEq, Nat.reduceMod, Nat.reduceDiv, Nat.reduceBEq, resultA, resA, vI, Nat.reduceMul, Nat.reduceAdd, Nat.reduceSub, Nat.reduceEqDiff, Nat.reduceLT, Nat.reducePow, Nat.reduceLeDiff, st, Option.bind_eq_bind, Option.pure_def, List.length_nil, Int.cast_ofNat_Int, List.reverse_nil, Int.ofNat_zero] at e1 e2
    simp only [F14L2b, F14T0, in14_1, SS, insA, wantedA, Opd.ev, putA, binA, eqbA, unA, fldA, partA, reduceIte, reduceCtorEq, Nat.reduceMod, Nat.reduceDiv, Nat.reduceBEq, resultA, resA, vI, Nat.reduceMul, Nat.reduceAdd, Nat.reduceSub, Nat.reduceEqDiff, Nat.reduceLT, Nat.reducePow, Nat.reduceLeDiff, st, Option.bind_eq_bind, Option.pure_def, List.length_nil, Int.cast_ofNat_Int, List.reverse_nil, UU, idxP, cellsAt, storeA, fillA, zerosA, putAll, optNat, sliceA, row, Int.reduceLT, Int.reduceLE, Int.reduceGT, Int.reduceGE, Int.reduceEq, Int.reduceNe, Int.reduceToNat, Int.reduceBEq, Int.reduceBNe, Nat.reduceLeDiff, Nat.reduceLT, Nat.reduceBNe, Nat.reduceGT, List.drop_nil, List.take_nil, Option.isSome_none, Int.ofNat_one, Int.ofNat_zero, hflen, hc, hwi, e1, e2]

theorem u8_mod17 {x : Int} (hx : 0 ≤ x ∧ x < 256) : x.tmod 17 = ((x.toNat % 17 : Nat) : Int) := by
  obtain ⟨X, hX⟩ : ∃ X : Nat, x = X := ⟨x.toNat, by omega⟩
  subst hX
  rw [Int.tmod_eq_emod_of_nonneg hx.1]
  simp

theorem law14 (hY : ∀ args H, Y 97 args H = yA 97 args H) {v w : AV} {l q : List Int} (hv : IsRow v l) (hw : IsRow w q) {x : Int} (hx : 0 ≤ x ∧ x < 256) : freeX [] (callL ET Y 14 [v, w, .int .u8 x] []) = some (.bool true, []) := by
  have hal := fun H => alive17 (Y := Y) (H := H) hY
  have hfew := fun H => few16 (Y := Y) (H := H) hv hw
  rw [call14 rfl]
  by_cases h40 : l.length ≤ 40 ∧ q.length ≤ 40
  · simp only [h40.1, h40.2, decide_true, Bool.and_true] at hfew
    have hfr := fun H => frame20 (Y := Y) (H := H) hv (by omega)
    cases hf : frameB l with
    | false =>
      rw [hf] at hfr
      simp only [F14B, SS, insA, wantedA, Opd.ev, putA, binA, eqbA, unA, fldA, partA, reduceIte, reduceCtorEq, Nat.reduceMod, Nat.reduceDiv, Nat.reduceBEq, resultA, resA, vI, Nat.reduceMul, Nat.reduceAdd, Nat.reduceSub, Nat.reduceEqDiff, Nat.reduceLT, Nat.reducePow, Nat.reduceLeDiff, st, Option.bind_eq_bind, Option.pure_def, List.length_nil, Int.cast_ofNat_Int, List.reverse_nil, UU, idxP, cellsAt, storeA, fillA, zerosA, putAll, optNat, sliceA, row, Int.reduceLT, Int.reduceLE, Int.reduceGT, Int.reduceGE, Int.reduceEq, Int.reduceNe, Int.reduceToNat, Int.reduceBEq, Int.reduceBNe, Nat.reduceLeDiff, Nat.reduceLT, Nat.reduceBNe, Nat.reduceGT, List.drop_nil, List.take_nil, Option.isSome_none, Int.ofNat_one, Int.ofNat_zero, hv.snap, hw.snap, hfew, hfr, hal]
    | true =>
      rw [hf] at hfr
      have hn := frame_n hf
      by_cases hq : q.length = l.length
      · have c1 : ((q.length : Int) != (l.length : Int)) = false := by rw [hq]; simp
        rcases L14_0 (Y := Y) hal (x2 := .int .u8 x) (H := []) hv hw hq hn.2 l.length 0 0 (by omega) (by omega) with e | ⟨e, g⟩
        · simp only [SS, insA, wantedA, Opd.ev, putA, binA, eqbA, unA, fldA, partA, reduceIte, reduceCtorEq, Nat.reduceMod, Nat.reduceDiv, Nat.reduceBEq, resultA, resA, vI, Nat.reduceMul, Nat.reduceAdd, Nat.reduceSub, Nat.reduceEqDiff, Nat.reduceLT, Nat.reducePow, Nat.reduceLeDiff, st, Option.bind_eq_bind, Option.pure_def, List.length_nil, Int.cast_ofNat_Int, List.reverse_nil, Int.ofNat_zero] at e
          simp only [F14B, in14_0, SS, insA, wantedA, Opd.ev, putA, binA, eqbA, unA, fldA, partA, reduceIte, reduceCtorEq, Nat.reduceMod, Nat.reduceDiv, Nat.reduceBEq, resultA, resA, vI, Nat.reduceMul, Nat.reduceAdd, Nat.reduceSub, Nat.reduceEqDiff, Nat.reduceLT, Nat.reducePow, Nat.reduceLeDiff, st, Option.bind_eq_bind, Option.pure_def, List.length_nil, Int.cast_ofNat_Int, List.reverse_nil, UU, idxP, cellsAt, storeA, fillA, zerosA, putAll, optNat, sliceA, row, Int.reduceLT, Int.reduceLE, Int.reduceGT, Int.reduceGE, Int.reduceEq, Int.reduceNe, Int.reduceToNat, Int.reduceBEq, Int.reduceBNe, Nat.reduceLeDiff, Nat.reduceLT, Nat.reduceBNe, Nat.reduceGT, List.drop_nil, List.take_nil, Option.isSome_none, Int.ofNat_one, Int.ofNat_zero, hv.snap, hw.snap, hfew, hfr, hv.len, hw.len, c1, e]
        · obtain ⟨hF, he⟩ := Fr.of hv hf
          have hf2 := hf
          rw [he] at hf2
          have hlen : (l.map Int.toNat).length = l.length := by simp
          obtain ⟨o, hoq⟩ : ∃ o : List Nat, q = o.map fun n : Nat => (n : Int) := by
            refine ⟨q.map Int.toNat, ?_⟩
            rw [List.map_map]
            apply List.ext_getElem?
            intro j
            rw [List.getElem?_map]
            by_cases hj : j < q.length
            · have := (g.1 j (by omega) (by omega)).1
              rw [List.getD_eq_getElem?_getD, List.getElem?_eq_getElem hj, Option.getD_some] at this
              rw [List.getElem?_eq_getElem hj, Option.map_some]
              congr 1
              simp only [Function.comp]
              omega
            · rw [List.getElem?_eq_none (by omega)]; rfl
          subst hoq
          have hol : o.length = (l.map Int.toNat).length := by rw [hlen, ← hq]; simp
          have ho : ∀ j, j < (l.map Int.toNat).length → o.getD j 0 < (l.map Int.toNat).length := fun j hj => by
            have := (g.1 j (by omega) (by omega)).2.1
            rw [getD_nat (by omega)] at this
            omega
          have hd : ∀ i k, i < k → k < (l.map Int.toNat).length → o.getD i 0 ≠ o.getD k 0 := fun i k h1 h2 h3 => by
            have := g.2 i k (by omega) h1 (by omega)
            rw [getD_nat (by omega), getD_nat (by omega), h3] at this
            exact this rfl
          have hki : (0 : Int) ≤ (l.length : Int) ∧ (l.length : Int) * 8 ≤ 140737488355328 ∧ (l.length : Int) ≤ 9223372036854775807 := by omega
          have hzr := zeros_int (n := l.length)
          have hrw := Rw.fresh [] l.length
          have h00 : (List.replicate l.length (0 : Int)) = (List.replicate l.length 0).map fun n : Nat => (n : Int) := by simp
          have hrw2 : Rw ([] ++ [⟨0, (List.replicate l.length (0 : Int)).map vI⟩]) (.sl (List.length ([] : Heap)) 0 1 0 l.length none) (List.length ([] : Heap)) ((List.replicate l.length 0).map fun n : Nat => (n : Int)) := by
            rw [← h00]; exact hrw
          obtain ⟨H1, e1, r1⟩ := L14_2 (Y := Y) (x2 := .int .u8 x) hF hw hol ho l.length 0 (by omega) (by simp) hrw2
          have e3 : rnI (l.map Int.toNat) o (l.map Int.toNat).length (List.range' 0 l.length) (List.replicate l.length 0) = rnF (l.map Int.toNat) o := by
            unfold rnF; rw [hlen, List.range_eq_range']
          rw [e3] at r1
          have hK := rnF_frame (by omega) hol ho hd hf2
          have hlt := fun c hc => rnF_lt (f := l.map Int.toNat) (o := o) (by omega) hol ho hd (c := c) hc
          obtain ⟨t1, n9, t2⟩ := r1.gro.snapRow (d := 4)
          have hwr : ((rnF (l.map Int.toNat) o).map fun n : Nat => (n : Int)).map wr = (rnF (l.map Int.toNat) o).map fun n : Nat => (n : Int) := by
            rw [List.map_map]
            refine List.map_congr_left fun a ha => ?_
            obtain ⟨i, hi, rfl⟩ := mem_getD ha
            rw [rnF_len] at hi
            have h1 := hlt i hi
            have h2 : 2 ^ (l.map Int.toNat).length ≤ 2 ^ 7 := Nat.pow_le_pow_right (by decide) (by omega)
            show wr (((rnF (l.map Int.toNat) o).getD i 0 : Nat) : Int) = (((rnF (l.map Int.toNat) o).getD i 0 : Nat) : Int)
            generalize (rnF (l.map Int.toNat) o).getD i 0 = a at *
            exact wrap_id (by omega) (by omega)
          rw [hwr] at t2
          have hkl : ((rnF (l.map Int.toNat) o).map fun n : Nat => (n : Int)).length = l.length := by rw [List.length_map, rnF_len, hlen]
          have hsame := rnF_same (by omega) hol ho hd hf2
          have al := fun H => alike18 (Y := Y) (H := H) hv t2 (by omega) (by omega)
          have hkn : ((rnF (l.map Int.toNat) o).map fun n : Nat => (n : Int)).map Int.toNat = rnF (l.map Int.toNat) o := by
            rw [List.map_map]
            exact (List.map_congr_left fun a _ => Int.toNat_natCast a).trans (List.map_id _)
          rw [hkn, ← hsame.1, ← hsame.2.1] at al
          simp only [hf, hK, and_self, if_true, decide_true] at al
          have hs16 : x.toNat % 17 ≤ 16 := by omega
          have hmx := u8_mod17 hx
          have hcx : IntKind.wrap .i64 x = x := wrap_id (by omega) (by omega)
          have k1 := fun H => walks44 (Y := Y) (H := H) hv hf hs16
          have k2 := fun H => walks44 (Y := Y) (H := H) t2 hK hs16
          rw [hkn, hkl] at k2
          have ew := hsame.2.2 (x.toNat % 17)
          rw [hlen] at ew
          rw [← ew] at k2
          have q2 : ∀ x : Int, (x == x) = true := fun x => by simp
          have h17 : (17 : Int) ≠ 0 := by decide
          generalize x.toNat % 17 = s at *
          generalize wkA (l.map Int.toNat) l.length s = wk at *
          clear hrw hrw2 h00 r1 t2 hsame ew
          generalize hZ : List.map vI (List.replicate l.length (0 : Int)) = Z at *
          simp only [SS, insA, wantedA, Opd.ev, putA, binA, eqbA, unA, fldA, partA, reduceIte, reduceCtorEq, Nat.reduceMod, Nat.reduceDiv, Nat.reduceBEq, resultA, resA, vI, Nat.reduceMul, Nat.reduceAdd, Nat.reduceSub, Nat.reduceEqDiff, Nat.reduceLT, Nat.reducePow, Nat.reduceLeDiff, st, Option.bind_eq_bind, Option.pure_def, List.length_nil, Int.cast_ofNat_Int, List.reverse_nil, Int.ofNat_zero, List.length_nil, List.nil_append] at e e1 hzr n9
          simp only [F14B, F14T2, F14T1, in14_0, in14_2, SS, insA, wantedA, Opd.ev, putA, binA, eqbA, unA, fldA, partA, reduceIte, reduceCtorEq, Nat.reduceMod, Nat.reduceDiv, Nat.reduceBEq, resultA, resA, vI, Nat.reduceMul, Nat.reduceAdd, Nat.reduceSub, Nat.reduceEqDiff, Nat.reduceLT, Nat.reducePow, Nat.reduceLeDiff, st, Option.bind_eq_bind, Option.pure_def, List.length_nil, Int.cast_ofNat_Int, List.reverse_nil, UU, idxP, cellsAt, storeA, fillA, putAll, optNat, sliceA, row, Int.reduceLT, Int.reduceLE, Int.reduceGT, Int.reduceGE, Int.reduceEq, Int.reduceNe, Int.reduceToNat, Int.reduceBEq, Int.reduceBNe, Nat.reduceLeDiff, Nat.reduceLT, Nat.reduceBNe, Nat.reduceGT, List.drop_nil, List.take_nil, Option.isSome_none, Int.ofNat_one, Int.ofNat_zero, hv.snap, hw.snap, hfew, hfr, hv.len, hw.len, c1, e, hki, hzr, Int.toNat_natCast, Int.natCast_nonneg, Nat.mul_one, e1, n9, hcx, h17, hmx, al, k1, k2, q2, hal, ne_eq, not_false_eq_true, and_self]
      · have c1 : ((q.length : Int) != (l.length : Int)) = true := by simp; omega
        simp only [F14B, SS, insA, wantedA, Opd.ev, putA, binA, eqbA, unA, fldA, partA, reduceIte, reduceCtorEq, Nat.reduceMod, Nat.reduceDiv, Nat.reduceBEq, resultA, resA, vI, Nat.reduceMul, Nat.reduceAdd, Nat.reduceSub, Nat.reduceEqDiff, Nat.reduceLT, Nat.reducePow, Nat.reduceLeDiff, st, Option.bind_eq_bind, Option.pure_def, List.length_nil, Int.cast_ofNat_Int, List.reverse_nil, UU, idxP, cellsAt, storeA, fillA, zerosA, putAll, optNat, sliceA, row, Int.reduceLT, Int.reduceLE, Int.reduceGT, Int.reduceGE, Int.reduceEq, Int.reduceNe, Int.reduceToNat, Int.reduceBEq, Int.reduceBNe, Nat.reduceLeDiff, Nat.reduceLT, Nat.reduceBNe, Nat.reduceGT, List.drop_nil, List.take_nil, Option.isSome_none, Int.ofNat_one, Int.ofNat_zero, hv.snap, hw.snap, hfew, hfr, hv.len, hw.len, c1, hal]
  · have : (decide (l.length ≤ 40) && decide (q.length ≤ 40)) = false := by
      rw [Bool.and_eq_false_iff, decide_eq_false_iff_not, decide_eq_false_iff_not]; omega
    simp only [this] at hfew
    simp only [F14B, SS, insA, wantedA, Opd.ev, putA, binA, eqbA, unA, fldA, partA, reduceIte, reduceCtorEq, Nat.reduceMod, Nat.reduceDiv, Nat.reduceBEq, resultA, resA, vI, Nat.reduceMul, Nat.reduceAdd, Nat.reduceSub, Nat.reduceEqDiff, Nat.reduceLT, Nat.reducePow, Nat.reduceLeDiff, st, Option.bind_eq_bind, Option.pure_def, List.length_nil, Int.cast_ofNat_Int, List.reverse_nil, UU, idxP, cellsAt, storeA, fillA, zerosA, putAll, optNat, sliceA, row, Int.reduceLT, Int.reduceLE, Int.reduceGT, Int.reduceGE, Int.reduceEq, Int.reduceNe, Int.reduceToNat, Int.reduceBEq, Int.reduceBNe, Nat.reduceLeDiff, Nat.reduceLT, Nat.reduceBNe, Nat.reduceGT, List.drop_nil, List.take_nil, Option.isSome_none, Int.ofNat_one, Int.ofNat_zero, hv.snap, hw.snap, hfew, hal]
end
end Go.X
