import Derived.Test.YtppekkocioidkaaJC
import Derived.Test.YtppekkocioidkaaJY
/-! The library's sort of a short list: some order of it. -/
set_option linter.unusedSimpArgs false
set_option linter.unusedVariables false
set_option maxHeartbeats 2000000
set_option maxRecDepth 10000
namespace Go.X
open Go Go.RowKit

section
variable {Y : Run} {H : Heap}

theorem less30 {a b : Int} : freeX H (callL EJ Y 30 [vI a, vI b] []) = some (.bool (decide (a < b)), H) := by
  have h40 : ∀ (H : Heap) (x : Int), freeX H (callL EJ Y 40 [vI x] []) = some (.bool false, H) := fun H x => by
    have hx : (x != x) = false := by simp
    rw [call40 rfl]
    simp only [F40B, SS, insA, wantedA, Opd.ev, putA, binA, eqbA, unA, fldA, partA, reduceIte, reduceCtorEq, Nat.reduceMod, Nat.reduceDiv, Nat.reduceBEq, resultA, resA, vI, Nat.reduceMul, Nat.reduceAdd, Nat.reduceSub, Nat.reduceEqDiff, Nat.reduceLT, Nat.reducePow, Nat.reduceLeDiff, st, Option.bind_eq_bind, Option.pure_def, List.length_nil, Int.cast_ofNat_Int, List.reverse_nil, UU, idxP, cellsAt, storeA, fillA, zerosA, putAll, optNat, sliceA, row, Int.reduceLT, Int.reduceLE, Int.reduceGT, Int.reduceGE, Int.reduceEq, Int.reduceNe, Int.reduceToNat, Int.reduceBEq, Int.reduceBNe, Nat.reduceLeDiff, Nat.reduceLT, Nat.reduceBNe, Nat.reduceGT, List.drop_nil, List.take_nil, Option.isSome_none, Int.ofNat_one, Int.ofNat_zero, hx]
  rw [call30 rfl]
  have h1 := h40 [] a
  simp only [vI] at h1
  simp only [F30B, SS, insA, wantedA, Opd.ev, putA, binA, eqbA, unA, fldA, partA, reduceIte, reduceCtorEq, Nat.reduceMod, Nat.reduceDiv, Nat.reduceBEq, resultA, resA, vI, Nat.reduceMul, Nat.reduceAdd, Nat.reduceSub, Nat.reduceEqDiff, Nat.reduceLT, Nat.reducePow, Nat.reduceLeDiff, st, Option.bind_eq_bind, Option.pure_def, List.length_nil, Int.cast_ofNat_Int, List.reverse_nil, UU, idxP, cellsAt, storeA, fillA, zerosA, putAll, optNat, sliceA, row, Int.reduceLT, Int.reduceLE, Int.reduceGT, Int.reduceGE, Int.reduceEq, Int.reduceNe, Int.reduceToNat, Int.reduceBEq, Int.reduceBNe, Nat.reduceLeDiff, Nat.reduceLT, Nat.reduceBNe, Nat.reduceGT, List.drop_nil, List.take_nil, Option.isSome_none, Int.ofNat_one, Int.ofNat_zero, h1]

theorem L24_0 {v : AV} {i n : Nat} : ∀ (j : Nat) {l : List Int} {H : Heap}, Gro 0 1 H v l.length (l.map vI) → j < l.length → l.length ≤ 1000 →
    ∃ (H' : Heap) (l' : List Int), l'.Perm l ∧ Gro 0 1 H' v l'.length (l'.map vI) ∧ lp EJ Y F24L0 (sp 49 [(7, vI j), (6, vI i), (2, vI n), (1, vI 0), (0, v)]) H = some (.x 2, sp 49 [(6, vI i), (2, vI n), (1, vI 0), (0, v)], H') := by
  intro j
  induction j with
  | zero =>
    intro l H hg hj hl
    refine ⟨H, l, .refl _, hg, ?_⟩
    rw [un24_0]
    have : ¬ (((0 : Nat) : Int) > 0) := by omega
    simp only [Int.ofNat_zero] at this
    simp only [F24L0b, SS, insA, wantedA, Opd.ev, putA, binA, eqbA, unA, fldA, partA, reduceIte, reduceCtorEq, Nat.reduceMod, Nat.reduceDiv, Nat.reduceBEq, resultA, resA, vI, Nat.reduceMul, Nat.reduceAdd, Nat.reduceSub, Nat.reduceEqDiff, Nat.reduceLT, Nat.reducePow, Nat.reduceLeDiff, st, Option.bind_eq_bind, Option.pure_def, List.length_nil, Int.cast_ofNat_Int, List.reverse_nil, UU, idxP, cellsAt, storeA, fillA, zerosA, putAll, optNat, sliceA, row, Int.reduceLT, Int.reduceLE, Int.reduceGT, Int.reduceGE, Int.reduceEq, Int.reduceNe, Int.reduceToNat, Int.reduceBEq, Int.reduceBNe, Nat.reduceLeDiff, Nat.reduceLT, Nat.reduceBNe, Nat.reduceGT, List.drop_nil, List.take_nil, Option.isSome_none, Int.ofNat_one, Int.ofNat_zero, this]
  | succ j ih =>
    intro l H hg hj hl
    have hc : ((j + 1 : Nat) : Int) > 0 := by omega
    have hw : IntKind.wrap .i64 (((j + 1 : Nat) : Int) - 1) = (j : Int) := by rw [wrap_id (by omega) (by omega)]; omega
    have i1 := hg.idx hj
    have i2 := hg.idx (show j < l.length by omega)
    have l1 := hg.load hj
    have l2 := hg.load (show j < l.length by omega)
    rw [getD_get (by simpa using hj), List.getElem_map] at l1
    rw [getD_get (by simp; omega), List.getElem_map] at l2
    have hls := less30 (Y := Y) (H := H) (a := l[j + 1]) (b := l[j])
    simp only [vI] at l1 l2 hls
    rw [un24_0]
    by_cases c : l[j + 1] < l[j]
    · obtain ⟨id, ver, e1, e2, s1, g1⟩ := hg.store (x := l[j]) hj
      have hlen1 : (l.set (j + 1) l[j]).length = l.length := by simp
      obtain ⟨id', ver', e3, e4, s2, g2⟩ := Gro.store (x := l[j + 1]) g1 (show j < l.length by omega)
      have hp : ((l.set (j + 1) l[j]).set j l[j + 1]).Perm l := List.set_set_perm hj (by omega)
      have hlen2 : ((l.set (j + 1) l[j]).set j l[j + 1]).length = l.length := by simp
      obtain ⟨H', l', r1, r2, r3⟩ := ih (l := (l.set (j + 1) l[j]).set j l[j + 1]) (by rw [hlen2]; exact g2) (by rw [hlen2]; omega) (by rw [hlen2]; exact hl)
      refine ⟨H', l', r1.trans hp, r2, ?_⟩
      have c' : decide (l[j + 1] < l[j]) = true := decide_eq_true c
      simp only [vI] at s1 s2
      simp only [SS, insA, wantedA, Opd.ev, putA, binA, eqbA, unA, fldA, partA, reduceIte, reduceCtorEq, Nat.reduceMod, Nat.reduceDiv, Nat.reduceBEq, resultA, resA, vI, Nat.reduceMul, Nat.reduceAdd, Nat.reduceSub, Nat.reduceEqDiff, Nat.reduceLT, Nat.reducePow, Nat.reduceLeDiff, st, Option.bind_eq_bind, Option.pure_def, List.length_nil, Int.cast_ofNat_Int, List.reverse_nil] at r3
      simp only [F24L0b, SS, insA, wantedA, Opd.ev, putA, binA, eqbA, unA, fldA, partA, reduceIte, reduceCtorEq, Nat.reduceMod, Nat.reduceDiv, Nat.reduceBEq, resultA, resA, vI, Nat.reduceMul, Nat.reduceAdd, Nat.reduceSub, Nat.reduceEqDiff, Nat.reduceLT, Nat.reducePow, Nat.reduceLeDiff, st, Option.bind_eq_bind, Option.pure_def, List.length_nil, Int.cast_ofNat_Int, List.reverse_nil, UU, idxP, cellsAt, fillA, zerosA, putAll, row, Int.reduceLT, Int.reduceLE, Int.reduceGT, Int.reduceGE, Int.reduceEq, Int.reduceNe, Int.reduceToNat, Int.reduceBEq, Int.reduceBNe, Nat.reduceLeDiff, Nat.reduceLT, Nat.reduceBNe, Nat.reduceGT, List.drop_nil, List.take_nil, Option.isSome_none, Int.ofNat_one, Int.ofNat_zero, hc, hw, i1, i2, l1, l2, hls, c', s1, s2, r3]
    · refine ⟨H, l, .refl _, hg, ?_⟩
      have c' : decide (l[j + 1] < l[j]) = false := decide_eq_false c
      simp only [F24L0b, SS, insA, wantedA, Opd.ev, putA, binA, eqbA, unA, fldA, partA, reduceIte, reduceCtorEq, Nat.reduceMod, Nat.reduceDiv, Nat.reduceBEq, resultA, resA, vI, Nat.reduceMul, Nat.reduceAdd, Nat.reduceSub, Nat.reduceEqDiff, Nat.reduceLT, Nat.reducePow, Nat.reduceLeDiff, st, Option.bind_eq_bind, Option.pure_def, List.length_nil, Int.cast_ofNat_Int, List.reverse_nil, UU, idxP, cellsAt, fillA, zerosA, putAll, row, Int.reduceLT, Int.reduceLE, Int.reduceGT, Int.reduceGE, Int.reduceEq, Int.reduceNe, Int.reduceToNat, Int.reduceBEq, Int.reduceBNe, Nat.reduceLeDiff, Nat.reduceLT, Nat.reduceBNe, Nat.reduceGT, List.drop_nil, List.take_nil, Option.isSome_none, Int.ofNat_one, Int.ofNat_zero, hc, hw, i1, i2, l1, l2, hls, c']

theorem L24_1 {v : AV} {n : Nat} (d : Nat) : ∀ (i : Nat) {l : List Int} {H : Heap}, n ≤ i + d → i ≤ 1000 → l.length = n → Gro 0 1 H v l.length (l.map vI) → n ≤ 900 →
    ∃ (H' : Heap) (l' : List Int), l'.Perm l ∧ Gro 0 1 H' v l'.length (l'.map vI) ∧ lp EJ Y F24L1 (sp 49 [(6, vI i), (2, vI n), (1, vI 0), (0, v)]) H = some (.x 0, sp 49 [], H') := by
  have fin : ∀ (i : Nat) {l : List Int} {H : Heap}, n ≤ i → Gro 0 1 H v l.length (l.map vI) → ∃ (H' : Heap) (l' : List Int), l'.Perm l ∧ Gro 0 1 H' v l'.length (l'.map vI) ∧ lp EJ Y F24L1 (sp 49 [(6, vI i), (2, vI n), (1, vI 0), (0, v)]) H = some (.x 0, sp 49 [], H') := by
    intro i l H hi hg
    refine ⟨H, l, .refl _, hg, ?_⟩
    rw [un24_1]
    have : ¬ ((i : Int) < (n : Int)) := by omega
    simp only [F24L1b, SS, insA, wantedA, Opd.ev, putA, binA, eqbA, unA, fldA, partA, reduceIte, reduceCtorEq, Nat.reduceMod, Nat.reduceDiv, Nat.reduceBEq, resultA, resA, vI, Nat.reduceMul, Nat.reduceAdd, Nat.reduceSub, Nat.reduceEqDiff, Nat.reduceLT, Nat.reducePow, Nat.reduceLeDiff, st, Option.bind_eq_bind, Option.pure_def, List.length_nil, Int.cast_ofNat_Int, List.reverse_nil, UU, idxP, cellsAt, storeA, fillA, zerosA, putAll, optNat, sliceA, row, Int.reduceLT, Int.reduceLE, Int.reduceGT, Int.reduceGE, Int.reduceEq, Int.reduceNe, Int.reduceToNat, Int.reduceBEq, Int.reduceBNe, Nat.reduceLeDiff, Nat.reduceLT, Nat.reduceBNe, Nat.reduceGT, List.drop_nil, List.take_nil, Option.isSome_none, Int.ofNat_one, Int.ofNat_zero, this]
  induction d with
  | zero => exact fun i l H hi _ hl hg hn => fin i (by omega) hg
  | succ d ih =>
    intro i l H hi hi2 hl hg hn
    by_cases hlt : i < n
    · have hc : (i : Int) < (n : Int) := by omega
      have hw := wrap_succ (n := i) (by omega)
      obtain ⟨H1, l1, p1, g1, r1⟩ := L24_0 (Y := Y) (i := i) (n := n) i hg (by omega) (by omega)
      obtain ⟨H2, l2, p2, g2, r2⟩ := ih (i + 1) (by omega) (by omega) (by rw [p1.length_eq, hl]) g1 hn
      refine ⟨H2, l2, p2.trans p1, g2, ?_⟩
      rw [un24_1]
      simp only [SS, insA, wantedA, Opd.ev, putA, binA, eqbA, unA, fldA, partA, reduceIte, reduceCtorEq, Nat.reduceMod, Nat.reduceDiv, Nat.reduceBEq, resultA, resA, vI, Nat.reduceMul, Nat.reduceAdd, Nat.reduceSub, Nat.reduceEqDiff, Nat.reduceLT, Nat.reducePow, Nat.reduceLeDiff, st, Option.bind_eq_bind, Option.pure_def, List.length_nil, Int.cast_ofNat_Int, List.reverse_nil] at r1 r2
      simp only [F24L1b, F24T0, in24_0, SS, insA, wantedA, Opd.ev, putA, binA, eqbA, unA, fldA, partA, reduceIte, reduceCtorEq, Nat.reduceMod, Nat.reduceDiv, Nat.reduceBEq, resultA, resA, vI, Nat.reduceMul, Nat.reduceAdd, Nat.reduceSub, Nat.reduceEqDiff, Nat.reduceLT, Nat.reducePow, Nat.reduceLeDiff, st, Option.bind_eq_bind, Option.pure_def, List.length_nil, Int.cast_ofNat_Int, List.reverse_nil, UU, idxP, cellsAt, storeA, fillA, zerosA, putAll, optNat, sliceA, row, Int.reduceLT, Int.reduceLE, Int.reduceGT, Int.reduceGE, Int.reduceEq, Int.reduceNe, Int.reduceToNat, Int.reduceBEq, Int.reduceBNe, Nat.reduceLeDiff, Nat.reduceLT, Nat.reduceBNe, Nat.reduceGT, List.drop_nil, List.take_nil, Option.isSome_none, Int.ofNat_one, Int.ofNat_zero, hc, hw, r1, r2]
    · exact fin i (by omega) hg

theorem sort18 {v : AV} {l : List Int} (hY : ∀ args H, Y 34 args H = yL 34 args H) (hg : Gro 0 1 H v l.length (l.map vI)) (hl : l.length ≤ 8) : ∃ (w : AV) (H' : Heap) (l' : List Int), l'.Perm l ∧ Gro 0 1 H' v l'.length (l'.map vI) ∧ callL EJ Y 18 [v] H = some (w, H') := by
  have h34 : ∀ H : Heap, freeX H (callL EJ Y 34 [.int .u64 (l.length : Int)] []) = some (vI ((Proofs.lenB l.length : Nat) : Int), H) := fun H => by
    have h1 : callL EJ Y 34 [.int .u64 (l.length : Int)] [] = Y 34 [.int .u64 (l.length : Int)] [] := rfl
    have h2 : yL 34 [.int .u64 (l.length : Int)] [] = some (vI ((Proofs.lenB l.length : Nat) : Int), []) := by
      show (if (0 : Int) ≤ l.length ∧ (l.length : Int) ≤ 8 then _ else _) = _
      rw [if_pos (by omega), Int.toNat_natCast]
    rw [h1, hY, h2]; rfl
  have hu : IntKind.wrap .u64 (l.length : Int) = (l.length : Int) := by rw [IntKind.wrap_u64]; omega
  have hw0 : IntKind.wrap .i64 (0 + 1) = ((1 : Nat) : Int) := by rw [wrap_id (by omega) (by omega)]; rfl
  have hw1 : IntKind.wrap .i64 ((l.length : Int) - 0) = (l.length : Int) := by rw [wrap_id (by omega) (by omega)]; omega
  have hc : (l.length : Int) ≤ 12 := by omega
  obtain ⟨H1, l1, p1, g1, r1⟩ := L24_1 (Y := Y) (n := l.length) l.length 1 (by omega) (by omega) rfl hg (by omega)
  have h24 : ∃ w, callL EJ Y 24 [v, vI 0, vI l.length] H = some (w, H1) := by
    refine ⟨?_, ?_⟩
    rotate_left
    · rw [call24 rfl]
      simp only [SS, insA, wantedA, Opd.ev, putA, binA, eqbA, unA, fldA, partA, reduceIte, reduceCtorEq, Nat.reduceMod, Nat.reduceDiv, Nat.reduceBEq, resultA, resA, vI, Nat.reduceMul, Nat.reduceAdd, Nat.reduceSub, Nat.reduceEqDiff, Nat.reduceLT, Nat.reducePow, Nat.reduceLeDiff, st, Option.bind_eq_bind, Option.pure_def, List.length_nil, Int.cast_ofNat_Int, List.reverse_nil] at r1
      simp only [F24B, in24_1, SS, insA, wantedA, Opd.ev, putA, binA, eqbA, unA, fldA, partA, reduceIte, reduceCtorEq, Nat.reduceMod, Nat.reduceDiv, Nat.reduceBEq, resultA, resA, vI, Nat.reduceMul, Nat.reduceAdd, Nat.reduceSub, Nat.reduceEqDiff, Nat.reduceLT, Nat.reducePow, Nat.reduceLeDiff, st, Option.bind_eq_bind, Option.pure_def, List.length_nil, Int.cast_ofNat_Int, List.reverse_nil, UU, idxP, cellsAt, storeA, fillA, zerosA, putAll, optNat, sliceA, row, Int.reduceLT, Int.reduceLE, Int.reduceGT, Int.reduceGE, Int.reduceEq, Int.reduceNe, Int.reduceToNat, Int.reduceBEq, Int.reduceBNe, Nat.reduceLeDiff, Nat.reduceLT, Nat.reduceBNe, Nat.reduceGT, List.drop_nil, List.take_nil, Option.isSome_none, Int.ofNat_one, Int.ofNat_zero, hw0, r1, endX, List.mapM_nil]
      rfl
  obtain ⟨w2, h24⟩ := h24
  have h22 : ∀ x : Int, ∃ w, callL EJ Y 22 [v, vI 0, vI l.length, vI x] H = some (w, H1) := fun x => by
    refine ⟨?_, ?_⟩
    rotate_left
    · rw [call22 rfl]
      simp only [vI] at h24
      simp only [F22B, in22_0, un22_0, F22L0b, SS, insA, wantedA, Opd.ev, putA, binA, eqbA, unA, fldA, partA, reduceIte, reduceCtorEq, Nat.reduceMod, Nat.reduceDiv, Nat.reduceBEq, resultA, resA, vI, Nat.reduceMul, Nat.reduceAdd, Nat.reduceSub, Nat.reduceEqDiff, Nat.reduceLT, Nat.reducePow, Nat.reduceLeDiff, st, Option.bind_eq_bind, Option.pure_def, List.length_nil, Int.cast_ofNat_Int, List.reverse_nil, UU, idxP, cellsAt, storeA, fillA, zerosA, putAll, optNat, sliceA, row, Int.reduceLT, Int.reduceLE, Int.reduceGT, Int.reduceGE, Int.reduceEq, Int.reduceNe, Int.reduceToNat, Int.reduceBEq, Int.reduceBNe, Nat.reduceLeDiff, Nat.reduceLT, Nat.reduceBNe, Nat.reduceGT, List.drop_nil, List.take_nil, Option.isSome_none, Int.ofNat_one, Int.ofNat_zero, hw1, hc, h24, endX, List.mapM_nil]
      rfl
  obtain ⟨w3, h22⟩ := h22 ((Proofs.lenB l.length : Nat) : Int)
  have h23 : ∀ H : Heap, freeX H (callL EJ Y 23 [.int .u64 (l.length : Int)] []) = some (vI ((Proofs.lenB l.length : Nat) : Int), H) := fun H => by
    have h := h34 []
    simp only [vI] at h
    rw [call23 rfl]
    simp only [F23B, SS, insA, wantedA, Opd.ev, putA, binA, eqbA, unA, fldA, partA, reduceIte, reduceCtorEq, Nat.reduceMod, Nat.reduceDiv, Nat.reduceBEq, resultA, resA, vI, Nat.reduceMul, Nat.reduceAdd, Nat.reduceSub, Nat.reduceEqDiff, Nat.reduceLT, Nat.reducePow, Nat.reduceLeDiff, st, Option.bind_eq_bind, Option.pure_def, List.length_nil, Int.cast_ofNat_Int, List.reverse_nil, UU, idxP, cellsAt, storeA, fillA, zerosA, putAll, optNat, sliceA, row, Int.reduceLT, Int.reduceLE, Int.reduceGT, Int.reduceGE, Int.reduceEq, Int.reduceNe, Int.reduceToNat, Int.reduceBEq, Int.reduceBNe, Nat.reduceLeDiff, Nat.reduceLT, Nat.reduceBNe, Nat.reduceGT, List.drop_nil, List.take_nil, Option.isSome_none, Int.ofNat_one, Int.ofNat_zero, h]
  have h23 := h23 H
  refine ⟨?_, H1, l1, p1, g1, ?_⟩
  rotate_left
  · rw [call18 rfl]
    simp only [vI] at h22 h23
    simp only [F18B, SS, insA, wantedA, Opd.ev, putA, binA, eqbA, unA, fldA, partA, reduceIte, reduceCtorEq, Nat.reduceMod, Nat.reduceDiv, Nat.reduceBEq, resultA, resA, vI, Nat.reduceMul, Nat.reduceAdd, Nat.reduceSub, Nat.reduceEqDiff, Nat.reduceLT, Nat.reducePow, Nat.reduceLeDiff, st, Option.bind_eq_bind, Option.pure_def, List.length_nil, Int.cast_ofNat_Int, List.reverse_nil, UU, idxP, cellsAt, storeA, fillA, zerosA, putAll, optNat, sliceA, row, Int.reduceLT, Int.reduceLE, Int.reduceGT, Int.reduceGE, Int.reduceEq, Int.reduceNe, Int.reduceToNat, Int.reduceBEq, Int.reduceBNe, Nat.reduceLeDiff, Nat.reduceLT, Nat.reduceBNe, Nat.reduceGT, List.drop_nil, List.take_nil, Option.isSome_none, Int.ofNat_one, Int.ofNat_zero, hg.len, hu, h23, h22, endX, List.mapM_nil]
    rfl
end
end Go.X
