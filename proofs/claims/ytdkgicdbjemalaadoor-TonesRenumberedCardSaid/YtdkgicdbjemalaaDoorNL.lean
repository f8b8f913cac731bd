import Derived.Test.YtdkgicdbjemalaaDoorNA
/-! Tones: Cut, both ways. -/
set_option linter.unusedSimpArgs false
set_option linter.unusedVariables false
set_option maxHeartbeats 2000000
set_option maxRecDepth 10000
namespace Go.X
open Go Go.RowKit

/-- A list in the heap, that has been appended to. -/
def Rv (H : Heap) (v : AV) (p ver : Nat) (l : List Int) : Prop := v = .sl p ver 1 0 l.length none ∧ H[p]? = some ⟨ver, l.map vI⟩
theorem Rv.gro {H : Heap} {v : AV} {p ver : Nat} {l : List Int} (h : Rv H v p ver l) : Gro 0 1 H v l.length (l.map vI) := ⟨by simp, .inr ⟨p, ver, Nat.zero_le _, h.1, h.2⟩⟩
theorem Rv.load {H : Heap} {v : AV} {p ver i : Nat} {l : List Int} (h : Rv H v p ver l) (hi : i < l.length) : loadA H none (gptr 1 v i) = some (vI (l.getD i 0)) := by
  rw [h.gro.load hi]; simp [List.getD_eq_getElem?_getD, hi]
theorem Rv.st {H : Heap} {v : AV} {p ver i : Nat} {l : List Int} (h : Rv H v p ver l) (hi : i < l.length) (y : Int) : ∃ H', storeA H 1 (gptr 1 v i) (vI y) = some H' ∧ Rv H' v p ver (l.set i y) := by
  obtain ⟨id, ver', e1, e2, e3, e4⟩ := h.gro.store (i := i) (x := y) hi
  rw [h.1] at e1; cases e1
  rw [h.2] at e2; cases e2
  exact ⟨_, e3, by rw [h.1]; simp, by rw [List.getElem?_set_self (hlt_of h.2)]⟩
theorem Rv.free {H : Heap} {v : AV} {p ver n : Nat} {l : List Int} (h : Rv H v p ver l) : freeA H (n + 2) v = some (.imm false (l.map vI) l.length) := by
  have hfree := mapM_free (H := H) (n := n) l
  rw [h.1, free_sl, h.2, freeS_some, if_pos ⟨rfl, by simp⟩, List.drop_zero, Nat.mul_one, List.take_of_length_le (by simp), hfree, freeB_some]

def cutF (f : List Nat) (a b : Nat) : List Nat := (f.set a (dl (f.getD a 0) (2 ^ b))).set b (dl (f.getD b 0) (2 ^ a))
def cutR (l : List Int) (a b : Int) : List Int × Int :=
  if frameB l = true ∧ 0 ≤ a ∧ a < l.length ∧ 0 ≤ b ∧ b < l.length then
    if ((l.map Int.toNat).getD a.toNat 0).testBit b.toNat then ((cutF (l.map Int.toNat) a.toNat b.toNat).map (fun n : Nat => (n : Int)), 0) else ([], 6)
  else ([], 2)

theorem loop_off {l : List Int} (hf : frameB l = true) {a : Nat} (ha : a < l.length) : ((l.map Int.toNat).getD a 0).testBit a = false := by
  unfold frameB at hf
  simp only [Bool.and_eq_true, decide_eq_true_eq] at hf
  obtain ⟨⟨⟨h1, h2⟩, h3⟩, h4⟩ := hf
  have h := List.all_eq_true.1 h3 a (List.mem_range.2 ha)
  simp only [okE, Bool.and_eq_true, decide_eq_true_eq] at h
  have hnn := okL_nn h3 a ha
  have e : l.getD a 0 = (((l.map Int.toNat).getD a 0 : Nat) : Int) := by
    rw [getD_get ha] at hnn ⊢
    rw [getD_get (by simpa using ha), List.getElem_map]; omega
  have := h.2
  rw [e, sh_bit] at this
  cases hb : ((l.map Int.toNat).getD a 0).testBit a with
  | false => rfl
  | true => rw [hb] at this; exact absurd this (by decide)

section
variable {Y : Run}

theorem clone63 {v : AV} {l : List Int} (hv : IsRow v l) (h1 : 1 ≤ l.length) (hl : l.length ≤ 1000) (hs : ∀ x ∈ l, wr x = x) : ∃ w R0, callL ET Y 63 [v] [] = some (w, R0) ∧ w = .sl 0 1 1 0 l.length none ∧ R0[0]? = some ⟨1, l.map vW⟩ := by
  have hvw : l.map vW = l.map vI := List.map_congr_left fun x hx => by simp only [vW]; rw [hs x hx]
  cases hv with
  | nil => simp at h1
  | imm sn l =>
    have hlen : lenA (.sl 0 0 1 0 0 none) = some 0 := rfl
    have h2 : content ([⟨0, []⟩] : Heap) 1 (.imm sn (l.map vI) l.length) = some (l.map vI) := (IsRow.imm sn l).content
    have ha : appA [(⟨0, []⟩ : Ob)] 1 8 (.sl 0 0 1 0 0 none) (.imm sn (l.map vI) l.length) = some (.sl 0 1 1 0 l.length none, [⟨1, l.map vI⟩]) := by
      simp only [appA, hlen, (IsRow.imm sn l).len, h2]
      rw [if_neg (by omega), if_pos ⟨by omega, by omega, ones_all _⟩]
      simp
    have hq : eqnA false (.imm sn (l.map vI) l.length) = some (.bool false) := by
      obtain ⟨m, hm⟩ : ∃ m, l.length = m + 1 := ⟨l.length - 1, by omega⟩
      rw [hm]; rfl
    refine ⟨.sl 0 1 1 0 l.length none, [⟨1, l.map vI⟩], ?_, rfl, by rw [hvw]; rfl⟩
    rw [call63 rfl]
    simp only [F63B, SS, insA, wantedA, Opd.ev, putA, binA, eqbA, unA, fldA, partA, reduceIte, reduceCtorEq, Nat.reduceMod, Nat.reduceDiv, Nat.reduceBEq, resultA, resA, vI, Nat.reduceMul, Nat.reduceAdd, Nat.reduceSub, Nat.reduceEqDiff, Nat.reduceLT, Nat.reducePow, Nat.reduceLeDiff, st, Option.bind_eq_bind, Option.pure_def, List.length_nil, Int.cast_ofNat_Int, List.reverse_nil, UU, idxP, cellsAt, storeA, fillA, zerosA, putAll, optNat, sliceA, row, Int.reduceLT, Int.reduceLE, Int.reduceGT, Int.reduceGE, Int.reduceEq, Int.reduceNe, Int.reduceToNat, Int.reduceBEq, Int.reduceBNe, Nat.reduceLeDiff, Nat.reduceLT, Nat.reduceBNe, Nat.reduceGT, List.drop_nil, List.take_nil, Option.isSome_none, Int.ofNat_one, Int.ofNat_zero, ha, hq, endX]

theorem small_wr {f : List Nat} (h : ∀ j, f.getD j 0 < 128) : ∀ x ∈ f.map (fun n : Nat => (n : Int)), wr x = x := fun x hx => by
  obtain ⟨n, hn, rfl⟩ := List.mem_map.1 hx
  obtain ⟨j, hj, rfl⟩ := List.mem_iff_getElem.1 hn
  have := h j
  rw [getD_get hj] at this
  exact wrap_id (by omega) (by omega)

/-- The two wires' ends that are taken out. -/
theorem cut_core {v : AV} {l : List Int} (hf : frameB l = true) (hv : IsRow v l) {a b : Nat} (ha : a < l.length) (hb : b < l.length) (hbit : ((l.map Int.toNat).getD a 0).testBit b = true) : a ≠ b ∧ ((l.map Int.toNat).getD b 0).testBit a = true := by
  refine ⟨fun e => ?_, ?_⟩
  · subst e; rw [loop_off hf ha] at hbit; cases hbit
  · rw [← frame_sy hf a b (by simpa using ha) (by simpa using hb)]; exact hbit

theorem set_cast (f : List Nat) (i x : Nat) : (f.map (fun n : Nat => (n : Int))).set i (x : Int) = (f.set i x).map (fun n : Nat => (n : Int)) := by
  rw [List.map_set]

theorem cut31 {v : AV} {l : List Int} (hv : IsRow v l) (hl : l.length ≤ 1000) (a b : Int) : ∃ w, (∀ H, freeX H (callL ET Y 31 [v, .int .i64 a, .int .i64 b] []) = some (.tup [w, vI (cutR l a b).2], H)) ∧ IsFree w (cutR l a b).1 := by
  have hr := read51 (Y := Y) (H := []) hv hl
  unfold cutR
  cases hf : frameB l with
  | false =>
    rw [hf, if_neg (by simp)] at hr
    rw [if_neg (by simp)]
    refine ⟨.nils, fun H => ?_, .inl ⟨rfl, rfl⟩⟩
    rw [call31 rfl]
    simp only [F31B, SS, insA, wantedA, Opd.ev, putA, binA, eqbA, unA, fldA, partA, reduceIte, reduceCtorEq, Nat.reduceMod, Nat.reduceDiv, Nat.reduceBEq, resultA, resA, vI, Nat.reduceMul, Nat.reduceAdd, Nat.reduceSub, Nat.reduceEqDiff, Nat.reduceLT, Nat.reducePow, Nat.reduceLeDiff, st, Option.bind_eq_bind, Option.pure_def, List.length_nil, Int.cast_ofNat_Int, List.reverse_nil, UU, idxP, cellsAt, storeA, fillA, zerosA, putAll, optNat, sliceA, row, Int.reduceLT, Int.reduceLE, Int.reduceGT, Int.reduceGE, Int.reduceEq, Int.reduceNe, Int.reduceToNat, Int.reduceBEq, Int.reduceBNe, Nat.reduceLeDiff, Nat.reduceLT, Nat.reduceBNe, Nat.reduceGT, List.drop_nil, List.take_nil, Option.isSome_none, Int.ofNat_one, Int.ofNat_zero, hr, Bool.false_eq_true]
  | true =>
    rw [hf, if_pos rfl] at hr
    have hn := frame_n hf
    by_cases c1 : min a b < 0
    · rw [if_neg (by omega)]
      refine ⟨.nils, fun H => ?_, .inl ⟨rfl, rfl⟩⟩
      rw [call31 rfl]
      simp only [F31B, SS, insA, wantedA, Opd.ev, putA, binA, eqbA, unA, fldA, partA, reduceIte, reduceCtorEq, Nat.reduceMod, Nat.reduceDiv, Nat.reduceBEq, resultA, resA, vI, Nat.reduceMul, Nat.reduceAdd, Nat.reduceSub, Nat.reduceEqDiff, Nat.reduceLT, Nat.reducePow, Nat.reduceLeDiff, st, Option.bind_eq_bind, Option.pure_def, List.length_nil, Int.cast_ofNat_Int, List.reverse_nil, UU, idxP, cellsAt, storeA, fillA, zerosA, putAll, optNat, sliceA, row, Int.reduceLT, Int.reduceLE, Int.reduceGT, Int.reduceGE, Int.reduceEq, Int.reduceNe, Int.reduceToNat, Int.reduceBEq, Int.reduceBNe, Nat.reduceLeDiff, Nat.reduceLT, Nat.reduceBNe, Nat.reduceGT, List.drop_nil, List.take_nil, Option.isSome_none, Int.ofNat_one, Int.ofNat_zero, mnx_min, mnx_max, hr, c1]
    · by_cases c2 : max a b ≥ (l.length : Int)
      · rw [if_neg (by omega)]
        refine ⟨.nils, fun H => ?_, .inl ⟨rfl, rfl⟩⟩
        rw [call31 rfl]
        simp only [F31B, SS, insA, wantedA, Opd.ev, putA, binA, eqbA, unA, fldA, partA, reduceIte, reduceCtorEq, Nat.reduceMod, Nat.reduceDiv, Nat.reduceBEq, resultA, resA, vI, Nat.reduceMul, Nat.reduceAdd, Nat.reduceSub, Nat.reduceEqDiff, Nat.reduceLT, Nat.reducePow, Nat.reduceLeDiff, st, Option.bind_eq_bind, Option.pure_def, List.length_nil, Int.cast_ofNat_Int, List.reverse_nil, UU, idxP, cellsAt, storeA, fillA, zerosA, putAll, optNat, sliceA, row, Int.reduceLT, Int.reduceLE, Int.reduceGT, Int.reduceGE, Int.reduceEq, Int.reduceNe, Int.reduceToNat, Int.reduceBEq, Int.reduceBNe, Nat.reduceLeDiff, Nat.reduceLT, Nat.reduceBNe, Nat.reduceGT, List.drop_nil, List.take_nil, Option.isSome_none, Int.ofNat_one, Int.ofNat_zero, mnx_min, mnx_max, hr, hv.len, c1, c2]
      · rw [if_pos ⟨rfl, by omega, by omega, by omega, by omega⟩]
        obtain ⟨hF, he⟩ := Fr.of hv hf
        have hlen : (l.map Int.toNat).length = l.length := by simp
        obtain ⟨A, rfl⟩ : ∃ A : Nat, a = (A : Int) := ⟨a.toNat, by omega⟩
        obtain ⟨B, rfl⟩ : ∃ B : Nat, b = (B : Int) := ⟨b.toNat, by omega⟩
        have hA : A < l.length := by omega
        have hB : B < l.length := by omega
        simp only [Int.toNat_natCast]
        have hip := hF.hv.idx (i := A) (by simpa using hA)
        have hlp := fun H => hF.hv.load (H := H) (i := A) (by simpa using hA)
        rw [getD_nat (by omega)] at hlp
        have hp2 : (0 : Int) ≤ (B : Int) := by omega
        have hp1 : (0 : Int) ≤ (A : Int) := by omega
        have hs2 := shr_eq (k := B) (by omega)
        have q0 := sh_beq0 ((l.map Int.toNat).getD A 0) B
        cases hbit : ((l.map Int.toNat).getD A 0).testBit B with
        | false =>
          rw [hbit] at q0
          rw [if_neg (by simp)]
          refine ⟨.nils, fun H => ?_, .inl ⟨rfl, rfl⟩⟩
          simp only [Bool.not_false] at q0
          rw [call31 rfl]
          simp only [F31B, SS, insA, wantedA, Opd.ev, putA, binA, eqbA, unA, fldA, partA, reduceIte, reduceCtorEq, Nat.reduceMod, Nat.reduceDiv, Nat.reduceBEq, resultA, resA, vI, Nat.reduceMul, Nat.reduceAdd, Nat.reduceSub, Nat.reduceEqDiff, Nat.reduceLT, Nat.reducePow, Nat.reduceLeDiff, st, Option.bind_eq_bind, Option.pure_def, List.length_nil, Int.cast_ofNat_Int, List.reverse_nil, UU, idxP, cellsAt, storeA, fillA, zerosA, putAll, optNat, sliceA, row, Int.reduceLT, Int.reduceLE, Int.reduceGT, Int.reduceGE, Int.reduceEq, Int.reduceNe, Int.reduceToNat, Int.reduceBEq, Int.reduceBNe, Nat.reduceLeDiff, Nat.reduceLT, Nat.reduceBNe, Nat.reduceGT, List.drop_nil, List.take_nil, Option.isSome_none, Int.ofNat_one, Int.ofNat_zero, mnx_min, mnx_max, hr, hv.len, c1, c2, hip, hlp, hp2, hs2, and_one, q0]
        | true =>
          rw [hbit] at q0
          rw [if_pos rfl]
          obtain ⟨hne, hbit2⟩ := cut_core hf hv hA hB hbit
          have h128 : ∀ j, (l.map Int.toNat).getD j 0 < 128 := fun j => by have := hF.fb j; have := hF.p7; omega
          obtain ⟨w, R0, k1, k2, k3⟩ := clone63 (Y := Y) hF.hv (by simp; omega) (by simp; omega) (small_wr h128)
          have hvw : ((l.map Int.toNat).map (fun n : Nat => (n : Int))).map vW = ((l.map Int.toNat).map (fun n : Nat => (n : Int))).map vI := List.map_congr_left fun x hx => by simp only [vW]; rw [small_wr h128 x hx]
          obtain ⟨m1, m2⟩ := call_row (H := []) (R := callL ET Y) (f := 63) (args := [v]) (bs := [v]) (by rw [mapM_cons', hv.snap]; rfl) k1 k2 k3
          rw [hvw] at m2
          generalize ([] : Heap) ++ R0.map (shO ([] : Heap).length) = H1 at *
          have hR : Rv H1 (.sl (0 + ([] : Heap).length) 1 1 0 ((l.map Int.toNat).map (fun n : Nat => (n : Int))).length none) (0 + ([] : Heap).length) 1 ((l.map Int.toNat).map (fun n : Nat => (n : Int))) := ⟨rfl, m2⟩
          generalize AV.sl (0 + ([] : Heap).length) 1 1 0 ((l.map Int.toNat).map (fun n : Nat => (n : Int))).length none = w at *
          have i1 := hR.gro.idx (i := A) (by simpa using hA)
          have l1 := hR.load (i := A) (by simpa using hA)
          rw [getD_nat (by omega)] at l1
          have b1 : bitsA .andNot .i64 (((l.map Int.toNat).getD A 0 : Nat) : Int) ((2 ^ B : Nat) : Int) = some (vI ((dl ((l.map Int.toNat).getD A 0) (2 ^ B) : Nat) : Int)) := (nat_bits (by have := h128 A; omega) (by have := pow_lt (show B < 7 by omega); omega)).2.2
          obtain ⟨H2, e2, hR2⟩ := hR.st (i := A) (by simpa using hA) ((dl ((l.map Int.toNat).getD A 0) (2 ^ B) : Nat) : Int)
          rw [set_cast] at hR2
          have i2 := hR2.gro.idx (i := B) (by simpa using hB)
          have l2 := hR2.load (i := B) (by simpa using hB)
          rw [getD_nat (by simpa using hB)] at l2
          have hg : ((l.map Int.toNat).set A (dl ((l.map Int.toNat).getD A 0) (2 ^ B))).getD B 0 = (l.map Int.toNat).getD B 0 := by
            rw [List.getD_eq_getElem?_getD, List.getElem?_set_ne hne, ← List.getD_eq_getElem?_getD]
          rw [hg] at l2
          have b2 : bitsA .andNot .i64 (((l.map Int.toNat).getD B 0 : Nat) : Int) ((2 ^ A : Nat) : Int) = some (vI ((dl ((l.map Int.toNat).getD B 0) (2 ^ A) : Nat) : Int)) := (nat_bits (by have := h128 B; omega) (by have := pow_lt (show A < 7 by omega); omega)).2.2
          obtain ⟨H3, e3, hR3⟩ := hR2.st (i := B) (by simpa using hB) ((dl ((l.map Int.toNat).getD B 0) (2 ^ A) : Nat) : Int)
          rw [set_cast] at hR3
          have hs3 := shl_eq (k := B) (by omega)
          have hs4 := shl_eq (k := A) (by omega)
          have hfr : freeA H3 5 w = _ := hR3.free (n := 3)
          refine ⟨.imm false (((cutF (l.map Int.toNat) A B).map (fun n : Nat => (n : Int))).map vI) ((cutF (l.map Int.toNat) A B).map (fun n : Nat => (n : Int))).length, fun H => ?_, .inr rfl⟩
          simp only [Bool.not_true] at q0
          rw [call31 rfl]
          unfold cutF
          simp only [SS, insA, wantedA, Opd.ev, putA, binA, eqbA, unA, fldA, partA, reduceIte, reduceCtorEq, Nat.reduceMod, Nat.reduceDiv, Nat.reduceBEq, resultA, resA, vI, Nat.reduceMul, Nat.reduceAdd, Nat.reduceSub, Nat.reduceEqDiff, Nat.reduceLT, Nat.reducePow, Nat.reduceLeDiff, st, Option.bind_eq_bind, Option.pure_def, List.length_nil, Int.cast_ofNat_Int, List.reverse_nil] at m1 e2 e3
          simp only [F31B, SS, insA, wantedA, Opd.ev, putA, binA, eqbA, unA, fldA, partA, reduceIte, reduceCtorEq, Nat.reduceMod, Nat.reduceDiv, Nat.reduceBEq, resultA, resA, vI, Nat.reduceMul, Nat.reduceAdd, Nat.reduceSub, Nat.reduceEqDiff, Nat.reduceLT, Nat.reducePow, Nat.reduceLeDiff, st, Option.bind_eq_bind, Option.pure_def, List.length_nil, Int.cast_ofNat_Int, List.reverse_nil, UU, idxP, cellsAt, fillA, zerosA, putAll, row, Int.reduceLT, Int.reduceLE, Int.reduceGT, Int.reduceGE, Int.reduceEq, Int.reduceNe, Int.reduceToNat, Int.reduceBEq, Int.reduceBNe, Nat.reduceLeDiff, Nat.reduceLT, Nat.reduceBNe, Nat.reduceGT, List.drop_nil, List.take_nil, Option.isSome_none, Int.ofNat_one, Int.ofNat_zero, mnx_min, mnx_max, hr, hv.len, c1, c2, hip, hlp, hp1, hp2, hs2, hs3, hs4, and_one, q0, m1, i1, l1, b1, e2, i2, l2, b2, e3, hfr]

theorem cut47 {v : AV} {l : List Int} (hv : IsRow v l) (hl : l.length ≤ 1000) (a b : Int) : ∃ w, (∀ H, freeX H (callL ET Y 47 [v, .int .i64 a, .int .i64 b] []) = some (.tup [w, vI (cutR l a b).2], H)) ∧ IsFree w (cutR l a b).1 := by
  have hr := fun H => frame20 (Y := Y) (H := H) hv hl
  unfold cutR
  cases hf : frameB l with
  | false =>
    rw [hf] at hr
    rw [if_neg (by simp)]
    refine ⟨.nils, fun H => ?_, .inl ⟨rfl, rfl⟩⟩
    rw [call47 rfl]
    simp only [F47B, SS, insA, wantedA, Opd.ev, putA, binA, eqbA, unA, fldA, partA, reduceIte, reduceCtorEq, Nat.reduceMod, Nat.reduceDiv, Nat.reduceBEq, resultA, resA, vI, Nat.reduceMul, Nat.reduceAdd, Nat.reduceSub, Nat.reduceEqDiff, Nat.reduceLT, Nat.reducePow, Nat.reduceLeDiff, st, Option.bind_eq_bind, Option.pure_def, List.length_nil, Int.cast_ofNat_Int, List.reverse_nil, UU, idxP, cellsAt, storeA, fillA, zerosA, putAll, optNat, sliceA, row, Int.reduceLT, Int.reduceLE, Int.reduceGT, Int.reduceGE, Int.reduceEq, Int.reduceNe, Int.reduceToNat, Int.reduceBEq, Int.reduceBNe, Nat.reduceLeDiff, Nat.reduceLT, Nat.reduceBNe, Nat.reduceGT, List.drop_nil, List.take_nil, Option.isSome_none, Int.ofNat_one, Int.ofNat_zero, hv.snap, hr]
  | true =>
    rw [hf] at hr
    have hn := frame_n hf
    by_cases c1 : a < 0
    · rw [if_neg (by omega)]
      refine ⟨.nils, fun H => ?_, .inl ⟨rfl, rfl⟩⟩
      rw [call47 rfl]
      simp only [F47B, SS, insA, wantedA, Opd.ev, putA, binA, eqbA, unA, fldA, partA, reduceIte, reduceCtorEq, Nat.reduceMod, Nat.reduceDiv, Nat.reduceBEq, resultA, resA, vI, Nat.reduceMul, Nat.reduceAdd, Nat.reduceSub, Nat.reduceEqDiff, Nat.reduceLT, Nat.reducePow, Nat.reduceLeDiff, st, Option.bind_eq_bind, Option.pure_def, List.length_nil, Int.cast_ofNat_Int, List.reverse_nil, UU, idxP, cellsAt, storeA, fillA, zerosA, putAll, optNat, sliceA, row, Int.reduceLT, Int.reduceLE, Int.reduceGT, Int.reduceGE, Int.reduceEq, Int.reduceNe, Int.reduceToNat, Int.reduceBEq, Int.reduceBNe, Nat.reduceLeDiff, Nat.reduceLT, Nat.reduceBNe, Nat.reduceGT, List.drop_nil, List.take_nil, Option.isSome_none, Int.ofNat_one, Int.ofNat_zero, hv.snap, hr, c1]
    · by_cases c2 : a ≥ (l.length : Int)
      · rw [if_neg (by omega)]
        refine ⟨.nils, fun H => ?_, .inl ⟨rfl, rfl⟩⟩
        rw [call47 rfl]
        simp only [F47B, SS, insA, wantedA, Opd.ev, putA, binA, eqbA, unA, fldA, partA, reduceIte, reduceCtorEq, Nat.reduceMod, Nat.reduceDiv, Nat.reduceBEq, resultA, resA, vI, Nat.reduceMul, Nat.reduceAdd, Nat.reduceSub, Nat.reduceEqDiff, Nat.reduceLT, Nat.reducePow, Nat.reduceLeDiff, st, Option.bind_eq_bind, Option.pure_def, List.length_nil, Int.cast_ofNat_Int, List.reverse_nil, UU, idxP, cellsAt, storeA, fillA, zerosA, putAll, optNat, sliceA, row, Int.reduceLT, Int.reduceLE, Int.reduceGT, Int.reduceGE, Int.reduceEq, Int.reduceNe, Int.reduceToNat, Int.reduceBEq, Int.reduceBNe, Nat.reduceLeDiff, Nat.reduceLT, Nat.reduceBNe, Nat.reduceGT, List.drop_nil, List.take_nil, Option.isSome_none, Int.ofNat_one, Int.ofNat_zero, hv.snap, hr, hv.len, c1, c2]
      · by_cases c3 : b < 0
        · rw [if_neg (by omega)]
          refine ⟨.nils, fun H => ?_, .inl ⟨rfl, rfl⟩⟩
          rw [call47 rfl]
          simp only [F47B, SS, insA, wantedA, Opd.ev, putA, binA, eqbA, unA, fldA, partA, reduceIte, reduceCtorEq, Nat.reduceMod, Nat.reduceDiv, Nat.reduceBEq, resultA, resA, vI, Nat.reduceMul, Nat.reduceAdd, Nat.reduceSub, Nat.reduceEqDiff, Nat.reduceLT, Nat.reducePow, Nat.reduceLeDiff, st, Option.bind_eq_bind, Option.pure_def, List.length_nil, Int.cast_ofNat_Int, List.reverse_nil, UU, idxP, cellsAt, storeA, fillA, zerosA, putAll, optNat, sliceA, row, Int.reduceLT, Int.reduceLE, Int.reduceGT, Int.reduceGE, Int.reduceEq, Int.reduceNe, Int.reduceToNat, Int.reduceBEq, Int.reduceBNe, Nat.reduceLeDiff, Nat.reduceLT, Nat.reduceBNe, Nat.reduceGT, List.drop_nil, List.take_nil, Option.isSome_none, Int.ofNat_one, Int.ofNat_zero, hv.snap, hr, hv.len, c1, c2, c3]
        · by_cases c4 : b ≥ (l.length : Int)
          · rw [if_neg (by omega)]
            refine ⟨.nils, fun H => ?_, .inl ⟨rfl, rfl⟩⟩
            rw [call47 rfl]
            simp only [F47B, SS, insA, wantedA, Opd.ev, putA, binA, eqbA, unA, fldA, partA, reduceIte, reduceCtorEq, Nat.reduceMod, Nat.reduceDiv, Nat.reduceBEq, resultA, resA, vI, Nat.reduceMul, Nat.reduceAdd, Nat.reduceSub, Nat.reduceEqDiff, Nat.reduceLT, Nat.reducePow, Nat.reduceLeDiff, st, Option.bind_eq_bind, Option.pure_def, List.length_nil, Int.cast_ofNat_Int, List.reverse_nil, UU, idxP, cellsAt, storeA, fillA, zerosA, putAll, optNat, sliceA, row, Int.reduceLT, Int.reduceLE, Int.reduceGT, Int.reduceGE, Int.reduceEq, Int.reduceNe, Int.reduceToNat, Int.reduceBEq, Int.reduceBNe, Nat.reduceLeDiff, Nat.reduceLT, Nat.reduceBNe, Nat.reduceGT, List.drop_nil, List.take_nil, Option.isSome_none, Int.ofNat_one, Int.ofNat_zero, hv.snap, hr, hv.len, c1, c2, c3, c4]
          · rw [if_pos ⟨rfl, by omega, by omega, by omega, by omega⟩]
            obtain ⟨hF, he⟩ := Fr.of hv hf
            obtain ⟨A, rfl⟩ : ∃ A : Nat, a = (A : Int) := ⟨a.toNat, by omega⟩
            obtain ⟨B, rfl⟩ : ∃ B : Nat, b = (B : Int) := ⟨b.toNat, by omega⟩
            have hA : A < l.length := by omega
            have hB : B < l.length := by omega
            have hlen : (l.map Int.toNat).length = l.length := by simp
            simp only [Int.toNat_natCast]
            have hip := hF.hv.idx (i := A) (by simpa using hA)
            have hlp := fun H => hF.hv.load (H := H) (i := A) (by simpa using hA)
            rw [getD_nat (by omega)] at hlp
            have hp2 : (0 : Int) ≤ (B : Int) := by omega
            have hp1 : (0 : Int) ≤ (A : Int) := by omega
            have hs2 := shr_eq (k := B) (by omega)
            have h20 : (2 : Int) ≠ 0 := by decide
            have ht := tmod_emod (sh_nonneg (x := (((l.map Int.toNat).getD A 0 : Nat) : Int)) (by omega) B)
            have q0 := sh_beq0 ((l.map Int.toNat).getD A 0) B
            cases hbit : ((l.map Int.toNat).getD A 0).testBit B with
            | false =>
              rw [hbit] at q0
              rw [if_neg (by simp)]
              refine ⟨.nils, fun H => ?_, .inl ⟨rfl, rfl⟩⟩
              simp only [Bool.not_false] at q0
              rw [call47 rfl]
              simp only [F47B, SS, insA, wantedA, Opd.ev, putA, binA, eqbA, unA, fldA, partA, reduceIte, reduceCtorEq, Nat.reduceMod, Nat.reduceDiv, Nat.reduceBEq, resultA, resA, vI, Nat.reduceMul, Nat.reduceAdd, Nat.reduceSub, Nat.reduceEqDiff, Nat.reduceLT, Nat.reducePow, Nat.reduceLeDiff, st, Option.bind_eq_bind, Option.pure_def, List.length_nil, Int.cast_ofNat_Int, List.reverse_nil, UU, idxP, cellsAt, storeA, fillA, zerosA, putAll, optNat, sliceA, row, Int.reduceLT, Int.reduceLE, Int.reduceGT, Int.reduceGE, Int.reduceEq, Int.reduceNe, Int.reduceToNat, Int.reduceBEq, Int.reduceBNe, Nat.reduceLeDiff, Nat.reduceLT, Nat.reduceBNe, Nat.reduceGT, List.drop_nil, List.take_nil, Option.isSome_none, Int.ofNat_one, Int.ofNat_zero, hv.snap, hr, hv.len, c1, c2, c3, c4, hip, hlp, hp2, hs2, h20, ht, q0, ne_eq, not_false_eq_true, and_self]
            | true =>
              rw [hbit] at q0
              rw [if_pos rfl]
              obtain ⟨hne, hbit2⟩ := cut_core hf hv hA hB hbit
              have h128 : ∀ j, (l.map Int.toNat).getD j 0 < 128 := fun j => by have := hF.fb j; have := hF.p7; omega
              have hap : ∃ id, appA ([] : Heap) 1 8 .nils v = some (.sl id 0 1 0 ((l.map Int.toNat).map (fun n : Nat => (n : Int))).length none, [⟨0, ((l.map Int.toNat).map (fun n : Nat => (n : Int))).map vI⟩]) ∧ id = 0 := by
                refine ⟨0, ?_, rfl⟩
                have h1 : lenA .nils = some 0 := rfl
                simp only [appA, h1, hv.len, hv.content]
                rw [if_neg (by omega), if_pos ⟨by omega, by omega, ones_all _⟩, ← he]
                rfl
              obtain ⟨id, hap, hid⟩ := hap
              have hR : Rv [⟨0, ((l.map Int.toNat).map (fun n : Nat => (n : Int))).map vI⟩] (.sl id 0 1 0 ((l.map Int.toNat).map (fun n : Nat => (n : Int))).length none) id 0 ((l.map Int.toNat).map (fun n : Nat => (n : Int))) := ⟨rfl, by subst hid; rfl⟩
              generalize AV.sl id 0 1 0 ((l.map Int.toNat).map (fun n : Nat => (n : Int))).length none = w at *
              generalize ([⟨0, ((l.map Int.toNat).map (fun n : Nat => (n : Int))).map vI⟩] : Heap) = H1 at *
              have i1 := hR.gro.idx (i := A) (by simpa using hA)
              have l1 := hR.load (i := A) (by simpa using hA)
              rw [getD_nat (by omega)] at l1
              have b1 := dl_sub (h128 A) (show B < 7 by omega) hbit
              obtain ⟨H2, e2, hR2⟩ := hR.st (i := A) (by simpa using hA) ((dl ((l.map Int.toNat).getD A 0) (2 ^ B) : Nat) : Int)
              rw [set_cast] at hR2
              have i2 := hR2.gro.idx (i := B) (by simpa using hB)
              have l2 := hR2.load (i := B) (by simpa using hB)
              rw [getD_nat (by simpa using hB)] at l2
              have hg : ((l.map Int.toNat).set A (dl ((l.map Int.toNat).getD A 0) (2 ^ B))).getD B 0 = (l.map Int.toNat).getD B 0 := by
                rw [List.getD_eq_getElem?_getD, List.getElem?_set_ne hne, ← List.getD_eq_getElem?_getD]
              rw [hg] at l2
              have b2 := dl_sub (h128 B) (show A < 7 by omega) hbit2
              obtain ⟨H3, e3, hR3⟩ := hR2.st (i := B) (by simpa using hB) ((dl ((l.map Int.toNat).getD B 0) (2 ^ A) : Nat) : Int)
              rw [set_cast] at hR3
              have hs3 := shl_eq (k := B) (by omega)
              have hs4 := shl_eq (k := A) (by omega)
              have hfr : freeA H3 5 w = _ := hR3.free (n := 3)
              refine ⟨.imm false (((cutF (l.map Int.toNat) A B).map (fun n : Nat => (n : Int))).map vI) ((cutF (l.map Int.toNat) A B).map (fun n : Nat => (n : Int))).length, fun H => ?_, .inr rfl⟩
              simp only [Bool.not_true] at q0
              rw [call47 rfl]
              unfold cutF
              simp only [SS, insA, wantedA, Opd.ev, putA, binA, eqbA, unA, fldA, partA, reduceIte, reduceCtorEq, Nat.reduceMod, Nat.reduceDiv, Nat.reduceBEq, resultA, resA, vI, Nat.reduceMul, Nat.reduceAdd, Nat.reduceSub, Nat.reduceEqDiff, Nat.reduceLT, Nat.reducePow, Nat.reduceLeDiff, st, Option.bind_eq_bind, Option.pure_def, List.length_nil, Int.cast_ofNat_Int, List.reverse_nil] at hap e2 e3
              simp only [F47B, SS, insA, wantedA, Opd.ev, putA, binA, eqbA, unA, fldA, partA, reduceIte, reduceCtorEq, Nat.reduceMod, Nat.reduceDiv, Nat.reduceBEq, resultA, resA, vI, Nat.reduceMul, Nat.reduceAdd, Nat.reduceSub, Nat.reduceEqDiff, Nat.reduceLT, Nat.reducePow, Nat.reduceLeDiff, st, Option.bind_eq_bind, Option.pure_def, List.length_nil, Int.cast_ofNat_Int, List.reverse_nil, UU, idxP, cellsAt, fillA, zerosA, putAll, row, Int.reduceLT, Int.reduceLE, Int.reduceGT, Int.reduceGE, Int.reduceEq, Int.reduceNe, Int.reduceToNat, Int.reduceBEq, Int.reduceBNe, Nat.reduceLeDiff, Nat.reduceLT, Nat.reduceBNe, Nat.reduceGT, List.drop_nil, List.take_nil, Option.isSome_none, Int.ofNat_one, Int.ofNat_zero, hv.snap, hr, hv.len, c1, c2, c3, c4, hip, hlp, hp1, hp2, hs2, hs3, hs4, h20, ht, q0, hap, i1, l1, b1, e2, i2, l2, b2, e3, hfr, ne_eq, not_false_eq_true, and_self]
end
end Go.X
