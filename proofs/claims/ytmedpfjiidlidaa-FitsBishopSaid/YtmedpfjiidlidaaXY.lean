import Derived.Test.YtmedpfjiidlidaaXX
/-! All mixtures that last: the program's way and the specification's. -/
set_option linter.unusedSimpArgs false
set_option linter.unusedVariables false
set_option maxHeartbeats 2000000
set_option maxRecDepth 10000
namespace Go.X
open Go Go.RowKit
section
variable {Y : Run} {H : Heap}

theorem Gro.more {k e n : Nat} {v : AV} {cells : List AV} (h : Gro k e H v n cells) (o : Ob) : Gro k e (H ++ [o]) v n cells :=
  h.keep fun j hj => by rw [List.getElem?_append_left (h.id_lt hj)]

/-- A list that is handed out. -/
def IsLst (w : AV) (n : Nat) (cells : List AV) : Prop := (n = 0 ∧ w = .nils) ∨ ∃ s, w = .imm s cells n

theorem mapM_id {f : AV → Option AV} : ∀ (l : List AV), (∀ c ∈ l, f c = some c) → l.mapM f = some l
  | [], _ => rfl
  | c :: l, h => by rw [mapM_cons', h c (by simp), mapM_id l fun c hc => h c (List.mem_cons_of_mem _ hc)]; rfl

theorem Gro.freeL {k e n d : Nat} {v : AV} {cells : List AV} (h : Gro k e H v n cells) (hc : ∀ c ∈ cells, freeA H (d + 1) c = some c) : ∃ w, freeA H (d + 2) v = some w ∧ IsLst w n cells := by
  obtain ⟨h1, ⟨rfl, rfl⟩ | ⟨id, ver, hid, rfl, hH⟩⟩ := h
  · exact ⟨.nils, rfl, .inl ⟨rfl, rfl⟩⟩
  · exact ⟨.imm false cells n, by rw [free_sl, hH, freeS_some, if_pos (by simp; omega), List.drop_zero, List.take_of_length_le (by omega), mapM_id _ hc, freeB_some], .inr ⟨false, rfl⟩⟩

/-- A mixture's two cells. -/
def mixC (x : List Int × Int) : List AV := [.imm false (x.1.map vI) x.1.length, vI x.2]
def mixL (l : List (List Int × Int)) : List AV := l.flatMap mixC

def pickS (t : List (List Int)) (set : Nat) : Option (List Int × Int) :=
  match restS t set with
  | some x => if lastsP t x.1 then some x else none
  | none => none

/-- The mixtures that last. -/
def lastingS (t : List (List Int)) : List (List Int × Int) := (List.range' 1 (2 ^ t.length - 1)).filterMap (pickS t)

theorem L17 {vt vl : AV} {t : List (List Int)} (ht : IsTab vt t) (hl : IsTab vl t) (hok : okTab t) (d : Nat) : ∀ (set : Nat) (l : List (List Int × Int)) (v : AV) (R : Heap), set + d = 2 ^ t.length → 0 < set → l.length ≤ set → Gro 0 2 R v l.length (mixL l) →
    ∃ R' v', lp E Y F17L0 (st 45 [(0, vl), (4, vt), (6, .fn 48 []), (7, .fn 49 []), (8, v), (9, vI set)]) R = some (.x 0, st 45 [(8, v')], R') ∧
      Gro 0 2 R' v' (l ++ (List.range' set d).filterMap (pickS t)).length (mixL (l ++ (List.range' set d).filterMap (pickS t))) := by
  have h8 : 2 ^ t.length ≤ 8 := Nat.pow_le_pow_right (by decide) hok.2.1 (n := 2)
  have s1 := shlW (i := t.length) (by have := hok.2.1; omega)
  simp only [binA] at s1
  induction d with
  | zero =>
    intro set l v R hs h0 hle hG
    refine ⟨R, v, ?_, by simpa using hG⟩
    rw [un17_0]
    have : ¬ ((set : Int) < ((2 ^ t.length : Nat) : Int)) := by omega
    simp only [F17L0b, SS, insA, wantedA, Opd.ev, putA, binA, eqbA, unA, fldA, partA, reduceIte, reduceCtorEq, Nat.reduceMod, Nat.reduceDiv, Nat.reduceBEq, resultA, resA, vI, Nat.reduceMul, Nat.reduceAdd, Nat.reduceSub, Nat.reduceEqDiff, Nat.reduceLT, Nat.reducePow, Nat.reduceLeDiff, st, Option.bind_eq_bind, Option.pure_def, List.length_nil, Int.cast_ofNat_Int, List.reverse_nil, UU, idxP, cellsAt, storeA, fillA, zerosA, putAll, optNat, sliceA, row, Int.reduceLT, Int.reduceLE, Int.reduceGT, Int.reduceGE, Int.reduceEq, Int.reduceNe, Int.reduceToNat, Int.reduceBEq, Int.reduceBNe, Nat.reduceLeDiff, Nat.reduceLT, Nat.reduceBNe, Nat.reduceGT, List.drop_nil, List.take_nil, Option.isSome_none, Int.ofNat_one, Int.ofNat_zero, hl.len, s1, this]
  | succ d ih =>
    intro set l v R hs h0 hle hG
    have hc : ((set : Int) < ((2 ^ t.length : Nat) : Int)) := by omega
    have hw := wrap_succ (n := set) (by omega)
    have k1 := fun H => resting48 (Y := Y) (H := H) ht hok h0 (by omega)
    rw [un17_0, List.range'_succ, List.filterMap_cons]
    cases hr : restS t set with
    | none =>
      obtain ⟨⟨pl, pd, e1, hpl⟩, _⟩ := resP_none hok h0 (by omega) hr
      have e2 : pickS t set = none := by unfold pickS; rw [hr]
      simp only [e1] at k1
      obtain ⟨R', v', q1, q2⟩ := ih (set + 1) l v (R ++ [⟨0, [pl, vI pd]⟩]) (by omega) (by omega) (by omega) (hG.more _)
      refine ⟨R', v', ?_, by rw [e2]; exact q2⟩
      simp only [SS, insA, wantedA, Opd.ev, putA, binA, eqbA, unA, fldA, partA, reduceIte, reduceCtorEq, Nat.reduceMod, Nat.reduceDiv, Nat.reduceBEq, resultA, resA, vI, Nat.reduceMul, Nat.reduceAdd, Nat.reduceSub, Nat.reduceEqDiff, Nat.reduceLT, Nat.reducePow, Nat.reduceLeDiff, st, Option.bind_eq_bind, Option.pure_def, List.length_nil, Int.cast_ofNat_Int, List.reverse_nil] at q1 k1
      rcases hpl with rfl | ⟨q, rfl⟩
      · simp only [F17L0b, SS, insA, wantedA, Opd.ev, putA, binA, eqbA, unA, fldA, partA, reduceIte, reduceCtorEq, Nat.reduceMod, Nat.reduceDiv, Nat.reduceBEq, resultA, resA, vI, Nat.reduceMul, Nat.reduceAdd, Nat.reduceSub, Nat.reduceEqDiff, Nat.reduceLT, Nat.reducePow, Nat.reduceLeDiff, st, Option.bind_eq_bind, Option.pure_def, List.length_nil, Int.cast_ofNat_Int, List.reverse_nil, UU, idxP, cellsAt, storeA, fillA, zerosA, putAll, optNat, sliceA, row, Int.reduceLT, Int.reduceLE, Int.reduceGT, Int.reduceGE, Int.reduceEq, Int.reduceNe, Int.reduceToNat, Int.reduceBEq, Int.reduceBNe, Nat.reduceLeDiff, Nat.reduceLT, Nat.reduceBNe, Nat.reduceGT, List.drop_nil, List.take_nil, Option.isSome_none, Int.ofNat_one, Int.ofNat_zero, hl.len, ht.snap, s1, hc, hw, k1, get_last, set_last, q1]
      · simp only [F17L0b, SS, insA, wantedA, Opd.ev, putA, binA, eqbA, unA, fldA, partA, reduceIte, reduceCtorEq, Nat.reduceMod, Nat.reduceDiv, Nat.reduceBEq, resultA, resA, vI, Nat.reduceMul, Nat.reduceAdd, Nat.reduceSub, Nat.reduceEqDiff, Nat.reduceLT, Nat.reducePow, Nat.reduceLeDiff, st, Option.bind_eq_bind, Option.pure_def, List.length_nil, Int.cast_ofNat_Int, List.reverse_nil, UU, idxP, cellsAt, storeA, fillA, zerosA, putAll, optNat, sliceA, row, Int.reduceLT, Int.reduceLE, Int.reduceGT, Int.reduceGE, Int.reduceEq, Int.reduceNe, Int.reduceToNat, Int.reduceBEq, Int.reduceBNe, Nat.reduceLeDiff, Nat.reduceLT, Nat.reduceBNe, Nat.reduceGT, List.drop_nil, List.take_nil, Option.isSome_none, Int.ofNat_one, Int.ofNat_zero, hl.len, ht.snap, s1, hc, hw, k1, get_last, set_last, q1]
    | some x =>
      obtain ⟨x, den⟩ := x
      obtain ⟨e1, _, hf, hxl, hxs⟩ := resP_some hok h0 (by omega) hr
      have k2 := fun H => lasts49 (Y := Y) (H := H) (den := den) ht hok (row_is (s := false) (l := x)) hxl hxs (by omega)
      have k3 := fun H => lasts49 (Y := Y) (H := H) (den := den) ht hok (row_is (s := true) (l := x)) hxl hxs (by omega)
      simp only [e1] at k1
      cases hp : lastsP t x
      · have e2 : pickS t set = none := by unfold pickS; rw [hr]; simp [hp]
        obtain ⟨R', v', q1, q2⟩ := ih (set + 1) l v (R ++ [⟨0, [.imm false (x.map vI) x.length, vI den]⟩]) (by omega) (by omega) (by omega) (hG.more _)
        refine ⟨R', v', ?_, by rw [e2]; exact q2⟩
        simp only [hp] at k2
        simp only [SS, insA, wantedA, Opd.ev, putA, binA, eqbA, unA, fldA, partA, reduceIte, reduceCtorEq, Nat.reduceMod, Nat.reduceDiv, Nat.reduceBEq, resultA, resA, vI, Nat.reduceMul, Nat.reduceAdd, Nat.reduceSub, Nat.reduceEqDiff, Nat.reduceLT, Nat.reducePow, Nat.reduceLeDiff, st, Option.bind_eq_bind, Option.pure_def, List.length_nil, Int.cast_ofNat_Int, List.reverse_nil] at q1 k1 k2
        simp only [F17L0b, SS, insA, wantedA, Opd.ev, putA, binA, eqbA, unA, fldA, partA, reduceIte, reduceCtorEq, Nat.reduceMod, Nat.reduceDiv, Nat.reduceBEq, resultA, resA, vI, Nat.reduceMul, Nat.reduceAdd, Nat.reduceSub, Nat.reduceEqDiff, Nat.reduceLT, Nat.reducePow, Nat.reduceLeDiff, st, Option.bind_eq_bind, Option.pure_def, List.length_nil, Int.cast_ofNat_Int, List.reverse_nil, UU, idxP, cellsAt, storeA, fillA, zerosA, putAll, optNat, sliceA, row, Int.reduceLT, Int.reduceLE, Int.reduceGT, Int.reduceGE, Int.reduceEq, Int.reduceNe, Int.reduceToNat, Int.reduceBEq, Int.reduceBNe, Nat.reduceLeDiff, Nat.reduceLT, Nat.reduceBNe, Nat.reduceGT, List.drop_nil, List.take_nil, Option.isSome_none, Int.ofNat_one, Int.ofNat_zero, hl.len, ht.snap, s1, hc, hw, k1, k2, get_last, set_last, q1]
      · have e2 : pickS t set = some (x, den) := by unfold pickS; rw [hr]; simp [hp]
        obtain ⟨v2, H2, g1, g2, g3, g4⟩ := (hG.more ⟨0, [.imm false (x.map vI) x.length, vI den]⟩).app (bytes := 32) (ys := [.imm false (x.map vI) x.length, vI den]) (by omega) rfl rfl (by omega) (by omega)
        have g5 : Gro 0 2 H2 v2 (l ++ [(x, den)]).length (mixL (l ++ [(x, den)])) := by
          simpa [mixL, mixC] using g2
        obtain ⟨R', v', q1, q2⟩ := ih (set + 1) (l ++ [(x, den)]) v2 H2 (by omega) (by omega) (by simp; omega) g5
        refine ⟨R', v', ?_, by rw [e2]; simpa using q2⟩
        simp only [hp] at k2
        simp only [SS, insA, wantedA, Opd.ev, putA, binA, eqbA, unA, fldA, partA, reduceIte, reduceCtorEq, Nat.reduceMod, Nat.reduceDiv, Nat.reduceBEq, resultA, resA, vI, Nat.reduceMul, Nat.reduceAdd, Nat.reduceSub, Nat.reduceEqDiff, Nat.reduceLT, Nat.reducePow, Nat.reduceLeDiff, st, Option.bind_eq_bind, Option.pure_def, List.length_nil, Int.cast_ofNat_Int, List.reverse_nil] at q1 k1 k2
        simp only [SS, insA, wantedA, Opd.ev, putA, binA, eqbA, unA, fldA, partA, reduceIte, reduceCtorEq, Nat.reduceMod, Nat.reduceDiv, Nat.reduceBEq, resultA, resA, vI, Nat.reduceMul, Nat.reduceAdd, Nat.reduceSub, Nat.reduceEqDiff, Nat.reduceLT, Nat.reducePow, Nat.reduceLeDiff, st, Option.bind_eq_bind, Option.pure_def, List.length_nil, Int.cast_ofNat_Int, List.reverse_nil, List.append_assoc, List.length_append] at g1
        simp only [F17L0b, SS, insA, wantedA, Opd.ev, putA, binA, eqbA, unA, fldA, partA, reduceIte, reduceCtorEq, Nat.reduceMod, Nat.reduceDiv, Nat.reduceBEq, resultA, resA, vI, Nat.reduceMul, Nat.reduceAdd, Nat.reduceSub, Nat.reduceEqDiff, Nat.reduceLT, Nat.reducePow, Nat.reduceLeDiff, st, Option.bind_eq_bind, Option.pure_def, List.length_nil, Int.cast_ofNat_Int, List.reverse_nil, UU, idxP, cellsAt, storeA, fillA, zerosA, putAll, optNat, sliceA, row, Int.reduceLT, Int.reduceLE, Int.reduceGT, Int.reduceGE, Int.reduceEq, Int.reduceNe, Int.reduceToNat, Int.reduceBEq, Int.reduceBNe, Nat.reduceLeDiff, Nat.reduceLT, Nat.reduceBNe, Nat.reduceGT, List.drop_nil, List.take_nil, Option.isSome_none, Int.ofNat_one, Int.ofNat_zero, hl.len, ht.snap, s1, hc, hw, k1, k2, get_last, set_last, g1, q1]
theorem L18 {vt : AV} {t : List (List Int)} (ht : IsTab vt t) (hok : okTab t) (d : Nat) : ∀ (set : Nat) (l : List (List Int × Int)) (v : AV) (R : Heap), set + d = 2 ^ t.length → 0 < set → l.length ≤ set → Gro 0 2 R v l.length (mixL l) →
    ∃ R' v', lp E Y F18L0 (st 36 [(0, vt), (4, v), (5, vI set)]) R = some (.x 0, st 36 [(4, v')], R') ∧
      Gro 0 2 R' v' (l ++ (List.range' set d).filterMap (pickS t)).length (mixL (l ++ (List.range' set d).filterMap (pickS t))) := by
  have h8 : 2 ^ t.length ≤ 8 := Nat.pow_le_pow_right (by decide) hok.2.1 (n := 2)
  have s1 := shlW (i := t.length) (by have := hok.2.1; omega)
  simp only [binA] at s1
  induction d with
  | zero =>
    intro set l v R hs h0 hle hG
    refine ⟨R, v, ?_, by simpa using hG⟩
    rw [un18_0]
    have : ¬ ((set : Int) < ((2 ^ t.length : Nat) : Int)) := by omega
    simp only [F18L0b, SS, insA, wantedA, Opd.ev, putA, binA, eqbA, unA, fldA, partA, reduceIte, reduceCtorEq, Nat.reduceMod, Nat.reduceDiv, Nat.reduceBEq, resultA, resA, vI, Nat.reduceMul, Nat.reduceAdd, Nat.reduceSub, Nat.reduceEqDiff, Nat.reduceLT, Nat.reducePow, Nat.reduceLeDiff, st, Option.bind_eq_bind, Option.pure_def, List.length_nil, Int.cast_ofNat_Int, List.reverse_nil, UU, idxP, cellsAt, storeA, fillA, zerosA, putAll, optNat, sliceA, row, Int.reduceLT, Int.reduceLE, Int.reduceGT, Int.reduceGE, Int.reduceEq, Int.reduceNe, Int.reduceToNat, Int.reduceBEq, Int.reduceBNe, Nat.reduceLeDiff, Nat.reduceLT, Nat.reduceBNe, Nat.reduceGT, List.drop_nil, List.take_nil, Option.isSome_none, Int.ofNat_one, Int.ofNat_zero, ht.len, s1, this]
  | succ d ih =>
    intro set l v R hs h0 hle hG
    have hc : ((set : Int) < ((2 ^ t.length : Nat) : Int)) := by omega
    have hw := wrap_succ (n := set) (by omega)
    have k1 := fun H => resting50 (Y := Y) (H := H) ht hok h0 (by omega)
    rw [un18_0, List.range'_succ, List.filterMap_cons]
    cases hr : restS t set with
    | none =>
      obtain ⟨_, e1⟩ := resP_none hok h0 (by omega) hr
      have e2 : pickS t set = none := by unfold pickS; rw [hr]
      simp only [e1] at k1
      obtain ⟨R', v', q1, q2⟩ := ih (set + 1) l v (R ++ [⟨0, [.nils, vI 0]⟩]) (by omega) (by omega) (by omega) (hG.more _)
      refine ⟨R', v', ?_, by rw [e2]; exact q2⟩
      simp only [SS, insA, wantedA, Opd.ev, putA, binA, eqbA, unA, fldA, partA, reduceIte, reduceCtorEq, Nat.reduceMod, Nat.reduceDiv, Nat.reduceBEq, resultA, resA, vI, Nat.reduceMul, Nat.reduceAdd, Nat.reduceSub, Nat.reduceEqDiff, Nat.reduceLT, Nat.reducePow, Nat.reduceLeDiff, st, Option.bind_eq_bind, Option.pure_def, List.length_nil, Int.cast_ofNat_Int, List.reverse_nil] at q1 k1
      simp only [F18L0b, SS, insA, wantedA, Opd.ev, putA, binA, eqbA, unA, fldA, partA, reduceIte, reduceCtorEq, Nat.reduceMod, Nat.reduceDiv, Nat.reduceBEq, resultA, resA, vI, Nat.reduceMul, Nat.reduceAdd, Nat.reduceSub, Nat.reduceEqDiff, Nat.reduceLT, Nat.reducePow, Nat.reduceLeDiff, st, Option.bind_eq_bind, Option.pure_def, List.length_nil, Int.cast_ofNat_Int, List.reverse_nil, UU, idxP, cellsAt, storeA, fillA, zerosA, putAll, optNat, sliceA, row, Int.reduceLT, Int.reduceLE, Int.reduceGT, Int.reduceGE, Int.reduceEq, Int.reduceNe, Int.reduceToNat, Int.reduceBEq, Int.reduceBNe, Nat.reduceLeDiff, Nat.reduceLT, Nat.reduceBNe, Nat.reduceGT, List.drop_nil, List.take_nil, Option.isSome_none, Int.ofNat_one, Int.ofNat_zero, ht.len, ht.snap, s1, hc, hw, k1, get_last, set_last, q1]
    | some x =>
      obtain ⟨x, den⟩ := x
      obtain ⟨_, e1, hf, hxl, hxs⟩ := resP_some hok h0 (by omega) hr
      have k2 := fun H => lasts51 (Y := Y) (H := H) (den := den) ht hok (row_is (s := false) (l := x)) hxl hxs (by omega)
      have hsame := lasts_same hok hxl (by omega)
      simp only [← hsame] at k2
      simp only [e1] at k1
      cases hp : lastsP t x
      · have e2 : pickS t set = none := by unfold pickS; rw [hr]; simp [hp]
        obtain ⟨R', v', q1, q2⟩ := ih (set + 1) l v (R ++ [⟨0, [.imm false (x.map vI) x.length, vI den]⟩]) (by omega) (by omega) (by omega) (hG.more _)
        refine ⟨R', v', ?_, by rw [e2]; exact q2⟩
        simp only [hp] at k2
        simp only [SS, insA, wantedA, Opd.ev, putA, binA, eqbA, unA, fldA, partA, reduceIte, reduceCtorEq, Nat.reduceMod, Nat.reduceDiv, Nat.reduceBEq, resultA, resA, vI, Nat.reduceMul, Nat.reduceAdd, Nat.reduceSub, Nat.reduceEqDiff, Nat.reduceLT, Nat.reducePow, Nat.reduceLeDiff, st, Option.bind_eq_bind, Option.pure_def, List.length_nil, Int.cast_ofNat_Int, List.reverse_nil] at q1 k1 k2
        simp only [F18L0b, SS, insA, wantedA, Opd.ev, putA, binA, eqbA, unA, fldA, partA, reduceIte, reduceCtorEq, Nat.reduceMod, Nat.reduceDiv, Nat.reduceBEq, resultA, resA, vI, Nat.reduceMul, Nat.reduceAdd, Nat.reduceSub, Nat.reduceEqDiff, Nat.reduceLT, Nat.reducePow, Nat.reduceLeDiff, st, Option.bind_eq_bind, Option.pure_def, List.length_nil, Int.cast_ofNat_Int, List.reverse_nil, UU, idxP, cellsAt, storeA, fillA, zerosA, putAll, optNat, sliceA, row, Int.reduceLT, Int.reduceLE, Int.reduceGT, Int.reduceGE, Int.reduceEq, Int.reduceNe, Int.reduceToNat, Int.reduceBEq, Int.reduceBNe, Nat.reduceLeDiff, Nat.reduceLT, Nat.reduceBNe, Nat.reduceGT, List.drop_nil, List.take_nil, Option.isSome_none, Int.ofNat_one, Int.ofNat_zero, ht.len, ht.snap, s1, hc, hw, k1, k2, get_last, set_last, q1]
      · have e2 : pickS t set = some (x, den) := by unfold pickS; rw [hr]; simp [hp]
        obtain ⟨v2, H2, g1, g2, g3, g4⟩ := (hG.more ⟨0, [.imm false (x.map vI) x.length, vI den]⟩).app (bytes := 32) (ys := [.imm false (x.map vI) x.length, vI den]) (by omega) rfl rfl (by omega) (by omega)
        have g5 : Gro 0 2 H2 v2 (l ++ [(x, den)]).length (mixL (l ++ [(x, den)])) := by
          simpa [mixL, mixC] using g2
        obtain ⟨R', v', q1, q2⟩ := ih (set + 1) (l ++ [(x, den)]) v2 H2 (by omega) (by omega) (by simp; omega) g5
        refine ⟨R', v', ?_, by rw [e2]; simpa using q2⟩
        simp only [hp] at k2
        simp only [SS, insA, wantedA, Opd.ev, putA, binA, eqbA, unA, fldA, partA, reduceIte, reduceCtorEq, Nat.reduceMod, Nat.reduceDiv, Nat.reduceBEq, resultA, resA, vI, Nat.reduceMul, Nat.reduceAdd, Nat.reduceSub, Nat.reduceEqDiff, Nat.reduceLT, Nat.reducePow, Nat.reduceLeDiff, st, Option.bind_eq_bind, Option.pure_def, List.length_nil, Int.cast_ofNat_Int, List.reverse_nil] at q1 k1 k2
        simp only [SS, insA, wantedA, Opd.ev, putA, binA, eqbA, unA, fldA, partA, reduceIte, reduceCtorEq, Nat.reduceMod, Nat.reduceDiv, Nat.reduceBEq, resultA, resA, vI, Nat.reduceMul, Nat.reduceAdd, Nat.reduceSub, Nat.reduceEqDiff, Nat.reduceLT, Nat.reducePow, Nat.reduceLeDiff, st, Option.bind_eq_bind, Option.pure_def, List.length_nil, Int.cast_ofNat_Int, List.reverse_nil, List.append_assoc, List.length_append] at g1
        simp only [F18L0b, SS, insA, wantedA, Opd.ev, putA, binA, eqbA, unA, fldA, partA, reduceIte, reduceCtorEq, Nat.reduceMod, Nat.reduceDiv, Nat.reduceBEq, resultA, resA, vI, Nat.reduceMul, Nat.reduceAdd, Nat.reduceSub, Nat.reduceEqDiff, Nat.reduceLT, Nat.reducePow, Nat.reduceLeDiff, st, Option.bind_eq_bind, Option.pure_def, List.length_nil, Int.cast_ofNat_Int, List.reverse_nil, UU, idxP, cellsAt, storeA, fillA, zerosA, putAll, optNat, sliceA, row, Int.reduceLT, Int.reduceLE, Int.reduceGT, Int.reduceGE, Int.reduceEq, Int.reduceNe, Int.reduceToNat, Int.reduceBEq, Int.reduceBNe, Nat.reduceLeDiff, Nat.reduceLT, Nat.reduceBNe, Nat.reduceGT, List.drop_nil, List.take_nil, Option.isSome_none, Int.ofNat_one, Int.ofNat_zero, ht.len, ht.snap, s1, hc, hw, k1, k2, get_last, set_last, g1, q1]

theorem mix_free {d : Nat} {l : List (List Int × Int)} : ∀ c ∈ mixL l, freeA H (d + 1) c = some c := by
  intro c hc
  obtain ⟨x, _, hx⟩ := List.mem_flatMap.1 hc
  simp only [mixC, List.mem_cons, List.not_mem_nil, or_false] at hx
  rcases hx with rfl | rfl <;> rfl

theorem lasting17 {vt : AV} {t : List (List Int)} (ht : IsTab vt t) (hs : t.length < 1000) (hok : okTab t) :
    ∃ w, IsLst w (lastingS t).length (mixL (lastingS t)) ∧ ∀ H, freeX H (callL E Y 17 [vt] []) = some (.tup [w, vI 0], H) := by
  obtain ⟨R', v', q1, q2⟩ := L17 (Y := Y) ht ht hok (2 ^ t.length - 1) 1 [] .nils [] (by have := Nat.two_pow_pos t.length; omega) (by omega) (by simp) (Gro.nil _ _ _)
  rw [List.nil_append] at q2
  obtain ⟨w, hw, hi⟩ := q2.freeL (d := 3) mix_free
  refine ⟨w, hi, fun H => ?_⟩
  have r := read47 (Y := Y) (H := []) ht hs
  rw [call17 rfl]
  simp only [SS, insA, wantedA, Opd.ev, putA, binA, eqbA, unA, fldA, partA, reduceIte, reduceCtorEq, Nat.reduceMod, Nat.reduceDiv, Nat.reduceBEq, resultA, resA, vI, Nat.reduceMul, Nat.reduceAdd, Nat.reduceSub, Nat.reduceEqDiff, Nat.reduceLT, Nat.reducePow, Nat.reduceLeDiff, st, Option.bind_eq_bind, Option.pure_def, List.length_nil, Int.cast_ofNat_Int, List.reverse_nil, Int.ofNat_one] at q1
  simp only [F17B, F17T0, in17_0, SS, insA, wantedA, Opd.ev, putA, binA, eqbA, unA, fldA, partA, reduceIte, reduceCtorEq, Nat.reduceMod, Nat.reduceDiv, Nat.reduceBEq, resultA, resA, vI, Nat.reduceMul, Nat.reduceAdd, Nat.reduceSub, Nat.reduceEqDiff, Nat.reduceLT, Nat.reducePow, Nat.reduceLeDiff, st, Option.bind_eq_bind, Option.pure_def, List.length_nil, Int.cast_ofNat_Int, List.reverse_nil, UU, idxP, cellsAt, storeA, fillA, zerosA, putAll, optNat, sliceA, row, Int.reduceLT, Int.reduceLE, Int.reduceGT, Int.reduceGE, Int.reduceEq, Int.reduceNe, Int.reduceToNat, Int.reduceBEq, Int.reduceBNe, Nat.reduceLeDiff, Nat.reduceLT, Nat.reduceBNe, Nat.reduceGT, List.drop_nil, List.take_nil, Option.isSome_none, Int.ofNat_one, Int.ofNat_zero, r, hok, decide_true, q1, hw]

theorem lasting17_no {vt : AV} {t : List (List Int)} (ht : IsTab vt t) (hs : t.length < 1000) (hok : ¬ okTab t) :
    freeX H (callL E Y 17 [vt] []) = some (.tup [.nils, vI 2], H) := by
  have r := read47 (Y := Y) (H := []) ht hs
  rw [call17 rfl]
  simp only [F17B, F17T0, in17_0, SS, insA, wantedA, Opd.ev, putA, binA, eqbA, unA, fldA, partA, reduceIte, reduceCtorEq, Nat.reduceMod, Nat.reduceDiv, Nat.reduceBEq, resultA, resA, vI, Nat.reduceMul, Nat.reduceAdd, Nat.reduceSub, Nat.reduceEqDiff, Nat.reduceLT, Nat.reducePow, Nat.reduceLeDiff, st, Option.bind_eq_bind, Option.pure_def, List.length_nil, Int.cast_ofNat_Int, List.reverse_nil, UU, idxP, cellsAt, storeA, fillA, zerosA, putAll, optNat, sliceA, row, Int.reduceLT, Int.reduceLE, Int.reduceGT, Int.reduceGE, Int.reduceEq, Int.reduceNe, Int.reduceToNat, Int.reduceBEq, Int.reduceBNe, Nat.reduceLeDiff, Nat.reduceLT, Nat.reduceBNe, Nat.reduceGT, List.drop_nil, List.take_nil, Option.isSome_none, Int.ofNat_one, Int.ofNat_zero, r, hok, decide_false]

theorem lasting18 {vt : AV} {t : List (List Int)} (ht : IsTab vt t) (hs : Small t) (hok : okTab t) :
    ∃ w, IsLst w (lastingS t).length (mixL (lastingS t)) ∧ ∀ H, freeX H (callL E Y 18 [vt] []) = some (.tup [w, vI 0], H) := by
  obtain ⟨R', v', q1, q2⟩ := L18 (Y := Y) ht hok (2 ^ t.length - 1) 1 [] .nils [] (by have := Nat.two_pow_pos t.length; omega) (by omega) (by simp) (Gro.nil _ _ _)
  rw [List.nil_append] at q2
  obtain ⟨w, hw, hi⟩ := q2.freeL (d := 3) mix_free
  refine ⟨w, hi, fun H => ?_⟩
  have r := fun H => table34 (Y := Y) (H := H) ht hs
  rw [call18 rfl]
  simp only [SS, insA, wantedA, Opd.ev, putA, binA, eqbA, unA, fldA, partA, reduceIte, reduceCtorEq, Nat.reduceMod, Nat.reduceDiv, Nat.reduceBEq, resultA, resA, vI, Nat.reduceMul, Nat.reduceAdd, Nat.reduceSub, Nat.reduceEqDiff, Nat.reduceLT, Nat.reducePow, Nat.reduceLeDiff, st, Option.bind_eq_bind, Option.pure_def, List.length_nil, Int.cast_ofNat_Int, List.reverse_nil, Int.ofNat_one] at q1
  simp only [F18B, F18T0, in18_0, SS, insA, wantedA, Opd.ev, putA, binA, eqbA, unA, fldA, partA, reduceIte, reduceCtorEq, Nat.reduceMod, Nat.reduceDiv, Nat.reduceBEq, resultA, resA, vI, Nat.reduceMul, Nat.reduceAdd, Nat.reduceSub, Nat.reduceEqDiff, Nat.reduceLT, Nat.reducePow, Nat.reduceLeDiff, st, Option.bind_eq_bind, Option.pure_def, List.length_nil, Int.cast_ofNat_Int, List.reverse_nil, UU, idxP, cellsAt, storeA, fillA, zerosA, putAll, optNat, sliceA, row, Int.reduceLT, Int.reduceLE, Int.reduceGT, Int.reduceGE, Int.reduceEq, Int.reduceNe, Int.reduceToNat, Int.reduceBEq, Int.reduceBNe, Nat.reduceLeDiff, Nat.reduceLT, Nat.reduceBNe, Nat.reduceGT, List.drop_nil, List.take_nil, Option.isSome_none, Int.ofNat_one, Int.ofNat_zero, ht.snap, r, hok, decide_true, q1, hw]

theorem lasting18_no {vt : AV} {t : List (List Int)} (ht : IsTab vt t) (hs : Small t) (hok : ¬ okTab t) :
    freeX H (callL E Y 18 [vt] []) = some (.tup [.nils, vI 2], H) := by
  have r := fun H => table34 (Y := Y) (H := H) ht hs
  rw [call18 rfl]
  simp only [F18B, F18T0, in18_0, SS, insA, wantedA, Opd.ev, putA, binA, eqbA, unA, fldA, partA, reduceIte, reduceCtorEq, Nat.reduceMod, Nat.reduceDiv, Nat.reduceBEq, resultA, resA, vI, Nat.reduceMul, Nat.reduceAdd, Nat.reduceSub, Nat.reduceEqDiff, Nat.reduceLT, Nat.reducePow, Nat.reduceLeDiff, st, Option.bind_eq_bind, Option.pure_def, List.length_nil, Int.cast_ofNat_Int, List.reverse_nil, UU, idxP, cellsAt, storeA, fillA, zerosA, putAll, optNat, sliceA, row, Int.reduceLT, Int.reduceLE, Int.reduceGT, Int.reduceGE, Int.reduceEq, Int.reduceNe, Int.reduceToNat, Int.reduceBEq, Int.reduceBNe, Nat.reduceLeDiff, Nat.reduceLT, Nat.reduceBNe, Nat.reduceGT, List.drop_nil, List.take_nil, Option.isSome_none, Int.ofNat_one, Int.ofNat_zero, ht.snap, r, hok, decide_false]
end
end Go.X
