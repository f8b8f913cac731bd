import Derived.Test.YtchgifdkhknppaaGA
import Derived.Test.YtchgifdkhknppaaUE
/-! Veils: all pairings that do not cross, one after the other. -/
set_option linter.unusedSimpArgs false
set_option linter.unusedVariables false
set_option maxHeartbeats 8000000
set_option maxRecDepth 10000
namespace Go.X
open Go Go.RowKit
section
variable {Y : Run} {H : Heap}

theorem Work.setRow {R : Heap} {v c : AV} {t : List (List Int)} {cells : List AV} {l : List Int} (W : Work R v t cells c l) {i : Nat} {x : Int} (hi : i < l.length) : ∃ R', storeA R 1 (gptr 1 c i) (vI x) = some R' ∧ Work R' v t cells c (l.set i x) := by
  obtain ⟨id, ver, h1, h2, h3, h4⟩ := W.row.store (x := x) hi
  refine ⟨_, h3, ⟨W.tab.keep (fun a ha => ?_) fun j a hj ha => ?_, by rw [List.length_set]; exact h4, W.hv, W.hc⟩⟩
  · have : id ≠ a := fun e => W.hv id h1 (by rw [e]; exact ha)
    rw [List.getElem?_set_ne this]
  · have : id ≠ a := fun e => W.hc j a hj ha (by rw [← e]; exact h1)
    rw [List.getElem?_set_ne this]
theorem Work.ld {R : Heap} {v c : AV} {t : List (List Int)} {cells : List AV} {l : List Int} (W : Work R v t cells c l) {i : Nat} (hi : i < l.length) : loadA R none (gptr 1 c i) = some (vI (l.getD i 0)) := by
  rw [W.row.load hi]; simp [List.getD_eq_getElem?_getD, hi]
theorem Work.clone {R : Heap} {v c : AV} {t : List (List Int)} {cells : List AV} {l : List Int} (W : Work R v t cells c l) (h0 : 0 < l.length) (hl : l.length ≤ 1000) :
    appA (R ++ [⟨0, []⟩]) 1 8 (.sl R.length 0 1 0 0 none) c = some (.sl R.length 1 1 0 l.length none, R ++ [⟨1, l.map vI⟩]) := by
  have G := W.row.mores [⟨0, []⟩]
  have hlen := G.len
  have hc : content (R ++ [⟨0, []⟩]) 1 c = some (l.map vI) := by
    obtain ⟨g1, ⟨g0, rfl⟩ | ⟨id, ver, _, rfl, hH⟩⟩ := G
    · omega
    · exact content_all hH (by simp)
  have e0 : lenA (.sl R.length 0 1 0 0 none) = some 0 := rfl
  simp only [appA, e0, hlen, hc, get_last, set_last]
  rw [if_neg (by omega), if_pos ⟨by omega, by omega, ones_all l⟩]
  simp
theorem Work.addRow {R : Heap} {v c : AV} {t : List (List Int)} {cells : List AV} {l : List Int} (W : Work R v t cells c l) (ht : t.length ≤ 1000) :
    ∃ v' R' cells', appA (R ++ [⟨1, l.map vI⟩] ++ [⟨0, [.sl R.length 1 1 0 l.length none]⟩]) 1 24 v (.sl (R.length + 1) 0 1 0 1 none) = some (v', R') ∧ Work R' v' (t ++ [l]) cells' c l := by
  have T := W.tab.more [⟨1, l.map vI⟩]
  have hrow : Gro 0 1 (R ++ [⟨1, l.map vI⟩]) (.sl R.length 1 1 0 l.length none) l.length (l.map vI) := Gro.made (by simp) (Nat.zero_le _)
  obtain ⟨v', R', b1, b2, b3, b4, b5⟩ := T.add (c := .sl R.length 1 1 0 l.length none) (l := l) (Nat.zero_le _) hrow
    (fun a ha hb => by cases ha; have := W.tab.gro.id_lt hb; omega)
    (fun j a hj ha hb => by cases hb; have := (W.tab.row j hj).id_lt ha; omega) ht
  have hlen : (R ++ [(⟨1, l.map vI⟩ : Ob)]).length = R.length + 1 := by simp
  rw [hlen] at b1 b3 b4 b5
  refine ⟨v', R', _, b1, ⟨b2, ?_, fun i hi hv => ?_, fun j i hj hi hc => ?_⟩⟩
  · exact (W.row.mores [⟨1, l.map vI⟩]).keep fun a ha => b4 a (by have := W.row.id_lt ha; omega) fun hv => W.hv a ha hv
  · rcases b5 with e | ⟨m, e, hm⟩
    · rw [e] at hv; exact W.hv i hi hv
    · rw [e] at hv; cases hv; have := W.row.id_lt hi; omega
  · have hcl := W.tab.clen
    by_cases q : j < t.length
    · rw [List.getD_eq_getElem?_getD, List.getElem?_append_left (by omega), ← List.getD_eq_getElem?_getD] at hi
      exact W.hc j i q hi hc
    · have : j = t.length := by simp at hj; omega
      subst this
      rw [List.getD_eq_getElem?_getD, List.getElem?_append_right (by omega), hcl] at hi
      simp only [Nat.sub_self, List.getElem?_cons_zero, Option.getD_some] at hi
      cases hi
      have := W.row.id_lt hc; omega

/-! ### crossing -/
structure PB (m : Nat) (l : List Int) : Prop where
  len : l.length = m
  bd : ∀ i, i < m → -1 ≤ l.getD i 0 ∧ l.getD i 0 < m
theorem PB.set {m i : Nat} {l : List Int} {x : Int} (h : PB m l) (hx : -1 ≤ x ∧ x < m) : PB m (l.set i x) := by
  refine ⟨by rw [List.length_set]; exact h.len, fun j hj => ?_⟩
  rw [List.getD_eq_getElem?_getD, List.getElem?_set]
  split
  · split
    · exact hx
    · have := h.len; omega
  · rw [← List.getD_eq_getElem?_getD]; exact h.bd j hj

def crC (l : List Int) (a : Nat) : Nat → Nat → Bool
  | _, 0 => false
  | b, d + 1 => decide (0 ≤ l.getD b 0 ∧ (l.getD b 0 > l.getD a 0 ∨ l.getD b 0 < a)) || crC l a (b + 1) d
def crD (l : List Int) : Nat → Nat → Bool
  | _, 0 => false
  | a, d + 1 => crC l a (a + 1) ((l.getD a 0).toNat - (a + 1)) || crD l (a + 1) d
def crQ (l : List Int) : Bool := crD l 0 l.length

theorem L59_0 {w : AV} {l : List Int} {m : Nat} (hw : IsRow w l) (hp : PB m l) (hm : m ≤ 100) {a : Nat} (ha : a < m) (d : Nat) : ∀ (b : Nat), (l.getD a 0).toNat - b = d →
    lp EV Y F59L0 (sp 45 [(4, vI b), (3, vI a), (0, w)]) H = if crC l a b d = true then some (.r, sp 45 [(2, .bool true)], H) else some (.x 2, sp 45 [(3, vI a), (0, w)], H) := by
  have pa := hp.bd a ha
  have ka : a < l.length := by rw [hp.len]; exact ha
  induction d with
  | zero =>
    intro b hb
    have : ¬ ((b : Int) < l.getD a 0) := by omega
    rw [un59_0, if_neg (by simp [crC])]
    simp only [F59L0b, SS, insA, wantedA, Opd.ev, putA, binA, eqbA, unA, fldA, partA, reduceIte, reduceCtorEq, Nat.reduceMod, Nat.reduceDiv, Nat.reduceBEq, resultA, resA, vI, Nat.reduceMul, Nat.reduceAdd, Nat.reduceSub, Nat.reduceEqDiff, Nat.reduceLT, Nat.reducePow, Nat.reduceLeDiff, st, Option.bind_eq_bind, Option.pure_def, List.length_nil, Int.cast_ofNat_Int, List.reverse_nil, UU, idxP, cellsAt, storeA, fillA, zerosA, putAll, optNat, sliceA, row, Int.reduceLT, Int.reduceLE, Int.reduceGT, Int.reduceGE, Int.reduceEq, Int.reduceNe, Int.reduceToNat, Int.reduceBEq, Int.reduceBNe, Nat.reduceLeDiff, Nat.reduceLT, Nat.reduceBNe, Nat.reduceGT, List.drop_nil, List.take_nil, Option.isSome_none, Int.ofNat_one, Int.ofNat_zero, hw.idx ka, hw.load ka, this]
  | succ d ih =>
    intro b hb
    have hc : (b : Int) < l.getD a 0 := by omega
    have kb : b < l.length := by rw [hp.len]; omega
    have hww := wrap_succ (n := b) (by omega)
    have ih := ih (b + 1) (by omega)
    rw [un59_0]
    unfold crC
    simp only [SS, insA, wantedA, Opd.ev, putA, binA, eqbA, unA, fldA, partA, reduceIte, reduceCtorEq, Nat.reduceMod, Nat.reduceDiv, Nat.reduceBEq, resultA, resA, vI, Nat.reduceMul, Nat.reduceAdd, Nat.reduceSub, Nat.reduceEqDiff, Nat.reduceLT, Nat.reducePow, Nat.reduceLeDiff, st, Option.bind_eq_bind, Option.pure_def, List.length_nil, Int.cast_ofNat_Int, List.reverse_nil] at ih
    by_cases c1 : l.getD b 0 ≥ 0
    · by_cases c2 : l.getD b 0 > l.getD a 0
      · rw [decide_eq_true ⟨c1, .inl c2⟩, Bool.true_or, if_pos rfl]
        simp only [F59L0b, SS, insA, wantedA, Opd.ev, putA, binA, eqbA, unA, fldA, partA, reduceIte, reduceCtorEq, Nat.reduceMod, Nat.reduceDiv, Nat.reduceBEq, resultA, resA, vI, Nat.reduceMul, Nat.reduceAdd, Nat.reduceSub, Nat.reduceEqDiff, Nat.reduceLT, Nat.reducePow, Nat.reduceLeDiff, st, Option.bind_eq_bind, Option.pure_def, List.length_nil, Int.cast_ofNat_Int, List.reverse_nil, UU, idxP, cellsAt, storeA, fillA, zerosA, putAll, optNat, sliceA, row, Int.reduceLT, Int.reduceLE, Int.reduceGT, Int.reduceGE, Int.reduceEq, Int.reduceNe, Int.reduceToNat, Int.reduceBEq, Int.reduceBNe, Nat.reduceLeDiff, Nat.reduceLT, Nat.reduceBNe, Nat.reduceGT, List.drop_nil, List.take_nil, Option.isSome_none, Int.ofNat_one, Int.ofNat_zero, hw.idx ka, hw.load ka, hw.idx kb, hw.load kb, hc, c1, c2]
      · by_cases c3 : l.getD b 0 < (a : Int)
        · rw [decide_eq_true ⟨c1, .inr c3⟩, Bool.true_or, if_pos rfl]
          simp only [F59L0b, SS, insA, wantedA, Opd.ev, putA, binA, eqbA, unA, fldA, partA, reduceIte, reduceCtorEq, Nat.reduceMod, Nat.reduceDiv, Nat.reduceBEq, resultA, resA, vI, Nat.reduceMul, Nat.reduceAdd, Nat.reduceSub, Nat.reduceEqDiff, Nat.reduceLT, Nat.reducePow, Nat.reduceLeDiff, st, Option.bind_eq_bind, Option.pure_def, List.length_nil, Int.cast_ofNat_Int, List.reverse_nil, UU, idxP, cellsAt, storeA, fillA, zerosA, putAll, optNat, sliceA, row, Int.reduceLT, Int.reduceLE, Int.reduceGT, Int.reduceGE, Int.reduceEq, Int.reduceNe, Int.reduceToNat, Int.reduceBEq, Int.reduceBNe, Nat.reduceLeDiff, Nat.reduceLT, Nat.reduceBNe, Nat.reduceGT, List.drop_nil, List.take_nil, Option.isSome_none, Int.ofNat_one, Int.ofNat_zero, hw.idx ka, hw.load ka, hw.idx kb, hw.load kb, hc, c1, c2, c3]
        · rw [decide_eq_false (by omega), Bool.false_or]
          simp only [F59L0b, SS, insA, wantedA, Opd.ev, putA, binA, eqbA, unA, fldA, partA, reduceIte, reduceCtorEq, Nat.reduceMod, Nat.reduceDiv, Nat.reduceBEq, resultA, resA, vI, Nat.reduceMul, Nat.reduceAdd, Nat.reduceSub, Nat.reduceEqDiff, Nat.reduceLT, Nat.reducePow, Nat.reduceLeDiff, st, Option.bind_eq_bind, Option.pure_def, List.length_nil, Int.cast_ofNat_Int, List.reverse_nil, UU, idxP, cellsAt, storeA, fillA, zerosA, putAll, optNat, sliceA, row, Int.reduceLT, Int.reduceLE, Int.reduceGT, Int.reduceGE, Int.reduceEq, Int.reduceNe, Int.reduceToNat, Int.reduceBEq, Int.reduceBNe, Nat.reduceLeDiff, Nat.reduceLT, Nat.reduceBNe, Nat.reduceGT, List.drop_nil, List.take_nil, Option.isSome_none, Int.ofNat_one, Int.ofNat_zero, hw.idx ka, hw.load ka, hw.idx kb, hw.load kb, hc, c1, c2, c3, hww, ih]
    · rw [decide_eq_false (by omega), Bool.false_or]
      simp only [F59L0b, SS, insA, wantedA, Opd.ev, putA, binA, eqbA, unA, fldA, partA, reduceIte, reduceCtorEq, Nat.reduceMod, Nat.reduceDiv, Nat.reduceBEq, resultA, resA, vI, Nat.reduceMul, Nat.reduceAdd, Nat.reduceSub, Nat.reduceEqDiff, Nat.reduceLT, Nat.reducePow, Nat.reduceLeDiff, st, Option.bind_eq_bind, Option.pure_def, List.length_nil, Int.cast_ofNat_Int, List.reverse_nil, UU, idxP, cellsAt, storeA, fillA, zerosA, putAll, optNat, sliceA, row, Int.reduceLT, Int.reduceLE, Int.reduceGT, Int.reduceGE, Int.reduceEq, Int.reduceNe, Int.reduceToNat, Int.reduceBEq, Int.reduceBNe, Nat.reduceLeDiff, Nat.reduceLT, Nat.reduceBNe, Nat.reduceGT, List.drop_nil, List.take_nil, Option.isSome_none, Int.ofNat_one, Int.ofNat_zero, hw.idx ka, hw.load ka, hw.idx kb, hw.load kb, hc, c1, hww, ih]
theorem L59_1 {w : AV} {l : List Int} {m : Nat} (hw : IsRow w l) (hp : PB m l) (hm : m ≤ 100) (d : Nat) : ∀ (a : Nat), a + d = m →
    lp EV Y F59L1 (sp 45 [(3, vI a), (0, w)]) H = if crD l a d = true then some (.r, sp 45 [(2, .bool true)], H) else some (.x 0, sp 45 [], H) := by
  have hlen : lenA w = some m := by rw [hw.len, hp.len]
  induction d with
  | zero =>
    intro a ha
    have : ¬ ((a : Int) < (m : Int)) := by omega
    rw [un59_1, if_neg (by simp [crD])]
    simp only [F59L1b, SS, insA, wantedA, Opd.ev, putA, binA, eqbA, unA, fldA, partA, reduceIte, reduceCtorEq, Nat.reduceMod, Nat.reduceDiv, Nat.reduceBEq, resultA, resA, vI, Nat.reduceMul, Nat.reduceAdd, Nat.reduceSub, Nat.reduceEqDiff, Nat.reduceLT, Nat.reducePow, Nat.reduceLeDiff, st, Option.bind_eq_bind, Option.pure_def, List.length_nil, Int.cast_ofNat_Int, List.reverse_nil, UU, idxP, cellsAt, storeA, fillA, zerosA, putAll, optNat, sliceA, row, Int.reduceLT, Int.reduceLE, Int.reduceGT, Int.reduceGE, Int.reduceEq, Int.reduceNe, Int.reduceToNat, Int.reduceBEq, Int.reduceBNe, Nat.reduceLeDiff, Nat.reduceLT, Nat.reduceBNe, Nat.reduceGT, List.drop_nil, List.take_nil, Option.isSome_none, Int.ofNat_one, Int.ofNat_zero, hlen, this]
  | succ d ih =>
    intro a ha
    have hc : (a : Int) < (m : Int) := by omega
    have hww := wrap_succ (n := a) (by omega)
    have ih := ih (a + 1) (by omega)
    have h0 := L59_0 (Y := Y) (H := H) hw hp hm (a := a) (by omega) _ (a + 1) rfl
    rw [un59_1]
    unfold crD
    cases c : crC l a (a + 1) ((l.getD a 0).toNat - (a + 1))
    · rw [c, if_neg (by decide)] at h0
      rw [Bool.false_or]
      simp only [SS, insA, wantedA, Opd.ev, putA, binA, eqbA, unA, fldA, partA, reduceIte, reduceCtorEq, Nat.reduceMod, Nat.reduceDiv, Nat.reduceBEq, resultA, resA, vI, Nat.reduceMul, Nat.reduceAdd, Nat.reduceSub, Nat.reduceEqDiff, Nat.reduceLT, Nat.reducePow, Nat.reduceLeDiff, st, Option.bind_eq_bind, Option.pure_def, List.length_nil, Int.cast_ofNat_Int, List.reverse_nil] at h0 ih
      simp only [F59L1b, F59T0, in59_0, SS, insA, wantedA, Opd.ev, putA, binA, eqbA, unA, fldA, partA, reduceIte, reduceCtorEq, Nat.reduceMod, Nat.reduceDiv, Nat.reduceBEq, resultA, resA, vI, Nat.reduceMul, Nat.reduceAdd, Nat.reduceSub, Nat.reduceEqDiff, Nat.reduceLT, Nat.reducePow, Nat.reduceLeDiff, st, Option.bind_eq_bind, Option.pure_def, List.length_nil, Int.cast_ofNat_Int, List.reverse_nil, UU, idxP, cellsAt, storeA, fillA, zerosA, putAll, optNat, sliceA, row, Int.reduceLT, Int.reduceLE, Int.reduceGT, Int.reduceGE, Int.reduceEq, Int.reduceNe, Int.reduceToNat, Int.reduceBEq, Int.reduceBNe, Nat.reduceLeDiff, Nat.reduceLT, Nat.reduceBNe, Nat.reduceGT, List.drop_nil, List.take_nil, Option.isSome_none, Int.ofNat_one, Int.ofNat_zero, hlen, hc, hww, h0, ih]
    · rw [c, if_pos rfl] at h0
      rw [Bool.true_or, if_pos rfl]
      simp only [SS, insA, wantedA, Opd.ev, putA, binA, eqbA, unA, fldA, partA, reduceIte, reduceCtorEq, Nat.reduceMod, Nat.reduceDiv, Nat.reduceBEq, resultA, resA, vI, Nat.reduceMul, Nat.reduceAdd, Nat.reduceSub, Nat.reduceEqDiff, Nat.reduceLT, Nat.reducePow, Nat.reduceLeDiff, st, Option.bind_eq_bind, Option.pure_def, List.length_nil, Int.cast_ofNat_Int, List.reverse_nil] at h0
      simp only [F59L1b, F59T0, in59_0, SS, insA, wantedA, Opd.ev, putA, binA, eqbA, unA, fldA, partA, reduceIte, reduceCtorEq, Nat.reduceMod, Nat.reduceDiv, Nat.reduceBEq, resultA, resA, vI, Nat.reduceMul, Nat.reduceAdd, Nat.reduceSub, Nat.reduceEqDiff, Nat.reduceLT, Nat.reducePow, Nat.reduceLeDiff, st, Option.bind_eq_bind, Option.pure_def, List.length_nil, Int.cast_ofNat_Int, List.reverse_nil, UU, idxP, cellsAt, storeA, fillA, zerosA, putAll, optNat, sliceA, row, Int.reduceLT, Int.reduceLE, Int.reduceGT, Int.reduceGE, Int.reduceEq, Int.reduceNe, Int.reduceToNat, Int.reduceBEq, Int.reduceBNe, Nat.reduceLeDiff, Nat.reduceLT, Nat.reduceBNe, Nat.reduceGT, List.drop_nil, List.take_nil, Option.isSome_none, Int.ofNat_one, Int.ofNat_zero, hlen, hc, hww, h0]
theorem crossing59 {w : AV} {l : List Int} {m : Nat} (hw : IsRow w l) (hp : PB m l) (hm : m ≤ 100) : freeX H (callL EV Y 59 [w] []) = some (.bool (crQ l), H) := by
  have h0 := L59_1 (Y := Y) (H := []) hw hp hm m 0 (by omega)
  rw [call59 rfl]
  unfold crQ
  rw [hp.len]
  cases c : crD l 0 m
  · rw [c, if_neg (by decide)] at h0
    simp only [SS, insA, wantedA, Opd.ev, putA, binA, eqbA, unA, fldA, partA, reduceIte, reduceCtorEq, Nat.reduceMod, Nat.reduceDiv, Nat.reduceBEq, resultA, resA, vI, Nat.reduceMul, Nat.reduceAdd, Nat.reduceSub, Nat.reduceEqDiff, Nat.reduceLT, Nat.reducePow, Nat.reduceLeDiff, st, Option.bind_eq_bind, Option.pure_def, List.length_nil, Int.cast_ofNat_Int, List.reverse_nil, Int.ofNat_zero] at h0
    simp only [F59B, F59T1, in59_1, SS, insA, wantedA, Opd.ev, putA, binA, eqbA, unA, fldA, partA, reduceIte, reduceCtorEq, Nat.reduceMod, Nat.reduceDiv, Nat.reduceBEq, resultA, resA, vI, Nat.reduceMul, Nat.reduceAdd, Nat.reduceSub, Nat.reduceEqDiff, Nat.reduceLT, Nat.reducePow, Nat.reduceLeDiff, st, Option.bind_eq_bind, Option.pure_def, List.length_nil, Int.cast_ofNat_Int, List.reverse_nil, UU, idxP, cellsAt, storeA, fillA, zerosA, putAll, optNat, sliceA, row, Int.reduceLT, Int.reduceLE, Int.reduceGT, Int.reduceGE, Int.reduceEq, Int.reduceNe, Int.reduceToNat, Int.reduceBEq, Int.reduceBNe, Nat.reduceLeDiff, Nat.reduceLT, Nat.reduceBNe, Nat.reduceGT, List.drop_nil, List.take_nil, Option.isSome_none, Int.ofNat_one, Int.ofNat_zero, h0]
  · rw [c, if_pos rfl] at h0
    simp only [SS, insA, wantedA, Opd.ev, putA, binA, eqbA, unA, fldA, partA, reduceIte, reduceCtorEq, Nat.reduceMod, Nat.reduceDiv, Nat.reduceBEq, resultA, resA, vI, Nat.reduceMul, Nat.reduceAdd, Nat.reduceSub, Nat.reduceEqDiff, Nat.reduceLT, Nat.reducePow, Nat.reduceLeDiff, st, Option.bind_eq_bind, Option.pure_def, List.length_nil, Int.cast_ofNat_Int, List.reverse_nil, Int.ofNat_zero] at h0
    simp only [F59B, F59T1, in59_1, SS, insA, wantedA, Opd.ev, putA, binA, eqbA, unA, fldA, partA, reduceIte, reduceCtorEq, Nat.reduceMod, Nat.reduceDiv, Nat.reduceBEq, resultA, resA, vI, Nat.reduceMul, Nat.reduceAdd, Nat.reduceSub, Nat.reduceEqDiff, Nat.reduceLT, Nat.reducePow, Nat.reduceLeDiff, st, Option.bind_eq_bind, Option.pure_def, List.length_nil, Int.cast_ofNat_Int, List.reverse_nil, UU, idxP, cellsAt, storeA, fillA, zerosA, putAll, optNat, sliceA, row, Int.reduceLT, Int.reduceLE, Int.reduceGT, Int.reduceGE, Int.reduceEq, Int.reduceNe, Int.reduceToNat, Int.reduceBEq, Int.reduceBNe, Nat.reduceLeDiff, Nat.reduceLT, Nat.reduceBNe, Nat.reduceGT, List.drop_nil, List.take_nil, Option.isSome_none, Int.ofNat_one, Int.ofNat_zero, h0]

/-! ### pairings -/
def skP (l : List Int) : Nat → Nat → Nat
  | f, 0 => f
  | f, d + 1 => if 0 ≤ l.getD f 0 then skP l (f + 1) d else f
theorem skP_b {l : List Int} : ∀ (d f : Nat), f ≤ skP l f d ∧ skP l f d ≤ f + d
  | 0, f => ⟨Nat.le_refl _, Nat.le_refl _⟩
  | d + 1, f => by
    have := skP_b (l := l) d (f + 1)
    unfold skP
    split <;> omega
def prL (rec : List Int → Nat → List (List Int) → List Int × List (List Int)) (g : Nat) : Nat → Nat → List Int → List (List Int) → List Int × List (List Int)
  | _, 0, l, out => (l, out)
  | k, d + 1, l, out =>
    if 0 ≤ l.getD k 0 then prL rec g (k + 1) d l out
    else
      let s := if crQ ((l.set g k).set k g) then ((l.set g k).set k g, out) else rec ((l.set g k).set k g) (g + 1) out
      prL rec g (k + 1) d ((s.1.set g (-1)).set k (-1)) s.2
def prsP (m : Nat) : Nat → List Int → Nat → List (List Int) → List Int × List (List Int)
  | 0, l, _, out => (l, out)
  | e + 1, l, f, out => if skP l f (m - f) = m then (l, out ++ [l]) else prL (prsP m e) (skP l f (m - f)) (skP l f (m - f) + 1) (m - (skP l f (m - f) + 1)) l out

theorem prL_len {rec : List Int → Nat → List (List Int) → List Int × List (List Int)} (hr : ∀ l f out, out.length ≤ (rec l f out).2.length) {g : Nat} : ∀ (d k : Nat) (l : List Int) (out : List (List Int)), out.length ≤ (prL rec g k d l out).2.length
  | 0, _, _, _ => Nat.le_refl _
  | d + 1, k, l, out => by
    unfold prL
    split
    · exact prL_len hr d (k + 1) l out
    · simp only
      refine Nat.le_trans ?_ (prL_len hr d (k + 1) _ _)
      split
      · exact Nat.le_refl _
      · exact hr _ _ _
theorem prsP_len {m : Nat} : ∀ (e : Nat) (l : List Int) (f : Nat) (out : List (List Int)), out.length ≤ (prsP m e l f out).2.length
  | 0, _, _, _ => Nat.le_refl _
  | e + 1, l, f, out => by
    unfold prsP
    split
    · simp
    · exact prL_len (prsP_len e) _ _ _ _

theorem L21_0 {R : Heap} {o c : AV} {out : List (List Int)} {cells : List AV} {l : List Int} {m : Nat} (W : Work R o out cells c l) (hp : PB m l) (hm : m ≤ 100) (d : Nat) : ∀ (f : Nat), f + d = m →
    lp EV Y F21L0 (sp 67 [(2, o), (1, vI f), (0, c)]) R = some (.x 0, sp 67 [(2, o), (1, vI (skP l f d)), (0, c)], R) := by
  have hlen : lenA c = some m := by rw [W.row.len, hp.len]
  induction d with
  | zero =>
    intro f hf
    have : ¬ ((f : Int) < (m : Int)) := by omega
    rw [un21_0]
    simp only [F21L0b, skP, SS, insA, wantedA, Opd.ev, putA, binA, eqbA, unA, fldA, partA, reduceIte, reduceCtorEq, Nat.reduceMod, Nat.reduceDiv, Nat.reduceBEq, resultA, resA, vI, Nat.reduceMul, Nat.reduceAdd, Nat.reduceSub, Nat.reduceEqDiff, Nat.reduceLT, Nat.reducePow, Nat.reduceLeDiff, st, Option.bind_eq_bind, Option.pure_def, List.length_nil, Int.cast_ofNat_Int, List.reverse_nil, UU, idxP, cellsAt, storeA, fillA, zerosA, putAll, optNat, sliceA, row, Int.reduceLT, Int.reduceLE, Int.reduceGT, Int.reduceGE, Int.reduceEq, Int.reduceNe, Int.reduceToNat, Int.reduceBEq, Int.reduceBNe, Nat.reduceLeDiff, Nat.reduceLT, Nat.reduceBNe, Nat.reduceGT, List.drop_nil, List.take_nil, Option.isSome_none, Int.ofNat_one, Int.ofNat_zero, hlen, this]
  | succ d ih =>
    intro f hf
    have hc : (f : Int) < (m : Int) := by omega
    have kf : f < l.length := by rw [hp.len]; omega
    have hww := wrap_succ (n := f) (by omega)
    have ld := W.ld kf
    have ih := ih (f + 1) (by omega)
    rw [un21_0]
    unfold skP
    simp only [SS, insA, wantedA, Opd.ev, putA, binA, eqbA, unA, fldA, partA, reduceIte, reduceCtorEq, Nat.reduceMod, Nat.reduceDiv, Nat.reduceBEq, resultA, resA, vI, Nat.reduceMul, Nat.reduceAdd, Nat.reduceSub, Nat.reduceEqDiff, Nat.reduceLT, Nat.reducePow, Nat.reduceLeDiff, st, Option.bind_eq_bind, Option.pure_def, List.length_nil, Int.cast_ofNat_Int, List.reverse_nil] at ld ih
    by_cases c1 : l.getD f 0 ≥ 0
    · rw [if_pos c1]
      simp only [F21L0b, SS, insA, wantedA, Opd.ev, putA, binA, eqbA, unA, fldA, partA, reduceIte, reduceCtorEq, Nat.reduceMod, Nat.reduceDiv, Nat.reduceBEq, resultA, resA, vI, Nat.reduceMul, Nat.reduceAdd, Nat.reduceSub, Nat.reduceEqDiff, Nat.reduceLT, Nat.reducePow, Nat.reduceLeDiff, st, Option.bind_eq_bind, Option.pure_def, List.length_nil, Int.cast_ofNat_Int, List.reverse_nil, UU, idxP, cellsAt, storeA, fillA, zerosA, putAll, optNat, sliceA, row, Int.reduceLT, Int.reduceLE, Int.reduceGT, Int.reduceGE, Int.reduceEq, Int.reduceNe, Int.reduceToNat, Int.reduceBEq, Int.reduceBNe, Nat.reduceLeDiff, Nat.reduceLT, Nat.reduceBNe, Nat.reduceGT, List.drop_nil, List.take_nil, Option.isSome_none, Int.ofNat_one, Int.ofNat_zero, hlen, hc, W.row.idx kf, ld, c1, hww, ih]
    · rw [if_neg c1]
      simp only [F21L0b, SS, insA, wantedA, Opd.ev, putA, binA, eqbA, unA, fldA, partA, reduceIte, reduceCtorEq, Nat.reduceMod, Nat.reduceDiv, Nat.reduceBEq, resultA, resA, vI, Nat.reduceMul, Nat.reduceAdd, Nat.reduceSub, Nat.reduceEqDiff, Nat.reduceLT, Nat.reducePow, Nat.reduceLeDiff, st, Option.bind_eq_bind, Option.pure_def, List.length_nil, Int.cast_ofNat_Int, List.reverse_nil, UU, idxP, cellsAt, storeA, fillA, zerosA, putAll, optNat, sliceA, row, Int.reduceLT, Int.reduceLE, Int.reduceGT, Int.reduceGE, Int.reduceEq, Int.reduceNe, Int.reduceToNat, Int.reduceBEq, Int.reduceBNe, Nat.reduceLeDiff, Nat.reduceLT, Nat.reduceBNe, Nat.reduceGT, List.drop_nil, List.take_nil, Option.isSome_none, Int.ofNat_one, Int.ofNat_zero, hlen, hc, W.row.idx kf, ld, c1]

def Prs (Y : Run) (m : Nat) (rec : List Int → Nat → List (List Int) → List Int × List (List Int)) (f : Nat) : Prop := ∀ {R : Heap} {o c : AV} {out : List (List Int)} {cells : List AV} {l : List Int}, Work R o out cells c l → PB m l → (rec l f out).2.length ≤ 1000 →
  ∃ o' R' cells', callL EV Y 21 [c, vI f, o] R = some (o', R') ∧ Work R' o' (rec l f out).2 cells' c (rec l f out).1 ∧ PB m (rec l f out).1

theorem L21_1 {m g : Nat} {rec : List Int → Nat → List (List Int) → List Int × List (List Int)} (hl : ∀ l f out, out.length ≤ (rec l f out).2.length) (I : Prs Y m rec (g + 1)) (hg : g < m) (hm : m ≤ 100) (d : Nat) : ∀ (k : Nat) {R : Heap} {o c : AV} {out : List (List Int)} {cells : List AV} {l : List Int}, k + d = m → g < k → Work R o out cells c l → PB m l → (prL rec g k d l out).2.length ≤ 1000 →
    ∃ o' R' cells', lp EV Y F21L1 (sp 67 [(7, vI k), (2, o), (1, vI g), (0, c)]) R = some (.x 2, sp 67 [(2, o')], R') ∧ Work R' o' (prL rec g k d l out).2 cells' c (prL rec g k d l out).1 ∧ PB m (prL rec g k d l out).1 := by
  induction d with
  | zero =>
    intro k R o c out cells l hk hgk W hp hB
    have hlen : lenA c = some m := by rw [W.row.len, hp.len]
    have : ¬ ((k : Int) < (m : Int)) := by omega
    refine ⟨o, R, cells, ?_, W, hp⟩
    rw [un21_1]
    simp only [F21L1b, SS, insA, wantedA, Opd.ev, putA, binA, eqbA, unA, fldA, partA, reduceIte, reduceCtorEq, Nat.reduceMod, Nat.reduceDiv, Nat.reduceBEq, resultA, resA, vI, Nat.reduceMul, Nat.reduceAdd, Nat.reduceSub, Nat.reduceEqDiff, Nat.reduceLT, Nat.reducePow, Nat.reduceLeDiff, st, Option.bind_eq_bind, Option.pure_def, List.length_nil, Int.cast_ofNat_Int, List.reverse_nil, UU, idxP, cellsAt, storeA, fillA, zerosA, putAll, optNat, sliceA, row, Int.reduceLT, Int.reduceLE, Int.reduceGT, Int.reduceGE, Int.reduceEq, Int.reduceNe, Int.reduceToNat, Int.reduceBEq, Int.reduceBNe, Nat.reduceLeDiff, Nat.reduceLT, Nat.reduceBNe, Nat.reduceGT, List.drop_nil, List.take_nil, Option.isSome_none, Int.ofNat_one, Int.ofNat_zero, hlen, this]
  | succ d ih =>
    intro k R o c out cells l hk hgk W hp hB
    have hlen : lenA c = some m := by rw [W.row.len, hp.len]
    have hc : (k : Int) < (m : Int) := by omega
    have kk : k < l.length := by rw [hp.len]; omega
    have kg : g < l.length := by rw [hp.len]; omega
    have hww := wrap_succ (n := k) (by omega)
    have hwg := wrap_succ (n := g) (by omega)
    have ld := W.ld kk
    rw [un21_1]
    unfold prL at hB ⊢
    by_cases c1 : l.getD k 0 ≥ 0
    · rw [if_pos c1] at hB ⊢
      obtain ⟨o', R', cells', p1, p2, p3⟩ := ih (k + 1) (by omega) (by omega) W hp hB
      refine ⟨o', R', cells', ?_, p2, p3⟩
      simp only [SS, insA, wantedA, Opd.ev, putA, binA, eqbA, unA, fldA, partA, reduceIte, reduceCtorEq, Nat.reduceMod, Nat.reduceDiv, Nat.reduceBEq, resultA, resA, vI, Nat.reduceMul, Nat.reduceAdd, Nat.reduceSub, Nat.reduceEqDiff, Nat.reduceLT, Nat.reducePow, Nat.reduceLeDiff, st, Option.bind_eq_bind, Option.pure_def, List.length_nil, Int.cast_ofNat_Int, List.reverse_nil] at p1 ld
      simp only [F21L1b, SS, insA, wantedA, Opd.ev, putA, binA, eqbA, unA, fldA, partA, reduceIte, reduceCtorEq, Nat.reduceMod, Nat.reduceDiv, Nat.reduceBEq, resultA, resA, vI, Nat.reduceMul, Nat.reduceAdd, Nat.reduceSub, Nat.reduceEqDiff, Nat.reduceLT, Nat.reducePow, Nat.reduceLeDiff, st, Option.bind_eq_bind, Option.pure_def, List.length_nil, Int.cast_ofNat_Int, List.reverse_nil, UU, idxP, cellsAt, fillA, zerosA, putAll, row, Int.reduceLT, Int.reduceLE, Int.reduceGT, Int.reduceGE, Int.reduceEq, Int.reduceNe, Int.reduceToNat, Int.reduceBEq, Int.reduceBNe, Nat.reduceLeDiff, Nat.reduceLT, Nat.reduceBNe, Nat.reduceGT, List.drop_nil, List.take_nil, Option.isSome_none, Int.ofNat_one, Int.ofNat_zero, hlen, hc, W.row.idx kk, ld, c1, hww, p1]
    · rw [if_neg c1] at hB ⊢
      simp only at hB ⊢
      obtain ⟨R1, s1, W1⟩ := W.setRow (i := g) (x := (k : Int)) kg
      obtain ⟨R2, s2, W2⟩ := W1.setRow (i := k) (x := (g : Int)) (by rw [List.length_set]; exact kk)
      have hp2 : PB m ((l.set g k).set k g) := (hp.set (by omega)).set (by omega)
      obtain ⟨w, w1, w2⟩ := W2.row.snapRow (d := 4)
      have w1 : snapA R2 6 c = some w := w1
      have cr := fun H => crossing59 (Y := Y) (H := H) w2 hp2 hm
      have i1 := W1.row.idx (i := k) (by rw [List.length_set]; exact kk)
      cases cq : crQ ((l.set g k).set k g)
      · rw [cq] at cr
        rw [cq] at hB
        rw [if_neg (by decide)] at hB ⊢
        have hB2 := Nat.le_trans (prL_len (rec := rec) (g := g) hl d (k + 1) _ _) hB
        obtain ⟨o3, R3, cells3, p1, W3, hp3⟩ := I W2 hp2 hB2
        generalize rec ((l.set g k).set k g) (g + 1) out = s at *
        obtain ⟨R4, s4, W4⟩ := W3.setRow (i := g) (x := -1) (by rw [hp3.len]; exact hg)
        obtain ⟨R5, s5, W5⟩ := W4.setRow (i := k) (x := -1) (by rw [List.length_set, hp3.len]; omega)
        obtain ⟨o', R', cells', q1, q2, q3⟩ := ih (k + 1) (by omega) (by omega) W5 ((hp3.set (by omega)).set (by omega)) hB
        refine ⟨o', R', cells', ?_, q2, q3⟩
        have i4 := W3.row.idx (i := g) (by rw [hp3.len]; exact hg)
        have i5 := W4.row.idx (i := k) (by rw [List.length_set, hp3.len]; omega)
        simp only [SS, insA, wantedA, Opd.ev, putA, binA, eqbA, unA, fldA, partA, reduceIte, reduceCtorEq, Nat.reduceMod, Nat.reduceDiv, Nat.reduceBEq, resultA, resA, vI, Nat.reduceMul, Nat.reduceAdd, Nat.reduceSub, Nat.reduceEqDiff, Nat.reduceLT, Nat.reducePow, Nat.reduceLeDiff, st, Option.bind_eq_bind, Option.pure_def, List.length_nil, Int.cast_ofNat_Int, List.reverse_nil] at q1 ld s1 s2 s4 s5 p1
        simp only [F21L1b, SS, insA, wantedA, Opd.ev, putA, binA, eqbA, unA, fldA, partA, reduceIte, reduceCtorEq, Nat.reduceMod, Nat.reduceDiv, Nat.reduceBEq, resultA, resA, vI, Nat.reduceMul, Nat.reduceAdd, Nat.reduceSub, Nat.reduceEqDiff, Nat.reduceLT, Nat.reducePow, Nat.reduceLeDiff, st, Option.bind_eq_bind, Option.pure_def, List.length_nil, Int.cast_ofNat_Int, List.reverse_nil, UU, idxP, cellsAt, fillA, zerosA, putAll, row, Int.reduceLT, Int.reduceLE, Int.reduceGT, Int.reduceGE, Int.reduceEq, Int.reduceNe, Int.reduceToNat, Int.reduceBEq, Int.reduceBNe, Nat.reduceLeDiff, Nat.reduceLT, Nat.reduceBNe, Nat.reduceGT, List.drop_nil, List.take_nil, Option.isSome_none, Int.ofNat_one, Int.ofNat_zero, hlen, hc, W.row.idx kk, W.row.idx kg, ld, c1, s1, i1, s2, w1, cr, hwg, p1, i4, s4, i5, s5, hww, q1]
      · rw [cq] at cr
        rw [cq] at hB
        rw [if_pos rfl] at hB ⊢
        obtain ⟨R4, s4, W4⟩ := W2.setRow (i := g) (x := -1) (by rw [hp2.len]; exact hg)
        obtain ⟨R5, s5, W5⟩ := W4.setRow (i := k) (x := -1) (by rw [List.length_set, hp2.len]; omega)
        obtain ⟨o', R', cells', q1, q2, q3⟩ := ih (k + 1) (by omega) (by omega) W5 ((hp2.set (by omega)).set (by omega)) hB
        refine ⟨o', R', cells', ?_, q2, q3⟩
        have i4 := W2.row.idx (i := g) (by rw [hp2.len]; exact hg)
        have i5 := W4.row.idx (i := k) (by rw [List.length_set, hp2.len]; omega)
        simp only [SS, insA, wantedA, Opd.ev, putA, binA, eqbA, unA, fldA, partA, reduceIte, reduceCtorEq, Nat.reduceMod, Nat.reduceDiv, Nat.reduceBEq, resultA, resA, vI, Nat.reduceMul, Nat.reduceAdd, Nat.reduceSub, Nat.reduceEqDiff, Nat.reduceLT, Nat.reducePow, Nat.reduceLeDiff, st, Option.bind_eq_bind, Option.pure_def, List.length_nil, Int.cast_ofNat_Int, List.reverse_nil] at q1 ld s1 s2 s4 s5
        simp only [F21L1b, SS, insA, wantedA, Opd.ev, putA, binA, eqbA, unA, fldA, partA, reduceIte, reduceCtorEq, Nat.reduceMod, Nat.reduceDiv, Nat.reduceBEq, resultA, resA, vI, Nat.reduceMul, Nat.reduceAdd, Nat.reduceSub, Nat.reduceEqDiff, Nat.reduceLT, Nat.reducePow, Nat.reduceLeDiff, st, Option.bind_eq_bind, Option.pure_def, List.length_nil, Int.cast_ofNat_Int, List.reverse_nil, UU, idxP, cellsAt, fillA, zerosA, putAll, row, Int.reduceLT, Int.reduceLE, Int.reduceGT, Int.reduceGE, Int.reduceEq, Int.reduceNe, Int.reduceToNat, Int.reduceBEq, Int.reduceBNe, Nat.reduceLeDiff, Nat.reduceLT, Nat.reduceBNe, Nat.reduceGT, List.drop_nil, List.take_nil, Option.isSome_none, Int.ofNat_one, Int.ofNat_zero, hlen, hc, W.row.idx kk, W.row.idx kg, ld, c1, s1, i1, s2, w1, cr, i4, s4, i5, s5, hww, q1]

theorem prs21 {m : Nat} (h1 : 1 ≤ m) (hm : m ≤ 100) : ∀ (e f : Nat), f ≤ m → m - f < e → Prs Y m (prsP m e) f := by
  intro e
  induction e with
  | zero => intro f _ h; omega
  | succ e ih =>
    intro f hf he R o c out cells l W hp hB
    have hlen : lenA c = some m := by rw [W.row.len, hp.len]
    have sk := L21_0 (Y := Y) W hp hm (m - f) f (by omega)
    have sb := skP_b (l := l) (m - f) f
    unfold prsP at hB ⊢
    generalize hg : skP l f (m - f) = g at *
    by_cases c1 : g = m
    · rw [if_pos c1] at hB ⊢
      have c1' : ((g : Int) == (m : Int)) = true := by rw [c1]; exact BEq.rfl
      have cl := W.clone (by rw [hp.len]; omega) (by rw [hp.len]; omega)
      obtain ⟨o', R', cells', a1, a2⟩ := W.addRow (by simp at hB; omega)
      refine ⟨o', R', cells', ?_, a2, hp⟩
      rw [List.append_assoc] at a1
      rw [call21 rfl]
      simp only [SS, insA, wantedA, Opd.ev, putA, binA, eqbA, unA, fldA, partA, reduceIte, reduceCtorEq, Nat.reduceMod, Nat.reduceDiv, Nat.reduceBEq, resultA, resA, vI, Nat.reduceMul, Nat.reduceAdd, Nat.reduceSub, Nat.reduceEqDiff, Nat.reduceLT, Nat.reducePow, Nat.reduceLeDiff, st, Option.bind_eq_bind, Option.pure_def, List.length_nil, Int.cast_ofNat_Int, List.reverse_nil] at sk cl a1
      simp only [F21B, F21T1, in21_0, SS, insA, wantedA, Opd.ev, putA, binA, eqbA, unA, fldA, partA, reduceIte, reduceCtorEq, Nat.reduceMod, Nat.reduceDiv, Nat.reduceBEq, resultA, resA, vI, Nat.reduceMul, Nat.reduceAdd, Nat.reduceSub, Nat.reduceEqDiff, Nat.reduceLT, Nat.reducePow, Nat.reduceLeDiff, st, Option.bind_eq_bind, Option.pure_def, List.length_nil, Int.cast_ofNat_Int, List.reverse_nil, UU, idxP, cellsAt, storeA, fillA, zerosA, putAll, optNat, sliceA, row, Int.reduceLT, Int.reduceLE, Int.reduceGT, Int.reduceGE, Int.reduceEq, Int.reduceNe, Int.reduceToNat, Int.reduceBEq, Int.reduceBNe, Nat.reduceLeDiff, Nat.reduceLT, Nat.reduceBNe, Nat.reduceGT, List.drop_nil, List.take_nil, Option.isSome_none, Int.ofNat_one, Int.ofNat_zero, sk, hlen, c1', cl, a1]
    · rw [if_neg c1] at hB ⊢
      have c1' : ((g : Int) == (m : Int)) = false := by rw [beq_eq_false_iff_ne]; omega
      have hwg := wrap_succ (n := g) (by omega)
      obtain ⟨o', R', cells', p1, p2, p3⟩ := L21_1 (Y := Y) (prsP_len e) (ih (g + 1) (by omega) (by omega)) (by omega) hm (m - (g + 1)) (g + 1) (by omega) (by omega) W hp hB
      refine ⟨o', R', cells', ?_, p2, p3⟩
      rw [call21 rfl]
      simp only [SS, insA, wantedA, Opd.ev, putA, binA, eqbA, unA, fldA, partA, reduceIte, reduceCtorEq, Nat.reduceMod, Nat.reduceDiv, Nat.reduceBEq, resultA, resA, vI, Nat.reduceMul, Nat.reduceAdd, Nat.reduceSub, Nat.reduceEqDiff, Nat.reduceLT, Nat.reducePow, Nat.reduceLeDiff, st, Option.bind_eq_bind, Option.pure_def, List.length_nil, Int.cast_ofNat_Int, List.reverse_nil] at sk p1
      simp only [F21B, F21T1, F21T0, in21_0, in21_1, SS, insA, wantedA, Opd.ev, putA, binA, eqbA, unA, fldA, partA, reduceIte, reduceCtorEq, Nat.reduceMod, Nat.reduceDiv, Nat.reduceBEq, resultA, resA, vI, Nat.reduceMul, Nat.reduceAdd, Nat.reduceSub, Nat.reduceEqDiff, Nat.reduceLT, Nat.reducePow, Nat.reduceLeDiff, st, Option.bind_eq_bind, Option.pure_def, List.length_nil, Int.cast_ofNat_Int, List.reverse_nil, UU, idxP, cellsAt, storeA, fillA, zerosA, putAll, optNat, sliceA, row, Int.reduceLT, Int.reduceLE, Int.reduceGT, Int.reduceGE, Int.reduceEq, Int.reduceNe, Int.reduceToNat, Int.reduceBEq, Int.reduceBNe, Nat.reduceLeDiff, Nat.reduceLT, Nat.reduceBNe, Nat.reduceGT, List.drop_nil, List.take_nil, Option.isSome_none, Int.ofNat_one, Int.ofNat_zero, sk, hlen, c1', hwg, p1]
end
end Go.X
