import Derived.Test.YtchgifdkhknppaaUR
/-! Veils: pairings that cross, and pairings that go around. -/
set_option linter.unusedSimpArgs false
set_option linter.unusedVariables false
set_option maxHeartbeats 8000000
set_option maxRecDepth 10000
namespace Go.X
open Go Go.RowKit
section
variable {Y : Run} {H : Heap}

def crA (l : List Int) (a : Nat) : Nat → Nat → Bool
  | _, 0 => false
  | b, d + 1 => decide (l.getD b 0 > l.getD a 0) || crA l a (b + 1) d
def crB (l : List Int) : Nat → Nat → Bool
  | _, 0 => false
  | a, d + 1 => crA l a (a + 1) ((l.getD a 0).toNat - (a + 1)) || crB l (a + 1) d
def crossP (l : List Int) : Bool := crB l 0 l.length

theorem prB_at {l : List Int} : ∀ {d k : Nat}, prB l k d = true → ∀ i, k ≤ i → i < k + d → 0 ≤ l.getD i 0 ∧ l.getD i 0 < l.length ∧ l.getD i 0 ≠ i ∧ l.getD (l.getD i 0).toNat 0 = i := fun {d k} h i h1 h2 =>
  of_decide_eq_true (List.all_eq_true.1 h i (by simp; omega))
theorem isPr_at {l : List Int} (h : isPr l = true) : (2 ≤ l.length ∧ l.length ≤ 10 ∧ l.length % 2 = 0) ∧ ∀ i, i < l.length → 0 ≤ l.getD i 0 ∧ l.getD i 0 < l.length ∧ l.getD i 0 ≠ i ∧ l.getD (l.getD i 0).toNat 0 = i := by
  unfold isPr at h
  rw [Bool.and_eq_true, decide_eq_true_eq] at h
  exact ⟨h.1, fun i hi => prB_at h.2 i (Nat.zero_le _) (by omega)⟩

theorem L39_0 {w : AV} {l : List Int} (hw : IsRow w l) (hp : isPr l = true) {a : Nat} (ha : a < l.length) (d : Nat) : ∀ (b : Nat), (l.getD a 0).toNat - b = d →
    lp EV Y F39L0 (sp 30 [(4, vI b), (3, vI a), (0, w)]) H = if crA l a b d = true then some (.r, sp 30 [(2, .bool true)], H) else some (.x 2, sp 30 [(3, vI a), (0, w)], H) := by
  obtain ⟨p1, p2⟩ := isPr_at hp
  have pa := p2 a ha
  induction d with
  | zero =>
    intro b hb
    have : ¬ ((b : Int) < l.getD a 0) := by omega
    rw [un39_0, if_neg (by simp [crA])]
    simp only [F39L0b, SS, insA, wantedA, Opd.ev, putA, binA, eqbA, unA, fldA, partA, reduceIte, reduceCtorEq, Nat.reduceMod, Nat.reduceDiv, Nat.reduceBEq, resultA, resA, vI, Nat.reduceMul, Nat.reduceAdd, Nat.reduceSub, Nat.reduceEqDiff, Nat.reduceLT, Nat.reducePow, Nat.reduceLeDiff, st, Option.bind_eq_bind, Option.pure_def, List.length_nil, Int.cast_ofNat_Int, List.reverse_nil, UU, idxP, cellsAt, storeA, fillA, zerosA, putAll, optNat, sliceA, row, Int.reduceLT, Int.reduceLE, Int.reduceGT, Int.reduceGE, Int.reduceEq, Int.reduceNe, Int.reduceToNat, Int.reduceBEq, Int.reduceBNe, Nat.reduceLeDiff, Nat.reduceLT, Nat.reduceBNe, Nat.reduceGT, List.drop_nil, List.take_nil, Option.isSome_none, Int.ofNat_one, Int.ofNat_zero, hw.idx ha, hw.load ha, this]
  | succ d ih =>
    intro b hb
    have hc : (b : Int) < l.getD a 0 := by omega
    have kb : b < l.length := by omega
    have hww := wrap_succ (n := b) (by omega)
    have ih := ih (b + 1) (by omega)
    rw [un39_0]
    unfold crA
    by_cases c : l.getD b 0 > l.getD a 0
    · rw [decide_eq_true c, Bool.true_or, if_pos rfl]
      simp only [F39L0b, SS, insA, wantedA, Opd.ev, putA, binA, eqbA, unA, fldA, partA, reduceIte, reduceCtorEq, Nat.reduceMod, Nat.reduceDiv, Nat.reduceBEq, resultA, resA, vI, Nat.reduceMul, Nat.reduceAdd, Nat.reduceSub, Nat.reduceEqDiff, Nat.reduceLT, Nat.reducePow, Nat.reduceLeDiff, st, Option.bind_eq_bind, Option.pure_def, List.length_nil, Int.cast_ofNat_Int, List.reverse_nil, UU, idxP, cellsAt, storeA, fillA, zerosA, putAll, optNat, sliceA, row, Int.reduceLT, Int.reduceLE, Int.reduceGT, Int.reduceGE, Int.reduceEq, Int.reduceNe, Int.reduceToNat, Int.reduceBEq, Int.reduceBNe, Nat.reduceLeDiff, Nat.reduceLT, Nat.reduceBNe, Nat.reduceGT, List.drop_nil, List.take_nil, Option.isSome_none, Int.ofNat_one, Int.ofNat_zero, hw.idx ha, hw.load ha, hw.idx kb, hw.load kb, hc, c]
    · rw [decide_eq_false c, Bool.false_or]
      simp only [SS, insA, wantedA, Opd.ev, putA, binA, eqbA, unA, fldA, partA, reduceIte, reduceCtorEq, Nat.reduceMod, Nat.reduceDiv, Nat.reduceBEq, resultA, resA, vI, Nat.reduceMul, Nat.reduceAdd, Nat.reduceSub, Nat.reduceEqDiff, Nat.reduceLT, Nat.reducePow, Nat.reduceLeDiff, st, Option.bind_eq_bind, Option.pure_def, List.length_nil, Int.cast_ofNat_Int, List.reverse_nil] at ih
      simp only [F39L0b, SS, insA, wantedA, Opd.ev, putA, binA, eqbA, unA, fldA, partA, reduceIte, reduceCtorEq, Nat.reduceMod, Nat.reduceDiv, Nat.reduceBEq, resultA, resA, vI, Nat.reduceMul, Nat.reduceAdd, Nat.reduceSub, Nat.reduceEqDiff, Nat.reduceLT, Nat.reducePow, Nat.reduceLeDiff, st, Option.bind_eq_bind, Option.pure_def, List.length_nil, Int.cast_ofNat_Int, List.reverse_nil, UU, idxP, cellsAt, storeA, fillA, zerosA, putAll, optNat, sliceA, row, Int.reduceLT, Int.reduceLE, Int.reduceGT, Int.reduceGE, Int.reduceEq, Int.reduceNe, Int.reduceToNat, Int.reduceBEq, Int.reduceBNe, Nat.reduceLeDiff, Nat.reduceLT, Nat.reduceBNe, Nat.reduceGT, List.drop_nil, List.take_nil, Option.isSome_none, Int.ofNat_one, Int.ofNat_zero, hw.idx ha, hw.load ha, hw.idx kb, hw.load kb, hc, c, hww, ih]
theorem L39_1 {w : AV} {l : List Int} (hw : IsRow w l) (hp : isPr l = true) (d : Nat) : ∀ (a : Nat), a + d = l.length →
    lp EV Y F39L1 (sp 30 [(3, vI a), (0, w)]) H = if crB l a d = true then some (.r, sp 30 [(2, .bool true)], H) else some (.x 0, sp 30 [], H) := by
  obtain ⟨p1, p2⟩ := isPr_at hp
  induction d with
  | zero =>
    intro a ha
    have : ¬ ((a : Int) < (l.length : Int)) := by omega
    rw [un39_1, if_neg (by simp [crB])]
    simp only [F39L1b, SS, insA, wantedA, Opd.ev, putA, binA, eqbA, unA, fldA, partA, reduceIte, reduceCtorEq, Nat.reduceMod, Nat.reduceDiv, Nat.reduceBEq, resultA, resA, vI, Nat.reduceMul, Nat.reduceAdd, Nat.reduceSub, Nat.reduceEqDiff, Nat.reduceLT, Nat.reducePow, Nat.reduceLeDiff, st, Option.bind_eq_bind, Option.pure_def, List.length_nil, Int.cast_ofNat_Int, List.reverse_nil, UU, idxP, cellsAt, storeA, fillA, zerosA, putAll, optNat, sliceA, row, Int.reduceLT, Int.reduceLE, Int.reduceGT, Int.reduceGE, Int.reduceEq, Int.reduceNe, Int.reduceToNat, Int.reduceBEq, Int.reduceBNe, Nat.reduceLeDiff, Nat.reduceLT, Nat.reduceBNe, Nat.reduceGT, List.drop_nil, List.take_nil, Option.isSome_none, Int.ofNat_one, Int.ofNat_zero, hw.len, this]
  | succ d ih =>
    intro a ha
    have hc : (a : Int) < (l.length : Int) := by omega
    have hww := wrap_succ (n := a) (by omega)
    have ih := ih (a + 1) (by omega)
    have h0 := L39_0 (Y := Y) (H := H) hw hp (a := a) (by omega) _ (a + 1) rfl
    rw [un39_1]
    unfold crB
    cases c : crA l a (a + 1) ((l.getD a 0).toNat - (a + 1))
    · rw [c, if_neg (by decide)] at h0
      rw [Bool.false_or]
      simp only [SS, insA, wantedA, Opd.ev, putA, binA, eqbA, unA, fldA, partA, reduceIte, reduceCtorEq, Nat.reduceMod, Nat.reduceDiv, Nat.reduceBEq, resultA, resA, vI, Nat.reduceMul, Nat.reduceAdd, Nat.reduceSub, Nat.reduceEqDiff, Nat.reduceLT, Nat.reducePow, Nat.reduceLeDiff, st, Option.bind_eq_bind, Option.pure_def, List.length_nil, Int.cast_ofNat_Int, List.reverse_nil] at h0 ih
      simp only [F39L1b, F39T0, in39_0, SS, insA, wantedA, Opd.ev, putA, binA, eqbA, unA, fldA, partA, reduceIte, reduceCtorEq, Nat.reduceMod, Nat.reduceDiv, Nat.reduceBEq, resultA, resA, vI, Nat.reduceMul, Nat.reduceAdd, Nat.reduceSub, Nat.reduceEqDiff, Nat.reduceLT, Nat.reducePow, Nat.reduceLeDiff, st, Option.bind_eq_bind, Option.pure_def, List.length_nil, Int.cast_ofNat_Int, List.reverse_nil, UU, idxP, cellsAt, storeA, fillA, zerosA, putAll, optNat, sliceA, row, Int.reduceLT, Int.reduceLE, Int.reduceGT, Int.reduceGE, Int.reduceEq, Int.reduceNe, Int.reduceToNat, Int.reduceBEq, Int.reduceBNe, Nat.reduceLeDiff, Nat.reduceLT, Nat.reduceBNe, Nat.reduceGT, List.drop_nil, List.take_nil, Option.isSome_none, Int.ofNat_one, Int.ofNat_zero, hw.len, hc, hww, h0, ih]
    · rw [c, if_pos rfl] at h0
      rw [Bool.true_or, if_pos rfl]
      simp only [SS, insA, wantedA, Opd.ev, putA, binA, eqbA, unA, fldA, partA, reduceIte, reduceCtorEq, Nat.reduceMod, Nat.reduceDiv, Nat.reduceBEq, resultA, resA, vI, Nat.reduceMul, Nat.reduceAdd, Nat.reduceSub, Nat.reduceEqDiff, Nat.reduceLT, Nat.reducePow, Nat.reduceLeDiff, st, Option.bind_eq_bind, Option.pure_def, List.length_nil, Int.cast_ofNat_Int, List.reverse_nil] at h0
      simp only [F39L1b, F39T0, in39_0, SS, insA, wantedA, Opd.ev, putA, binA, eqbA, unA, fldA, partA, reduceIte, reduceCtorEq, Nat.reduceMod, Nat.reduceDiv, Nat.reduceBEq, resultA, resA, vI, Nat.reduceMul, Nat.reduceAdd, Nat.reduceSub, Nat.reduceEqDiff, Nat.reduceLT, Nat.reducePow, Nat.reduceLeDiff, st, Option.bind_eq_bind, Option.pure_def, List.length_nil, Int.cast_ofNat_Int, List.reverse_nil, UU, idxP, cellsAt, storeA, fillA, zerosA, putAll, optNat, sliceA, row, Int.reduceLT, Int.reduceLE, Int.reduceGT, Int.reduceGE, Int.reduceEq, Int.reduceNe, Int.reduceToNat, Int.reduceBEq, Int.reduceBNe, Nat.reduceLeDiff, Nat.reduceLT, Nat.reduceBNe, Nat.reduceGT, List.drop_nil, List.take_nil, Option.isSome_none, Int.ofNat_one, Int.ofNat_zero, hw.len, hc, hww, h0]
theorem crosses39 {w : AV} {l : List Int} (hw : IsRow w l) (hp : isPr l = true) : freeX H (callL EV Y 39 [w] []) = some (.bool (crossP l), H) := by
  have h0 := L39_1 (Y := Y) (H := []) hw hp l.length 0 (by omega)
  rw [call39 rfl]
  unfold crossP
  cases c : crB l 0 l.length
  · rw [c, if_neg (by decide)] at h0
    simp only [SS, insA, wantedA, Opd.ev, putA, binA, eqbA, unA, fldA, partA, reduceIte, reduceCtorEq, Nat.reduceMod, Nat.reduceDiv, Nat.reduceBEq, resultA, resA, vI, Nat.reduceMul, Nat.reduceAdd, Nat.reduceSub, Nat.reduceEqDiff, Nat.reduceLT, Nat.reducePow, Nat.reduceLeDiff, st, Option.bind_eq_bind, Option.pure_def, List.length_nil, Int.cast_ofNat_Int, List.reverse_nil, Int.ofNat_zero] at h0
    simp only [F39B, F39T1, in39_1, SS, insA, wantedA, Opd.ev, putA, binA, eqbA, unA, fldA, partA, reduceIte, reduceCtorEq, Nat.reduceMod, Nat.reduceDiv, Nat.reduceBEq, resultA, resA, vI, Nat.reduceMul, Nat.reduceAdd, Nat.reduceSub, Nat.reduceEqDiff, Nat.reduceLT, Nat.reducePow, Nat.reduceLeDiff, st, Option.bind_eq_bind, Option.pure_def, List.length_nil, Int.cast_ofNat_Int, List.reverse_nil, UU, idxP, cellsAt, storeA, fillA, zerosA, putAll, optNat, sliceA, row, Int.reduceLT, Int.reduceLE, Int.reduceGT, Int.reduceGE, Int.reduceEq, Int.reduceNe, Int.reduceToNat, Int.reduceBEq, Int.reduceBNe, Nat.reduceLeDiff, Nat.reduceLT, Nat.reduceBNe, Nat.reduceGT, List.drop_nil, List.take_nil, Option.isSome_none, Int.ofNat_one, Int.ofNat_zero, h0]
  · rw [c, if_pos rfl] at h0
    simp only [SS, insA, wantedA, Opd.ev, putA, binA, eqbA, unA, fldA, partA, reduceIte, reduceCtorEq, Nat.reduceMod, Nat.reduceDiv, Nat.reduceBEq, resultA, resA, vI, Nat.reduceMul, Nat.reduceAdd, Nat.reduceSub, Nat.reduceEqDiff, Nat.reduceLT, Nat.reducePow, Nat.reduceLeDiff, st, Option.bind_eq_bind, Option.pure_def, List.length_nil, Int.cast_ofNat_Int, List.reverse_nil, Int.ofNat_zero] at h0
    simp only [F39B, F39T1, in39_1, SS, insA, wantedA, Opd.ev, putA, binA, eqbA, unA, fldA, partA, reduceIte, reduceCtorEq, Nat.reduceMod, Nat.reduceDiv, Nat.reduceBEq, resultA, resA, vI, Nat.reduceMul, Nat.reduceAdd, Nat.reduceSub, Nat.reduceEqDiff, Nat.reduceLT, Nat.reducePow, Nat.reduceLeDiff, st, Option.bind_eq_bind, Option.pure_def, List.length_nil, Int.cast_ofNat_Int, List.reverse_nil, UU, idxP, cellsAt, storeA, fillA, zerosA, putAll, optNat, sliceA, row, Int.reduceLT, Int.reduceLE, Int.reduceGT, Int.reduceGE, Int.reduceEq, Int.reduceNe, Int.reduceToNat, Int.reduceBEq, Int.reduceBNe, Nat.reduceLeDiff, Nat.reduceLT, Nat.reduceBNe, Nat.reduceGT, List.drop_nil, List.take_nil, Option.isSome_none, Int.ofNat_one, Int.ofNat_zero, h0]

/-! ### around -/
def arL (l : List Int) : List Int → Nat → Nat → List Int
  | q, _, 0 => q
  | q, k, d + 1 => arL l (q.set ((k + 1) % l.length) (Int.tmod (l.getD k 0 + 1) l.length)) (k + 1) d
def arP (l : List Int) : List Int := arL l (List.replicate l.length 0) 0 l.length
theorem arL_len {l : List Int} : ∀ (d k : Nat) (q : List Int), (arL l q k d).length = q.length
  | 0, _, _ => rfl
  | d + 1, k, q => by unfold arL; rw [arL_len, List.length_set]
theorem arP_len {l : List Int} : (arP l).length = l.length := by unfold arP; rw [arL_len, List.length_replicate]

theorem L48_0 {w v : AV} {l : List Int} (hw : IsRow w l) (hp : isPr l = true) (d : Nat) : ∀ (k : Nat) (R : Heap) (q : List Int), k + d = l.length → q.length = l.length → Gro 0 1 R v q.length (q.map vI) →
    ∃ R', lp EV Y F48L0 (sp 30 [(4, vI k), (3, v), (0, w)]) R = some (.x 0, sp 30 [(3, v)], R') ∧ Gro 0 1 R' v l.length ((arL l q k d).map vI) := by
  obtain ⟨p1, p2⟩ := isPr_at hp
  induction d with
  | zero =>
    intro k R q hk hq G
    have : ¬ ((k : Int) < (l.length : Int)) := by omega
    refine ⟨R, ?_, by rw [hq] at G; exact G⟩
    rw [un48_0]
    simp only [F48L0b, SS, insA, wantedA, Opd.ev, putA, binA, eqbA, unA, fldA, partA, reduceIte, reduceCtorEq, Nat.reduceMod, Nat.reduceDiv, Nat.reduceBEq, resultA, resA, vI, Nat.reduceMul, Nat.reduceAdd, Nat.reduceSub, Nat.reduceEqDiff, Nat.reduceLT, Nat.reducePow, Nat.reduceLeDiff, st, Option.bind_eq_bind, Option.pure_def, List.length_nil, Int.cast_ofNat_Int, List.reverse_nil, UU, idxP, cellsAt, storeA, fillA, zerosA, putAll, optNat, sliceA, row, Int.reduceLT, Int.reduceLE, Int.reduceGT, Int.reduceGE, Int.reduceEq, Int.reduceNe, Int.reduceToNat, Int.reduceBEq, Int.reduceBNe, Nat.reduceLeDiff, Nat.reduceLT, Nat.reduceBNe, Nat.reduceGT, List.drop_nil, List.take_nil, Option.isSome_none, Int.ofNat_one, Int.ofNat_zero, hw.len, this]
  | succ d ih =>
    intro k R q hk hq G
    have hc : (k : Int) < (l.length : Int) := by omega
    have k1 : k < l.length := by omega
    have pk := p2 k k1
    have hww := wrap_succ (n := k) (by omega)
    have hm := Nat.mod_lt (k + 1) (show 0 < l.length by omega)
    have w1 : Int.tmod ((k + 1 : Nat) : Int) (l.length : Int) = (((k + 1) % l.length : Nat) : Int) := by rw [← Int.ofNat_tmod]
    have w2 : IntKind.wrap .i64 (l.getD k 0 + 1) = l.getD k 0 + 1 := wrap_id (by omega) (by omega)
    have hl0 : ¬ ((l.length : Int) = 0) := by omega
    obtain ⟨id, ver, s1, s2, s3, s4⟩ := G.store (i := (k + 1) % l.length) (x := Int.tmod (l.getD k 0 + 1) l.length) (by omega)
    have hi : (k + 1) % l.length < q.length := by omega
    obtain ⟨R', b1, b2⟩ := ih (k + 1) _ (q.set ((k + 1) % l.length) (Int.tmod (l.getD k 0 + 1) l.length)) (by omega) (by simpa using hq) (by rw [List.length_set]; exact s4)
    refine ⟨R', ?_, b2⟩
    rw [un48_0]
    simp only [SS, insA, wantedA, Opd.ev, putA, binA, eqbA, unA, fldA, partA, reduceIte, reduceCtorEq, Nat.reduceMod, Nat.reduceDiv, Nat.reduceBEq, resultA, resA, vI, Nat.reduceMul, Nat.reduceAdd, Nat.reduceSub, Nat.reduceEqDiff, Nat.reduceLT, Nat.reducePow, Nat.reduceLeDiff, st, Option.bind_eq_bind, Option.pure_def, List.length_nil, Int.cast_ofNat_Int, List.reverse_nil] at b1 s3
    simp only [F48L0b, SS, insA, wantedA, Opd.ev, putA, binA, eqbA, unA, fldA, partA, reduceIte, reduceCtorEq, Nat.reduceMod, Nat.reduceDiv, Nat.reduceBEq, resultA, resA, vI, Nat.reduceMul, Nat.reduceAdd, Nat.reduceSub, Nat.reduceEqDiff, Nat.reduceLT, Nat.reducePow, Nat.reduceLeDiff, st, Option.bind_eq_bind, Option.pure_def, List.length_nil, Int.cast_ofNat_Int, List.reverse_nil, UU, idxP, cellsAt, fillA, zerosA, putAll, row, Int.reduceLT, Int.reduceLE, Int.reduceGT, Int.reduceGE, Int.reduceEq, Int.reduceNe, Int.reduceToNat, Int.reduceBEq, Int.reduceBNe, Nat.reduceLeDiff, Nat.reduceLT, Nat.reduceBNe, Nat.reduceGT, List.drop_nil, List.take_nil, Option.isSome_none, Int.ofNat_one, Int.ofNat_zero, hw.len, hc, hww, w1, hw.idx k1, hw.load k1, w2, hl0, and_self, ne_eq, not_false_eq_true, G.idx hi, s3, b1]
theorem around48 {w : AV} {l : List Int} (hw : IsRow w l) (hp : isPr l = true) : ∃ x, IsRow x (arP l) ∧ ∀ H, freeX H (callL EV Y 48 [w] []) = some (x, H) := by
  obtain ⟨p1, p2⟩ := isPr_at hp
  have G : Gro 0 1 [⟨0, (List.replicate l.length (0 : Int)).map vI⟩] (.sl 0 0 1 0 l.length none) (List.replicate l.length (0 : Int)).length ((List.replicate l.length (0 : Int)).map vI) := by
    have := Gro.made (H := [⟨0, (List.replicate l.length (0 : Int)).map vI⟩]) (k := 0) (ver := 0) (l := List.replicate l.length (0 : Int)) rfl (Nat.le_refl 0)
    rw [List.length_replicate] at this ⊢
    exact this
  obtain ⟨R', a1, a2⟩ := L48_0 (Y := Y) hw hp l.length 0 _ (List.replicate l.length 0) (by omega) (by simp) G
  have a2 : Gro 0 1 R' (.sl 0 0 1 0 l.length none) l.length ((arP l).map vI) := a2
  obtain ⟨x, f1, f2⟩ := a2.free (d := 4)
  have f1 : freeA R' 6 (.sl 0 0 1 0 l.length none) = some x := f1
  refine ⟨x, f2, fun H => ?_⟩
  have hki : 0 ≤ (l.length : Int) ∧ (l.length : Int) * 8 ≤ 140737488355328 ∧ (l.length : Int) ≤ 9223372036854775807 := by omega
  have hz : zerosA [.int .i64 0] l.length = List.replicate l.length (.int .i64 0) := by rw [← map_rep]; exact zeros_int
  rw [map_rep] at a1
  rw [call48 rfl]
  simp only [SS, insA, wantedA, Opd.ev, putA, binA, eqbA, unA, fldA, partA, reduceIte, reduceCtorEq, Nat.reduceMod, Nat.reduceDiv, Nat.reduceBEq, resultA, resA, vI, Nat.reduceMul, Nat.reduceAdd, Nat.reduceSub, Nat.reduceEqDiff, Nat.reduceLT, Nat.reducePow, Nat.reduceLeDiff, st, Option.bind_eq_bind, Option.pure_def, List.length_nil, Int.cast_ofNat_Int, List.reverse_nil, Int.ofNat_zero] at a1 f1
  simp only [F48B, F48T0, in48_0, SS, insA, wantedA, Opd.ev, putA, binA, eqbA, unA, fldA, partA, reduceIte, reduceCtorEq, Nat.reduceMod, Nat.reduceDiv, Nat.reduceBEq, resultA, resA, vI, Nat.reduceMul, Nat.reduceAdd, Nat.reduceSub, Nat.reduceEqDiff, Nat.reduceLT, Nat.reducePow, Nat.reduceLeDiff, st, Option.bind_eq_bind, Option.pure_def, List.length_nil, Int.cast_ofNat_Int, List.reverse_nil, UU, idxP, cellsAt, fillA, putAll, row, Int.reduceLT, Int.reduceLE, Int.reduceGT, Int.reduceGE, Int.reduceEq, Int.reduceNe, Int.reduceToNat, Int.reduceBEq, Int.reduceBNe, Nat.reduceLeDiff, Nat.reduceLT, Nat.reduceBNe, Nat.reduceGT, List.drop_nil, List.take_nil, Option.isSome_none, Int.ofNat_one, Int.ofNat_zero, hw.len, hki, hz, Int.toNat_natCast, Nat.mul_one, List.nil_append, List.length_nil, a1, f1]
end
end Go.X
