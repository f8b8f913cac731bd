import Derived.Test.YtmedpfjiidlidaaZB
/-! Resting and Lasts, both ways; the law on them. -/
set_option linter.unusedSimpArgs false
set_option linter.unusedVariables false
set_option maxHeartbeats 2000000
set_option maxRecDepth 10000
namespace Go.X
open Go Go.RowKit
section
variable {Y : Run} {H : Heap}

def restR (t : List (List Int)) (s : Int) : AV :=
  if okTab t ∧ 1 ≤ s ∧ s < ((2 ^ t.length : Nat) : Int) then
    match restS t s.toNat with
    | some (x, d) => .tup [.agg [.imm false (x.map vI) x.length, vI d], vI 0]
    | none => .tup [.agg [.nils, vI 0], vI 10]
  else .tup [.agg [.nils, vI 0], vI 2]

theorem resting30 {vt : AV} {t : List (List Int)} {s : Int} (ht : IsTab vt t) (hs : Small t) : freeX H (callL E Y 30 [vt, vI s] []) = some (restR t s, H) := by
  have r := fun H => read47 (Y := Y) (H := H) ht (by have := hs.1; omega)
  have s1 := shlW (i := t.length) (by have := hs.1; omega)
  simp only [binA] at s1
  rw [call30 rfl]
  unfold restR
  by_cases hok : okTab t
  · simp only [hok, if_true, decide_true] at r
    by_cases c1 : s < 1
    · rw [if_neg (by omega)]
      simp only [F30B, SS, insA, wantedA, Opd.ev, putA, binA, eqbA, unA, fldA, partA, reduceIte, reduceCtorEq, Nat.reduceMod, Nat.reduceDiv, Nat.reduceBEq, resultA, resA, vI, Nat.reduceMul, Nat.reduceAdd, Nat.reduceSub, Nat.reduceEqDiff, Nat.reduceLT, Nat.reducePow, Nat.reduceLeDiff, st, Option.bind_eq_bind, Option.pure_def, List.length_nil, Int.cast_ofNat_Int, List.reverse_nil, UU, idxP, cellsAt, storeA, fillA, zerosA, putAll, optNat, sliceA, row, Int.reduceLT, Int.reduceLE, Int.reduceGT, Int.reduceGE, Int.reduceEq, Int.reduceNe, Int.reduceToNat, Int.reduceBEq, Int.reduceBNe, Nat.reduceLeDiff, Nat.reduceLT, Nat.reduceBNe, Nat.reduceGT, List.drop_nil, List.take_nil, Option.isSome_none, Int.ofNat_one, Int.ofNat_zero, r, c1, decide_true, BEq.rfl]
    · by_cases c2 : s ≥ ((2 ^ t.length : Nat) : Int)
      · rw [if_neg (by omega)]
        simp only [F30B, SS, insA, wantedA, Opd.ev, putA, binA, eqbA, unA, fldA, partA, reduceIte, reduceCtorEq, Nat.reduceMod, Nat.reduceDiv, Nat.reduceBEq, resultA, resA, vI, Nat.reduceMul, Nat.reduceAdd, Nat.reduceSub, Nat.reduceEqDiff, Nat.reduceLT, Nat.reducePow, Nat.reduceLeDiff, st, Option.bind_eq_bind, Option.pure_def, List.length_nil, Int.cast_ofNat_Int, List.reverse_nil, UU, idxP, cellsAt, storeA, fillA, zerosA, putAll, optNat, sliceA, row, Int.reduceLT, Int.reduceLE, Int.reduceGT, Int.reduceGE, Int.reduceEq, Int.reduceNe, Int.reduceToNat, Int.reduceBEq, Int.reduceBNe, Nat.reduceLeDiff, Nat.reduceLT, Nat.reduceBNe, Nat.reduceGT, List.drop_nil, List.take_nil, Option.isSome_none, Int.ofNat_one, Int.ofNat_zero, r, c1, ht.len, s1, c2, decide_true, decide_false, BEq.rfl]
      · rw [if_pos ⟨hok, by omega, by omega⟩]
        obtain ⟨n, rfl⟩ : ∃ n : Nat, s = n := ⟨s.toNat, by omega⟩
        have k1 := fun H => resting48 (Y := Y) (H := H) (set := n) ht hok (by omega) (by omega)
        rw [Int.toNat_natCast]
        cases hr : restS t n with
        | none =>
          obtain ⟨⟨pl, pd, e1, hpl⟩, _⟩ := resP_none hok (by omega) (by omega) hr
          simp only [e1] at k1
          simp only [SS, insA, wantedA, Opd.ev, putA, binA, eqbA, unA, fldA, partA, reduceIte, reduceCtorEq, Nat.reduceMod, Nat.reduceDiv, Nat.reduceBEq, resultA, resA, vI, Nat.reduceMul, Nat.reduceAdd, Nat.reduceSub, Nat.reduceEqDiff, Nat.reduceLT, Nat.reducePow, Nat.reduceLeDiff, st, Option.bind_eq_bind, Option.pure_def, List.length_nil, Int.cast_ofNat_Int, List.reverse_nil] at k1
          rcases hpl with rfl | ⟨q, rfl⟩
          · simp only [F30B, SS, insA, wantedA, Opd.ev, putA, binA, eqbA, unA, fldA, partA, reduceIte, reduceCtorEq, Nat.reduceMod, Nat.reduceDiv, Nat.reduceBEq, resultA, resA, vI, Nat.reduceMul, Nat.reduceAdd, Nat.reduceSub, Nat.reduceEqDiff, Nat.reduceLT, Nat.reducePow, Nat.reduceLeDiff, st, Option.bind_eq_bind, Option.pure_def, List.length_nil, Int.cast_ofNat_Int, List.reverse_nil, UU, idxP, cellsAt, storeA, fillA, zerosA, putAll, optNat, sliceA, row, Int.reduceLT, Int.reduceLE, Int.reduceGT, Int.reduceGE, Int.reduceEq, Int.reduceNe, Int.reduceToNat, Int.reduceBEq, Int.reduceBNe, Nat.reduceLeDiff, Nat.reduceLT, Nat.reduceBNe, Nat.reduceGT, List.drop_nil, List.take_nil, Option.isSome_none, Int.ofNat_one, Int.ofNat_zero, r, c1, ht.len, ht.snap, s1, c2, decide_true, decide_false, BEq.rfl, k1, get_last, set_last]
          · simp only [F30B, SS, insA, wantedA, Opd.ev, putA, binA, eqbA, unA, fldA, partA, reduceIte, reduceCtorEq, Nat.reduceMod, Nat.reduceDiv, Nat.reduceBEq, resultA, resA, vI, Nat.reduceMul, Nat.reduceAdd, Nat.reduceSub, Nat.reduceEqDiff, Nat.reduceLT, Nat.reducePow, Nat.reduceLeDiff, st, Option.bind_eq_bind, Option.pure_def, List.length_nil, Int.cast_ofNat_Int, List.reverse_nil, UU, idxP, cellsAt, storeA, fillA, zerosA, putAll, optNat, sliceA, row, Int.reduceLT, Int.reduceLE, Int.reduceGT, Int.reduceGE, Int.reduceEq, Int.reduceNe, Int.reduceToNat, Int.reduceBEq, Int.reduceBNe, Nat.reduceLeDiff, Nat.reduceLT, Nat.reduceBNe, Nat.reduceGT, List.drop_nil, List.take_nil, Option.isSome_none, Int.ofNat_one, Int.ofNat_zero, r, c1, ht.len, ht.snap, s1, c2, decide_true, decide_false, BEq.rfl, k1, get_last, set_last]
        | some x =>
          obtain ⟨x, den⟩ := x
          obtain ⟨e1, _, hf, hxl, hxs⟩ := resP_some hok (by omega) (by omega) hr
          simp only [e1] at k1
          simp only [SS, insA, wantedA, Opd.ev, putA, binA, eqbA, unA, fldA, partA, reduceIte, reduceCtorEq, Nat.reduceMod, Nat.reduceDiv, Nat.reduceBEq, resultA, resA, vI, Nat.reduceMul, Nat.reduceAdd, Nat.reduceSub, Nat.reduceEqDiff, Nat.reduceLT, Nat.reducePow, Nat.reduceLeDiff, st, Option.bind_eq_bind, Option.pure_def, List.length_nil, Int.cast_ofNat_Int, List.reverse_nil] at k1
          simp only [F30B, SS, insA, wantedA, Opd.ev, putA, binA, eqbA, unA, fldA, partA, reduceIte, reduceCtorEq, Nat.reduceMod, Nat.reduceDiv, Nat.reduceBEq, resultA, resA, vI, Nat.reduceMul, Nat.reduceAdd, Nat.reduceSub, Nat.reduceEqDiff, Nat.reduceLT, Nat.reducePow, Nat.reduceLeDiff, st, Option.bind_eq_bind, Option.pure_def, List.length_nil, Int.cast_ofNat_Int, List.reverse_nil, UU, idxP, cellsAt, storeA, fillA, zerosA, putAll, optNat, sliceA, row, Int.reduceLT, Int.reduceLE, Int.reduceGT, Int.reduceGE, Int.reduceEq, Int.reduceNe, Int.reduceToNat, Int.reduceBEq, Int.reduceBNe, Nat.reduceLeDiff, Nat.reduceLT, Nat.reduceBNe, Nat.reduceGT, List.drop_nil, List.take_nil, Option.isSome_none, Int.ofNat_one, Int.ofNat_zero, r, c1, ht.len, ht.snap, s1, c2, decide_true, decide_false, BEq.rfl, k1, get_last, set_last]
  · rw [if_neg (fun h => hok h.1)]
    simp only [hok, if_false, decide_false] at r
    simp only [F30B, SS, insA, wantedA, Opd.ev, putA, binA, eqbA, unA, fldA, partA, reduceIte, reduceCtorEq, Nat.reduceMod, Nat.reduceDiv, Nat.reduceBEq, resultA, resA, vI, Nat.reduceMul, Nat.reduceAdd, Nat.reduceSub, Nat.reduceEqDiff, Nat.reduceLT, Nat.reducePow, Nat.reduceLeDiff, st, Option.bind_eq_bind, Option.pure_def, List.length_nil, Int.cast_ofNat_Int, List.reverse_nil, UU, idxP, cellsAt, storeA, fillA, zerosA, putAll, optNat, sliceA, row, Int.reduceLT, Int.reduceLE, Int.reduceGT, Int.reduceGE, Int.reduceEq, Int.reduceNe, Int.reduceToNat, Int.reduceBEq, Int.reduceBNe, Nat.reduceLeDiff, Nat.reduceLT, Nat.reduceBNe, Nat.reduceGT, List.drop_nil, List.take_nil, Option.isSome_none, Int.ofNat_one, Int.ofNat_zero, r]

theorem resting31 {vt : AV} {t : List (List Int)} {s : Int} (ht : IsTab vt t) (hs : Small t) : freeX H (callL E Y 31 [vt, vI s] []) = some (restR t s, H) := by
  have r := fun H => table34 (Y := Y) (H := H) ht hs
  have s1 := shlW (i := t.length) (by have := hs.1; omega)
  simp only [binA] at s1
  rw [call31 rfl]
  unfold restR
  by_cases hok : okTab t
  · simp only [hok, decide_true] at r
    by_cases c1 : s < 1
    · rw [if_neg (by omega)]
      simp only [F31B, SS, insA, wantedA, Opd.ev, putA, binA, eqbA, unA, fldA, partA, reduceIte, reduceCtorEq, Nat.reduceMod, Nat.reduceDiv, Nat.reduceBEq, resultA, resA, vI, Nat.reduceMul, Nat.reduceAdd, Nat.reduceSub, Nat.reduceEqDiff, Nat.reduceLT, Nat.reducePow, Nat.reduceLeDiff, st, Option.bind_eq_bind, Option.pure_def, List.length_nil, Int.cast_ofNat_Int, List.reverse_nil, UU, idxP, cellsAt, storeA, fillA, zerosA, putAll, optNat, sliceA, row, Int.reduceLT, Int.reduceLE, Int.reduceGT, Int.reduceGE, Int.reduceEq, Int.reduceNe, Int.reduceToNat, Int.reduceBEq, Int.reduceBNe, Nat.reduceLeDiff, Nat.reduceLT, Nat.reduceBNe, Nat.reduceGT, List.drop_nil, List.take_nil, Option.isSome_none, Int.ofNat_one, Int.ofNat_zero, r, ht.snap, c1, decide_true, BEq.rfl]
    · by_cases c2 : s ≥ ((2 ^ t.length : Nat) : Int)
      · rw [if_neg (by omega)]
        simp only [F31B, SS, insA, wantedA, Opd.ev, putA, binA, eqbA, unA, fldA, partA, reduceIte, reduceCtorEq, Nat.reduceMod, Nat.reduceDiv, Nat.reduceBEq, resultA, resA, vI, Nat.reduceMul, Nat.reduceAdd, Nat.reduceSub, Nat.reduceEqDiff, Nat.reduceLT, Nat.reducePow, Nat.reduceLeDiff, st, Option.bind_eq_bind, Option.pure_def, List.length_nil, Int.cast_ofNat_Int, List.reverse_nil, UU, idxP, cellsAt, storeA, fillA, zerosA, putAll, optNat, sliceA, row, Int.reduceLT, Int.reduceLE, Int.reduceGT, Int.reduceGE, Int.reduceEq, Int.reduceNe, Int.reduceToNat, Int.reduceBEq, Int.reduceBNe, Nat.reduceLeDiff, Nat.reduceLT, Nat.reduceBNe, Nat.reduceGT, List.drop_nil, List.take_nil, Option.isSome_none, Int.ofNat_one, Int.ofNat_zero, r, ht.snap, c1, ht.len, s1, c2, decide_true, decide_false, BEq.rfl]
      · rw [if_pos ⟨hok, by omega, by omega⟩]
        obtain ⟨n, rfl⟩ : ∃ n : Nat, s = n := ⟨s.toNat, by omega⟩
        have k1 := fun H => resting50 (Y := Y) (H := H) (set := n) ht hok (by omega) (by omega)
        rw [Int.toNat_natCast]
        cases hr : restS t n with
        | none =>
          obtain ⟨_, e1⟩ := resP_none hok (by omega) (by omega) hr
          simp only [e1] at k1
          simp only [SS, insA, wantedA, Opd.ev, putA, binA, eqbA, unA, fldA, partA, reduceIte, reduceCtorEq, Nat.reduceMod, Nat.reduceDiv, Nat.reduceBEq, resultA, resA, vI, Nat.reduceMul, Nat.reduceAdd, Nat.reduceSub, Nat.reduceEqDiff, Nat.reduceLT, Nat.reducePow, Nat.reduceLeDiff, st, Option.bind_eq_bind, Option.pure_def, List.length_nil, Int.cast_ofNat_Int, List.reverse_nil] at k1
          simp only [F31B, SS, insA, wantedA, Opd.ev, putA, binA, eqbA, unA, fldA, partA, reduceIte, reduceCtorEq, Nat.reduceMod, Nat.reduceDiv, Nat.reduceBEq, resultA, resA, vI, Nat.reduceMul, Nat.reduceAdd, Nat.reduceSub, Nat.reduceEqDiff, Nat.reduceLT, Nat.reducePow, Nat.reduceLeDiff, st, Option.bind_eq_bind, Option.pure_def, List.length_nil, Int.cast_ofNat_Int, List.reverse_nil, UU, idxP, cellsAt, storeA, fillA, zerosA, putAll, optNat, sliceA, row, Int.reduceLT, Int.reduceLE, Int.reduceGT, Int.reduceGE, Int.reduceEq, Int.reduceNe, Int.reduceToNat, Int.reduceBEq, Int.reduceBNe, Nat.reduceLeDiff, Nat.reduceLT, Nat.reduceBNe, Nat.reduceGT, List.drop_nil, List.take_nil, Option.isSome_none, Int.ofNat_one, Int.ofNat_zero, r, c1, ht.len, ht.snap, s1, c2, decide_true, decide_false, BEq.rfl, k1, get_last, set_last]
        | some x =>
          obtain ⟨x, den⟩ := x
          obtain ⟨_, e1, hf, hxl, hxs⟩ := resP_some hok (by omega) (by omega) hr
          simp only [e1] at k1
          simp only [SS, insA, wantedA, Opd.ev, putA, binA, eqbA, unA, fldA, partA, reduceIte, reduceCtorEq, Nat.reduceMod, Nat.reduceDiv, Nat.reduceBEq, resultA, resA, vI, Nat.reduceMul, Nat.reduceAdd, Nat.reduceSub, Nat.reduceEqDiff, Nat.reduceLT, Nat.reducePow, Nat.reduceLeDiff, st, Option.bind_eq_bind, Option.pure_def, List.length_nil, Int.cast_ofNat_Int, List.reverse_nil] at k1
          simp only [F31B, SS, insA, wantedA, Opd.ev, putA, binA, eqbA, unA, fldA, partA, reduceIte, reduceCtorEq, Nat.reduceMod, Nat.reduceDiv, Nat.reduceBEq, resultA, resA, vI, Nat.reduceMul, Nat.reduceAdd, Nat.reduceSub, Nat.reduceEqDiff, Nat.reduceLT, Nat.reducePow, Nat.reduceLeDiff, st, Option.bind_eq_bind, Option.pure_def, List.length_nil, Int.cast_ofNat_Int, List.reverse_nil, UU, idxP, cellsAt, storeA, fillA, zerosA, putAll, optNat, sliceA, row, Int.reduceLT, Int.reduceLE, Int.reduceGT, Int.reduceGE, Int.reduceEq, Int.reduceNe, Int.reduceToNat, Int.reduceBEq, Int.reduceBNe, Nat.reduceLeDiff, Nat.reduceLT, Nat.reduceBNe, Nat.reduceGT, List.drop_nil, List.take_nil, Option.isSome_none, Int.ofNat_one, Int.ofNat_zero, r, c1, ht.len, ht.snap, s1, c2, decide_true, decide_false, BEq.rfl, k1, get_last, set_last]
  · rw [if_neg (fun h => hok h.1)]
    simp only [hok, decide_false] at r
    simp only [F31B, SS, insA, wantedA, Opd.ev, putA, binA, eqbA, unA, fldA, partA, reduceIte, reduceCtorEq, Nat.reduceMod, Nat.reduceDiv, Nat.reduceBEq, resultA, resA, vI, Nat.reduceMul, Nat.reduceAdd, Nat.reduceSub, Nat.reduceEqDiff, Nat.reduceLT, Nat.reducePow, Nat.reduceLeDiff, st, Option.bind_eq_bind, Option.pure_def, List.length_nil, Int.cast_ofNat_Int, List.reverse_nil, UU, idxP, cellsAt, storeA, fillA, zerosA, putAll, optNat, sliceA, row, Int.reduceLT, Int.reduceLE, Int.reduceGT, Int.reduceGE, Int.reduceEq, Int.reduceNe, Int.reduceToNat, Int.reduceBEq, Int.reduceBNe, Nat.reduceLeDiff, Nat.reduceLT, Nat.reduceBNe, Nat.reduceGT, List.drop_nil, List.take_nil, Option.isSome_none, Int.ofNat_one, Int.ofNat_zero, r, ht.snap]

theorem restR_form (t : List (List Int)) (s : Int) : ∃ (v : AV) (l : List Int) (d k : Int), restR t s = .tup [.agg [v, vI d], vI k] ∧ IsRow v l ∧ l.length ≤ 3 := by
  unfold restR
  split
  · rename_i h
    cases hr : restS t s.toNat with
    | none => exact ⟨.nils, [], 0, 10, rfl, .nil, by simp⟩
    | some x =>
      obtain ⟨x, d⟩ := x
      obtain ⟨_, _, _, hxl, _⟩ := resP_some h.1 (by omega) (by omega) hr
      exact ⟨_, x, d, 0, rfl, .imm false x, by have := h.1.2.1; omega⟩
  · exact ⟨.nils, [], 0, 2, rfl, .nil, by simp⟩

theorem setS_pos {p : Int → Bool} : ∀ (l : List Int) (i : Nat), (∃ x ∈ l, p x = true) → 0 < setS p l i
  | [], _, h => by simp at h
  | x :: l, i, h => by
    have hp := Nat.two_pow_pos i
    rw [setS]
    by_cases c : p x = true
    · rw [if_pos c]; omega
    · obtain ⟨y, hy, hpy⟩ := h
      rcases List.mem_cons.1 hy with rfl | hy
      · exact absurd hpy c
      · have := setS_pos l (i + 1) ⟨y, hy, hpy⟩
        omega

theorem sum_pos {l : List Int} : (∀ x ∈ l, ¬ x > 0) → sumL l ≤ 0 := by
  induction l with
  | nil => intro _; simp [sumL]
  | cons x l ih =>
    intro h
    have h1 := ih fun y hy => h y (List.mem_cons_of_mem _ hy)
    have h2 := h x (by simp)
    simp only [sumL, List.foldr_cons] at h1 ⊢
    omega

theorem mix_fash {n : Nat} {l : List Int} {den : Int} (h : mixS n l den = true) : 0 < fashS l := by
  obtain ⟨_, h1, _, _, h5, _⟩ := mix_ok h
  refine setS_pos l 0 (Classical.byContradiction fun hn => ?_)
  have := sum_pos (l := l) fun x hx hp => hn ⟨x, hx, by simpa using hp⟩
  omega

theorem lasts32 {vt xv : AV} {t : List (List Int)} {xs : List Int} {dx : Int} (ht : IsTab vt t) (hs : t.length < 1000) (hx : IsRow xv xs) (hxl : xs.length ≤ 20) :
    freeX H (callL E Y 32 [vt, .agg [xv, vI dx]] []) = some (.tup [.bool (askS t [(xs, dx)] && lastsP t xs), err (askS t [(xs, dx)])], H) := by
  have r := mixed54_1 (Y := Y) (H := [⟨0, [xv, vI dx]⟩, ⟨0, [xv, vI dx]⟩]) (id := 1) ht hs hx hxl rfl
  obtain ⟨o1, o2, o3⟩ := hx.one
  rw [call32 rfl]
  unfold err
  cases hb : askS t [(xs, dx)]
  · rw [hb] at r
    simp only [SS, insA, wantedA, Opd.ev, putA, binA, eqbA, unA, fldA, partA, reduceIte, reduceCtorEq, Nat.reduceMod, Nat.reduceDiv, Nat.reduceBEq, resultA, resA, vI, Nat.reduceMul, Nat.reduceAdd, Nat.reduceSub, Nat.reduceEqDiff, Nat.reduceLT, Nat.reducePow, Nat.reduceLeDiff, st, Option.bind_eq_bind, Option.pure_def, List.length_nil, Int.cast_ofNat_Int, List.reverse_nil] at r
    simp only [F32B, SS, insA, wantedA, Opd.ev, putA, binA, eqbA, unA, fldA, partA, reduceIte, reduceCtorEq, Nat.reduceMod, Nat.reduceDiv, Nat.reduceBEq, resultA, resA, vI, Nat.reduceMul, Nat.reduceAdd, Nat.reduceSub, Nat.reduceEqDiff, Nat.reduceLT, Nat.reducePow, Nat.reduceLeDiff, st, Option.bind_eq_bind, Option.pure_def, List.length_nil, Int.cast_ofNat_Int, List.reverse_nil, UU, idxP, cellsAt, storeA, fillA, zerosA, putAll, optNat, sliceA, row, Int.reduceLT, Int.reduceLE, Int.reduceGT, Int.reduceGE, Int.reduceEq, Int.reduceNe, Int.reduceToNat, Int.reduceBEq, Int.reduceBNe, Nat.reduceLeDiff, Nat.reduceLT, Nat.reduceBNe, Nat.reduceGT, List.drop_nil, List.take_nil, Option.isSome_none, Int.ofNat_one, Int.ofNat_zero, r, o1, o2, o3, Bool.false_and]
  · obtain ⟨hok, m1⟩ := ask1 hb
    obtain ⟨l1, d1, d2, f1, _⟩ := mix_ok m1
    have hX := f1.small d2
    have hg := fun H => lasts49 (Y := Y) (H := H) (den := dx) ht hok hx l1 hX (mix_fash m1)
    simp only [hb, hok, if_true] at r
    simp only [SS, insA, wantedA, Opd.ev, putA, binA, eqbA, unA, fldA, partA, reduceIte, reduceCtorEq, Nat.reduceMod, Nat.reduceDiv, Nat.reduceBEq, resultA, resA, vI, Nat.reduceMul, Nat.reduceAdd, Nat.reduceSub, Nat.reduceEqDiff, Nat.reduceLT, Nat.reducePow, Nat.reduceLeDiff, st, Option.bind_eq_bind, Option.pure_def, List.length_nil, Int.cast_ofNat_Int, List.reverse_nil] at r hg
    simp only [F32B, SS, insA, wantedA, Opd.ev, putA, binA, eqbA, unA, fldA, partA, reduceIte, reduceCtorEq, Nat.reduceMod, Nat.reduceDiv, Nat.reduceBEq, resultA, resA, vI, Nat.reduceMul, Nat.reduceAdd, Nat.reduceSub, Nat.reduceEqDiff, Nat.reduceLT, Nat.reducePow, Nat.reduceLeDiff, st, Option.bind_eq_bind, Option.pure_def, List.length_nil, Int.cast_ofNat_Int, List.reverse_nil, UU, idxP, cellsAt, storeA, fillA, zerosA, putAll, optNat, sliceA, row, Int.reduceLT, Int.reduceLE, Int.reduceGT, Int.reduceGE, Int.reduceEq, Int.reduceNe, Int.reduceToNat, Int.reduceBEq, Int.reduceBNe, Nat.reduceLeDiff, Nat.reduceLT, Nat.reduceBNe, Nat.reduceGT, List.drop_nil, List.take_nil, Option.isSome_none, Int.ofNat_one, Int.ofNat_zero, r, o1, o2, o3, ht.snap, hx.snap, hg, Bool.true_and]

theorem lasts33 {vt xv : AV} {t : List (List Int)} {xs : List Int} {dx : Int} (ht : IsTab vt t) (hs : Small t) (hx : IsRow xv xs) (hxl : xs.length ≤ 20) :
    freeX H (callL E Y 33 [vt, .agg [xv, vI dx]] []) = some (.tup [.bool (askS t [(xs, dx)] && lastsP t xs), err (askS t [(xs, dx)])], H) := by
  have r := fun H => asked57 (Y := Y) (H := H) ht hs (pts1 (s := true) (dx := dx) hx) (by simp) (by simp; omega)
  obtain ⟨o1, o2, o3⟩ := hx.one
  rw [call33 rfl]
  unfold err
  cases hb : askS t [(xs, dx)]
  · simp only [hb] at r
    simp only [SS, insA, wantedA, Opd.ev, putA, binA, eqbA, unA, fldA, partA, reduceIte, reduceCtorEq, Nat.reduceMod, Nat.reduceDiv, Nat.reduceBEq, resultA, resA, vI, Nat.reduceMul, Nat.reduceAdd, Nat.reduceSub, Nat.reduceEqDiff, Nat.reduceLT, Nat.reducePow, Nat.reduceLeDiff, st, Option.bind_eq_bind, Option.pure_def, List.length_nil, Int.cast_ofNat_Int, List.reverse_nil] at r
    simp only [F33B, SS, insA, wantedA, Opd.ev, putA, binA, eqbA, unA, fldA, partA, reduceIte, reduceCtorEq, Nat.reduceMod, Nat.reduceDiv, Nat.reduceBEq, resultA, resA, vI, Nat.reduceMul, Nat.reduceAdd, Nat.reduceSub, Nat.reduceEqDiff, Nat.reduceLT, Nat.reducePow, Nat.reduceLeDiff, st, Option.bind_eq_bind, Option.pure_def, List.length_nil, Int.cast_ofNat_Int, List.reverse_nil, UU, idxP, cellsAt, storeA, fillA, zerosA, putAll, optNat, sliceA, row, Int.reduceLT, Int.reduceLE, Int.reduceGT, Int.reduceGE, Int.reduceEq, Int.reduceNe, Int.reduceToNat, Int.reduceBEq, Int.reduceBNe, Nat.reduceLeDiff, Nat.reduceLT, Nat.reduceBNe, Nat.reduceGT, List.drop_nil, List.take_nil, Option.isSome_none, Int.ofNat_one, Int.ofNat_zero, r, o1, o2, o3, ht.snap, hx.snap, Bool.false_and]
  · obtain ⟨hok, m1⟩ := ask1 hb
    obtain ⟨l1, d1, d2, f1, _⟩ := mix_ok m1
    have hX := f1.small d2
    have hg := fun H => lasts51 (Y := Y) (H := H) (den := dx) ht hok hx l1 hX (mix_fash m1)
    have hsame := lasts_same hok l1 (mix_fash m1)
    rw [hsame]
    simp only [hb] at r
    simp only [SS, insA, wantedA, Opd.ev, putA, binA, eqbA, unA, fldA, partA, reduceIte, reduceCtorEq, Nat.reduceMod, Nat.reduceDiv, Nat.reduceBEq, resultA, resA, vI, Nat.reduceMul, Nat.reduceAdd, Nat.reduceSub, Nat.reduceEqDiff, Nat.reduceLT, Nat.reducePow, Nat.reduceLeDiff, st, Option.bind_eq_bind, Option.pure_def, List.length_nil, Int.cast_ofNat_Int, List.reverse_nil] at r hg
    simp only [F33B, SS, insA, wantedA, Opd.ev, putA, binA, eqbA, unA, fldA, partA, reduceIte, reduceCtorEq, Nat.reduceMod, Nat.reduceDiv, Nat.reduceBEq, resultA, resA, vI, Nat.reduceMul, Nat.reduceAdd, Nat.reduceSub, Nat.reduceEqDiff, Nat.reduceLT, Nat.reducePow, Nat.reduceLeDiff, st, Option.bind_eq_bind, Option.pure_def, List.length_nil, Int.cast_ofNat_Int, List.reverse_nil, UU, idxP, cellsAt, storeA, fillA, zerosA, putAll, optNat, sliceA, row, Int.reduceLT, Int.reduceLE, Int.reduceGT, Int.reduceGE, Int.reduceEq, Int.reduceNe, Int.reduceToNat, Int.reduceBEq, Int.reduceBNe, Nat.reduceLeDiff, Nat.reduceLT, Nat.reduceBNe, Nat.reduceGT, List.drop_nil, List.take_nil, Option.isSome_none, Int.ofNat_one, Int.ofNat_zero, r, o1, o2, o3, ht.snap, hx.snap, hg, Bool.true_and]

theorem law5 {vt xv : AV} {t : List (List Int)} {xs : List Int} {s dx : Int} (ht : IsTab vt t) (hx : IsRow xv xs) : freeX [] (callL E Y 5 [vt, vI s, .agg [xv, vI dx]] []) = some (.bool true, []) := by
  obtain ⟨o1, o2, o3⟩ := hx.one
  have f := fun H => few15 (Y := Y) (H := H) ht (pts1 (s := true) (dx := dx) hx) (by simp)
  have ha := fun H => alive16 (Y := Y) (H := H)
  rw [call5 rfl]
  by_cases hf : fewS t [(xs, dx)]
  · have f1 := fun H => (f H).1 hf
    have hxl : xs.length ≤ 20 := hf.2 (xs, dx) (by simp)
    have k1 := fun H => resting30 (Y := Y) (H := H) (s := s) ht hf.1
    have k2 := fun H => resting31 (Y := Y) (H := H) (s := s) ht hf.1
    have k3 := fun H => lasts32 (Y := Y) (H := H) (dx := dx) ht (by have := hf.1.1; omega) hx hxl
    have k4 := fun H => lasts33 (Y := Y) (H := H) (dx := dx) ht hf.1 hx hxl
    obtain ⟨v, l, d, k, e, hv, hl⟩ := restR_form t s
    obtain ⟨p1, p2, p3⟩ := hv.one
    have k5 := fun H => same19 (Y := Y) (H := H) (c := d) (d := d) hv hv (by omega)
    have e5 : decide (d = d ∧ l = l) = true := by simp
    simp only [e] at k1 k2
    simp only [e5] at k5
    unfold err at k3 k4
    simp only [SS, insA, wantedA, Opd.ev, putA, binA, eqbA, unA, fldA, partA, reduceIte, reduceCtorEq, Nat.reduceMod, Nat.reduceDiv, Nat.reduceBEq, resultA, resA, vI, Nat.reduceMul, Nat.reduceAdd, Nat.reduceSub, Nat.reduceEqDiff, Nat.reduceLT, Nat.reducePow, Nat.reduceLeDiff, st, Option.bind_eq_bind, Option.pure_def, List.length_nil, Int.cast_ofNat_Int, List.reverse_nil] at f1 k1 k2 k3 k4 k5
    cases hb : askS t [(xs, dx)]
    all_goals
      simp only [hb] at k3 k4
      simp only [SS, insA, wantedA, Opd.ev, putA, binA, eqbA, unA, fldA, partA, reduceIte, reduceCtorEq, Nat.reduceMod, Nat.reduceDiv, Nat.reduceBEq, resultA, resA, vI, Nat.reduceMul, Nat.reduceAdd, Nat.reduceSub, Nat.reduceEqDiff, Nat.reduceLT, Nat.reducePow, Nat.reduceLeDiff, st, Option.bind_eq_bind, Option.pure_def, List.length_nil, Int.cast_ofNat_Int, List.reverse_nil] at k3 k4
      simp only [F5B, SS, insA, wantedA, Opd.ev, putA, binA, eqbA, unA, fldA, partA, reduceIte, reduceCtorEq, Nat.reduceMod, Nat.reduceDiv, Nat.reduceBEq, resultA, resA, vI, Nat.reduceMul, Nat.reduceAdd, Nat.reduceSub, Nat.reduceEqDiff, Nat.reduceLT, Nat.reducePow, Nat.reduceLeDiff, st, Option.bind_eq_bind, Option.pure_def, List.length_nil, Int.cast_ofNat_Int, List.reverse_nil, UU, idxP, cellsAt, storeA, fillA, zerosA, putAll, optNat, sliceA, row, Int.reduceLT, Int.reduceLE, Int.reduceGT, Int.reduceGE, Int.reduceEq, Int.reduceNe, Int.reduceToNat, Int.reduceBEq, Int.reduceBNe, Nat.reduceLeDiff, Nat.reduceLT, Nat.reduceBNe, Nat.reduceGT, List.drop_nil, List.take_nil, Option.isSome_none, Int.ofNat_one, Int.ofNat_zero, o1, o2, o3, p1, p2, p3, ht.snap, hx.snap, hv.snap, f1, k1, k2, k3, k4, k5, ha, get_last, set_last, bne_self_eq_false, decide_true]
  · have f2 := fun H => (f H).2 hf
    simp only [F5B, SS, insA, wantedA, Opd.ev, putA, binA, eqbA, unA, fldA, partA, reduceIte, reduceCtorEq, Nat.reduceMod, Nat.reduceDiv, Nat.reduceBEq, resultA, resA, vI, Nat.reduceMul, Nat.reduceAdd, Nat.reduceSub, Nat.reduceEqDiff, Nat.reduceLT, Nat.reducePow, Nat.reduceLeDiff, st, Option.bind_eq_bind, Option.pure_def, List.length_nil, Int.cast_ofNat_Int, List.reverse_nil, UU, idxP, cellsAt, storeA, fillA, zerosA, putAll, optNat, sliceA, row, Int.reduceLT, Int.reduceLE, Int.reduceGT, Int.reduceGE, Int.reduceEq, Int.reduceNe, Int.reduceToNat, Int.reduceBEq, Int.reduceBNe, Nat.reduceLeDiff, Nat.reduceLT, Nat.reduceBNe, Nat.reduceGT, List.drop_nil, List.take_nil, Option.isSome_none, Int.ofNat_one, Int.ofNat_zero, o1, o2, o3, ht.snap, hx.snap, f2, ha]
end
end Go.X
