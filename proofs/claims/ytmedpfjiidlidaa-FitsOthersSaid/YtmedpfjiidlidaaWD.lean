import Derived.Test.YtmedpfjiidlidaaWC
/-! Others: the law. -/
set_option linter.unusedSimpArgs false
set_option linter.unusedVariables false
set_option maxHeartbeats 4000000
set_option maxRecDepth 10000
namespace Go.X
open Go Go.RowKit
section
variable {Y : Run} {H : Heap}

theorem limV_facts {p q m1 m2 f : Int} (bp : p.natAbs ≤ 400000000000000000) (bq : q.natAbs ≤ 400000000000000000) (hl : limV p q = .tup [.agg [vI m1, vI m2], vI f]) :
    ((p < 0 ∨ p = 0 ∧ q ≤ 0) ∧ m1 = 0 ∧ m2 = 0 ∧ f = 9) ∨ (¬ (p < 0 ∨ p = 0 ∧ q ≤ 0) ∧ f = 0 ∧ (m1 < m2 ↔ q < 0) ∧ 1 ≤ m1 ∧ m1 ≤ m2 ∧ m2 ≤ 4611686018427387904) := by
  unfold limV at hl
  by_cases c : p < 0 ∨ p = 0 ∧ q ≤ 0
  · rw [if_pos c] at hl
    left
    injection hl with h1
    injection h1 with h2 h3
    injection h2 with h2
    injection h2 with h4 h5
    injection h5 with h5 _
    injection h3 with h3 _
    injection h4 with _ h4
    injection h5 with _ h5
    injection h3 with _ h3
    exact ⟨c, h4.symm, h5.symm, h3.symm⟩
  · rw [if_neg c] at hl
    right
    by_cases c2 : q ≥ 0
    · rw [if_pos c2] at hl
      injection hl with h1
      injection h1 with h2 h3
      injection h2 with h2
      injection h2 with h4 h5
      injection h5 with h5 _
      injection h3 with h3 _
      injection h4 with _ h4
      injection h5 with _ h5
      injection h3 with _ h3
      subst h3 h4 h5
      exact ⟨c, rfl, by omega, by omega, by omega, by omega⟩
    · rw [if_neg c2] at hl
      unfold ratA at hl
      injection hl with h1
      injection h1 with h2 h3
      injection h2 with h2
      injection h2 with h4 h5
      injection h5 with h5 _
      injection h3 with h3 _
      injection h4 with _ h4
      injection h5 with _ h5
      injection h3 with _ h3
      have hp : p > 0 := by omega
      obtain ⟨g, hg, e1, e2⟩ := rat_mul (a := p) (b := p - q) (by omega)
      obtain ⟨b1, b2, b3⟩ := rat_bound (a := p) (b := p - q) (by omega)
      have n1 : ratN p (p - q) = m1 := h4
      have n2 : ratD p (p - q) = m2 := h5
      rw [n1] at e1
      rw [n2] at e2 b1 b2
      have x1 : 1 ≤ m1 := by
        rcases Int.lt_or_le 0 m1 with h | h
        · omega
        · have := Int.mul_nonpos_of_nonpos_of_nonneg h (show 0 ≤ g by omega)
          omega
      have x2 : m1 < m2 := by
        refine Int.lt_of_mul_lt_mul_right (a := g) ?_ (by omega)
        rw [← e1, ← e2]; omega
      exact ⟨c, h3.symm, by omega, x1, by omega, by omega⟩

theorem run13 {L : List (Nat × AV)} {vt xv yv : AV} {t : List (List Int)} {xs ys : List Int} {dx dy m1 m2 f : Int} {o2 : Ob} {lb : Bool} (g0 : fget L 0 = vt) (g4 : fget L 4 = .ptr 0 0 0) (g5 : fget L 5 = .ptr 1 0 0) (g7 : fget L 7 = .bool lb) (g9 : fget L 9 = .ptr 3 0 0) (g10 : fget L 10 = vI f)
    (ht : IsTab vt t) (hs : Small t) (hx : IsRow xv xs) (hxl : xs.length ≤ 20) (hy : IsRow yv ys) (hyl : ys.length ≤ 20) (axy : askS t [(xs, dx), (ys, dy)] = true) (hlb : lastsP t xs = lb)
    (hlim : limR t (xs, dx) (ys, dy) = .tup [.agg [vI m1, vI m2], vI f]) :
    freeX H (endX [.tmp 6] (codeL E2 Y X13 (sp 216 L) [⟨0, [xv, vI dx]⟩, ⟨0, [yv, vI dy]⟩, o2, ⟨0, [vI m1, vI m2]⟩])) = some (.bool true, H) := by
  have ha := fun H => freeX_up (Y := Y) E2_up (alive16 (Y := noRun) (H := H))
  have hsame := fun H => freeX_up (Y := Y) E2_up (same19 (Y := noRun) (H := H) (c := dx) (d := dy) hx hy (by omega))
  have ecut : ∀ fr H, codeL E2 Y X13 fr H = thenX (codeL E2 Y (headC 2 (tailC 6 F13B)) fr H) (codeL E2 Y X13b) := fun fr H => cut 2 (tailC 6 F13B) fr H
  unfold limR at hlim
  rw [if_pos axy] at hlim
  by_cases c : dx = dy ∧ xs = ys
  · rw [if_pos c] at hlim
    injection hlim with h1
    injection h1 with h2 h3
    injection h2 with h2
    injection h2 with h4 h5
    injection h5 with h5 _
    injection h3 with h3 _
    injection h4 with _ h4
    injection h5 with _ h5
    injection h3 with _ h3
    subst h3 h4 h5
    rw [decide_eq_true c] at hsame
    have hq := eqs_same2 (a := 0) (b := 0)
    simp only [SS, insA, wantedA, Opd.ev, putA, binA, eqbA, unA, fldA, partA, reduceIte, reduceCtorEq, Nat.reduceMod, Nat.reduceDiv, Nat.reduceBEq, resultA, resA, vI, Nat.reduceMul, Nat.reduceAdd, Nat.reduceSub, Nat.reduceEqDiff, Nat.reduceLT, Nat.reducePow, Nat.reduceLeDiff, st, Option.bind_eq_bind, Option.pure_def, List.length_nil, Int.cast_ofNat_Int, List.reverse_nil] at hsame hq g10
    rw [ecut]
    simp only [headC, tailC, F13B, SS, insA, wantedA, Opd.ev, putA, binA, eqbA, unA, fldA, partA, reduceIte, reduceCtorEq, Nat.reduceMod, Nat.reduceDiv, Nat.reduceBEq, resultA, resA, vI, Nat.reduceMul, Nat.reduceAdd, Nat.reduceSub, Nat.reduceEqDiff, Nat.reduceLT, Nat.reducePow, Nat.reduceLeDiff, st, Option.bind_eq_bind, Option.pure_def, List.length_nil, Int.cast_ofNat_Int, List.reverse_nil, UU, idxP, cellsAt, storeA, fillA, zerosA, putAll, optNat, sliceA, row, Int.reduceLT, Int.reduceLE, Int.reduceGT, Int.reduceGE, Int.reduceEq, Int.reduceNe, Int.reduceToNat, Int.reduceBEq, Int.reduceBNe, Nat.reduceLeDiff, Nat.reduceLT, Nat.reduceBNe, Nat.reduceGT, List.drop_nil, List.take_nil, Option.isSome_none, Int.ofNat_one, Int.ofNat_zero, fget_fins, fget_fkeep, g0, g4, g5, g7, g9, g10, ht.snap, hx.snap, hy.snap, hsame, hq, ha, BEq.rfl]
  · rw [if_neg c] at hlim
    rw [decide_eq_false c] at hsame
    obtain ⟨bp, bq⟩ := pq_bound axy
    rcases limV_facts bp bq hlim with ⟨hn, rfl, rfl, rfl⟩ | ⟨hn, rfl, h1, h2, h3, h4⟩
    · have hlf : lb = false := by
        cases lb
        · rfl
        · exact (limit_ok axy hlb c hn).elim
      subst hlf
      have hq := eqs_same2 (a := 0) (b := 0)
      simp only [SS, insA, wantedA, Opd.ev, putA, binA, eqbA, unA, fldA, partA, reduceIte, reduceCtorEq, Nat.reduceMod, Nat.reduceDiv, Nat.reduceBEq, resultA, resA, vI, Nat.reduceMul, Nat.reduceAdd, Nat.reduceSub, Nat.reduceEqDiff, Nat.reduceLT, Nat.reducePow, Nat.reduceLeDiff, st, Option.bind_eq_bind, Option.pure_def, List.length_nil, Int.cast_ofNat_Int, List.reverse_nil] at hsame hq g10
      rw [ecut]
      simp only [headC, tailC, F13B, SS, insA, wantedA, Opd.ev, putA, binA, eqbA, unA, fldA, partA, reduceIte, reduceCtorEq, Nat.reduceMod, Nat.reduceDiv, Nat.reduceBEq, resultA, resA, vI, Nat.reduceMul, Nat.reduceAdd, Nat.reduceSub, Nat.reduceEqDiff, Nat.reduceLT, Nat.reducePow, Nat.reduceLeDiff, st, Option.bind_eq_bind, Option.pure_def, List.length_nil, Int.cast_ofNat_Int, List.reverse_nil, UU, idxP, cellsAt, storeA, fillA, zerosA, putAll, optNat, sliceA, row, Int.reduceLT, Int.reduceLE, Int.reduceGT, Int.reduceGE, Int.reduceEq, Int.reduceNe, Int.reduceToNat, Int.reduceBEq, Int.reduceBNe, Nat.reduceLeDiff, Nat.reduceLT, Nat.reduceBNe, Nat.reduceGT, List.drop_nil, List.take_nil, Option.isSome_none, Int.ofNat_one, Int.ofNat_zero, fget_fins, fget_fkeep, g0, g4, g5, g7, g9, g10, ht.snap, hx.snap, hy.snap, hsame, hq, ha, BEq.rfl]
    · simp only [SS, insA, wantedA, Opd.ev, putA, binA, eqbA, unA, fldA, partA, reduceIte, reduceCtorEq, Nat.reduceMod, Nat.reduceDiv, Nat.reduceBEq, resultA, resA, vI, Nat.reduceMul, Nat.reduceAdd, Nat.reduceSub, Nat.reduceEqDiff, Nat.reduceLT, Nat.reducePow, Nat.reduceLeDiff, st, Option.bind_eq_bind, Option.pure_def, List.length_nil, Int.cast_ofNat_Int, List.reverse_nil] at hsame g10
      rw [ecut]
      simp only [headC, tailC, F13B, SS, insA, wantedA, Opd.ev, putA, binA, eqbA, unA, fldA, partA, reduceIte, reduceCtorEq, Nat.reduceMod, Nat.reduceDiv, Nat.reduceBEq, resultA, resA, vI, Nat.reduceMul, Nat.reduceAdd, Nat.reduceSub, Nat.reduceEqDiff, Nat.reduceLT, Nat.reducePow, Nat.reduceLeDiff, st, Option.bind_eq_bind, Option.pure_def, List.length_nil, Int.cast_ofNat_Int, List.reverse_nil, UU, idxP, cellsAt, storeA, fillA, zerosA, putAll, optNat, sliceA, row, Int.reduceLT, Int.reduceLE, Int.reduceGT, Int.reduceGE, Int.reduceEq, Int.reduceNe, Int.reduceToNat, Int.reduceBEq, Int.reduceBNe, Nat.reduceLeDiff, Nat.reduceLT, Nat.reduceBNe, Nat.reduceGT, List.drop_nil, List.take_nil, Option.isSome_none, Int.ofNat_one, Int.ofNat_zero, fget_fins, fget_fkeep, g0, g4, g5, g7, g9, g10, ht.snap, hx.snap, hy.snap, hsame, BEq.rfl, bne_self_eq_false]
      refine run13b ?_ ?_ ?_ ?_ ht hs hx hxl hy hyl axy hn h1 h2 h3 h4
      all_goals simp only [fget_fins, fget_fkeep, g0, g4, g5, g9, Nat.reduceEqDiff, if_true, if_false, reduceIte]

theorem law13 {vt xv yv : AV} {t : List (List Int)} {xs ys : List Int} {dx dy : Int} (ht : IsTab vt t) (hx : IsRow xv xs) (hy : IsRow yv ys) : freeX [] (callL E2 Y 13 [vt, .agg [xv, vI dx], .agg [yv, vI dy]] []) = some (.bool true, []) := by
  obtain ⟨o1, o2, o3⟩ := hx.one
  obtain ⟨p1, p2, p3⟩ := hy.one
  have f := fun H => few15 (Y := noRun) (H := H) ht (pts2 (s := true) (dx := dx) (dy := dy) hx hy) (by simp)
  have ha := fun H => freeX_up (Y := Y) E2_up (alive16 (Y := noRun) (H := H))
  have ecut : ∀ fr H, codeL E2 Y F13B fr H = thenX (codeL E2 Y (headC 6 F13B) fr H) (codeL E2 Y X13) := fun fr H => cut 6 F13B fr H
  rw [call13 rfl, ecut]
  by_cases hf : fewS t [(xs, dx), (ys, dy)]
  · have f1 := fun H => freeX_up (Y := Y) E2_up ((f H).1 hf)
    have hxl : xs.length ≤ 20 := hf.2 (xs, dx) (by simp)
    have hyl : ys.length ≤ 20 := hf.2 (ys, dy) (by simp)
    have hs := hf.1
    have ht1000 : t.length < 1000 := by have := hs.1; omega
    have kt := fun H => callL_up (Y := Y) E2_up (table34 (Y := noRun) (H := H) ht hs)
    have kx := fun H => freeX_up (Y := Y) E2_up (mix22 (Y := noRun) (H := H) (n := t.length) (den := dx) hx hxl)
    have ky := fun H => freeX_up (Y := Y) E2_up (mix22 (Y := noRun) (H := H) (n := t.length) (den := dy) hy hyl)
    by_cases hok : okTab t
    · rw [decide_eq_true hok] at kt
      cases m1 : mixS t.length xs dx
      · rw [m1] at kx
        simp only [SS, insA, wantedA, Opd.ev, putA, binA, eqbA, unA, fldA, partA, reduceIte, reduceCtorEq, Nat.reduceMod, Nat.reduceDiv, Nat.reduceBEq, resultA, resA, vI, Nat.reduceMul, Nat.reduceAdd, Nat.reduceSub, Nat.reduceEqDiff, Nat.reduceLT, Nat.reducePow, Nat.reduceLeDiff, st, Option.bind_eq_bind, Option.pure_def, List.length_nil, Int.cast_ofNat_Int, List.reverse_nil] at f1 kt kx
        simp only [headC, F13B, SS, insA, wantedA, Opd.ev, putA, binA, eqbA, unA, fldA, partA, reduceIte, reduceCtorEq, Nat.reduceMod, Nat.reduceDiv, Nat.reduceBEq, resultA, resA, vI, Nat.reduceMul, Nat.reduceAdd, Nat.reduceSub, Nat.reduceEqDiff, Nat.reduceLT, Nat.reducePow, Nat.reduceLeDiff, st, Option.bind_eq_bind, Option.pure_def, List.length_nil, Int.cast_ofNat_Int, List.reverse_nil, UU, idxP, cellsAt, storeA, fillA, zerosA, putAll, optNat, sliceA, row, Int.reduceLT, Int.reduceLE, Int.reduceGT, Int.reduceGE, Int.reduceEq, Int.reduceNe, Int.reduceToNat, Int.reduceBEq, Int.reduceBNe, Nat.reduceLeDiff, Nat.reduceLT, Nat.reduceBNe, Nat.reduceGT, List.drop_nil, List.take_nil, Option.isSome_none, Int.ofNat_one, Int.ofNat_zero, o1, o2, o3, p1, p2, p3, ht.snap, ht.len, hx.snap, hy.snap, f1, kt, kx, ha]
      · rw [m1] at kx
        cases m2 : mixS t.length ys dy
        · rw [m2] at ky
          simp only [SS, insA, wantedA, Opd.ev, putA, binA, eqbA, unA, fldA, partA, reduceIte, reduceCtorEq, Nat.reduceMod, Nat.reduceDiv, Nat.reduceBEq, resultA, resA, vI, Nat.reduceMul, Nat.reduceAdd, Nat.reduceSub, Nat.reduceEqDiff, Nat.reduceLT, Nat.reducePow, Nat.reduceLeDiff, st, Option.bind_eq_bind, Option.pure_def, List.length_nil, Int.cast_ofNat_Int, List.reverse_nil] at f1 kt kx ky
          simp only [headC, F13B, SS, insA, wantedA, Opd.ev, putA, binA, eqbA, unA, fldA, partA, reduceIte, reduceCtorEq, Nat.reduceMod, Nat.reduceDiv, Nat.reduceBEq, resultA, resA, vI, Nat.reduceMul, Nat.reduceAdd, Nat.reduceSub, Nat.reduceEqDiff, Nat.reduceLT, Nat.reducePow, Nat.reduceLeDiff, st, Option.bind_eq_bind, Option.pure_def, List.length_nil, Int.cast_ofNat_Int, List.reverse_nil, UU, idxP, cellsAt, storeA, fillA, zerosA, putAll, optNat, sliceA, row, Int.reduceLT, Int.reduceLE, Int.reduceGT, Int.reduceGE, Int.reduceEq, Int.reduceNe, Int.reduceToNat, Int.reduceBEq, Int.reduceBNe, Nat.reduceLeDiff, Nat.reduceLT, Nat.reduceBNe, Nat.reduceGT, List.drop_nil, List.take_nil, Option.isSome_none, Int.ofNat_one, Int.ofNat_zero, o1, o2, o3, p1, p2, p3, ht.snap, ht.len, hx.snap, hy.snap, f1, kt, kx, ky, ha]
        · rw [m2] at ky
          have axy : askS t [(xs, dx), (ys, dy)] = true := by simp [askS, hok, m1, m2]
          have ax : askS t [(xs, dx)] = true := by simp [askS, hok, m1]
          have k1 := fun H => freeX_up (Y := Y) E2_up (lasts32 (Y := noRun) (H := H) (dx := dx) ht ht1000 hx hxl)
          have k2 := fun H => limit38 (Y := Y) (H := H) (dx := dx) (dy := dy) ht hs hx hxl hy hyl
          have k3 := fun H => freeX_up (Y := Y) E2_up (rest25 (Y := noRun) (H := H) (dx := dx) ht ht1000 hx hxl)
          obtain ⟨a, b, c, e⟩ := limR_form t (xs, dx) (ys, dy)
          simp only [e] at k2
          simp only [ax, Bool.true_and, err, if_true] at k1 k3
          cases hr : subS (fashS xs) (bestS t xs)
          · have hL : lastsP t xs = false := by
              cases h : lastsP t xs
              · rfl
              · rw [lasts_rest h] at hr; cases hr
            have k4 := fun H => refused44 (Y := Y) (H := H) ht hs hx hxl ax hr
            rw [hr] at k3
            rw [hL] at k1
            simp only [SS, insA, wantedA, Opd.ev, putA, binA, eqbA, unA, fldA, partA, reduceIte, reduceCtorEq, Nat.reduceMod, Nat.reduceDiv, Nat.reduceBEq, resultA, resA, vI, Nat.reduceMul, Nat.reduceAdd, Nat.reduceSub, Nat.reduceEqDiff, Nat.reduceLT, Nat.reducePow, Nat.reduceLeDiff, st, Option.bind_eq_bind, Option.pure_def, List.length_nil, Int.cast_ofNat_Int, List.reverse_nil] at f1 kt kx ky k1 k2 k3 k4
            simp only [headC, F13B, SS, insA, wantedA, Opd.ev, putA, binA, eqbA, unA, fldA, partA, reduceIte, reduceCtorEq, Nat.reduceMod, Nat.reduceDiv, Nat.reduceBEq, resultA, resA, vI, Nat.reduceMul, Nat.reduceAdd, Nat.reduceSub, Nat.reduceEqDiff, Nat.reduceLT, Nat.reducePow, Nat.reduceLeDiff, st, Option.bind_eq_bind, Option.pure_def, List.length_nil, Int.cast_ofNat_Int, List.reverse_nil, UU, idxP, cellsAt, storeA, fillA, zerosA, putAll, optNat, sliceA, row, Int.reduceLT, Int.reduceLE, Int.reduceGT, Int.reduceGE, Int.reduceEq, Int.reduceNe, Int.reduceToNat, Int.reduceBEq, Int.reduceBNe, Nat.reduceLeDiff, Nat.reduceLT, Nat.reduceBNe, Nat.reduceGT, List.drop_nil, List.take_nil, Option.isSome_none, Int.ofNat_one, Int.ofNat_zero, o1, o2, o3, p1, p2, p3, ht.snap, ht.len, hx.snap, hy.snap, f1, kt, kx, ky, k1, k2, k3, k4, get_last, set_last]
            exact run13 rfl rfl rfl rfl rfl rfl ht hs hx hxl hy hyl axy hL e
          · rw [hr] at k3
            cases hL : lastsP t xs
            all_goals
              rw [hL] at k1
              simp only [SS, insA, wantedA, Opd.ev, putA, binA, eqbA, unA, fldA, partA, reduceIte, reduceCtorEq, Nat.reduceMod, Nat.reduceDiv, Nat.reduceBEq, resultA, resA, vI, Nat.reduceMul, Nat.reduceAdd, Nat.reduceSub, Nat.reduceEqDiff, Nat.reduceLT, Nat.reducePow, Nat.reduceLeDiff, st, Option.bind_eq_bind, Option.pure_def, List.length_nil, Int.cast_ofNat_Int, List.reverse_nil] at f1 kt kx ky k1 k2 k3
              simp only [headC, F13B, SS, insA, wantedA, Opd.ev, putA, binA, eqbA, unA, fldA, partA, reduceIte, reduceCtorEq, Nat.reduceMod, Nat.reduceDiv, Nat.reduceBEq, resultA, resA, vI, Nat.reduceMul, Nat.reduceAdd, Nat.reduceSub, Nat.reduceEqDiff, Nat.reduceLT, Nat.reducePow, Nat.reduceLeDiff, st, Option.bind_eq_bind, Option.pure_def, List.length_nil, Int.cast_ofNat_Int, List.reverse_nil, UU, idxP, cellsAt, storeA, fillA, zerosA, putAll, optNat, sliceA, row, Int.reduceLT, Int.reduceLE, Int.reduceGT, Int.reduceGE, Int.reduceEq, Int.reduceNe, Int.reduceToNat, Int.reduceBEq, Int.reduceBNe, Nat.reduceLeDiff, Nat.reduceLT, Nat.reduceBNe, Nat.reduceGT, List.drop_nil, List.take_nil, Option.isSome_none, Int.ofNat_one, Int.ofNat_zero, o1, o2, o3, p1, p2, p3, ht.snap, ht.len, hx.snap, hy.snap, f1, kt, kx, ky, k1, k2, k3, get_last, set_last]
              exact run13 rfl rfl rfl rfl rfl rfl ht hs hx hxl hy hyl axy hL e
    · rw [decide_eq_false hok] at kt
      simp only [SS, insA, wantedA, Opd.ev, putA, binA, eqbA, unA, fldA, partA, reduceIte, reduceCtorEq, Nat.reduceMod, Nat.reduceDiv, Nat.reduceBEq, resultA, resA, vI, Nat.reduceMul, Nat.reduceAdd, Nat.reduceSub, Nat.reduceEqDiff, Nat.reduceLT, Nat.reducePow, Nat.reduceLeDiff, st, Option.bind_eq_bind, Option.pure_def, List.length_nil, Int.cast_ofNat_Int, List.reverse_nil] at f1 kt
      simp only [headC, F13B, SS, insA, wantedA, Opd.ev, putA, binA, eqbA, unA, fldA, partA, reduceIte, reduceCtorEq, Nat.reduceMod, Nat.reduceDiv, Nat.reduceBEq, resultA, resA, vI, Nat.reduceMul, Nat.reduceAdd, Nat.reduceSub, Nat.reduceEqDiff, Nat.reduceLT, Nat.reducePow, Nat.reduceLeDiff, st, Option.bind_eq_bind, Option.pure_def, List.length_nil, Int.cast_ofNat_Int, List.reverse_nil, UU, idxP, cellsAt, storeA, fillA, zerosA, putAll, optNat, sliceA, row, Int.reduceLT, Int.reduceLE, Int.reduceGT, Int.reduceGE, Int.reduceEq, Int.reduceNe, Int.reduceToNat, Int.reduceBEq, Int.reduceBNe, Nat.reduceLeDiff, Nat.reduceLT, Nat.reduceBNe, Nat.reduceGT, List.drop_nil, List.take_nil, Option.isSome_none, Int.ofNat_one, Int.ofNat_zero, o1, o2, o3, p1, p2, p3, ht.snap, hx.snap, hy.snap, f1, kt, ha]
  · have f2 := fun H => freeX_up (Y := Y) E2_up ((f H).2 hf)
    simp only [SS, insA, wantedA, Opd.ev, putA, binA, eqbA, unA, fldA, partA, reduceIte, reduceCtorEq, Nat.reduceMod, Nat.reduceDiv, Nat.reduceBEq, resultA, resA, vI, Nat.reduceMul, Nat.reduceAdd, Nat.reduceSub, Nat.reduceEqDiff, Nat.reduceLT, Nat.reducePow, Nat.reduceLeDiff, st, Option.bind_eq_bind, Option.pure_def, List.length_nil, Int.cast_ofNat_Int, List.reverse_nil] at f2
    simp only [headC, F13B, SS, insA, wantedA, Opd.ev, putA, binA, eqbA, unA, fldA, partA, reduceIte, reduceCtorEq, Nat.reduceMod, Nat.reduceDiv, Nat.reduceBEq, resultA, resA, vI, Nat.reduceMul, Nat.reduceAdd, Nat.reduceSub, Nat.reduceEqDiff, Nat.reduceLT, Nat.reducePow, Nat.reduceLeDiff, st, Option.bind_eq_bind, Option.pure_def, List.length_nil, Int.cast_ofNat_Int, List.reverse_nil, UU, idxP, cellsAt, storeA, fillA, zerosA, putAll, optNat, sliceA, row, Int.reduceLT, Int.reduceLE, Int.reduceGT, Int.reduceGE, Int.reduceEq, Int.reduceNe, Int.reduceToNat, Int.reduceBEq, Int.reduceBNe, Nat.reduceLeDiff, Nat.reduceLT, Nat.reduceBNe, Nat.reduceGT, List.drop_nil, List.take_nil, Option.isSome_none, Int.ofNat_one, Int.ofNat_zero, o1, o2, o3, p1, p2, p3, ht.snap, hx.snap, hy.snap, f2, ha]
end
end Go.X
