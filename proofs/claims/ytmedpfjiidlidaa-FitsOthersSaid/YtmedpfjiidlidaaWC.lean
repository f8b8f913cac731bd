import Derived.Test.YtmedpfjiidlidaaWB
/-! Others: the law. -/
set_option linter.unusedSimpArgs false
set_option linter.unusedVariables false
set_option maxHeartbeats 4000000
set_option maxRecDepth 10000
namespace Go.X
open Go Go.RowKit
section
variable {Y : Run} {H : Heap}

def X13 : XC := tailC 6 F13B
def X13b : XC := tailC 8 F13B
def X13d : XC := tailC 14 F13B

/-- The last part: the four gains are compared. -/
theorem run13d {L : List (Nat × AV)} {o0 o1 o2 o8 : Ob} {m1 m2 na da nb db nc dc nd dd : Int} (g9 : fget L 9 = .ptr 3 0 0) (g13 : fget L 13 = .ptr 4 0 0) (g14 : fget L 14 = .ptr 5 0 0) (g16 : fget L 16 = .ptr 6 0 0) (g18 : fget L 18 = .ptr 7 0 0)
    (k1 : ∀ H, freeX H (callL E2 Y 37 [.agg [vI nb, vI db], .agg [vI na, vI da]] []) = some (.bool false, H))
    {p q : Int} (k2 : ∀ H, freeX H (callL E2 Y 37 [.agg [vI na, vI da], .agg [vI nb, vI db]] []) = some (.bool (decide (p > 0)), H))
    (k3 : ∀ H, freeX H (callL E2 Y 37 [.agg [vI nc, vI dc], .agg [vI nd, vI dd]] []) = some (.bool (decide (q > 0)), H))
    (k4 : ∀ H, freeX H (callL E2 Y 37 [.agg [vI nd, vI dd], .agg [vI nc, vI dc]] []) = some (.bool (decide (q < 0)), H))
    (hpq : p > 0 ∨ q > 0) (hm : m1 < m2 ↔ q < 0) :
    freeX H (endX [.tmp 6] (codeL E2 Y X13d (sp 216 L) [o0, o1, o2, ⟨0, [vI m1, vI m2]⟩, ⟨0, [vI na, vI da]⟩, ⟨0, [vI nb, vI db]⟩, ⟨0, [vI nc, vI dc]⟩, ⟨0, [vI nd, vI dd]⟩, o8])) = some (.bool true, H) := by
  have ha := fun H => freeX_up (Y := Y) E2_up (alive16 (Y := noRun) (H := H))
  simp only [SS, insA, wantedA, Opd.ev, putA, binA, eqbA, unA, fldA, partA, reduceIte, reduceCtorEq, Nat.reduceMod, Nat.reduceDiv, Nat.reduceBEq, resultA, resA, vI, Nat.reduceMul, Nat.reduceAdd, Nat.reduceSub, Nat.reduceEqDiff, Nat.reduceLT, Nat.reducePow, Nat.reduceLeDiff, st, Option.bind_eq_bind, Option.pure_def, List.length_nil, Int.cast_ofNat_Int, List.reverse_nil] at k1 k2 k3 k4
  by_cases c1 : p > 0
  · by_cases c2 : q < 0
    · have c3 : m1 < m2 := hm.2 c2
      simp only [c1, c2, decide_true] at k2 k4
      simp only [X13d, tailC, F13B, SS, insA, wantedA, Opd.ev, putA, binA, eqbA, unA, fldA, partA, reduceIte, reduceCtorEq, Nat.reduceMod, Nat.reduceDiv, Nat.reduceBEq, resultA, resA, vI, Nat.reduceMul, Nat.reduceAdd, Nat.reduceSub, Nat.reduceEqDiff, Nat.reduceLT, Nat.reducePow, Nat.reduceLeDiff, st, Option.bind_eq_bind, Option.pure_def, List.length_nil, Int.cast_ofNat_Int, List.reverse_nil, UU, idxP, cellsAt, storeA, fillA, zerosA, putAll, optNat, sliceA, row, Int.reduceLT, Int.reduceLE, Int.reduceGT, Int.reduceGE, Int.reduceEq, Int.reduceNe, Int.reduceToNat, Int.reduceBEq, Int.reduceBNe, Nat.reduceLeDiff, Nat.reduceLT, Nat.reduceBNe, Nat.reduceGT, List.drop_nil, List.take_nil, Option.isSome_none, Int.ofNat_one, Int.ofNat_zero, fget_fins, fget_fkeep, g9, g13, g14, g16, g18, k1, k2, k4, c3, ha, decide_true]
    · have c3 : ¬ m1 < m2 := fun h => c2 (hm.1 h)
      simp only [c1, c2, decide_true, decide_false] at k2 k4
      simp only [X13d, tailC, F13B, SS, insA, wantedA, Opd.ev, putA, binA, eqbA, unA, fldA, partA, reduceIte, reduceCtorEq, Nat.reduceMod, Nat.reduceDiv, Nat.reduceBEq, resultA, resA, vI, Nat.reduceMul, Nat.reduceAdd, Nat.reduceSub, Nat.reduceEqDiff, Nat.reduceLT, Nat.reducePow, Nat.reduceLeDiff, st, Option.bind_eq_bind, Option.pure_def, List.length_nil, Int.cast_ofNat_Int, List.reverse_nil, UU, idxP, cellsAt, storeA, fillA, zerosA, putAll, optNat, sliceA, row, Int.reduceLT, Int.reduceLE, Int.reduceGT, Int.reduceGE, Int.reduceEq, Int.reduceNe, Int.reduceToNat, Int.reduceBEq, Int.reduceBNe, Nat.reduceLeDiff, Nat.reduceLT, Nat.reduceBNe, Nat.reduceGT, List.drop_nil, List.take_nil, Option.isSome_none, Int.ofNat_one, Int.ofNat_zero, fget_fins, fget_fkeep, g9, g13, g14, g16, g18, k1, k2, k4, c3, ha, decide_true, decide_false]
  · have c2 : q > 0 := hpq.resolve_left c1
    have c4 : ¬ q < 0 := by omega
    have c3 : ¬ m1 < m2 := fun h => c4 (hm.1 h)
    simp only [c1, c2, c4, decide_true, decide_false] at k2 k3 k4
    simp only [X13d, tailC, F13B, SS, insA, wantedA, Opd.ev, putA, binA, eqbA, unA, fldA, partA, reduceIte, reduceCtorEq, Nat.reduceMod, Nat.reduceDiv, Nat.reduceBEq, resultA, resA, vI, Nat.reduceMul, Nat.reduceAdd, Nat.reduceSub, Nat.reduceEqDiff, Nat.reduceLT, Nat.reducePow, Nat.reduceLeDiff, st, Option.bind_eq_bind, Option.pure_def, List.length_nil, Int.cast_ofNat_Int, List.reverse_nil, UU, idxP, cellsAt, storeA, fillA, zerosA, putAll, optNat, sliceA, row, Int.reduceLT, Int.reduceLE, Int.reduceGT, Int.reduceGE, Int.reduceEq, Int.reduceNe, Int.reduceToNat, Int.reduceBEq, Int.reduceBNe, Nat.reduceLeDiff, Nat.reduceLT, Nat.reduceBNe, Nat.reduceGT, List.drop_nil, List.take_nil, Option.isSome_none, Int.ofNat_one, Int.ofNat_zero, fget_fins, fget_fkeep, g9, g13, g14, g16, g18, k1, k2, k3, k4, c3, ha, decide_true, decide_false]

/-- The part before it: the limit's bounds and the four gains. -/
theorem run13b {L : List (Nat × AV)} {vt xv yv : AV} {t : List (List Int)} {xs ys : List Int} {dx dy m1 m2 : Int} {o2 : Ob} (g0 : fget L 0 = vt) (g4 : fget L 4 = .ptr 0 0 0) (g5 : fget L 5 = .ptr 1 0 0) (g9 : fget L 9 = .ptr 3 0 0)
    (ht : IsTab vt t) (hs : Small t) (hx : IsRow xv xs) (hxl : xs.length ≤ 20) (hy : IsRow yv ys) (hyl : ys.length ≤ 20) (axy : askS t [(xs, dx), (ys, dy)] = true)
    (hno : ¬ (pS t (xs, dx) (ys, dy) < 0 ∨ pS t (xs, dx) (ys, dy) = 0 ∧ qS t (xs, dx) (ys, dy) ≤ 0)) (hm : m1 < m2 ↔ qS t (xs, dx) (ys, dy) < 0) (h1 : 1 ≤ m1) (h12 : m1 ≤ m2) (h2 : m2 ≤ 4611686018427387904) :
    freeX H (endX [.tmp 6] (codeL E2 Y X13b (sp 216 L) [⟨0, [xv, vI dx]⟩, ⟨0, [yv, vI dy]⟩, o2, ⟨0, [vI m1, vI m2]⟩])) = some (.bool true, H) := by
  obtain ⟨hok, mx, my⟩ := ask2 axy
  simp only at mx my
  have ht1000 : t.length < 1000 := by have := hs.1; omega
  have axx : askS t [(xs, dx), (xs, dx)] = true := by simp [askS, hok, mx]
  have ayx : askS t [(ys, dy), (xs, dx)] = true := by simp [askS, hok, mx, my]
  have ayy : askS t [(ys, dy), (ys, dy)] = true := by simp [askS, hok, my]
  have ka := fun H => freeX_up (Y := Y) E2_up (gain23 (Y := noRun) (H := H) (dx := dx) (dy := dx) ht ht1000 hx hxl hx hxl)
  have kb := fun H => freeX_up (Y := Y) E2_up (gain23 (Y := noRun) (H := H) (dx := dy) (dy := dx) ht ht1000 hy hyl hx hxl)
  have kc := fun H => freeX_up (Y := Y) E2_up (gain23 (Y := noRun) (H := H) (dx := dx) (dy := dy) ht ht1000 hx hxl hy hyl)
  have kd := fun H => freeX_up (Y := Y) E2_up (gain23 (Y := noRun) (H := H) (dx := dy) (dy := dy) ht ht1000 hy hyl hy hyl)
  obtain ⟨⟨a1, a2⟩, a3⟩ := rat_sound axx
  obtain ⟨⟨b1, b2⟩, b3⟩ := rat_sound ayx
  obtain ⟨⟨c1, c2⟩, c3⟩ := rat_sound axy
  obtain ⟨⟨d1, d2⟩, d3⟩ := rat_sound ayy
  obtain ⟨_, pa, _⟩ := gainM axx
  obtain ⟨_, pb, _⟩ := gainM ayx
  obtain ⟨_, pc, _⟩ := gainM axy
  obtain ⟨_, pd, _⟩ := gainM ayy
  obtain ⟨_, dx1, _⟩ := mix_ok mx
  obtain ⟨_, dy1, _⟩ := mix_ok my
  simp only at a1 a2 a3 b1 b2 b3 c1 c2 c3 d1 d2 d3 pa pb pc pd
  have k1 := fun H => above37 (Y := Y) (H := H) ⟨b1, b2⟩ b3 ⟨a1, a2⟩ a3
  have k2 := fun H => above37 (Y := Y) (H := H) ⟨a1, a2⟩ a3 ⟨b1, b2⟩ b3
  have k3 := fun H => above37 (Y := Y) (H := H) ⟨c1, c2⟩ c3 ⟨d1, d2⟩ d3
  have k4 := fun H => above37 (Y := Y) (H := H) ⟨d1, d2⟩ d3 ⟨c1, c2⟩ c3
  -- the comparisons, by p and q
  have cmp : ∀ u v w z : Int, 0 < z → (u * (w * z) > v * (dx * z) ↔ u * w > v * dx) := fun u v w z hz => by
    have e1 : u * (w * z) = (u * w) * z := (Int.mul_assoc _ _ _).symm
    have e2 : v * (dx * z) = (v * dx) * z := (Int.mul_assoc _ _ _).symm
    rw [e1, e2]
    exact ⟨fun h => Int.lt_of_mul_lt_mul_right h (by omega), fun h => Int.mul_lt_mul_of_pos_right h hz⟩
  have hpp : pS t (xs, dx) (ys, dy) > 0 ↔ gainS t xs xs * dy > gainS t ys xs * dx := by
    unfold pS
    simp only
    constructor
    · intro h
      rcases Int.lt_or_le (gainS t ys xs * dx) (gainS t xs xs * dy) with h3 | h3
      · exact h3
      · have := Int.mul_nonpos_of_nonpos_of_nonneg (show gainS t xs xs * dy - gainS t ys xs * dx ≤ 0 by omega) (show 0 ≤ dy by omega)
        omega
    · intro h; exact Int.mul_pos (by omega) (by omega)
  have hpn : pS t (xs, dx) (ys, dy) < 0 ↔ gainS t xs xs * dy < gainS t ys xs * dx := by
    unfold pS
    simp only
    constructor
    · intro h
      rcases Int.lt_or_le (gainS t xs xs * dy) (gainS t ys xs * dx) with h3 | h3
      · exact h3
      · have := Int.mul_nonneg (show 0 ≤ gainS t xs xs * dy - gainS t ys xs * dx by omega) (show 0 ≤ dy by omega)
        omega
    · intro h; exact Int.mul_neg_of_neg_of_pos (by omega) (by omega)
  have hqp : qS t (xs, dx) (ys, dy) > 0 ↔ gainS t xs ys * dy > gainS t ys ys * dx := by
    unfold qS
    simp only
    constructor
    · intro h
      rcases Int.lt_or_le (gainS t ys ys * dx) (gainS t xs ys * dy) with h3 | h3
      · exact h3
      · have := Int.mul_nonpos_of_nonpos_of_nonneg (show gainS t xs ys * dy - gainS t ys ys * dx ≤ 0 by omega) (show 0 ≤ dx by omega)
        omega
    · intro h; exact Int.mul_pos (by omega) (by omega)
  have hqn : qS t (xs, dx) (ys, dy) < 0 ↔ gainS t xs ys * dy < gainS t ys ys * dx := by
    unfold qS
    simp only
    constructor
    · intro h
      rcases Int.lt_or_le (gainS t xs ys * dy) (gainS t ys ys * dx) with h3 | h3
      · exact h3
      · have := Int.mul_nonneg (show 0 ≤ gainS t xs ys * dy - gainS t ys ys * dx by omega) (show 0 ≤ dx by omega)
        omega
    · intro h; exact Int.mul_neg_of_neg_of_pos (by omega) (by omega)
  have e1 : decide (ratN (gainS t ys xs) (dy * dx) * ratD (gainS t xs xs) (dx * dx) > ratN (gainS t xs xs) (dx * dx) * ratD (gainS t ys xs) (dy * dx)) = false := by
    rw [decide_eq_false_iff_not, above_iff pb pa]
    have x1 : gainS t ys xs * (dx * dx) = gainS t ys xs * dx * dx := (Int.mul_assoc _ _ _).symm
    have x2 : gainS t xs xs * (dy * dx) = gainS t xs xs * dy * dx := (Int.mul_assoc _ _ _).symm
    rw [x1, x2]
    intro h
    have := Int.lt_of_mul_lt_mul_right h (show 0 ≤ dx by omega)
    exact hno (.inl (hpn.2 this))
  have e2 : decide (ratN (gainS t xs xs) (dx * dx) * ratD (gainS t ys xs) (dy * dx) > ratN (gainS t ys xs) (dy * dx) * ratD (gainS t xs xs) (dx * dx)) = decide (pS t (xs, dx) (ys, dy) > 0) := by
    rw [decide_eq_decide, above_iff pa pb, hpp]
    exact cmp _ _ _ _ (by omega)
  have e3 : decide (ratN (gainS t xs ys) (dx * dy) * ratD (gainS t ys ys) (dy * dy) > ratN (gainS t ys ys) (dy * dy) * ratD (gainS t xs ys) (dx * dy)) = decide (qS t (xs, dx) (ys, dy) > 0) := by
    rw [decide_eq_decide, above_iff pc pd, hqp]
    exact cmp _ _ _ _ (by omega)
  have e4 : decide (ratN (gainS t ys ys) (dy * dy) * ratD (gainS t xs ys) (dx * dy) > ratN (gainS t xs ys) (dx * dy) * ratD (gainS t ys ys) (dy * dy)) = decide (qS t (xs, dx) (ys, dy) < 0) := by
    rw [decide_eq_decide, above_iff pd pc, hqn]
    have x1 : gainS t ys ys * (dx * dy) = gainS t ys ys * dx * dy := (Int.mul_assoc _ _ _).symm
    have x2 : gainS t xs ys * (dy * dy) = gainS t xs ys * dy * dy := (Int.mul_assoc _ _ _).symm
    rw [x1, x2]
    exact ⟨fun h => Int.lt_of_mul_lt_mul_right h (by omega), fun h => Int.mul_lt_mul_of_pos_right h (by omega)⟩
  simp only [e1] at k1
  simp only [e2] at k2
  simp only [e3] at k3
  simp only [e4] at k4
  have hso := fun H => sound35 (Y := Y) (H := H) (s := true) (l := [(ratN (gainS t xs xs) (dx * dx), ratD (gainS t xs xs) (dx * dx)), (ratN (gainS t ys xs) (dy * dx), ratD (gainS t ys xs) (dy * dx)), (ratN (gainS t xs ys) (dx * dy), ratD (gainS t xs ys) (dx * dy)), (ratN (gainS t ys ys) (dy * dy), ratD (gainS t ys ys) (dy * dy))]) (by simp) (by
    intro z hz
    simp only [List.mem_cons, List.not_mem_nil, or_false] at hz
    rcases hz with rfl | rfl | rfl | rfl
    · exact ⟨a1, a2, a3.1, a3.2⟩
    · exact ⟨b1, b2, b3.1, b3.2⟩
    · exact ⟨c1, c2, c3.1, c3.2⟩
    · exact ⟨d1, d2, d3.1, d3.2⟩)
  have hrc : ∀ a b c d e f g h : Int, ratC [(a, b), (c, d), (e, f), (g, h)] = [vI a, vI b, vI c, vI d, vI e, vI f, vI g, vI h] := fun _ _ _ _ _ _ _ _ => rfl
  rw [hrc] at hso
  simp only [gainR, axx, ayx, axy, ayy, if_true, ratA_eq] at ka kb kc kd
  generalize pS t (xs, dx) (ys, dy) = p at *
  generalize qS t (xs, dx) (ys, dy) = q at *
  generalize ratN (gainS t xs xs) (dx * dx) = na at *
  generalize ratD (gainS t xs xs) (dx * dx) = da at *
  generalize ratN (gainS t ys xs) (dy * dx) = nb at *
  generalize ratD (gainS t ys xs) (dy * dx) = db at *
  generalize ratN (gainS t xs ys) (dx * dy) = nc at *
  generalize ratD (gainS t xs ys) (dx * dy) = dc at *
  generalize ratN (gainS t ys ys) (dy * dy) = nd at *
  generalize ratD (gainS t ys ys) (dy * dy) = dd at *
  have f1 : ¬ m2 < 1 := by omega
  have f2 : ¬ m1 < 1 := by omega
  have f3 : ¬ m1 > m2 := by omega
  have f4 : ¬ m2 > 4611686018427387904 := by omega
  have hpq : p > 0 ∨ q > 0 := by omega
  have ecut : ∀ fr H, codeL E2 Y X13b fr H = thenX (codeL E2 Y (headC 6 (tailC 8 F13B)) fr H) (codeL E2 Y X13d) := fun fr H => cut 6 (tailC 8 F13B) fr H
  rw [ecut]
  simp only [SS, insA, wantedA, Opd.ev, putA, binA, eqbA, unA, fldA, partA, reduceIte, reduceCtorEq, Nat.reduceMod, Nat.reduceDiv, Nat.reduceBEq, resultA, resA, vI, Nat.reduceMul, Nat.reduceAdd, Nat.reduceSub, Nat.reduceEqDiff, Nat.reduceLT, Nat.reducePow, Nat.reduceLeDiff, st, Option.bind_eq_bind, Option.pure_def, List.length_nil, Int.cast_ofNat_Int, List.reverse_nil] at ka kb kc kd hso
  simp only [headC, tailC, F13B, SS, insA, wantedA, Opd.ev, putA, binA, eqbA, unA, fldA, partA, reduceIte, reduceCtorEq, Nat.reduceMod, Nat.reduceDiv, Nat.reduceBEq, resultA, resA, vI, Nat.reduceMul, Nat.reduceAdd, Nat.reduceSub, Nat.reduceEqDiff, Nat.reduceLT, Nat.reducePow, Nat.reduceLeDiff, st, Option.bind_eq_bind, Option.pure_def, List.length_nil, Int.cast_ofNat_Int, List.reverse_nil, UU, idxP, cellsAt, storeA, fillA, zerosA, putAll, optNat, sliceA, row, Int.reduceLT, Int.reduceLE, Int.reduceGT, Int.reduceGE, Int.reduceEq, Int.reduceNe, Int.reduceToNat, Int.reduceBEq, Int.reduceBNe, Nat.reduceLeDiff, Nat.reduceLT, Nat.reduceBNe, Nat.reduceGT, List.drop_nil, List.take_nil, Option.isSome_none, Int.ofNat_one, Int.ofNat_zero, fget_fins, fget_fkeep, g0, g4, g5, g9, ht.snap, hx.snap, hy.snap, ka, kb, kc, kd, hso, f1, f2, f3, f4, decide_false, BEq.rfl, bne_self_eq_false]
  refine run13d (p := p) (q := q) ?_ ?_ ?_ ?_ ?_ k1 k2 k3 k4 hpq hm
  all_goals simp only [fget_fins, g9, Nat.reduceEqDiff, if_true, if_false, reduceIte]
end
end Go.X
