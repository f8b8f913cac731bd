import Derived.Test.YtmedpfjiidlidaaZA
import Derived.Test.YtmedpfjiidlidaaYB
/-! Gains, best fashions, rest: both ways. -/
set_option linter.unusedSimpArgs false
set_option linter.unusedVariables false
set_option maxHeartbeats 2000000
set_option maxRecDepth 10000
namespace Go.X
open Go Go.RowKit
section
variable {Y : Run} {H : Heap}

theorem dotS_bound : ∀ {r ys : List Int}, inB r → small ys → (dotS r ys).natAbs ≤ r.length * 2000000
  | [], _, _, _ => by simp [dotS]
  | _ :: _, [], _, _ => by simp [dotS]
  | a :: r, y :: ys, h1, h2 => by
    have h3 := dotS_bound (r := r) (ys := ys) (fun x hx => h1 x (List.mem_cons_of_mem _ hx)) (fun x hx => h2 x (List.mem_cons_of_mem _ hx))
    have h4 := mulB (h1 a (by simp)) (h2 y (by simp))
    simp only [dotS, List.length_cons]
    omega

theorem gain_dot : ∀ (t : List (List Int)) (xs ys : List Int), gainS t xs ys = dotS xs (t.map (dotS · ys))
  | [], xs, ys => by cases xs <;> simp [gainS, dotS]
  | _ :: _, [], ys => by simp [gainS, dotS]
  | r :: t, x :: xs, ys => by
    have e : ∀ (x : Int) (r ys : List Int), dotX x r ys = x * dotS r ys := by
      intro x r
      induction r with
      | nil => intro ys; simp [dotX, dotS]
      | cons a r ih =>
        intro ys
        cases ys with
        | nil => simp [dotX, dotS]
        | cons y ys =>
          simp only [dotX, dotS, ih]
          rw [Int.mul_add, Int.mul_assoc, Int.mul_comm y a]
    simp only [gainS, dotS, List.map_cons, e, gain_dot t xs ys]

theorem L56 {xv yv : AV} {xs g : List Int} {dx dy : Int} (hx : IsRow xv xs) (hxl : xs.length = g.length) (hl : g.length ≤ 20) (hX : small xs) (hg : ∀ x ∈ g, -6000000 ≤ x ∧ x ≤ 6000000) (d : Nat) : ∀ (i : Nat) (s : Int), i + d = g.length → s.natAbs + d * 600000000000 ≤ 100000000000000 →
    lp E Y F56L0 (st 30 [(4, .ptr 0 0 0), (7, vI s), (12, row false g), (13, vI g.length), (14, vI i)]) [⟨0, [xv, vI dx]⟩, ⟨0, [yv, vI dy]⟩] =
      some (.x 0, st 30 [(7, vI (s + dotS (xs.drop i) (g.drop i)))], [⟨0, [xv, vI dx]⟩, ⟨0, [yv, vI dy]⟩]) := by
  have hr : IsRow (row false g) g := row_is
  induction d with
  | zero =>
    intro i s hi hs
    rw [un56_0, List.drop_eq_nil_of_le (by omega), List.drop_eq_nil_of_le (by omega)]
    have : ¬ ((i : Int) < (g.length : Int)) := by omega
    simp only [F56L0b, SS, insA, wantedA, Opd.ev, putA, binA, eqbA, unA, fldA, partA, reduceIte, reduceCtorEq, Nat.reduceMod, Nat.reduceDiv, Nat.reduceBEq, resultA, resA, vI, Nat.reduceMul, Nat.reduceAdd, Nat.reduceSub, Nat.reduceEqDiff, Nat.reduceLT, Nat.reducePow, Nat.reduceLeDiff, st, Option.bind_eq_bind, Option.pure_def, List.length_nil, Int.cast_ofNat_Int, List.reverse_nil, this, dotS, Int.add_zero]
  | succ d ih =>
    intro i s hi hs
    have h1 : i < g.length := by omega
    have h2 : i < xs.length := by omega
    rw [un56_0, List.drop_eq_getElem_cons h1, List.drop_eq_getElem_cons h2]
    have hc : (i : Int) < (g.length : Int) := by omega
    have hw := wrap_succ (n := i) (by omega)
    have e1 : g.getD i 0 = g[i] := by simp [List.getD_eq_getElem?_getD, h1]
    have e2 : xs.getD i 0 = xs[i] := by simp [List.getD_eq_getElem?_getD, h2]
    have b1 := mulB (hX xs[i] (by simp)) (hg g[i] (by simp))
    have w1 : IntKind.wrap .i64 (xs[i] * g[i]) = xs[i] * g[i] := wrap_id (by omega) (by omega)
    have w2 : IntKind.wrap .i64 (s + xs[i] * g[i]) = s + xs[i] * g[i] := wrap_id (by omega) (by omega)
    have h3 := ih (i + 1) (s + xs[i] * g[i]) (by omega) (by omega)
    have i1 := hr.idx h1
    have i2 := hr.load (H := [⟨0, [xv, vI dx]⟩, ⟨0, [yv, vI dy]⟩]) h1
    generalize hrow : row false g = rw at *
    simp only [SS, insA, wantedA, Opd.ev, putA, binA, eqbA, unA, fldA, partA, reduceIte, reduceCtorEq, Nat.reduceMod, Nat.reduceDiv, Nat.reduceBEq, resultA, resA, vI, Nat.reduceMul, Nat.reduceAdd, Nat.reduceSub, Nat.reduceEqDiff, Nat.reduceLT, Nat.reducePow, Nat.reduceLeDiff, st, Option.bind_eq_bind, Option.pure_def, List.length_nil, Int.cast_ofNat_Int, List.reverse_nil] at h3
    simp only [F56L0b, SS, insA, wantedA, Opd.ev, putA, binA, eqbA, unA, fldA, partA, reduceIte, reduceCtorEq, Nat.reduceMod, Nat.reduceDiv, Nat.reduceBEq, resultA, resA, vI, Nat.reduceMul, Nat.reduceAdd, Nat.reduceSub, Nat.reduceEqDiff, Nat.reduceLT, Nat.reducePow, Nat.reduceLeDiff, st, Option.bind_eq_bind, Option.pure_def, List.length_nil, Int.cast_ofNat_Int, List.reverse_nil, UU, idxP, cellsAt, storeA, fillA, zerosA, putAll, optNat, sliceA, row, Int.reduceLT, Int.reduceLE, Int.reduceGT, Int.reduceGE, Int.reduceEq, Int.reduceNe, Int.reduceToNat, Int.reduceBEq, Int.reduceBNe, Nat.reduceLeDiff, Nat.reduceLT, Nat.reduceBNe, Nat.reduceGT, List.drop_nil, List.take_nil, Option.isSome_none, Int.ofNat_one, Int.ofNat_zero, hc, hw, i1, i2, hx.idx h2, hx.load h2, e1, e2, w1, w2, h3, dotS, Int.add_assoc]

theorem gain56 {vt xv yv : AV} {t : List (List Int)} {xs ys : List Int} {dx dy : Int} (ht : IsTab vt t) (hok : okTab t) (hx : IsRow xv xs) (hxl : xs.length = t.length) (hX : small xs) (hy : IsRow yv ys) (hyl : ys.length = t.length) (hY : small ys) :
    freeX H (callL E Y 56 [vt, .agg [xv, vI dx], .agg [yv, vI dy]] []) = some (vI (gainS t xs ys), H) := by
  have h3 := hok.2.1
  have h71 := fun H => against71 (Y := Y) (H := H) (den := dy) ht hok hy hyl hY
  have hg : ∀ x ∈ t.map (dotS · ys), -6000000 ≤ x ∧ x ≤ 6000000 := by
    intro x hx
    obtain ⟨r, hr, rfl⟩ := List.mem_map.1 hx
    have h1 := dotS_bound (hok.tame r hr) hY
    have h2 := hok.rows r hr
    omega
  have h1 := L56 (Y := Y) (dx := dx) (dy := dy) (yv := yv) hx (by simpa using hxl) (by simp; omega) hX hg (t.map (dotS · ys)).length 0 0 (by omega) (by simp; omega)
  rw [call56 rfl, gain_dot]
  have hl : ((t.map (dotS · ys)).length : Int) = (t.length : Int) := by simp
  have hrl : lenA (row false (t.map (dotS · ys))) = some (t.map (dotS · ys)).length := rfl
  simp only [SS, insA, wantedA, Opd.ev, putA, binA, eqbA, unA, fldA, partA, reduceIte, reduceCtorEq, Nat.reduceMod, Nat.reduceDiv, Nat.reduceBEq, resultA, resA, vI, Nat.reduceMul, Nat.reduceAdd, Nat.reduceSub, Nat.reduceEqDiff, Nat.reduceLT, Nat.reducePow, Nat.reduceLeDiff, st, Option.bind_eq_bind, Option.pure_def, List.length_nil, Int.cast_ofNat_Int, List.reverse_nil, Int.ofNat_zero, List.drop_zero, Int.zero_add] at h1 h71
  generalize row false (t.map (dotS · ys)) = rw at *
  simp only [F56B, F56T0, in56_0, SS, insA, wantedA, Opd.ev, putA, binA, eqbA, unA, fldA, partA, reduceIte, reduceCtorEq, Nat.reduceMod, Nat.reduceDiv, Nat.reduceBEq, resultA, resA, vI, Nat.reduceMul, Nat.reduceAdd, Nat.reduceSub, Nat.reduceEqDiff, Nat.reduceLT, Nat.reducePow, Nat.reduceLeDiff, st, Option.bind_eq_bind, Option.pure_def, List.length_nil, Int.cast_ofNat_Int, List.reverse_nil, UU, idxP, cellsAt, storeA, fillA, zerosA, putAll, optNat, sliceA, row, Int.reduceLT, Int.reduceLE, Int.reduceGT, Int.reduceGE, Int.reduceEq, Int.reduceNe, Int.reduceToNat, Int.reduceBEq, Int.reduceBNe, Nat.reduceLeDiff, Nat.reduceLT, Nat.reduceBNe, Nat.reduceGT, List.drop_nil, List.take_nil, Option.isSome_none, Int.ofNat_one, Int.ofNat_zero, ht.snap, hx.snap, hy.snap, h71, hrl, h1]

/-! ### What a mixture that is asked for is -/
theorem mix_ok {n : Nat} {l : List Int} {den : Int} (h : mixS n l den = true) : l.length = n ∧ 1 ≤ den ∧ den ≤ 10000 ∧ fit den l ∧ sumL l = den ∧ gcdL den l = 1 := by
  have : mixP n l den := by simpa [mixS] using h
  obtain ⟨_, _, h3, h4, h5, h6, h7, h8⟩ := this
  exact ⟨by omega, h4, h5, h6, h7, h8⟩
theorem fit.small {den : Int} {l : List Int} (hd : den ≤ 10000) (h : fit den l) : small l := fun x hx => by have := h x hx; omega

def err (b : Bool) : AV := vI (if b = true then 0 else 2)

theorem ask2 {t : List (List Int)} {x y : List Int × Int} (h : askS t [x, y] = true) : okTab t ∧ mixS t.length x.1 x.2 = true ∧ mixS t.length y.1 y.2 = true := by
  simpa [askS] using h
theorem ask1 {t : List (List Int)} {x : List Int × Int} (h : askS t [x] = true) : okTab t ∧ mixS t.length x.1 x.2 = true := by
  simpa [askS] using h

theorem pts2 {s : Bool} {xv yv : AV} {xs ys : List Int} {dx dy : Int} (hx : IsRow xv xs) (hy : IsRow yv ys) : IsPts (.imm s [xv, vI dx, yv, vI dy] 2) [(xs, dx), (ys, dy)] := by
  refine .imm s _ [(xs, dx), (ys, dy)] rfl fun i hi => ?_
  match i, hi with
  | 0, _ => exact ⟨xv, hx, rfl⟩
  | 1, _ => exact ⟨yv, hy, rfl⟩
theorem rest25 {vt xv : AV} {t : List (List Int)} {xs : List Int} {dx : Int} (ht : IsTab vt t) (hs : t.length < 1000) (hx : IsRow xv xs) (hxl : xs.length ≤ 20) :
    freeX H (callL E Y 25 [vt, .agg [xv, vI dx]] []) = some (.tup [.bool (askS t [(xs, dx)] && subS (fashS xs) (bestS t xs)), err (askS t [(xs, dx)])], H) := by
  have r := mixed54_1 (Y := Y) (H := [⟨0, [xv, vI dx]⟩, ⟨0, [xv, vI dx]⟩]) (id := 1) ht hs hx hxl rfl
  obtain ⟨o1, o2, o3⟩ := hx.one
  rw [call25 rfl]
  unfold err
  cases hb : askS t [(xs, dx)]
  · rw [hb] at r
    simp only [SS, insA, wantedA, Opd.ev, putA, binA, eqbA, unA, fldA, partA, reduceIte, reduceCtorEq, Nat.reduceMod, Nat.reduceDiv, Nat.reduceBEq, resultA, resA, vI, Nat.reduceMul, Nat.reduceAdd, Nat.reduceSub, Nat.reduceEqDiff, Nat.reduceLT, Nat.reducePow, Nat.reduceLeDiff, st, Option.bind_eq_bind, Option.pure_def, List.length_nil, Int.cast_ofNat_Int, List.reverse_nil] at r
    simp only [F25B, SS, insA, wantedA, Opd.ev, putA, binA, eqbA, unA, fldA, partA, reduceIte, reduceCtorEq, Nat.reduceMod, Nat.reduceDiv, Nat.reduceBEq, resultA, resA, vI, Nat.reduceMul, Nat.reduceAdd, Nat.reduceSub, Nat.reduceEqDiff, Nat.reduceLT, Nat.reducePow, Nat.reduceLeDiff, st, Option.bind_eq_bind, Option.pure_def, List.length_nil, Int.cast_ofNat_Int, List.reverse_nil, UU, idxP, cellsAt, storeA, fillA, zerosA, putAll, optNat, sliceA, row, Int.reduceLT, Int.reduceLE, Int.reduceGT, Int.reduceGE, Int.reduceEq, Int.reduceNe, Int.reduceToNat, Int.reduceBEq, Int.reduceBNe, Nat.reduceLeDiff, Nat.reduceLT, Nat.reduceBNe, Nat.reduceGT, List.drop_nil, List.take_nil, Option.isSome_none, Int.ofNat_one, Int.ofNat_zero, r, o1, o2, o3, Bool.false_and]
  · obtain ⟨hok, m1⟩ := ask1 hb
    obtain ⟨l1, d1, d2, f1, _⟩ := mix_ok m1
    have hX := f1.small d2
    have hg := fun H => rests_60 (Y := Y) (H := H) (den := dx) ht hok hx l1 hX
    simp only [hb, hok, if_true] at r
    simp only [SS, insA, wantedA, Opd.ev, putA, binA, eqbA, unA, fldA, partA, reduceIte, reduceCtorEq, Nat.reduceMod, Nat.reduceDiv, Nat.reduceBEq, resultA, resA, vI, Nat.reduceMul, Nat.reduceAdd, Nat.reduceSub, Nat.reduceEqDiff, Nat.reduceLT, Nat.reducePow, Nat.reduceLeDiff, st, Option.bind_eq_bind, Option.pure_def, List.length_nil, Int.cast_ofNat_Int, List.reverse_nil] at r hg
    simp only [F25B, SS, insA, wantedA, Opd.ev, putA, binA, eqbA, unA, fldA, partA, reduceIte, reduceCtorEq, Nat.reduceMod, Nat.reduceDiv, Nat.reduceBEq, resultA, resA, vI, Nat.reduceMul, Nat.reduceAdd, Nat.reduceSub, Nat.reduceEqDiff, Nat.reduceLT, Nat.reducePow, Nat.reduceLeDiff, st, Option.bind_eq_bind, Option.pure_def, List.length_nil, Int.cast_ofNat_Int, List.reverse_nil, UU, idxP, cellsAt, storeA, fillA, zerosA, putAll, optNat, sliceA, row, Int.reduceLT, Int.reduceLE, Int.reduceGT, Int.reduceGE, Int.reduceEq, Int.reduceNe, Int.reduceToNat, Int.reduceBEq, Int.reduceBNe, Nat.reduceLeDiff, Nat.reduceLT, Nat.reduceBNe, Nat.reduceGT, List.drop_nil, List.take_nil, Option.isSome_none, Int.ofNat_one, Int.ofNat_zero, r, o1, o2, o3, ht.snap, hx.snap, hg, Bool.true_and]

theorem best27 {vt xv : AV} {t : List (List Int)} {xs : List Int} {dx : Int} (ht : IsTab vt t) (hs : t.length < 1000) (hx : IsRow xv xs) (hxl : xs.length ≤ 20) :
    freeX H (callL E Y 27 [vt, .agg [xv, vI dx]] []) = some (.tup [vI (if askS t [(xs, dx)] = true then (bestS t xs : Int) else 0), err (askS t [(xs, dx)])], H) := by
  have r := mixed54_1 (Y := Y) (H := [⟨0, [xv, vI dx]⟩, ⟨0, [xv, vI dx]⟩]) (id := 1) ht hs hx hxl rfl
  obtain ⟨o1, o2, o3⟩ := hx.one
  rw [call27 rfl]
  unfold err
  cases hb : askS t [(xs, dx)]
  · rw [hb] at r
    simp only [SS, insA, wantedA, Opd.ev, putA, binA, eqbA, unA, fldA, partA, reduceIte, reduceCtorEq, Nat.reduceMod, Nat.reduceDiv, Nat.reduceBEq, resultA, resA, vI, Nat.reduceMul, Nat.reduceAdd, Nat.reduceSub, Nat.reduceEqDiff, Nat.reduceLT, Nat.reducePow, Nat.reduceLeDiff, st, Option.bind_eq_bind, Option.pure_def, List.length_nil, Int.cast_ofNat_Int, List.reverse_nil] at r
    simp only [F27B, SS, insA, wantedA, Opd.ev, putA, binA, eqbA, unA, fldA, partA, reduceIte, reduceCtorEq, Nat.reduceMod, Nat.reduceDiv, Nat.reduceBEq, resultA, resA, vI, Nat.reduceMul, Nat.reduceAdd, Nat.reduceSub, Nat.reduceEqDiff, Nat.reduceLT, Nat.reducePow, Nat.reduceLeDiff, st, Option.bind_eq_bind, Option.pure_def, List.length_nil, Int.cast_ofNat_Int, List.reverse_nil, UU, idxP, cellsAt, storeA, fillA, zerosA, putAll, optNat, sliceA, row, Int.reduceLT, Int.reduceLE, Int.reduceGT, Int.reduceGE, Int.reduceEq, Int.reduceNe, Int.reduceToNat, Int.reduceBEq, Int.reduceBNe, Nat.reduceLeDiff, Nat.reduceLT, Nat.reduceBNe, Nat.reduceGT, List.drop_nil, List.take_nil, Option.isSome_none, Int.ofNat_one, Int.ofNat_zero, r, o1, o2, o3]
  · obtain ⟨hok, m1⟩ := ask1 hb
    obtain ⟨l1, d1, d2, f1, _⟩ := mix_ok m1
    have hX := f1.small d2
    have hg := fun H => best_62 (Y := Y) (H := H) (den := dx) ht hok hx l1 hX
    simp only [hb, hok, if_true] at r
    simp only [SS, insA, wantedA, Opd.ev, putA, binA, eqbA, unA, fldA, partA, reduceIte, reduceCtorEq, Nat.reduceMod, Nat.reduceDiv, Nat.reduceBEq, resultA, resA, vI, Nat.reduceMul, Nat.reduceAdd, Nat.reduceSub, Nat.reduceEqDiff, Nat.reduceLT, Nat.reducePow, Nat.reduceLeDiff, st, Option.bind_eq_bind, Option.pure_def, List.length_nil, Int.cast_ofNat_Int, List.reverse_nil] at r hg
    simp only [F27B, SS, insA, wantedA, Opd.ev, putA, binA, eqbA, unA, fldA, partA, reduceIte, reduceCtorEq, Nat.reduceMod, Nat.reduceDiv, Nat.reduceBEq, resultA, resA, vI, Nat.reduceMul, Nat.reduceAdd, Nat.reduceSub, Nat.reduceEqDiff, Nat.reduceLT, Nat.reducePow, Nat.reduceLeDiff, st, Option.bind_eq_bind, Option.pure_def, List.length_nil, Int.cast_ofNat_Int, List.reverse_nil, UU, idxP, cellsAt, storeA, fillA, zerosA, putAll, optNat, sliceA, row, Int.reduceLT, Int.reduceLE, Int.reduceGT, Int.reduceGE, Int.reduceEq, Int.reduceNe, Int.reduceToNat, Int.reduceBEq, Int.reduceBNe, Nat.reduceLeDiff, Nat.reduceLT, Nat.reduceBNe, Nat.reduceGT, List.drop_nil, List.take_nil, Option.isSome_none, Int.ofNat_one, Int.ofNat_zero, r, o1, o2, o3, ht.snap, hx.snap, hg]

end
end Go.X
