import Derived.Test.YtmedpfjiidlidaaZN
/-! Two fashions: the law's end. -/
set_option linter.unusedSimpArgs false
set_option linter.unusedVariables false
set_option maxHeartbeats 4000000
set_option maxRecDepth 10000
namespace Go.X
open Go Go.RowKit
section
variable {Y : Run} {H : Heap}

theorem fash_three {xs : List Int} (hl : xs.length = 2) (hf : fashS xs = 3) : ∃ p q, xs = [p, q] ∧ p > 0 ∧ q > 0 := by
  match xs, hl with
  | [p, q], _ =>
    refine ⟨p, q, rfl, ?_⟩
    simp only [fashS, setS, decide_eq_true_eq] at hf
    by_cases h1 : p > 0 <;> by_cases h2 : q > 0
    · exact ⟨h1, h2⟩
    all_goals simp [h1, h2] at hf

theorem T7 {vt xv : AV} {a b c d dx : Int} {xs : List Int} {s s0 s1 : Bool} {o1 o2 o3 o4 o5 : Ob} (hvt : vt = .imm s [.imm s0 [vI a, vI b] 2, .imm s1 [vI c, vI d] 2] 2) (ht : IsTab vt [[a, b], [c, d]]) (hok : okTab [[a, b], [c, d]]) (hx : IsRow xv xs) (hxl : xs.length ≤ 20) :
    freeX H (endX [.tmp 4] (codeL E2 Y F7T0 (sp 167 [(3, .ptr 0 0 0), (0, vt)]) [⟨0, [xv, vI dx]⟩, o1, o2, o3, o4, o5])) = some (.bool true, H) := by
  have hs : Small [[a, b], [c, d]] := ⟨by simp, fun r hr => by simp only [List.mem_cons, List.not_mem_nil, or_false] at hr; rcases hr with rfl | rfl <;> simp⟩
  have ha := fun H => freeX_up (Y := Y) E2_up (alive16 (Y := noRun) (H := H))
  have k1 := fun H => freeX_up (Y := Y) E2_up (mix22 (Y := noRun) (H := H) (n := 2) (den := dx) hx hxl)
  have k2 := fun H => freeX_up (Y := Y) E2_up (fash36 (Y := noRun) (H := H) (dv := vI dx) hx hxl)
  have e36 : setS (fun x => decide (x > 0)) xs 0 = fashS xs := rfl
  rw [e36] at k2
  obtain ⟨o1', o2', o3'⟩ := hx.one
  have i1 : idxA 1 vt (vI 1) = some (ptrAt vt 1) := ht.idx (i := 1) (by simp)
  have i0 : idxA 1 vt (vI 0) = some (ptrAt vt 0) := ht.idx (i := 0) (by simp)
  cases hm : mixS 2 xs dx
  · simp only [hm] at k1
    simp only [SS, insA, wantedA, Opd.ev, putA, binA, eqbA, unA, fldA, partA, reduceIte, reduceCtorEq, Nat.reduceMod, Nat.reduceDiv, Nat.reduceBEq, resultA, resA, vI, Nat.reduceMul, Nat.reduceAdd, Nat.reduceSub, Nat.reduceEqDiff, Nat.reduceLT, Nat.reducePow, Nat.reduceLeDiff, st, Option.bind_eq_bind, Option.pure_def, List.length_nil, Int.cast_ofNat_Int, List.reverse_nil] at k1
    simp only [F7T0, SS, insA, wantedA, Opd.ev, putA, binA, eqbA, unA, fldA, partA, reduceIte, reduceCtorEq, Nat.reduceMod, Nat.reduceDiv, Nat.reduceBEq, resultA, resA, vI, Nat.reduceMul, Nat.reduceAdd, Nat.reduceSub, Nat.reduceEqDiff, Nat.reduceLT, Nat.reducePow, Nat.reduceLeDiff, st, Option.bind_eq_bind, Option.pure_def, List.length_nil, Int.cast_ofNat_Int, List.reverse_nil, UU, idxP, cellsAt, storeA, fillA, zerosA, putAll, optNat, sliceA, row, Int.reduceLT, Int.reduceLE, Int.reduceGT, Int.reduceGE, Int.reduceEq, Int.reduceNe, Int.reduceToNat, Int.reduceBEq, Int.reduceBNe, Nat.reduceLeDiff, Nat.reduceLT, Nat.reduceBNe, Nat.reduceGT, List.drop_nil, List.take_nil, Option.isSome_none, Int.ofNat_one, Int.ofNat_zero, hx.snap, k1, ha]
  · simp only [hm] at k1
    by_cases hf : fashS xs = 3
    · have hf' : ((fashS xs : Int) != 3) = false := by simp; omega
      obtain ⟨hl2, d1, d2, f1, sm, gm⟩ := mix_ok (n := 2) hm
      obtain ⟨p, q, rfl, hp, hq⟩ := fash_three hl2 hf
      have hg := gcd_two gm sm
      have hsum : p + q = dx := by simpa [sumL] using sm
      have law := haigh_law (a := a) (b := b) (c := c) (d := d) hp hq hsum hg
      have k3 := fun H => freeX_up (Y := Y) E2_up (resting30 (Y := noRun) (H := H) (s := 3) ht hs)
      have k4 := fun H => freeX_up (Y := Y) E2_up (lasts32 (Y := noRun) (H := H) (dx := dx) ht (show 2 < 1000 by omega) hx hxl)
      have hask : askS [[a, b], [c, d]] [([p, q], dx)] = true := by
        simp only [askS, hok, decide_true, List.all_cons, List.all_nil, Bool.and_true, Bool.true_and]
        exact hm
      unfold err at k4
      simp only [hask] at k4
      have hR : restR [[a, b], [c, d]] 3 = match restS [[a, b], [c, d]] 3 with
        | some (x, d) => .tup [.agg [.imm false (x.map vI) x.length, vI d], vI 0]
        | none => .tup [.agg [.nils, vI 0], vI 10] := by
        unfold restR
        rw [if_pos ⟨hok, by omega, by show (3 : Int) < 4; omega⟩]
        rfl
      cases hr : restS [[a, b], [c, d]] 3 with
      | none =>
        rw [hr] at hR law
        have hL : lastsP [[a, b], [c, d]] [p, q] = false := by
          cases h : lastsP [[a, b], [c, d]] [p, q] with
          | false => rfl
          | true => exact absurd (law.1 h).1 (by simp)
        simp only [hR] at k3
        simp only [hL] at k4
        simp only [SS, insA, wantedA, Opd.ev, putA, binA, eqbA, unA, fldA, partA, reduceIte, reduceCtorEq, Nat.reduceMod, Nat.reduceDiv, Nat.reduceBEq, resultA, resA, vI, Nat.reduceMul, Nat.reduceAdd, Nat.reduceSub, Nat.reduceEqDiff, Nat.reduceLT, Nat.reducePow, Nat.reduceLeDiff, st, Option.bind_eq_bind, Option.pure_def, List.length_nil, Int.cast_ofNat_Int, List.reverse_nil] at k1 k2 k3 k4
        simp only [F7T0, SS, insA, wantedA, Opd.ev, putA, binA, eqbA, unA, fldA, partA, reduceIte, reduceCtorEq, Nat.reduceMod, Nat.reduceDiv, Nat.reduceBEq, resultA, resA, vI, Nat.reduceMul, Nat.reduceAdd, Nat.reduceSub, Nat.reduceEqDiff, Nat.reduceLT, Nat.reducePow, Nat.reduceLeDiff, st, Option.bind_eq_bind, Option.pure_def, List.length_nil, Int.cast_ofNat_Int, List.reverse_nil, UU, idxP, cellsAt, storeA, fillA, zerosA, putAll, optNat, sliceA, row, Int.reduceLT, Int.reduceLE, Int.reduceGT, Int.reduceGE, Int.reduceEq, Int.reduceNe, Int.reduceToNat, Int.reduceBEq, Int.reduceBNe, Nat.reduceLeDiff, Nat.reduceLT, Nat.reduceBNe, Nat.reduceGT, List.drop_nil, List.take_nil, Option.isSome_none, Int.ofNat_one, Int.ofNat_zero, ht.snap, hx.snap, k1, k2, hf', k3, k4, ha, bne_self_eq_false]
      | some y =>
        obtain ⟨y, dy⟩ := y
        rw [hr] at hR law
        have hyr : IsRow (.imm false (y.map vI) y.length) y := .imm false y
        obtain ⟨_, _, _, hyl, _⟩ := resP_some hok (by omega) (show 3 < 2 ^ 2 by decide) hr
        have k5 := fun H => freeX_up (Y := Y) E2_up (same19 (Y := noRun) (H := H) (c := dy) (d := dx) hyr hx (by rw [hyl]; show 2 ≤ 1000; omega))
        simp only [hR] at k3
        by_cases hsame : dy = dx ∧ y = [p, q]
        · have e1 : decide (dy = dx ∧ y = [p, q]) = true := by simpa using hsame
          simp only [e1] at k5
          obtain ⟨rfl, rfl⟩ := hsame
          by_cases c1 : c > a
          · by_cases c2 : b > d
            · have hL : lastsP [[a, b], [c, d]] [p, q] = true := law.2 ⟨rfl, c1, c2⟩
              simp only [hL] at k4
              subst hvt
              simp only [SS, insA, wantedA, Opd.ev, putA, binA, eqbA, unA, fldA, partA, reduceIte, reduceCtorEq, Nat.reduceMod, Nat.reduceDiv, Nat.reduceBEq, resultA, resA, vI, Nat.reduceMul, Nat.reduceAdd, Nat.reduceSub, Nat.reduceEqDiff, Nat.reduceLT, Nat.reducePow, Nat.reduceLeDiff, st, Option.bind_eq_bind, Option.pure_def, List.length_nil, Int.cast_ofNat_Int, List.reverse_nil, UU, idxP, cellsAt, storeA, fillA, zerosA, putAll, optNat, sliceA, row, Int.reduceLT, Int.reduceLE, Int.reduceGT, Int.reduceGE, Int.reduceEq, Int.reduceNe, Int.reduceToNat, Int.reduceBEq, Int.reduceBNe, Nat.reduceLeDiff, Nat.reduceLT, Nat.reduceBNe, Nat.reduceGT, List.drop_nil, List.take_nil, Option.isSome_none, Int.ofNat_one, Int.ofNat_zero] at k1 k2 k3 k4 k5
              simp only [F7T0, SS, insA, wantedA, Opd.ev, putA, binA, eqbA, unA, fldA, partA, reduceIte, reduceCtorEq, Nat.reduceMod, Nat.reduceDiv, Nat.reduceBEq, resultA, resA, vI, Nat.reduceMul, Nat.reduceAdd, Nat.reduceSub, Nat.reduceEqDiff, Nat.reduceLT, Nat.reducePow, Nat.reduceLeDiff, st, Option.bind_eq_bind, Option.pure_def, List.length_nil, Int.cast_ofNat_Int, List.reverse_nil, UU, idxP, cellsAt, storeA, fillA, zerosA, putAll, optNat, sliceA, row, Int.reduceLT, Int.reduceLE, Int.reduceGT, Int.reduceGE, Int.reduceEq, Int.reduceNe, Int.reduceToNat, Int.reduceBEq, Int.reduceBNe, Nat.reduceLeDiff, Nat.reduceLT, Nat.reduceBNe, Nat.reduceGT, List.drop_nil, List.take_nil, Option.isSome_none, Int.ofNat_one, Int.ofNat_zero, ht.snap, hx.snap, k1, k2, hf', k3, k4, k5, ha, c1, c2, decide_true, bne_self_eq_false]
            · have hL : lastsP [[a, b], [c, d]] [p, q] = false := by
                cases h : lastsP [[a, b], [c, d]] [p, q] with
                | false => rfl
                | true => exact absurd (law.1 h).2.2 c2
              simp only [hL] at k4
              subst hvt
              simp only [SS, insA, wantedA, Opd.ev, putA, binA, eqbA, unA, fldA, partA, reduceIte, reduceCtorEq, Nat.reduceMod, Nat.reduceDiv, Nat.reduceBEq, resultA, resA, vI, Nat.reduceMul, Nat.reduceAdd, Nat.reduceSub, Nat.reduceEqDiff, Nat.reduceLT, Nat.reducePow, Nat.reduceLeDiff, st, Option.bind_eq_bind, Option.pure_def, List.length_nil, Int.cast_ofNat_Int, List.reverse_nil, UU, idxP, cellsAt, storeA, fillA, zerosA, putAll, optNat, sliceA, row, Int.reduceLT, Int.reduceLE, Int.reduceGT, Int.reduceGE, Int.reduceEq, Int.reduceNe, Int.reduceToNat, Int.reduceBEq, Int.reduceBNe, Nat.reduceLeDiff, Nat.reduceLT, Nat.reduceBNe, Nat.reduceGT, List.drop_nil, List.take_nil, Option.isSome_none, Int.ofNat_one, Int.ofNat_zero] at k1 k2 k3 k4 k5
              simp only [F7T0, SS, insA, wantedA, Opd.ev, putA, binA, eqbA, unA, fldA, partA, reduceIte, reduceCtorEq, Nat.reduceMod, Nat.reduceDiv, Nat.reduceBEq, resultA, resA, vI, Nat.reduceMul, Nat.reduceAdd, Nat.reduceSub, Nat.reduceEqDiff, Nat.reduceLT, Nat.reducePow, Nat.reduceLeDiff, st, Option.bind_eq_bind, Option.pure_def, List.length_nil, Int.cast_ofNat_Int, List.reverse_nil, UU, idxP, cellsAt, storeA, fillA, zerosA, putAll, optNat, sliceA, row, Int.reduceLT, Int.reduceLE, Int.reduceGT, Int.reduceGE, Int.reduceEq, Int.reduceNe, Int.reduceToNat, Int.reduceBEq, Int.reduceBNe, Nat.reduceLeDiff, Nat.reduceLT, Nat.reduceBNe, Nat.reduceGT, List.drop_nil, List.take_nil, Option.isSome_none, Int.ofNat_one, Int.ofNat_zero, ht.snap, hx.snap, k1, k2, hf', k3, k4, k5, ha, c1, c2, decide_true, decide_false, bne_self_eq_false]
          · have hL : lastsP [[a, b], [c, d]] [p, q] = false := by
              cases h : lastsP [[a, b], [c, d]] [p, q] with
              | false => rfl
              | true => exact absurd (law.1 h).2.1 c1
            simp only [hL] at k4
            subst hvt
            simp only [SS, insA, wantedA, Opd.ev, putA, binA, eqbA, unA, fldA, partA, reduceIte, reduceCtorEq, Nat.reduceMod, Nat.reduceDiv, Nat.reduceBEq, resultA, resA, vI, Nat.reduceMul, Nat.reduceAdd, Nat.reduceSub, Nat.reduceEqDiff, Nat.reduceLT, Nat.reducePow, Nat.reduceLeDiff, st, Option.bind_eq_bind, Option.pure_def, List.length_nil, Int.cast_ofNat_Int, List.reverse_nil, UU, idxP, cellsAt, storeA, fillA, zerosA, putAll, optNat, sliceA, row, Int.reduceLT, Int.reduceLE, Int.reduceGT, Int.reduceGE, Int.reduceEq, Int.reduceNe, Int.reduceToNat, Int.reduceBEq, Int.reduceBNe, Nat.reduceLeDiff, Nat.reduceLT, Nat.reduceBNe, Nat.reduceGT, List.drop_nil, List.take_nil, Option.isSome_none, Int.ofNat_one, Int.ofNat_zero] at k1 k2 k3 k4 k5
            simp only [F7T0, SS, insA, wantedA, Opd.ev, putA, binA, eqbA, unA, fldA, partA, reduceIte, reduceCtorEq, Nat.reduceMod, Nat.reduceDiv, Nat.reduceBEq, resultA, resA, vI, Nat.reduceMul, Nat.reduceAdd, Nat.reduceSub, Nat.reduceEqDiff, Nat.reduceLT, Nat.reducePow, Nat.reduceLeDiff, st, Option.bind_eq_bind, Option.pure_def, List.length_nil, Int.cast_ofNat_Int, List.reverse_nil, UU, idxP, cellsAt, storeA, fillA, zerosA, putAll, optNat, sliceA, row, Int.reduceLT, Int.reduceLE, Int.reduceGT, Int.reduceGE, Int.reduceEq, Int.reduceNe, Int.reduceToNat, Int.reduceBEq, Int.reduceBNe, Nat.reduceLeDiff, Nat.reduceLT, Nat.reduceBNe, Nat.reduceGT, List.drop_nil, List.take_nil, Option.isSome_none, Int.ofNat_one, Int.ofNat_zero, ht.snap, hx.snap, k1, k2, hf', k3, k4, k5, ha, c1, decide_true, decide_false, bne_self_eq_false]
        · have e1 : decide (dy = dx ∧ y = [p, q]) = false := by simpa using hsame
          simp only [e1] at k5
          have hL : lastsP [[a, b], [c, d]] [p, q] = false := by
            cases h : lastsP [[a, b], [c, d]] [p, q] with
            | false => rfl
            | true =>
              have := (law.1 h).1
              simp only [Option.some.injEq, Prod.mk.injEq] at this
              exact absurd ⟨this.2, this.1⟩ hsame
          simp only [hL] at k4
          simp only [SS, insA, wantedA, Opd.ev, putA, binA, eqbA, unA, fldA, partA, reduceIte, reduceCtorEq, Nat.reduceMod, Nat.reduceDiv, Nat.reduceBEq, resultA, resA, vI, Nat.reduceMul, Nat.reduceAdd, Nat.reduceSub, Nat.reduceEqDiff, Nat.reduceLT, Nat.reducePow, Nat.reduceLeDiff, st, Option.bind_eq_bind, Option.pure_def, List.length_nil, Int.cast_ofNat_Int, List.reverse_nil, UU, idxP, cellsAt, storeA, fillA, zerosA, putAll, optNat, sliceA, row, Int.reduceLT, Int.reduceLE, Int.reduceGT, Int.reduceGE, Int.reduceEq, Int.reduceNe, Int.reduceToNat, Int.reduceBEq, Int.reduceBNe, Nat.reduceLeDiff, Nat.reduceLT, Nat.reduceBNe, Nat.reduceGT, List.drop_nil, List.take_nil, Option.isSome_none, Int.ofNat_one, Int.ofNat_zero] at k1 k2 k3 k4 k5
          simp only [F7T0, SS, insA, wantedA, Opd.ev, putA, binA, eqbA, unA, fldA, partA, reduceIte, reduceCtorEq, Nat.reduceMod, Nat.reduceDiv, Nat.reduceBEq, resultA, resA, vI, Nat.reduceMul, Nat.reduceAdd, Nat.reduceSub, Nat.reduceEqDiff, Nat.reduceLT, Nat.reducePow, Nat.reduceLeDiff, st, Option.bind_eq_bind, Option.pure_def, List.length_nil, Int.cast_ofNat_Int, List.reverse_nil, UU, idxP, cellsAt, storeA, fillA, zerosA, putAll, optNat, sliceA, row, Int.reduceLT, Int.reduceLE, Int.reduceGT, Int.reduceGE, Int.reduceEq, Int.reduceNe, Int.reduceToNat, Int.reduceBEq, Int.reduceBNe, Nat.reduceLeDiff, Nat.reduceLT, Nat.reduceBNe, Nat.reduceGT, List.drop_nil, List.take_nil, Option.isSome_none, Int.ofNat_one, Int.ofNat_zero, ht.snap, hx.snap, k1, k2, hf', k3, k4, k5, ha, decide_true, decide_false, bne_self_eq_false]
    · have hf' : ((fashS xs : Int) != 3) = true := by simp; omega
      simp only [SS, insA, wantedA, Opd.ev, putA, binA, eqbA, unA, fldA, partA, reduceIte, reduceCtorEq, Nat.reduceMod, Nat.reduceDiv, Nat.reduceBEq, resultA, resA, vI, Nat.reduceMul, Nat.reduceAdd, Nat.reduceSub, Nat.reduceEqDiff, Nat.reduceLT, Nat.reducePow, Nat.reduceLeDiff, st, Option.bind_eq_bind, Option.pure_def, List.length_nil, Int.cast_ofNat_Int, List.reverse_nil] at k1 k2
      simp only [F7T0, SS, insA, wantedA, Opd.ev, putA, binA, eqbA, unA, fldA, partA, reduceIte, reduceCtorEq, Nat.reduceMod, Nat.reduceDiv, Nat.reduceBEq, resultA, resA, vI, Nat.reduceMul, Nat.reduceAdd, Nat.reduceSub, Nat.reduceEqDiff, Nat.reduceLT, Nat.reducePow, Nat.reduceLeDiff, st, Option.bind_eq_bind, Option.pure_def, List.length_nil, Int.cast_ofNat_Int, List.reverse_nil, UU, idxP, cellsAt, storeA, fillA, zerosA, putAll, optNat, sliceA, row, Int.reduceLT, Int.reduceLE, Int.reduceGT, Int.reduceGE, Int.reduceEq, Int.reduceNe, Int.reduceToNat, Int.reduceBEq, Int.reduceBNe, Nat.reduceLeDiff, Nat.reduceLT, Nat.reduceBNe, Nat.reduceGT, List.drop_nil, List.take_nil, Option.isSome_none, Int.ofNat_one, Int.ofNat_zero, hx.snap, k1, k2, hf', ha]

theorem law7 {vt xv : AV} {t : List (List Int)} {xs : List Int} {dx : Int} (ht : IsTab vt t) (hx : IsRow xv xs) : freeX [] (callL E2 Y 7 [vt, .agg [xv, vI dx]] []) = some (.bool true, []) := by
  obtain ⟨o1, o2, o3⟩ := hx.one
  have f := fun H => few15 (Y := noRun) (H := H) ht (pts1 (s := true) (dx := dx) hx) (by simp)
  have ha := fun H => freeX_up (Y := Y) E2_up (alive16 (Y := noRun) (H := H))
  rw [call7 rfl]
  by_cases hf : fewS t [(xs, dx)]
  · have f1 := fun H => freeX_up (Y := Y) E2_up ((f H).1 hf)
    have hxl : xs.length ≤ 20 := hf.2 (xs, dx) (by simp)
    have r := callL_up (Y := Y) E2_up (table34 (Y := noRun) (H := []) ht hf.1)
    by_cases hok : okTab t
    · simp only [hok, decide_true] at r
      by_cases h2 : t.length = 2
      · rcases shapes hok with ⟨a, rfl⟩ | ⟨a, b, c, d, rfl⟩ | ⟨a, b, c, d, e, f, g, h, i, rfl⟩
        · cases h2
        · obtain ⟨s, v, w, rfl, h1, h2⟩ := tab_two ht
          obtain ⟨s0, rfl⟩ := row2 h1
          obtain ⟨s1, rfl⟩ := row2 h2
          have q1 := fun o0 o1 => L7_0 (Y := Y) (o0 := o0) (o1 := o1) ht hok
          have q2 := fun o0 o1 o2 o3 => L7_1 (Y := Y) (o0 := o0) (o1 := o1) (o2 := o2) (o3 := o3) ht hok
          have q3 := fun o1 o2 o3 o4 o5 => T7 (Y := Y) (H := []) (o1 := o1) (o2 := o2) (o3 := o3) (o4 := o4) (o5 := o5) (dx := dx) rfl ht hok hx hxl
          simp only [SS, insA, wantedA, Opd.ev, putA, binA, eqbA, unA, fldA, partA, reduceIte, reduceCtorEq, Nat.reduceMod, Nat.reduceDiv, Nat.reduceBEq, resultA, resA, vI, Nat.reduceMul, Nat.reduceAdd, Nat.reduceSub, Nat.reduceEqDiff, Nat.reduceLT, Nat.reducePow, Nat.reduceLeDiff, st, Option.bind_eq_bind, Option.pure_def, List.length_nil, Int.cast_ofNat_Int, List.reverse_nil] at q1 q2 q3 f1
          simp only [F7B, in7_0, SS, insA, wantedA, Opd.ev, putA, binA, eqbA, unA, fldA, partA, reduceIte, reduceCtorEq, Nat.reduceMod, Nat.reduceDiv, Nat.reduceBEq, resultA, resA, vI, Nat.reduceMul, Nat.reduceAdd, Nat.reduceSub, Nat.reduceEqDiff, Nat.reduceLT, Nat.reducePow, Nat.reduceLeDiff, st, Option.bind_eq_bind, Option.pure_def, List.length_nil, Int.cast_ofNat_Int, List.reverse_nil, UU, idxP, cellsAt, storeA, fillA, zerosA, putAll, optNat, sliceA, row, Int.reduceLT, Int.reduceLE, Int.reduceGT, Int.reduceGE, Int.reduceEq, Int.reduceNe, Int.reduceToNat, Int.reduceBEq, Int.reduceBNe, Nat.reduceLeDiff, Nat.reduceLT, Nat.reduceBNe, Nat.reduceGT, List.drop_nil, List.take_nil, Option.isSome_none, Int.ofNat_one, Int.ofNat_zero, o1, o2, o3, ht.snap, hx.snap, f1, r, q1, q2, q3, bne_self_eq_false]
        · cases h2
      · have hb : ((t.length : Int) != 2) = true := by simp; omega
        simp only [SS, insA, wantedA, Opd.ev, putA, binA, eqbA, unA, fldA, partA, reduceIte, reduceCtorEq, Nat.reduceMod, Nat.reduceDiv, Nat.reduceBEq, resultA, resA, vI, Nat.reduceMul, Nat.reduceAdd, Nat.reduceSub, Nat.reduceEqDiff, Nat.reduceLT, Nat.reducePow, Nat.reduceLeDiff, st, Option.bind_eq_bind, Option.pure_def, List.length_nil, Int.cast_ofNat_Int, List.reverse_nil] at f1
        simp only [F7B, SS, insA, wantedA, Opd.ev, putA, binA, eqbA, unA, fldA, partA, reduceIte, reduceCtorEq, Nat.reduceMod, Nat.reduceDiv, Nat.reduceBEq, resultA, resA, vI, Nat.reduceMul, Nat.reduceAdd, Nat.reduceSub, Nat.reduceEqDiff, Nat.reduceLT, Nat.reducePow, Nat.reduceLeDiff, st, Option.bind_eq_bind, Option.pure_def, List.length_nil, Int.cast_ofNat_Int, List.reverse_nil, UU, idxP, cellsAt, storeA, fillA, zerosA, putAll, optNat, sliceA, row, Int.reduceLT, Int.reduceLE, Int.reduceGT, Int.reduceGE, Int.reduceEq, Int.reduceNe, Int.reduceToNat, Int.reduceBEq, Int.reduceBNe, Nat.reduceLeDiff, Nat.reduceLT, Nat.reduceBNe, Nat.reduceGT, List.drop_nil, List.take_nil, Option.isSome_none, Int.ofNat_one, Int.ofNat_zero, o1, o2, o3, ht.snap, hx.snap, ht.len, f1, r, hb, ha]
    · simp only [hok, decide_false] at r
      simp only [SS, insA, wantedA, Opd.ev, putA, binA, eqbA, unA, fldA, partA, reduceIte, reduceCtorEq, Nat.reduceMod, Nat.reduceDiv, Nat.reduceBEq, resultA, resA, vI, Nat.reduceMul, Nat.reduceAdd, Nat.reduceSub, Nat.reduceEqDiff, Nat.reduceLT, Nat.reducePow, Nat.reduceLeDiff, st, Option.bind_eq_bind, Option.pure_def, List.length_nil, Int.cast_ofNat_Int, List.reverse_nil] at f1
      simp only [F7B, SS, insA, wantedA, Opd.ev, putA, binA, eqbA, unA, fldA, partA, reduceIte, reduceCtorEq, Nat.reduceMod, Nat.reduceDiv, Nat.reduceBEq, resultA, resA, vI, Nat.reduceMul, Nat.reduceAdd, Nat.reduceSub, Nat.reduceEqDiff, Nat.reduceLT, Nat.reducePow, Nat.reduceLeDiff, st, Option.bind_eq_bind, Option.pure_def, List.length_nil, Int.cast_ofNat_Int, List.reverse_nil, UU, idxP, cellsAt, storeA, fillA, zerosA, putAll, optNat, sliceA, row, Int.reduceLT, Int.reduceLE, Int.reduceGT, Int.reduceGE, Int.reduceEq, Int.reduceNe, Int.reduceToNat, Int.reduceBEq, Int.reduceBNe, Nat.reduceLeDiff, Nat.reduceLT, Nat.reduceBNe, Nat.reduceGT, List.drop_nil, List.take_nil, Option.isSome_none, Int.ofNat_one, Int.ofNat_zero, o1, o2, o3, ht.snap, hx.snap, f1, r, ha]
  · have f2 := fun H => freeX_up (Y := Y) E2_up ((f H).2 hf)
    simp only [SS, insA, wantedA, Opd.ev, putA, binA, eqbA, unA, fldA, partA, reduceIte, reduceCtorEq, Nat.reduceMod, Nat.reduceDiv, Nat.reduceBEq, resultA, resA, vI, Nat.reduceMul, Nat.reduceAdd, Nat.reduceSub, Nat.reduceEqDiff, Nat.reduceLT, Nat.reducePow, Nat.reduceLeDiff, st, Option.bind_eq_bind, Option.pure_def, List.length_nil, Int.cast_ofNat_Int, List.reverse_nil] at f2
    simp only [F7B, SS, insA, wantedA, Opd.ev, putA, binA, eqbA, unA, fldA, partA, reduceIte, reduceCtorEq, Nat.reduceMod, Nat.reduceDiv, Nat.reduceBEq, resultA, resA, vI, Nat.reduceMul, Nat.reduceAdd, Nat.reduceSub, Nat.reduceEqDiff, Nat.reduceLT, Nat.reducePow, Nat.reduceLeDiff, st, Option.bind_eq_bind, Option.pure_def, List.length_nil, Int.cast_ofNat_Int, List.reverse_nil, UU, idxP, cellsAt, storeA, fillA, zerosA, putAll, optNat, sliceA, row, Int.reduceLT, Int.reduceLE, Int.reduceGT, Int.reduceGE, Int.reduceEq, Int.reduceNe, Int.reduceToNat, Int.reduceBEq, Int.reduceBNe, Nat.reduceLeDiff, Nat.reduceLT, Nat.reduceBNe, Nat.reduceGT, List.drop_nil, List.take_nil, Option.isSome_none, Int.ofNat_one, Int.ofNat_zero, o1, o2, o3, ht.snap, hx.snap, f2, ha]
end
end Go.X
