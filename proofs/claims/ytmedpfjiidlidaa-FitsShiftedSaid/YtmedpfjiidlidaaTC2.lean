import Derived.Test.YtmedpfjiidlidaaTC
import Derived.Test.YtmedpfjiidlidaaYB
/-! Fits: the law on tables that are shifted or renamed. -/
set_option linter.unusedSimpArgs false
set_option linter.unusedVariables false
set_option maxHeartbeats 8000000
set_option maxRecDepth 10000
namespace Go.X
open Go Go.RowKit
section
variable {Y : Run} {H : Heap}

/-! ### frames that are kept -/
theorem fget_map {L : List (Nat × AV)} {t : Nat} : ∀ (ds : List Nat), fget (ds.map fun t => (t, fget L t)) t = if t ∈ ds then fget L t else .undef
  | [] => by simp [fget]
  | d :: ds => by
    rw [List.map_cons, fget_cons, fget_map ds]
    by_cases h : t = d
    · subst h; simp
    · simp [h]
theorem keep_pick {n k : Nat} {L : List (Nat × AV)} (ds : List Nat) (h : ((List.range n).all fun t => decide (k / 2 ^ t % 2 = 1) == decide (t ∈ ds)) = true) : sp n (fkeep k L) = sp n (ds.map fun t => (t, fget L t)) := by
  unfold sp
  refine List.map_congr_left fun t ht => ?_
  have := List.all_eq_true.1 h t ht
  rw [beq_iff_eq, decide_eq_decide] at this
  rw [fget_fkeep, fget_map]
  by_cases c : k / 2 ^ t % 2 = 1
  · rw [if_pos c, if_pos (this.1 c)]
  · rw [if_neg c, if_neg (fun q => c (this.2 q))]
theorem keep14_0 {L : List (Nat × AV)} : sp 336 (fkeep 2159373321 L) = sp 336 [(31, fget L 31), (23, fget L 23), (21, fget L 21), (20, fget L 20), (18, fget L 18), (16, fget L 16), (14, fget L 14), (13, fget L 13), (11, fget L 11), (10, fget L 10), (3, fget L 3), (0, fget L 0)] := keep_pick [31, 23, 21, 20, 18, 16, 14, 13, 11, 10, 3, 0] (by decide +kernel)
theorem keep14_1 {L : List (Nat × AV)} : sp 336 (fkeep 1172526358536 L) = sp 336 [(40, fget L 40), (36, fget L 36), (32, fget L 32), (18, fget L 18), (14, fget L 14), (13, fget L 13), (3, fget L 3)] := keep_pick [40, 36, 32, 18, 14, 13, 3] (by decide +kernel)

/-! ### the law -/
theorem eqs_ne2 {a b : Int} : eqsA true [true, true] (.agg [vI a, vI b]) (.agg [vI a, vI b]) = some (.bool false) := by simp [eqsA, eqCells]
/-- With another order of names. -/
theorem run14 {L : List (Nat × AV)} {T : Heap} {o2 : Ob} {vt v xv yv av : AV} {t : List (List Int)} {l xs ys : List Int} {dx dy m1 m2 f : Int}
    (g0 : fget L 0 = vt) (g3 : fget L 3 = v) (g10 : fget L 10 = .ptr 0 0 0) (g11 : fget L 11 = .ptr 1 0 0) (g13 : fget L 13 = vI t.length) (g14 : fget L 14 = av) (g16 : fget L 16 = .bool (subS (fashS xs) (bestS t xs))) (g18 : fget L 18 = vI (bestS t xs : Nat)) (g20 : fget L 20 = .ptr 3 0 0) (g21 : fget L 21 = vI f)
    (ht : IsTab vt t) (hs : Small t) (hv : IsRow v l) (hl : l.length ≤ 20) (hx : IsRow xv xs) (hy : IsRow yv ys) (hok : okTab t) (axy : askS t [(xs, dx), (ys, dy)] = true) (ha : IsPts av (lastingS t))
    (hlim : limR t (xs, dx) (ys, dy) = .tup [.agg [vI m1, vI m2], vI f]) :
    freeX H (endX [.tmp 12] (codeL E2 Y F14T4 (sp 336 L) (⟨0, [xv, vI dx]⟩ :: ⟨0, [yv, vI dy]⟩ :: o2 :: ⟨0, [vI m1, vI m2]⟩ :: T))) = some (.bool true, H) := by
  have hal := fun H => freeX_up (Y := Y) E2_up (alive16 (Y := noRun) (H := H))
  have ho := fun H => order45 (Y := Y) (H := H) (n := t.length) hv hl hok.2.1
  cases hor : isOrd t.length l
  · rw [hor] at ho
    simp only [SS, insA, wantedA, Opd.ev, putA, binA, eqbA, unA, fldA, partA, reduceIte, reduceCtorEq, Nat.reduceMod, Nat.reduceDiv, Nat.reduceBEq, resultA, resA, vI, Nat.reduceMul, Nat.reduceAdd, Nat.reduceSub, Nat.reduceEqDiff, Nat.reduceLT, Nat.reducePow, Nat.reduceLeDiff, st, Option.bind_eq_bind, Option.pure_def, List.length_nil, Int.cast_ofNat_Int, List.reverse_nil] at ho g13
    simp only [F14T4, ↓bit_hi, SS, insA, wantedA, Opd.ev, putA, binA, eqbA, unA, fldA, partA, reduceIte, reduceCtorEq, Nat.reduceMod, Nat.reduceDiv, Nat.reduceBEq, resultA, resA, vI, Nat.reduceMul, Nat.reduceAdd, Nat.reduceSub, Nat.reduceEqDiff, Nat.reduceLT, Nat.reducePow, Nat.reduceLeDiff, st, Option.bind_eq_bind, Option.pure_def, List.length_nil, Int.cast_ofNat_Int, List.reverse_nil, UU, idxP, cellsAt, storeA, fillA, zerosA, putAll, optNat, sliceA, row, Int.reduceLT, Int.reduceLE, Int.reduceGT, Int.reduceGE, Int.reduceEq, Int.reduceNe, Int.reduceToNat, Int.reduceBEq, Int.reduceBNe, Nat.reduceLeDiff, Nat.reduceLT, Nat.reduceBNe, Nat.reduceGT, List.drop_nil, List.take_nil, Option.isSome_none, Int.ofNat_one, Int.ofNat_zero, fget_fins, fget_fkeep, g0, g3, g10, g11, g13, g14, g16, g18, g20, g21, hv.snap, ho, hal]
  · rw [hor] at ho
    obtain ⟨m, A⟩ := ren_all hok hor
    obtain ⟨_, mx, my⟩ := ask2 axy
    have lx := (mix_ok mx).1
    have ly := (mix_ok my).1
    obtain ⟨ol, om⟩ := ord_mem hor hok.1 hok.2.1
    have n3 := hok.2.1
    obtain ⟨w, w1, w2, _⟩ := (renamed42 (Y := Y) ht hs hv hl).1 ⟨hok, hor⟩
    have sm := renT_small (t := t) hl
    obtain ⟨c, c1, c2⟩ := lasting17 (Y := noRun) w1 (by rw [A.len]; omega) A.ok
    have c2 := fun H => freeX_up (Y := Y) E2_up (c2 H)
    obtain ⟨x, x1, x2⟩ := ren46 (Y := Y) (d := dx) hv hx hl (by rw [lx]; exact om)
    obtain ⟨y, y1, y2⟩ := ren46 (Y := Y) (d := dy) hv hy hl (by rw [ly]; exact om)
    have lx : xs.length = t.length := lx
    have ly : ys.length = t.length := ly
    have lx' := A.xlen _ lx
    have ly' := A.xlen _ ly
    have ax := A.ask hok (xs, dx) lx
    have e1 : askS t [(xs, dx)] = true := by
      unfold askS; rw [decide_eq_true hok]; simpa using mx
    rw [e1] at ax
    have k25 := fun H => freeX_up (Y := Y) E2_up (rest25 (Y := noRun) (H := H) (dx := dx) w1 (by rw [A.len]; omega) x1 (by omega))
    have k27 := fun H => freeX_up (Y := Y) E2_up (best27 (Y := noRun) (H := H) (dx := dx) w1 (by rw [A.len]; omega) x1 (by omega))
    have k38 := fun H => limit38 (Y := Y) (H := H) (dx := dx) (dy := dy) w1 sm x1 (by omega) y1 (by omega)
    have lim := A.limit hok (x := (xs, dx)) (y := (ys, dy)) lx ly
    rw [ax, (A.ren _ lx).sub] at k25
    rw [ax] at k27
    simp only [if_true] at k27
    rw [lim, hlim] at k38
    unfold err at k25 k27
    have hq := eqs_ne2 (a := m1) (b := m2)
    have n1 := A.count hok
    have len1 : ∀ z ∈ lastingS t, z.1.length = t.length := fun z hz => by
      rw [lasting_mem hok] at hz
      exact (mix_ok (ask1 hz.1).2).1
    obtain ⟨b1, b2⟩ := lasting_rows hok
    obtain ⟨b3, b4⟩ := lasting_rows A.ok
    have hb8 : bestS t xs < 8 := Nat.lt_of_lt_of_le bestS_lt (Nat.pow_le_pow_right (by decide) n3 (n := 2))
    have hs8 : bestS (renT t l) (renX xs l) < 8 := Nat.lt_of_lt_of_le bestS_lt (by rw [A.len]; exact Nat.pow_le_pow_right (by decide) n3 (n := 2))
    have l1 := fun H => L14_1 (Y := Y) (H := H) (av := av) (cv := c) (m := t.length) (s := bestS (renT t l) (renX xs l)) (b := bestS t xs) hv ol n3 hs8 hb8 om (A.ren _ lx).best t.length 0 (by omega)
    have l3 := fun H => L14_3 (Y := Y) (H := H) hv hl ha len1 om c1.pts b3 b1 (by omega) (fun z hz => A.mem hok hz) (lastingS t).length 0 (by omega)
    have hlc : lenA c = some (lastingS t).length := by rw [c1.pts.len, n1]
    have beq : ∀ b : Bool, (b == b) = true := fun b => by cases b <;> rfl
    generalize hB : bestS (renT t l) (renX xs l) = B at *
    generalize subS (fashS xs) (bestS t xs) = r at *
    simp only [SS, insA, wantedA, Opd.ev, putA, binA, eqbA, unA, fldA, partA, reduceIte, reduceCtorEq, Nat.reduceMod, Nat.reduceDiv, Nat.reduceBEq, resultA, resA, vI, Nat.reduceMul, Nat.reduceAdd, Nat.reduceSub, Nat.reduceEqDiff, Nat.reduceLT, Nat.reducePow, Nat.reduceLeDiff, st, Option.bind_eq_bind, Option.pure_def, List.length_nil, Int.cast_ofNat_Int, List.reverse_nil, Int.ofNat_zero] at ho w2 c2 x2 y2 k25 k27 k38 l1 l3 hq g13 g16 g18 g21
    simp only [F14T4, F14T3, F14T2, in14_1, in14_3, keep14_1, ↓bit_hi, SS, insA, wantedA, Opd.ev, putA, binA, eqbA, unA, fldA, partA, reduceIte, reduceCtorEq, Nat.reduceMod, Nat.reduceDiv, Nat.reduceBEq, resultA, resA, vI, Nat.reduceMul, Nat.reduceAdd, Nat.reduceSub, Nat.reduceEqDiff, Nat.reduceLT, Nat.reducePow, Nat.reduceLeDiff, st, Option.bind_eq_bind, Option.pure_def, List.length_nil, Int.cast_ofNat_Int, List.reverse_nil, UU, idxP, cellsAt, storeA, fillA, zerosA, putAll, optNat, sliceA, row, Int.reduceLT, Int.reduceLE, Int.reduceGT, Int.reduceGE, Int.reduceEq, Int.reduceNe, Int.reduceToNat, Int.reduceBEq, Int.reduceBNe, Nat.reduceLeDiff, Nat.reduceLT, Nat.reduceBNe, Nat.reduceGT, List.drop_nil, List.take_nil, Option.isSome_none, Int.ofNat_one, Int.ofNat_zero, fget_fins, fget_fkeep, g0, g3, g10, g11, g13, g14, g16, g18, g20, g21, hv.snap, ht.snap, w1.snap, hx.snap, hy.snap, x1.snap, y1.snap, ho, w2, c2, x2, y2, k25, k27, k38, get_last, set_last, bne_self_eq_false, beq, hq, hlc, ha.len, l1, l3, hal]

def F14H : XC := headC 9 F14B
def F14X : XC := tailC 9 F14B

/-- From the shift on. -/
theorem mid14 {L : List (Nat × AV)} {o2 : Ob} {vt v xv yv av w : AV} {t : List (List Int)} {l xs ys : List Int} {dx dy m1 m2 f c b : Int}
    (g0 : fget L 0 = vt) (g3 : fget L 3 = v) (g10 : fget L 10 = .ptr 0 0 0) (g11 : fget L 11 = .ptr 1 0 0) (g13 : fget L 13 = vI t.length) (g14 : fget L 14 = av) (g15 : fget L 15 = vI (shiftL t c b).2) (g16 : fget L 16 = .bool (subS (fashS xs) (bestS t xs))) (g18 : fget L 18 = vI (bestS t xs : Nat)) (g20 : fget L 20 = .ptr 3 0 0) (g21 : fget L 21 = vI f) (g22 : fget L 22 = w)
    (ht : IsTab vt t) (hw : IsTab w (shiftL t c b).1) (hs : Small t) (hv : IsRow v l) (hl : l.length ≤ 20) (hx : IsRow xv xs) (hy : IsRow yv ys) (hok : okTab t) (axy : askS t [(xs, dx), (ys, dy)] = true) (ha : IsPts av (lastingS t))
    (hlim : limR t (xs, dx) (ys, dy) = .tup [.agg [vI m1, vI m2], vI f]) :
    freeX H (endX [.tmp 12] (codeL E2 Y F14X (sp 336 L) [⟨0, [xv, vI dx]⟩, ⟨0, [yv, vI dy]⟩, o2, ⟨0, [vI m1, vI m2]⟩])) = some (.bool true, H) := by
  have sl := shiftL_small hs c b
  by_cases hc : shiftC t c b
  · have e : shiftL t c b = (t.map (addAt c.toNat b), 0) := by unfold shiftL; rw [if_pos hc]
    obtain ⟨_, c0, c1, _, _, c4⟩ := hc
    rw [e] at g15 hw sl
    simp only at g15 hw sl
    have cn : c.toNat < t.length := by omega
    obtain ⟨_, mx, my⟩ := ask2 axy
    have lx := (mix_ok mx).1
    have ly := (mix_ok my).1
    have n3 := hok.2.1
    have lx : xs.length = t.length := lx
    have ly : ys.length = t.length := ly
    have hok2 := shift_ok hok cn c4
    obtain ⟨cv, c2, c3⟩ := lasting17 (Y := noRun) hw (by rw [List.length_map]; omega) hok2
    have c3 := fun H => freeX_up (Y := Y) E2_up (c3 H)
    have hcv := c2.pts
    rw [shift_lasting hok cn c4] at hcv
    have k25 := fun H => freeX_up (Y := Y) E2_up (rest25 (Y := noRun) (H := H) (dx := dx) hw (by rw [List.length_map]; omega) hx (by omega))
    have k27 := fun H => freeX_up (Y := Y) E2_up (best27 (Y := noRun) (H := H) (dx := dx) hw (by rw [List.length_map]; omega) hx (by omega))
    have k38 := fun H => limit38 (Y := Y) (H := H) (dx := dx) (dy := dy) hw sl hx (by omega) hy (by omega)
    have e1 : askS t [(xs, dx)] = true := by
      unfold askS; rw [decide_eq_true hok]; simpa using mx
    rw [shift_ask hok cn c4, e1, shift_best hok cn lx] at k25 k27
    rw [shift_limit hok cn c4 axy, hlim] at k38
    unfold err at k25 k27
    simp only [if_true, Bool.true_and] at k25 k27
    have hq := eqs_ne2 (a := m1) (b := m2)
    obtain ⟨b1, b2⟩ := lasting_rows hok
    have l0 := fun a0 a3 a10 a11 a13 a16 a18 a20 a21 H => L14_0 (Y := Y) (H := H) (a0 := a0) (a3 := a3) (a10 := a10) (a11 := a11) (a13 := a13) (a16 := a16) (a18 := a18) (a20 := a20) (a21 := a21) ha hcv b1 b2 (lastingS t).length 0 (by omega)
    have beq : ∀ b : Bool, (b == b) = true := fun b => by cases b <;> rfl
    generalize hr : subS (fashS xs) (bestS t xs) = r at *
    simp only [SS, insA, wantedA, Opd.ev, putA, binA, eqbA, unA, fldA, partA, reduceIte, reduceCtorEq, Nat.reduceMod, Nat.reduceDiv, Nat.reduceBEq, resultA, resA, vI, Nat.reduceMul, Nat.reduceAdd, Nat.reduceSub, Nat.reduceEqDiff, Nat.reduceLT, Nat.reducePow, Nat.reduceLeDiff, st, Option.bind_eq_bind, Option.pure_def, List.length_nil, Int.cast_ofNat_Int, List.reverse_nil, Int.ofNat_zero] at c3 k25 k27 k38 l0 hq g13 g15 g16 g18 g21
    simp only [F14X, tailC, F14B, in14_0, keep14_0, ↓bit_hi, SS, insA, wantedA, Opd.ev, putA, binA, eqbA, unA, fldA, partA, reduceIte, reduceCtorEq, Nat.reduceMod, Nat.reduceDiv, Nat.reduceBEq, resultA, resA, vI, Nat.reduceMul, Nat.reduceAdd, Nat.reduceSub, Nat.reduceEqDiff, Nat.reduceLT, Nat.reducePow, Nat.reduceLeDiff, st, Option.bind_eq_bind, Option.pure_def, List.length_nil, Int.cast_ofNat_Int, List.reverse_nil, UU, idxP, cellsAt, storeA, fillA, zerosA, putAll, optNat, sliceA, row, Int.reduceLT, Int.reduceLE, Int.reduceGT, Int.reduceGE, Int.reduceEq, Int.reduceNe, Int.reduceToNat, Int.reduceBEq, Int.reduceBNe, Nat.reduceLeDiff, Nat.reduceLT, Nat.reduceBNe, Nat.reduceGT, List.drop_nil, List.take_nil, Option.isSome_none, Int.ofNat_one, Int.ofNat_zero, fget_fins, fget_fkeep, g0, g3, g10, g11, g13, g14, g15, g16, g18, g20, g21, g22, hw.snap, hx.snap, hy.snap, c3, k25, k27, k38, get_last, set_last, bne_self_eq_false, beq, hq, hcv.len, ha.len, l0]
    refine run14 (T := [⟨0, [vI m1, vI m2]⟩]) ?_ ?_ ?_ ?_ ?_ ?_ ?_ ?_ ?_ ?_ ht hs hv hl hx hy hok axy ha hlim
    all_goals first | rfl | (rw [hr]; rfl)
  · have e : shiftL t c b = ([], 2) := by unfold shiftL; rw [if_neg hc]
    rw [e] at g15
    simp only [SS, insA, wantedA, Opd.ev, putA, binA, eqbA, unA, fldA, partA, reduceIte, reduceCtorEq, Nat.reduceMod, Nat.reduceDiv, Nat.reduceBEq, resultA, resA, vI, Nat.reduceMul, Nat.reduceAdd, Nat.reduceSub, Nat.reduceEqDiff, Nat.reduceLT, Nat.reducePow, Nat.reduceLeDiff, st, Option.bind_eq_bind, Option.pure_def, List.length_nil, Int.cast_ofNat_Int, List.reverse_nil] at g15
    simp only [F14X, tailC, F14B, ↓bit_hi, SS, insA, wantedA, Opd.ev, putA, binA, eqbA, unA, fldA, partA, reduceIte, reduceCtorEq, Nat.reduceMod, Nat.reduceDiv, Nat.reduceBEq, resultA, resA, vI, Nat.reduceMul, Nat.reduceAdd, Nat.reduceSub, Nat.reduceEqDiff, Nat.reduceLT, Nat.reducePow, Nat.reduceLeDiff, st, Option.bind_eq_bind, Option.pure_def, List.length_nil, Int.cast_ofNat_Int, List.reverse_nil, UU, idxP, cellsAt, storeA, fillA, zerosA, putAll, optNat, sliceA, row, Int.reduceLT, Int.reduceLE, Int.reduceGT, Int.reduceGE, Int.reduceEq, Int.reduceNe, Int.reduceToNat, Int.reduceBEq, Int.reduceBNe, Nat.reduceLeDiff, Nat.reduceLT, Nat.reduceBNe, Nat.reduceGT, List.drop_nil, List.take_nil, Option.isSome_none, Int.ofNat_one, Int.ofNat_zero, fget_fins, fget_fkeep, g15]
    refine run14 (T := []) ?_ ?_ ?_ ?_ ?_ ?_ ?_ ?_ ?_ ?_ ht hs hv hl hx hy hok axy ha hlim
    all_goals simp only [fget_fins, fget_fkeep, g0, g3, g10, g11, g13, g14, g16, g18, g20, g21, Nat.reduceEqDiff, if_true, if_false, reduceIte]

theorem law14 {vt v xv yv : AV} {t : List (List Int)} {l xs ys : List Int} {c b dx dy : Int} (ht : IsTab vt t) (hc : 0 ≤ c ∧ c < 256) (hb : -128 ≤ b ∧ b < 128) (hv : IsRow v l) (hx : IsRow xv xs) (hy : IsRow yv ys) : freeX [] (callL E2 Y 14 [vt, .int .u8 c, .int .i8 b, v, .agg [xv, vI dx], .agg [yv, vI dy]] []) = some (.bool true, []) := by
  obtain ⟨o1, o2, o3⟩ := hx.one
  obtain ⟨p1, p2, p3⟩ := hy.one
  have f := fun H => few15 (Y := noRun) (H := H) ht (pts2 (s := true) (dx := dx) (dy := dy) hx hy) (by simp)
  have ha := fun H => freeX_up (Y := Y) E2_up (alive16 (Y := noRun) (H := H))
  have ecut : ∀ fr H, codeL E2 Y F14B fr H = thenX (codeL E2 Y F14H fr H) (codeL E2 Y F14X) := fun fr H => cut 9 F14B fr H
  have w1 : IntKind.wrap .i64 c = c := wrap_id (by omega) (by omega)
  have w2 : IntKind.wrap .i64 b = b := wrap_id (by omega) (by omega)
  rw [call14 rfl, ecut]
  by_cases hf : fewS t [(xs, dx), (ys, dy)]
  · have f1 := fun H => freeX_up (Y := Y) E2_up ((f H).1 hf)
    by_cases hl : (l.length : Int) > 20
    · simp only [SS, insA, wantedA, Opd.ev, putA, binA, eqbA, unA, fldA, partA, reduceIte, reduceCtorEq, Nat.reduceMod, Nat.reduceDiv, Nat.reduceBEq, resultA, resA, vI, Nat.reduceMul, Nat.reduceAdd, Nat.reduceSub, Nat.reduceEqDiff, Nat.reduceLT, Nat.reducePow, Nat.reduceLeDiff, st, Option.bind_eq_bind, Option.pure_def, List.length_nil, Int.cast_ofNat_Int, List.reverse_nil] at f1
      simp only [F14H, headC, F14B, ↓bit_hi, SS, insA, wantedA, Opd.ev, putA, binA, eqbA, unA, fldA, partA, reduceIte, reduceCtorEq, Nat.reduceMod, Nat.reduceDiv, Nat.reduceBEq, resultA, resA, vI, Nat.reduceMul, Nat.reduceAdd, Nat.reduceSub, Nat.reduceEqDiff, Nat.reduceLT, Nat.reducePow, Nat.reduceLeDiff, st, Option.bind_eq_bind, Option.pure_def, List.length_nil, Int.cast_ofNat_Int, List.reverse_nil, UU, idxP, cellsAt, storeA, fillA, zerosA, putAll, optNat, sliceA, row, Int.reduceLT, Int.reduceLE, Int.reduceGT, Int.reduceGE, Int.reduceEq, Int.reduceNe, Int.reduceToNat, Int.reduceBEq, Int.reduceBNe, Nat.reduceLeDiff, Nat.reduceLT, Nat.reduceBNe, Nat.reduceGT, List.drop_nil, List.take_nil, Option.isSome_none, Int.ofNat_one, Int.ofNat_zero, o1, o2, o3, p1, p2, p3, ht.snap, ht.len, hx.snap, hy.snap, hv.snap, hv.len, f1, hl, ha, decide_true, BEq.rfl]
    · have hxl : xs.length ≤ 20 := hf.2 (xs, dx) (by simp)
      have hyl : ys.length ≤ 20 := hf.2 (ys, dy) (by simp)
      have hs := hf.1
      have ht1000 : t.length < 1000 := by have := hs.1; omega
      have kt := fun H => callL_up (Y := Y) E2_up (table34 (Y := noRun) (H := H) ht hs)
      have kx := fun H => freeX_up (Y := Y) E2_up (mix22 (Y := noRun) (H := H) (n := t.length) (den := dx) hx hxl)
      have ky := fun H => freeX_up (Y := Y) E2_up (mix22 (Y := noRun) (H := H) (n := t.length) (den := dy) hy hyl)
      by_cases hok : okTab t
      · rw [decide_eq_true hok] at kt
        cases m1 : mixS t.length xs dx
        · rw [m1] at kx
          simp only [SS, insA, wantedA, Opd.ev, putA, binA, eqbA, unA, fldA, partA, reduceIte, reduceCtorEq, Nat.reduceMod, Nat.reduceDiv, Nat.reduceBEq, resultA, resA, vI, Nat.reduceMul, Nat.reduceAdd, Nat.reduceSub, Nat.reduceEqDiff, Nat.reduceLT, Nat.reducePow, Nat.reduceLeDiff, st, Option.bind_eq_bind, Option.pure_def, List.length_nil, Int.cast_ofNat_Int, List.reverse_nil] at f1 kt kx
          simp only [F14H, headC, F14B, ↓bit_hi, SS, insA, wantedA, Opd.ev, putA, binA, eqbA, unA, fldA, partA, reduceIte, reduceCtorEq, Nat.reduceMod, Nat.reduceDiv, Nat.reduceBEq, resultA, resA, vI, Nat.reduceMul, Nat.reduceAdd, Nat.reduceSub, Nat.reduceEqDiff, Nat.reduceLT, Nat.reducePow, Nat.reduceLeDiff, st, Option.bind_eq_bind, Option.pure_def, List.length_nil, Int.cast_ofNat_Int, List.reverse_nil, UU, idxP, cellsAt, storeA, fillA, zerosA, putAll, optNat, sliceA, row, Int.reduceLT, Int.reduceLE, Int.reduceGT, Int.reduceGE, Int.reduceEq, Int.reduceNe, Int.reduceToNat, Int.reduceBEq, Int.reduceBNe, Nat.reduceLeDiff, Nat.reduceLT, Nat.reduceBNe, Nat.reduceGT, List.drop_nil, List.take_nil, Option.isSome_none, Int.ofNat_one, Int.ofNat_zero, o1, o2, o3, p1, p2, p3, ht.snap, ht.len, hx.snap, hy.snap, hv.snap, hv.len, f1, hl, kt, kx, ha, decide_false, BEq.rfl]
        · rw [m1] at kx
          cases m2 : mixS t.length ys dy
          · rw [m2] at ky
            simp only [SS, insA, wantedA, Opd.ev, putA, binA, eqbA, unA, fldA, partA, reduceIte, reduceCtorEq, Nat.reduceMod, Nat.reduceDiv, Nat.reduceBEq, resultA, resA, vI, Nat.reduceMul, Nat.reduceAdd, Nat.reduceSub, Nat.reduceEqDiff, Nat.reduceLT, Nat.reducePow, Nat.reduceLeDiff, st, Option.bind_eq_bind, Option.pure_def, List.length_nil, Int.cast_ofNat_Int, List.reverse_nil] at f1 kt kx ky
            simp only [F14H, headC, F14B, ↓bit_hi, SS, insA, wantedA, Opd.ev, putA, binA, eqbA, unA, fldA, partA, reduceIte, reduceCtorEq, Nat.reduceMod, Nat.reduceDiv, Nat.reduceBEq, resultA, resA, vI, Nat.reduceMul, Nat.reduceAdd, Nat.reduceSub, Nat.reduceEqDiff, Nat.reduceLT, Nat.reducePow, Nat.reduceLeDiff, st, Option.bind_eq_bind, Option.pure_def, List.length_nil, Int.cast_ofNat_Int, List.reverse_nil, UU, idxP, cellsAt, storeA, fillA, zerosA, putAll, optNat, sliceA, row, Int.reduceLT, Int.reduceLE, Int.reduceGT, Int.reduceGE, Int.reduceEq, Int.reduceNe, Int.reduceToNat, Int.reduceBEq, Int.reduceBNe, Nat.reduceLeDiff, Nat.reduceLT, Nat.reduceBNe, Nat.reduceGT, List.drop_nil, List.take_nil, Option.isSome_none, Int.ofNat_one, Int.ofNat_zero, o1, o2, o3, p1, p2, p3, ht.snap, ht.len, hx.snap, hy.snap, hv.snap, hv.len, f1, hl, kt, kx, ky, ha, decide_false, BEq.rfl]
          · rw [m2] at ky
            have axy : askS t [(xs, dx), (ys, dy)] = true := by simp [askS, hok, m1, m2]
            have ax : askS t [(xs, dx)] = true := by simp [askS, hok, m1]
            have n1 := hok.1
            have n0 : ¬ ((t.length : Int) = 0) := by omega
            obtain ⟨av, k0, k1⟩ := lasting17 (Y := noRun) ht ht1000 hok
            have k1 := fun H => freeX_up (Y := Y) E2_up (k1 H)
            have k2 := fun H => limit38 (Y := Y) (H := H) (dx := dx) (dy := dy) ht hs hx hxl hy hyl
            have k3 := fun H => freeX_up (Y := Y) E2_up (rest25 (Y := noRun) (H := H) (dx := dx) ht ht1000 hx hxl)
            have k4 := fun H => freeX_up (Y := Y) E2_up (best27 (Y := noRun) (H := H) (dx := dx) ht ht1000 hx hxl)
            obtain ⟨q1, q2, q3, e⟩ := limR_form t (xs, dx) (ys, dy)
            obtain ⟨d, hd⟩ : ∃ d, d = c.tmod t.length := ⟨_, rfl⟩
            obtain ⟨w, hw, k5⟩ := shifted40 (Y := Y) (c := d) (b := b) ht hs
            simp only [e] at k2
            simp only [ax, Bool.true_and, err, if_true] at k3 k4
            have hd := hd.symm
            simp only [SS, insA, wantedA, Opd.ev, putA, binA, eqbA, unA, fldA, partA, reduceIte, reduceCtorEq, Nat.reduceMod, Nat.reduceDiv, Nat.reduceBEq, resultA, resA, vI, Nat.reduceMul, Nat.reduceAdd, Nat.reduceSub, Nat.reduceEqDiff, Nat.reduceLT, Nat.reducePow, Nat.reduceLeDiff, st, Option.bind_eq_bind, Option.pure_def, List.length_nil, Int.cast_ofNat_Int, List.reverse_nil] at f1 kt kx ky k1 k2 k3 k4 k5
            simp only [F14H, headC, F14B, ↓bit_hi, SS, insA, wantedA, Opd.ev, putA, binA, eqbA, unA, fldA, partA, reduceIte, reduceCtorEq, Nat.reduceMod, Nat.reduceDiv, Nat.reduceBEq, resultA, resA, vI, Nat.reduceMul, Nat.reduceAdd, Nat.reduceSub, Nat.reduceEqDiff, Nat.reduceLT, Nat.reducePow, Nat.reduceLeDiff, st, Option.bind_eq_bind, Option.pure_def, List.length_nil, Int.cast_ofNat_Int, List.reverse_nil, UU, idxP, cellsAt, storeA, fillA, zerosA, putAll, optNat, sliceA, row, Int.reduceLT, Int.reduceLE, Int.reduceGT, Int.reduceGE, Int.reduceEq, Int.reduceNe, Int.reduceToNat, Int.reduceBEq, Int.reduceBNe, Nat.reduceLeDiff, Nat.reduceLT, Nat.reduceBNe, Nat.reduceGT, List.drop_nil, List.take_nil, Option.isSome_none, Int.ofNat_one, Int.ofNat_zero, o1, o2, o3, p1, p2, p3, ht.snap, ht.len, hx.snap, hy.snap, hv.snap, hv.len, f1, hl, kt, kx, ky, k1, k2, k3, k4, k5, w1, w2, n0, hd, get_last, set_last, decide_false, BEq.rfl, bne_self_eq_false]
            exact mid14 (c := d) (b := b) rfl rfl rfl rfl rfl rfl rfl rfl rfl rfl rfl rfl ht hw hs hv (by omega) hx hy hok axy k0.pts e
      · rw [decide_eq_false hok] at kt
        simp only [SS, insA, wantedA, Opd.ev, putA, binA, eqbA, unA, fldA, partA, reduceIte, reduceCtorEq, Nat.reduceMod, Nat.reduceDiv, Nat.reduceBEq, resultA, resA, vI, Nat.reduceMul, Nat.reduceAdd, Nat.reduceSub, Nat.reduceEqDiff, Nat.reduceLT, Nat.reducePow, Nat.reduceLeDiff, st, Option.bind_eq_bind, Option.pure_def, List.length_nil, Int.cast_ofNat_Int, List.reverse_nil] at f1 kt
        simp only [F14H, headC, F14B, ↓bit_hi, SS, insA, wantedA, Opd.ev, putA, binA, eqbA, unA, fldA, partA, reduceIte, reduceCtorEq, Nat.reduceMod, Nat.reduceDiv, Nat.reduceBEq, resultA, resA, vI, Nat.reduceMul, Nat.reduceAdd, Nat.reduceSub, Nat.reduceEqDiff, Nat.reduceLT, Nat.reducePow, Nat.reduceLeDiff, st, Option.bind_eq_bind, Option.pure_def, List.length_nil, Int.cast_ofNat_Int, List.reverse_nil, UU, idxP, cellsAt, storeA, fillA, zerosA, putAll, optNat, sliceA, row, Int.reduceLT, Int.reduceLE, Int.reduceGT, Int.reduceGE, Int.reduceEq, Int.reduceNe, Int.reduceToNat, Int.reduceBEq, Int.reduceBNe, Nat.reduceLeDiff, Nat.reduceLT, Nat.reduceBNe, Nat.reduceGT, List.drop_nil, List.take_nil, Option.isSome_none, Int.ofNat_one, Int.ofNat_zero, o1, o2, o3, p1, p2, p3, ht.snap, ht.len, hx.snap, hy.snap, hv.snap, hv.len, f1, hl, kt, ha, decide_false, BEq.rfl]
  · have f2 := fun H => freeX_up (Y := Y) E2_up ((f H).2 hf)
    simp only [SS, insA, wantedA, Opd.ev, putA, binA, eqbA, unA, fldA, partA, reduceIte, reduceCtorEq, Nat.reduceMod, Nat.reduceDiv, Nat.reduceBEq, resultA, resA, vI, Nat.reduceMul, Nat.reduceAdd, Nat.reduceSub, Nat.reduceEqDiff, Nat.reduceLT, Nat.reducePow, Nat.reduceLeDiff, st, Option.bind_eq_bind, Option.pure_def, List.length_nil, Int.cast_ofNat_Int, List.reverse_nil] at f2
    simp only [F14H, headC, F14B, ↓bit_hi, SS, insA, wantedA, Opd.ev, putA, binA, eqbA, unA, fldA, partA, reduceIte, reduceCtorEq, Nat.reduceMod, Nat.reduceDiv, Nat.reduceBEq, resultA, resA, vI, Nat.reduceMul, Nat.reduceAdd, Nat.reduceSub, Nat.reduceEqDiff, Nat.reduceLT, Nat.reducePow, Nat.reduceLeDiff, st, Option.bind_eq_bind, Option.pure_def, List.length_nil, Int.cast_ofNat_Int, List.reverse_nil, UU, idxP, cellsAt, storeA, fillA, zerosA, putAll, optNat, sliceA, row, Int.reduceLT, Int.reduceLE, Int.reduceGT, Int.reduceGE, Int.reduceEq, Int.reduceNe, Int.reduceToNat, Int.reduceBEq, Int.reduceBNe, Nat.reduceLeDiff, Nat.reduceLT, Nat.reduceBNe, Nat.reduceGT, List.drop_nil, List.take_nil, Option.isSome_none, Int.ofNat_one, Int.ofNat_zero, o1, o2, o3, p1, p2, p3, ht.snap, ht.len, hx.snap, hy.snap, hv.snap, hv.len, f2, ha]
end
end Go.X
