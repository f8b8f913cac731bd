import Derived.Test.YtmedpfjiidlidaaZQ
/-! Rest: the law. -/
set_option linter.unusedSimpArgs false
set_option linter.unusedVariables false
set_option maxHeartbeats 4000000
set_option maxRecDepth 10000
namespace Go.X
open Go Go.RowKit
section
variable {Y : Run} {H : Heap}

/-! ### What lies at a heap's end -/
section
variable {R : Heap} {a b c d x : Ob}
theorem ap2_0 : (R ++ [a, b])[R.length]? = some a := by rw [List.getElem?_append_right (by omega)]; simp
theorem ap2_1 : (R ++ [a, b])[R.length + 1]? = some b := by rw [List.getElem?_append_right (by omega)]; simp
theorem ap3_0 : (R ++ [a, b, c])[R.length]? = some a := by rw [List.getElem?_append_right (by omega)]; simp
theorem ap3_1 : (R ++ [a, b, c])[R.length + 1]? = some b := by rw [List.getElem?_append_right (by omega)]; simp
theorem ap3_2 : (R ++ [a, b, c])[R.length + 1 + 1]? = some c := by
  rw [List.getElem?_append_right (by omega)]
  have : R.length + 1 + 1 - R.length = 2 := by omega
  rw [this]; rfl
theorem ap4_0 : (R ++ [a, b, c, d])[R.length]? = some a := by rw [List.getElem?_append_right (by omega)]; simp
theorem ap4_1 : (R ++ [a, b, c, d])[R.length + 1]? = some b := by rw [List.getElem?_append_right (by omega)]; simp
theorem ap4_2 : (R ++ [a, b, c, d])[R.length + 1 + 1]? = some c := by
  rw [List.getElem?_append_right (by omega)]
  have : R.length + 1 + 1 - R.length = 2 := by omega
  rw [this]; rfl
theorem ap4_3 : (R ++ [a, b, c, d])[R.length + 1 + 1 + 1]? = some d := by
  rw [List.getElem?_append_right (by omega)]
  have : R.length + 1 + 1 + 1 - R.length = 3 := by omega
  rw [this]; rfl
theorem as2_0 : (R ++ [a, b]).set R.length x = R ++ [x, b] := by rw [List.set_append_right _ _ (by omega)]; simp
theorem as2_1 : (R ++ [a, b]).set (R.length + 1) x = R ++ [a, x] := by rw [List.set_append_right _ _ (by omega)]; simp
theorem as3_2 : (R ++ [a, b, c]).set (R.length + 1 + 1) x = R ++ [a, b, x] := by
  rw [List.set_append_right _ _ (by omega)]
  have : R.length + 1 + 1 - R.length = 2 := by omega
  rw [this]; rfl
end

theorem ask_unit {t : List (List Int)} {xs : List Int} {dx : Int} {i : Nat} (h : askS t [(xs, dx)] = true) (hi : i < t.length) : askS t [(unit t.length i, 1), (xs, dx)] = true := by
  obtain ⟨hok, m1⟩ := ask1 h
  have hn := hok.2.1
  have m2 : mixS t.length (unit t.length i) 1 = true := by
    have : ∀ n : Nat, n < 4 → ∀ i : Nat, i < n → mixS (n : Int) (unit n i) 1 = true := by decide
    exact this t.length (by omega) i hi
  simp only at m1
  simp only [askS, hok, decide_true, List.all_cons, List.all_nil, m1, m2, Bool.and_self]

theorem gainM {t : List (List Int)} {x y : List Int × Int} (h : askS t [x, y] = true) : (gainS t x.1 y.1).natAbs ≤ 2000000000 ∧ x.2 * y.2 > 0 ∧ x.2 * y.2 ≤ 100000000 := by
  obtain ⟨hok, m1, m2⟩ := ask2 h
  obtain ⟨l1, d1, d2, f1, s1, _⟩ := mix_ok m1
  obtain ⟨l2, d3, d4, f2, s2, _⟩ := mix_ok m2
  have b := gainM_bound hok f1 f2 s1 s2 ⟨d1, d2⟩ ⟨d3, d4⟩
  have m := mulB (A := 10000) (B := 10000) (a := x.2) (b := y.2) (by omega) (by omega)
  have p := Int.mul_pos (show 0 < x.2 by omega) (show 0 < y.2 by omega)
  exact ⟨b, p, by omega⟩

theorem rat_sound {t : List (List Int)} {x y : List Int × Int} (h : askS t [x, y] = true) :
    (1 ≤ ratD (gainS t x.1 y.1) (x.2 * y.2) ∧ ratD (gainS t x.1 y.1) (x.2 * y.2) ≤ 100000000) ∧ (-2000000000 ≤ ratN (gainS t x.1 y.1) (x.2 * y.2) ∧ ratN (gainS t x.1 y.1) (x.2 * y.2) ≤ 2000000000) := by
  obtain ⟨h1, h2, h3⟩ := gainM h
  obtain ⟨h4, h5, h6⟩ := rat_bound (a := gainS t x.1 y.1) h2
  exact ⟨⟨h4, by omega⟩, by omega⟩

theorem L6 {vt xv : AV} {t : List (List Int)} {xs : List Int} {dx : Int} {o1 o2 : Ob} (ht : IsTab vt t) (hs : Small t) (hx : IsRow xv xs) (hxl : xs.length ≤ 20) (hb : askS t [(xs, dx)] = true) (hb2 : askS t [(xs, dx), (xs, dx)] = true) (hr : subS (fashS xs) (bestS t xs) = false) (d : Nat) : ∀ (i : Nat) (R : Heap), i + d = t.length →
    ∃ H', lp E2 Y F6L0 (sp 161 [(15, vI i), (11, .ptr 3 0 0), (9, vI (bestS t xs : Int)), (4, .ptr 0 0 0), (0, vt)]) (⟨0, [xv, vI dx]⟩ :: o1 :: o2 :: ⟨0, [vI (ratN (gainS t xs xs) (dx * dx)), vI (ratD (gainS t xs xs) (dx * dx))]⟩ :: R) = some (.x 0, sp 161 [], H') := by
  have hn := (ask1 hb).1.2.1
  have hb8 : bestS t xs < 8 := Nat.lt_of_lt_of_le bestS_lt (Nat.pow_le_pow_right (by decide) hn (n := 2))
  induction d with
  | zero =>
    intro i R hi
    have : ¬ ((i : Int) < (t.length : Int)) := by omega
    refine ⟨⟨0, [xv, vI dx]⟩ :: o1 :: o2 :: ⟨0, [vI (ratN (gainS t xs xs) (dx * dx)), vI (ratD (gainS t xs xs) (dx * dx))]⟩ :: R, ?_⟩
    rw [un6_0]
    simp only [F6L0b, SS, insA, wantedA, Opd.ev, putA, binA, eqbA, unA, fldA, partA, reduceIte, reduceCtorEq, Nat.reduceMod, Nat.reduceDiv, Nat.reduceBEq, resultA, resA, vI, Nat.reduceMul, Nat.reduceAdd, Nat.reduceSub, Nat.reduceEqDiff, Nat.reduceLT, Nat.reducePow, Nat.reduceLeDiff, st, Option.bind_eq_bind, Option.pure_def, List.length_nil, Int.cast_ofNat_Int, List.reverse_nil, UU, idxP, cellsAt, storeA, fillA, zerosA, putAll, optNat, sliceA, row, Int.reduceLT, Int.reduceLE, Int.reduceGT, Int.reduceGE, Int.reduceEq, Int.reduceNe, Int.reduceToNat, Int.reduceBEq, Int.reduceBNe, Nat.reduceLeDiff, Nat.reduceLT, Nat.reduceBNe, Nat.reduceGT, List.drop_nil, List.take_nil, Option.isSome_none, Int.ofNat_one, Int.ofNat_zero, ht.len, this]
  | succ d ih =>
    intro i R hi
    have hlt : i < t.length := by omega
    have hc : (i : Int) < (t.length : Int) := by omega
    have hw := wrap_succ (n := i) (by omega)
    have s1 := shrW (s := bestS t xs) (i := i) (by omega)
    have a1 : Int.tmod ((bestS t xs / 2 ^ i : Nat) : Int) 2 = ((bestS t xs / 2 ^ i % 2 : Nat) : Int) := rfl
    have n20 : ¬ ((2 : Int) = 0) := by decide
    simp only [binA] at s1
    cases hbit : bit (bestS t xs) i
    · obtain ⟨H', q⟩ := ih (i + 1) R (by omega)
      refine ⟨H', ?_⟩
      rw [un6_0]
      simp only [SS, insA, wantedA, Opd.ev, putA, binA, eqbA, unA, fldA, partA, reduceIte, reduceCtorEq, Nat.reduceMod, Nat.reduceDiv, Nat.reduceBEq, resultA, resA, vI, Nat.reduceMul, Nat.reduceAdd, Nat.reduceSub, Nat.reduceEqDiff, Nat.reduceLT, Nat.reducePow, Nat.reduceLeDiff, st, Option.bind_eq_bind, Option.pure_def, List.length_nil, Int.cast_ofNat_Int, List.reverse_nil] at q
      simp only [F6L0b, SS, insA, wantedA, Opd.ev, putA, binA, eqbA, unA, fldA, partA, reduceIte, reduceCtorEq, Nat.reduceMod, Nat.reduceDiv, Nat.reduceBEq, resultA, resA, vI, Nat.reduceMul, Nat.reduceAdd, Nat.reduceSub, Nat.reduceEqDiff, Nat.reduceLT, Nat.reducePow, Nat.reduceLeDiff, st, Option.bind_eq_bind, Option.pure_def, List.length_nil, Int.cast_ofNat_Int, List.reverse_nil, UU, idxP, cellsAt, storeA, fillA, zerosA, putAll, optNat, sliceA, row, Int.reduceLT, Int.reduceLE, Int.reduceGT, Int.reduceGE, Int.reduceEq, Int.reduceNe, Int.reduceToNat, Int.reduceBEq, Int.reduceBNe, Nat.reduceLeDiff, Nat.reduceLT, Nat.reduceBNe, Nat.reduceGT, List.drop_nil, List.take_nil, Option.isSome_none, Int.ofNat_one, Int.ofNat_zero, ht.len, hc, hw, s1, a1, n20, bit_eq, hbit, q]
    · have hau := ask_unit hb hlt
      have hu : (unit t.length i).length = t.length := by simp [unit]
      have hlaw := unrest_law hb hr hlt hbit
      have hg := fun H => freeX_up (Y := Y) E2_up (gain23 (Y := noRun) (H := H) (dx := 1) (dy := dx) ht (by have := hs.1; omega) (.imm true (unit t.length i)) (by rw [hu]; omega) hx hxl)
      obtain ⟨⟨r1, r2⟩, r3⟩ := rat_sound hau
      obtain ⟨⟨p1, p2⟩, p3⟩ := rat_sound hb2
      obtain ⟨_, hm1, _⟩ := gainM hau
      obtain ⟨_, hm2, _⟩ := gainM hb2
      simp only at r1 r2 r3 p1 p2 p3 hm1 hm2
      have hab := fun H => above37 (Y := Y) (H := H) ⟨r1, r2⟩ r3 ⟨p1, p2⟩ p3
      have hdec : decide (ratN (gainS t (unit t.length i) xs) (1 * dx) * ratD (gainS t xs xs) (dx * dx) > ratN (gainS t xs xs) (dx * dx) * ratD (gainS t (unit t.length i) xs) (1 * dx)) = true := by
        rw [decide_eq_true_eq, above_iff hm1 hm2]
        exact hlaw
      simp only [hdec] at hab
      have hso := fun H => sound35 (Y := Y) (H := H) (s := true) (l := [(ratN (gainS t (unit t.length i) xs) (1 * dx), ratD (gainS t (unit t.length i) xs) (1 * dx))]) (by simp) (by
        intro z hz
        simp only [List.mem_cons, List.not_mem_nil, or_false] at hz
        subst hz
        exact ⟨r1, r2, r3.1, r3.2⟩)
      simp only [gainR, hau, if_true, ratA_eq, hu] at hg
      generalize ratN (gainS t (unit t.length i) xs) (1 * dx) = N at *
      generalize ratD (gainS t (unit t.length i) xs) (1 * dx) = D at *
      obtain ⟨H', q⟩ := ih (i + 1) (R ++ [⟨0, (unit t.length i).map vI⟩, ⟨0, [.sl (R.length + 1 + 1 + 1 + 1) 0 1 0 t.length none, vI 1]⟩, ⟨0, [vI N, vI D]⟩, ⟨0, [vI N, vI D]⟩]) (by omega)
      refine ⟨H', ?_⟩
      have hk : 0 ≤ (t.length : Int) ∧ (t.length : Int) * 8 ≤ 140737488355328 ∧ (t.length : Int) ≤ 9223372036854775807 := by omega
      have hz := zeros_int (n := t.length)
      simp only [SS, insA, wantedA, Opd.ev, putA, binA, eqbA, unA, fldA, partA, reduceIte, reduceCtorEq, Nat.reduceMod, Nat.reduceDiv, Nat.reduceBEq, resultA, resA, vI, Nat.reduceMul, Nat.reduceAdd, Nat.reduceSub, Nat.reduceEqDiff, Nat.reduceLT, Nat.reducePow, Nat.reduceLeDiff, st, Option.bind_eq_bind, Option.pure_def, List.length_nil, Int.cast_ofNat_Int, List.reverse_nil, UU, idxP, cellsAt, storeA, fillA, zerosA, putAll, optNat, sliceA, row, Int.reduceLT, Int.reduceLE, Int.reduceGT, Int.reduceGE, Int.reduceEq, Int.reduceNe, Int.reduceToNat, Int.reduceBEq, Int.reduceBNe, Nat.reduceLeDiff, Nat.reduceLT, Nat.reduceBNe, Nat.reduceGT, List.drop_nil, List.take_nil, Option.isSome_none, Int.ofNat_one, Int.ofNat_zero] at hz
      simp only [Int.natCast_nonneg, Int.toNat_natCast, if_true] at s1
      have hset : ((List.replicate t.length (0 : Int)).map vI).set i (.int .i64 1) = (unit t.length i).map vI := by simp [unit, List.map_set]
      have hil : i + 1 ≤ t.length := hlt
      have htk : List.take t.length ((unit t.length i).map vI) = (unit t.length i).map vI := List.take_of_length_le (by simp [hu])
      have hrc : ratC [(N, D)] = [vI N, vI D] := rfl
      rw [hrc] at hso
      generalize ratN (gainS t xs xs) (dx * dx) = GN at *
      generalize ratD (gainS t xs xs) (dx * dx) = GD at *
      rw [un6_0]
      simp only [SS, insA, wantedA, Opd.ev, putA, binA, eqbA, unA, fldA, partA, reduceIte, reduceCtorEq, Nat.reduceMod, Nat.reduceDiv, Nat.reduceBEq, resultA, resA, vI, Nat.reduceMul, Nat.reduceAdd, Nat.reduceSub, Nat.reduceEqDiff, Nat.reduceLT, Nat.reducePow, Nat.reduceLeDiff, st, Option.bind_eq_bind, Option.pure_def, List.length_nil, Int.cast_ofNat_Int, List.reverse_nil] at q hg hab hso
      simp only [F6L0b, SS, insA, wantedA, Opd.ev, putA, binA, eqbA, unA, fldA, partA, reduceIte, reduceCtorEq, Nat.reduceMod, Nat.reduceDiv, Nat.reduceBEq, resultA, resA, vI, Nat.reduceMul, Nat.reduceAdd, Nat.reduceSub, Nat.reduceEqDiff, Nat.reduceLT, Nat.reducePow, Nat.reduceLeDiff, st, Option.bind_eq_bind, Option.pure_def, List.length_nil, Int.cast_ofNat_Int, List.reverse_nil, UU, idxP, cellsAt, storeA, fillA, zerosA, putAll, optNat, sliceA, row, Int.reduceLT, Int.reduceLE, Int.reduceGT, Int.reduceGE, Int.reduceEq, Int.reduceNe, Int.reduceToNat, Int.reduceBEq, Int.reduceBNe, Nat.reduceLeDiff, Nat.reduceLT, Nat.reduceBNe, Nat.reduceGT, List.drop_nil, List.take_nil, Option.isSome_none, Int.ofNat_one, Int.ofNat_zero, ht.len, hc, hw, s1, a1, n20, bit_eq, hbit, hz, Int.toNat_natCast, Int.natCast_nonneg, hk, hset, hil, hlt, htk, hu, List.length_map, List.length_replicate, Nat.mul_one, mapM_snap, ht.snap, hx.snap,
        get_last, set_last, ap2_0, ap2_1, ap3_0, ap3_1, ap3_2, ap4_0, ap4_1, ap4_2, ap4_3, as2_0, as2_1, as3_2, hg, hab, hso, bne_self_eq_false, q]

theorem law6 {vt xv yv : AV} {t : List (List Int)} {xs ys : List Int} {dx dy : Int} (ht : IsTab vt t) (hx : IsRow xv xs) (hy : IsRow yv ys) : freeX [] (callL E2 Y 6 [vt, .agg [xv, vI dx], .agg [yv, vI dy]] []) = some (.bool true, []) := by
  obtain ⟨o1, o2, o3⟩ := hx.one
  obtain ⟨p1, p2, p3⟩ := hy.one
  have f := fun H => few15 (Y := noRun) (H := H) ht (pts2 (s := true) (dx := dx) (dy := dy) hx hy) (by simp)
  have ha := fun H => freeX_up (Y := Y) E2_up (alive16 (Y := noRun) (H := H))
  rw [call6 rfl]
  by_cases hf : fewS t [(xs, dx), (ys, dy)]
  · have f1 := fun H => freeX_up (Y := Y) E2_up ((f H).1 hf)
    have hxl : xs.length ≤ 20 := hf.2 (xs, dx) (by simp)
    have hyl : ys.length ≤ 20 := hf.2 (ys, dy) (by simp)
    have hs := hf.1
    have ht1000 : t.length < 1000 := by have := hs.1; omega
    have r := callL_up (Y := Y) E2_up (table34 (Y := noRun) (H := []) ht hs)
    have k1 := fun H => freeX_up (Y := Y) E2_up (mix22 (Y := noRun) (H := H) (n := (t.length : Int)) (den := dx) hx hxl)
    have k2 := fun H => freeX_up (Y := Y) E2_up (mix22 (Y := noRun) (H := H) (n := (t.length : Int)) (den := dy) hy hyl)
    by_cases hok : okTab t
    · simp only [hok, decide_true] at r
      cases hm1 : mixS t.length xs dx
      · simp only [hm1] at k1
        simp only [SS, insA, wantedA, Opd.ev, putA, binA, eqbA, unA, fldA, partA, reduceIte, reduceCtorEq, Nat.reduceMod, Nat.reduceDiv, Nat.reduceBEq, resultA, resA, vI, Nat.reduceMul, Nat.reduceAdd, Nat.reduceSub, Nat.reduceEqDiff, Nat.reduceLT, Nat.reducePow, Nat.reduceLeDiff, st, Option.bind_eq_bind, Option.pure_def, List.length_nil, Int.cast_ofNat_Int, List.reverse_nil] at f1 k1
        simp only [F6B, SS, insA, wantedA, Opd.ev, putA, binA, eqbA, unA, fldA, partA, reduceIte, reduceCtorEq, Nat.reduceMod, Nat.reduceDiv, Nat.reduceBEq, resultA, resA, vI, Nat.reduceMul, Nat.reduceAdd, Nat.reduceSub, Nat.reduceEqDiff, Nat.reduceLT, Nat.reducePow, Nat.reduceLeDiff, st, Option.bind_eq_bind, Option.pure_def, List.length_nil, Int.cast_ofNat_Int, List.reverse_nil, UU, idxP, cellsAt, storeA, fillA, zerosA, putAll, optNat, sliceA, row, Int.reduceLT, Int.reduceLE, Int.reduceGT, Int.reduceGE, Int.reduceEq, Int.reduceNe, Int.reduceToNat, Int.reduceBEq, Int.reduceBNe, Nat.reduceLeDiff, Nat.reduceLT, Nat.reduceBNe, Nat.reduceGT, List.drop_nil, List.take_nil, Option.isSome_none, Int.ofNat_one, Int.ofNat_zero, o1, o2, o3, p1, p2, p3, ht.snap, hx.snap, hy.snap, ht.len, f1, r, k1, ha]
      · simp only [hm1] at k1
        cases hm2 : mixS t.length ys dy
        · simp only [hm2] at k2
          simp only [SS, insA, wantedA, Opd.ev, putA, binA, eqbA, unA, fldA, partA, reduceIte, reduceCtorEq, Nat.reduceMod, Nat.reduceDiv, Nat.reduceBEq, resultA, resA, vI, Nat.reduceMul, Nat.reduceAdd, Nat.reduceSub, Nat.reduceEqDiff, Nat.reduceLT, Nat.reducePow, Nat.reduceLeDiff, st, Option.bind_eq_bind, Option.pure_def, List.length_nil, Int.cast_ofNat_Int, List.reverse_nil] at f1 k1 k2
          simp only [F6B, SS, insA, wantedA, Opd.ev, putA, binA, eqbA, unA, fldA, partA, reduceIte, reduceCtorEq, Nat.reduceMod, Nat.reduceDiv, Nat.reduceBEq, resultA, resA, vI, Nat.reduceMul, Nat.reduceAdd, Nat.reduceSub, Nat.reduceEqDiff, Nat.reduceLT, Nat.reducePow, Nat.reduceLeDiff, st, Option.bind_eq_bind, Option.pure_def, List.length_nil, Int.cast_ofNat_Int, List.reverse_nil, UU, idxP, cellsAt, storeA, fillA, zerosA, putAll, optNat, sliceA, row, Int.reduceLT, Int.reduceLE, Int.reduceGT, Int.reduceGE, Int.reduceEq, Int.reduceNe, Int.reduceToNat, Int.reduceBEq, Int.reduceBNe, Nat.reduceLeDiff, Nat.reduceLT, Nat.reduceBNe, Nat.reduceGT, List.drop_nil, List.take_nil, Option.isSome_none, Int.ofNat_one, Int.ofNat_zero, o1, o2, o3, p1, p2, p3, ht.snap, hx.snap, hy.snap, ht.len, f1, r, k1, k2, ha]
        · simp only [hm2] at k2
          have ax : askS t [(xs, dx)] = true := by simp [askS, hok, hm1]
          have axx : askS t [(xs, dx), (xs, dx)] = true := by simp [askS, hok, hm1]
          have ayx : askS t [(ys, dy), (xs, dx)] = true := by simp [askS, hok, hm1, hm2]
          have axy : askS t [(xs, dx), (ys, dy)] = true := by simp [askS, hok, hm1, hm2]
          have k3 := fun H => freeX_up (Y := Y) E2_up (rest25 (Y := noRun) (H := H) (dx := dx) ht ht1000 hx hxl)
          have k4 := fun H => freeX_up (Y := Y) E2_up (best27 (Y := noRun) (H := H) (dx := dx) ht ht1000 hx hxl)
          have k5 := fun H => freeX_up (Y := Y) E2_up (gain23 (Y := noRun) (H := H) (dx := dx) (dy := dx) ht ht1000 hx hxl hx hxl)
          have k6 := fun H => freeX_up (Y := Y) E2_up (gain23 (Y := noRun) (H := H) (dx := dy) (dy := dx) ht ht1000 hy hyl hx hxl)
          have k7 := fun H => freeX_up (Y := Y) E2_up (fash36 (Y := noRun) (H := H) (dv := vI dx) hx hxl)
          have e36 : setS (fun x => decide (x > 0)) xs 0 = fashS xs := rfl
          rw [e36] at k7
          obtain ⟨⟨r1, r2⟩, r3⟩ := rat_sound axx
          obtain ⟨⟨q1, q2⟩, q3⟩ := rat_sound ayx
          obtain ⟨_, g1, _⟩ := gainM axx
          obtain ⟨_, g2, _⟩ := gainM ayx
          simp only at r1 r2 r3 q1 q2 q3 g1 g2
          have hab := fun H => above37 (Y := Y) (H := H) ⟨q1, q2⟩ q3 ⟨r1, r2⟩ r3
          have hso := fun H => sound35 (Y := Y) (H := H) (s := true) (l := [(ratN (gainS t xs xs) (dx * dx), ratD (gainS t xs xs) (dx * dx)), (ratN (gainS t ys xs) (dy * dx), ratD (gainS t ys xs) (dy * dx))]) (by simp) (by
            intro z hz
            simp only [List.mem_cons, List.not_mem_nil, or_false] at hz
            rcases hz with rfl | rfl
            · exact ⟨r1, r2, r3.1, r3.2⟩
            · exact ⟨q1, q2, q3.1, q3.2⟩)
          have hrc : ∀ a b c d : Int, ratC [(a, b), (c, d)] = [vI a, vI b, vI c, vI d] := fun _ _ _ _ => rfl
          have s1 := shlW (i := t.length) (by have := hs.1; omega)
          simp only [binA] at s1
          have hbp := best_pos (xs := xs) hok
          have hbl : bestS t xs < 2 ^ t.length := bestS_lt
          have c1 : ¬ (bestS t xs : Int) < 1 := by omega
          have c2 : ¬ (bestS t xs : Int) ≥ ((2 ^ t.length : Nat) : Int) := by omega
          obtain ⟨w, hw1, hw2⟩ : ∃ w, bitsA .andNot .i64 (fashS xs : Int) (bestS t xs : Int) = some (.int .i64 w) ∧ (w == 0) = subS (fashS xs) (bestS t xs) := ⟨_, rfl, rfl⟩
          unfold err at k3 k4
          simp only [ax, if_true, Bool.true_and] at k3 k4
          simp only [gainR, axx, ayx, if_true, ratA_eq] at k5 k6
          rw [hrc] at hso
          cases hsub : subS (fashS xs) (bestS t xs)
          · obtain ⟨H', hL⟩ := L6 (Y := Y) (o1 := ⟨0, [yv, vI dy]⟩) (o2 := ⟨0, [xv, vI dx, yv, vI dy]⟩) ht hs hx hxl ax axx hsub t.length 0 [⟨0, [vI (ratN (gainS t ys xs) (dy * dx)), vI (ratD (gainS t ys xs) (dy * dx))]⟩, ⟨0, [vI (ratN (gainS t xs xs) (dx * dx)), vI (ratD (gainS t xs xs) (dx * dx)), vI (ratN (gainS t ys xs) (dy * dx)), vI (ratD (gainS t ys xs) (dy * dx))]⟩] (by omega)
            rw [hsub] at hw2
            simp only [hsub] at k3
            simp only [SS, insA, wantedA, Opd.ev, putA, binA, eqbA, unA, fldA, partA, reduceIte, reduceCtorEq, Nat.reduceMod, Nat.reduceDiv, Nat.reduceBEq, resultA, resA, vI, Nat.reduceMul, Nat.reduceAdd, Nat.reduceSub, Nat.reduceEqDiff, Nat.reduceLT, Nat.reducePow, Nat.reduceLeDiff, st, Option.bind_eq_bind, Option.pure_def, List.length_nil, Int.cast_ofNat_Int, List.reverse_nil, Int.ofNat_zero] at f1 k1 k2 k3 k4 k5 k6 k7 hso hL
            simp only [F6B, F6T0, in6_0, SS, insA, wantedA, Opd.ev, putA, binA, eqbA, unA, fldA, partA, reduceIte, reduceCtorEq, Nat.reduceMod, Nat.reduceDiv, Nat.reduceBEq, resultA, resA, vI, Nat.reduceMul, Nat.reduceAdd, Nat.reduceSub, Nat.reduceEqDiff, Nat.reduceLT, Nat.reducePow, Nat.reduceLeDiff, st, Option.bind_eq_bind, Option.pure_def, List.length_nil, Int.cast_ofNat_Int, List.reverse_nil, UU, idxP, cellsAt, storeA, fillA, zerosA, putAll, optNat, sliceA, row, Int.reduceLT, Int.reduceLE, Int.reduceGT, Int.reduceGE, Int.reduceEq, Int.reduceNe, Int.reduceToNat, Int.reduceBEq, Int.reduceBNe, Nat.reduceLeDiff, Nat.reduceLT, Nat.reduceBNe, Nat.reduceGT, List.drop_nil, List.take_nil, Option.isSome_none, Int.ofNat_one, Int.ofNat_zero, o1, o2, o3, p1, p2, p3, ht.snap, hx.snap, hy.snap, ht.len, f1, r, k1, k2, k3, k4, k5, k6, k7, hso, s1, c1, c2, hw1, hw2, hL, ha, get_last, set_last, decide_false, bne_self_eq_false]
          · have hlaw := rest_law axy hsub
            have hdec : decide (ratN (gainS t ys xs) (dy * dx) * ratD (gainS t xs xs) (dx * dx) > ratN (gainS t xs xs) (dx * dx) * ratD (gainS t ys xs) (dy * dx)) = false := by
              rw [decide_eq_false_iff_not, above_iff g2 g1]
              omega
            simp only [hdec] at hab
            rw [hsub] at hw2
            simp only [hsub] at k3
            simp only [SS, insA, wantedA, Opd.ev, putA, binA, eqbA, unA, fldA, partA, reduceIte, reduceCtorEq, Nat.reduceMod, Nat.reduceDiv, Nat.reduceBEq, resultA, resA, vI, Nat.reduceMul, Nat.reduceAdd, Nat.reduceSub, Nat.reduceEqDiff, Nat.reduceLT, Nat.reducePow, Nat.reduceLeDiff, st, Option.bind_eq_bind, Option.pure_def, List.length_nil, Int.cast_ofNat_Int, List.reverse_nil] at f1 k1 k2 k3 k4 k5 k6 k7 hab hso
            simp only [F6B, SS, insA, wantedA, Opd.ev, putA, binA, eqbA, unA, fldA, partA, reduceIte, reduceCtorEq, Nat.reduceMod, Nat.reduceDiv, Nat.reduceBEq, resultA, resA, vI, Nat.reduceMul, Nat.reduceAdd, Nat.reduceSub, Nat.reduceEqDiff, Nat.reduceLT, Nat.reducePow, Nat.reduceLeDiff, st, Option.bind_eq_bind, Option.pure_def, List.length_nil, Int.cast_ofNat_Int, List.reverse_nil, UU, idxP, cellsAt, storeA, fillA, zerosA, putAll, optNat, sliceA, row, Int.reduceLT, Int.reduceLE, Int.reduceGT, Int.reduceGE, Int.reduceEq, Int.reduceNe, Int.reduceToNat, Int.reduceBEq, Int.reduceBNe, Nat.reduceLeDiff, Nat.reduceLT, Nat.reduceBNe, Nat.reduceGT, List.drop_nil, List.take_nil, Option.isSome_none, Int.ofNat_one, Int.ofNat_zero, o1, o2, o3, p1, p2, p3, ht.snap, hx.snap, hy.snap, ht.len, f1, r, k1, k2, k3, k4, k5, k6, k7, hab, hso, s1, c1, c2, hw1, hw2, ha, get_last, set_last, decide_false, bne_self_eq_false]
    · simp only [hok, decide_false] at r
      simp only [SS, insA, wantedA, Opd.ev, putA, binA, eqbA, unA, fldA, partA, reduceIte, reduceCtorEq, Nat.reduceMod, Nat.reduceDiv, Nat.reduceBEq, resultA, resA, vI, Nat.reduceMul, Nat.reduceAdd, Nat.reduceSub, Nat.reduceEqDiff, Nat.reduceLT, Nat.reducePow, Nat.reduceLeDiff, st, Option.bind_eq_bind, Option.pure_def, List.length_nil, Int.cast_ofNat_Int, List.reverse_nil] at f1
      simp only [F6B, SS, insA, wantedA, Opd.ev, putA, binA, eqbA, unA, fldA, partA, reduceIte, reduceCtorEq, Nat.reduceMod, Nat.reduceDiv, Nat.reduceBEq, resultA, resA, vI, Nat.reduceMul, Nat.reduceAdd, Nat.reduceSub, Nat.reduceEqDiff, Nat.reduceLT, Nat.reducePow, Nat.reduceLeDiff, st, Option.bind_eq_bind, Option.pure_def, List.length_nil, Int.cast_ofNat_Int, List.reverse_nil, UU, idxP, cellsAt, storeA, fillA, zerosA, putAll, optNat, sliceA, row, Int.reduceLT, Int.reduceLE, Int.reduceGT, Int.reduceGE, Int.reduceEq, Int.reduceNe, Int.reduceToNat, Int.reduceBEq, Int.reduceBNe, Nat.reduceLeDiff, Nat.reduceLT, Nat.reduceBNe, Nat.reduceGT, List.drop_nil, List.take_nil, Option.isSome_none, Int.ofNat_one, Int.ofNat_zero, o1, o2, o3, p1, p2, p3, ht.snap, hx.snap, hy.snap, f1, r, ha]
  · have f2 := fun H => freeX_up (Y := Y) E2_up ((f H).2 hf)
    simp only [SS, insA, wantedA, Opd.ev, putA, binA, eqbA, unA, fldA, partA, reduceIte, reduceCtorEq, Nat.reduceMod, Nat.reduceDiv, Nat.reduceBEq, resultA, resA, vI, Nat.reduceMul, Nat.reduceAdd, Nat.reduceSub, Nat.reduceEqDiff, Nat.reduceLT, Nat.reducePow, Nat.reduceLeDiff, st, Option.bind_eq_bind, Option.pure_def, List.length_nil, Int.cast_ofNat_Int, List.reverse_nil] at f2
    simp only [F6B, SS, insA, wantedA, Opd.ev, putA, binA, eqbA, unA, fldA, partA, reduceIte, reduceCtorEq, Nat.reduceMod, Nat.reduceDiv, Nat.reduceBEq, resultA, resA, vI, Nat.reduceMul, Nat.reduceAdd, Nat.reduceSub, Nat.reduceEqDiff, Nat.reduceLT, Nat.reducePow, Nat.reduceLeDiff, st, Option.bind_eq_bind, Option.pure_def, List.length_nil, Int.cast_ofNat_Int, List.reverse_nil, UU, idxP, cellsAt, storeA, fillA, zerosA, putAll, optNat, sliceA, row, Int.reduceLT, Int.reduceLE, Int.reduceGT, Int.reduceGE, Int.reduceEq, Int.reduceNe, Int.reduceToNat, Int.reduceBEq, Int.reduceBNe, Nat.reduceLeDiff, Nat.reduceLT, Nat.reduceBNe, Nat.reduceGT, List.drop_nil, List.take_nil, Option.isSome_none, Int.ofNat_one, Int.ofNat_zero, o1, o2, o3, p1, p2, p3, ht.snap, hx.snap, hy.snap, f2, ha]
end
end Go.X
