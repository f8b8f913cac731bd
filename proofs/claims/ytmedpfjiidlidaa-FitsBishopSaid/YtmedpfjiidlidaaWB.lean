import Derived.Test.YtmedpfjiidlidaaWA
import Derived.Test.YtmedpfjiidlidaaZR
import Derived.Test.YtmedpfjiidlidaaZH
/-! Limits of what lasts (plain laws); who is refused. -/
set_option linter.unusedSimpArgs false
set_option linter.unusedVariables false
set_option maxHeartbeats 4000000
set_option maxRecDepth 10000
namespace Go.X
open Go Go.RowKit
section
variable {Y : Run} {H : Heap}

theorem pq_form {t : List (List Int)} {xs ys : List Int} {dx dy : Int} (hok : okTab t) (lx : xs.length = t.length) (ly : ys.length = t.length) :
    gainS t (diffL xs ys dx dy) (diffL xs ys dx dy) = pS t (xs, dx) (ys, dy) - qS t (xs, dx) (ys, dy) := by
  rcases shapes hok with ⟨a, rfl⟩ | ⟨a, b', c, d, rfl⟩ | ⟨a, b', c, d, e, f, g, h, i, rfl⟩
  · match xs, lx, ys, ly with
    | [x], _, [y], _ =>
      simp only [diffL, List.zipWith_cons_cons, List.zipWith_nil_left, pS, qS, gainS, dotX]; grind
  · match xs, lx, ys, ly with
    | [x0, x1], _, [y0, y1], _ =>
      simp only [diffL, List.zipWith_cons_cons, List.zipWith_nil_left, pS, qS, gainS, dotX]; grind
  · match xs, lx, ys, ly with
    | [x0, x1, x2], _, [y0, y1, y2], _ =>
      simp only [diffL, List.zipWith_cons_cons, List.zipWith_nil_left, pS, qS, gainS, dotX]; grind

theorem lasts_rest {t : List (List Int)} {xs : List Int} (h : lastsP t xs = true) : subS (fashS xs) (bestS t xs) = true := by
  unfold lastsP at h
  cases h2 : subS (fashS xs) (bestS t xs)
  · rw [h2] at h; simp at h
  · rfl

theorem mul_cancel {a b c : Int} (hc : 0 < c) : a * c ≤ b * c ↔ a ≤ b := ⟨fun h => Int.le_of_mul_le_mul_right h hc, fun h => Int.mul_le_mul_of_nonneg_right h (by omega)⟩

/-- A mixture at rest gains not less against itself than any other one. -/
theorem rest_p {t : List (List Int)} {xs ys : List Int} {dx dy : Int} (axy : askS t [(xs, dx), (ys, dy)] = true) (h : subS (fashS xs) (bestS t xs) = true) : 0 ≤ pS t (xs, dx) (ys, dy) := by
  have hl := rest_law axy h
  obtain ⟨hok, m1, m2⟩ := ask2 axy
  obtain ⟨l1, d1, d2, _⟩ := mix_ok m1
  obtain ⟨l2, d3, d4, _⟩ := mix_ok m2
  simp only at d1 d3
  have e1 : gainS t ys xs * (dx * dx) = (gainS t ys xs * dx) * dx := by rw [Int.mul_assoc]
  have e2 : gainS t xs xs * (dy * dx) = (gainS t xs xs * dy) * dx := by rw [Int.mul_assoc]
  rw [e1, e2, mul_cancel (by omega)] at hl
  unfold pS
  exact Int.mul_nonneg (by simp only; omega) (by simp only; omega)

/-- One that lasts has a limit with every other one. -/
theorem limit_ok {t : List (List Int)} {xs ys : List Int} {dx dy : Int} (axy : askS t [(xs, dx), (ys, dy)] = true) (hL : lastsP t xs = true) (hne : ¬ (dx = dy ∧ xs = ys)) :
    ¬ (pS t (xs, dx) (ys, dy) < 0 ∨ pS t (xs, dx) (ys, dy) = 0 ∧ qS t (xs, dx) (ys, dy) ≤ 0) := by
  have hr := lasts_rest hL
  have hp := rest_p axy hr
  obtain ⟨hok, m1, m2⟩ := ask2 axy
  have ax : askS t [(xs, dx)] = true := by simp only at m1; simp [askS, hok, m1]
  have ay : askS t [(ys, dy)] = true := by simp only at m2; simp [askS, hok, m2]
  obtain ⟨_, lx, dx1, dx2, nx, sx, gx⟩ := mix_facts ax
  obtain ⟨_, ly, dy1, dy2, ny, sy, gy⟩ := mix_facts ay
  have hgl : (gains t xs).length = t.length := by simp [gains]
  rintro (h | ⟨h0, hq⟩)
  · omega
  · have hs : subS (fashS ys) (bestS t xs) = true := by
      refine Classical.byContradiction fun hn => ?_
      have hn2 : ¬ ∀ i (h1 : i < ys.length) (h2 : i < (gains t xs).length), ys[i] = 0 ∨ (gains t xs)[i] = maxI (gains t xs) := fun hh => hn ((rest_iff hok ly ny).2 hh)
      have hex : ∃ i, ∃ (h1 : i < ys.length) (h2 : i < (gains t xs).length), ys[i] > 0 ∧ (gains t xs)[i] < maxI (gains t xs) := by
        refine Classical.byContradiction fun hne => hn2 fun i h1 h2 => ?_
        rcases Int.lt_or_le 0 ys[i] with hp | hp
        · right
          have := le_max (List.getElem_mem h2)
          rcases Int.lt_or_le (gains t xs)[i] (maxI (gains t xs)) with hq | hq
          · exact (hne ⟨i, h1, h2, hp, hq⟩).elim
          · omega
        · have := ny ys[i] (by simp)
          left; omega
      have e1 := dot_lt_max (by omega) ny (fun y hy => le_max hy) hex
      have e2 := dot_eq_max (M := maxI (gains t xs)) (by omega) ((rest_iff hok lx nx).1 hr)
      rw [sy] at e1
      rw [sx] at e2
      rw [← gain_gains] at e1 e2
      have h1 : gainS t xs xs * dy - gainS t ys xs * dx > 0 := by
        rw [e2]
        have := Int.mul_lt_mul_of_pos_right e1 (show 0 < dx by omega)
        have e3 : dx * maxI (gains t xs) * dy = dy * maxI (gains t xs) * dx := by grind
        omega
      have := Int.mul_pos h1 (show 0 < dy by omega)
      unfold pS at h0
      simp only at h0
      omega
    have := ess ax ay hL hs hne
    rw [pq_form hok lx ly] at this
    omega

theorem unit_fash {n j : Nat} (hn : n ≤ 3) (hj : j < n) : fashS (unit n j) = 2 ^ j := by
  have : ∀ n : Nat, n < 4 → ∀ j : Nat, j < n → fashS (unit n j) = 2 ^ j := by decide
  exact this n (by omega) j hj

theorem sub_one {b j : Nat} (hb : b < 8) (hj : j < 3) (h : bit b j = true) : subS (2 ^ j) b = true := by
  have : ∀ b : Nat, b < 8 → ∀ j : Nat, j < 3 → bit b j = true → subS (2 ^ j) b = true := by decide +kernel
  exact this b hb j hj h

/-- One that is not at rest has no limit with one of the best alone. -/
theorem unrest_limit {t : List (List Int)} {xs : List Int} {dx : Int} (ax : askS t [(xs, dx)] = true) (h : subS (fashS xs) (bestS t xs) = false) : ∃ j, j < t.length ∧ limR t (xs, dx) (unit t.length j, 1) = .tup [.agg [vI 0, vI 0], vI 9] := by
  obtain ⟨hok, lx, dx1, dx2, nx, sx, gx⟩ := mix_facts ax
  have hn := hok.2.1
  have hb8 : bestS t xs < 8 := Nat.lt_of_lt_of_le bestS_lt (Nat.pow_le_pow_right (by decide) hn (n := 2))
  have hbl : bestS t xs < 2 ^ t.length := bestS_lt
  have hbp := best_pos (xs := xs) hok
  obtain ⟨j, hj, hbit⟩ : ∃ j, j < t.length ∧ bit (bestS t xs) j = true := by
    have key : ∀ n : Nat, n < 4 → ∀ b : Nat, b < 2 ^ n → 0 < b → ∃ j, j < n ∧ bit b j = true := by decide
    exact key t.length (by omega) _ hbl hbp
  refine ⟨j, hj, ?_⟩
  have axu : askS t [(xs, dx), (unit t.length j, 1)] = true := by
    have h1 := ask_unit ax hj
    obtain ⟨_, m1, m2⟩ := ask2 h1
    simp only at m1 m2
    simp [askS, hok, m1, m2]
  have hne : ¬ (dx = 1 ∧ xs = unit t.length j) := by
    rintro ⟨_, e⟩
    rw [e, unit_fash hn hj] at h
    rw [← e, sub_one hb8 (by omega) hbit] at h
    cases h
  have hl := unrest_law ax h hj hbit
  have hp : pS t (xs, dx) (unit t.length j, 1) < 0 := by
    unfold pS
    simp only [Int.mul_one]
    have e1 : gainS t (unit t.length j) xs * (dx * dx) = (gainS t (unit t.length j) xs * dx) * dx := by rw [Int.mul_assoc]
    rw [e1, Int.one_mul] at hl
    have := Int.lt_of_mul_lt_mul_right hl (show 0 ≤ dx by omega)
    omega
  unfold limR limV
  rw [if_pos axu, if_neg hne, if_pos (.inl hp)]

theorem L44 {vt xv : AV} {t : List (List Int)} {xs : List Int} {dx : Int} {j : Nat} (ht : IsTab vt t) (hs : Small t) (hx : IsRow xv xs) (hxl : xs.length ≤ 20) (hj : j < t.length) (h9 : limR t (xs, dx) (unit t.length j, 1) = .tup [.agg [vI 0, vI 0], vI 9]) (d : Nat) : ∀ (i : Nat) (R : Heap), i + d = j →
    ∃ H', lp E2 Y F44L0 (sp 32 [(5, vI i), (3, .ptr 0 0 0), (0, vt)]) (⟨0, [xv, vI dx]⟩ :: R) = some (.r, sp 32 [(4, .bool true)], H') := by
  have hn := hs.1
  induction d with
  | zero =>
    intro i R hi
    have hi : i = j := by omega
    subst hi
    have hc : (i : Int) < (t.length : Int) := by omega
    have hu : (unit t.length i).length = t.length := by simp [unit]
    have k := fun H => limit38 (Y := Y) (H := H) (dx := dx) (dy := 1) ht hs hx hxl (.imm true (unit t.length i)) (by rw [hu]; omega)
    simp only [h9, hu] at k
    have hk : 0 ≤ (t.length : Int) ∧ (t.length : Int) * 8 ≤ 140737488355328 ∧ (t.length : Int) ≤ 9223372036854775807 := by omega
    have hset : ((List.replicate t.length (0 : Int)).map vI).set i (.int .i64 1) = (unit t.length i).map vI := by simp [unit, List.map_set]
    have hil : i + 1 ≤ t.length := hj
    have htk : List.take t.length ((unit t.length i).map vI) = (unit t.length i).map vI := List.take_of_length_le (by simp [hu])
    have hz := zeros_int (n := t.length)
    simp only [SS, insA, wantedA, Opd.ev, putA, binA, eqbA, unA, fldA, partA, reduceIte, reduceCtorEq, Nat.reduceMod, Nat.reduceDiv, Nat.reduceBEq, resultA, resA, vI, Nat.reduceMul, Nat.reduceAdd, Nat.reduceSub, Nat.reduceEqDiff, Nat.reduceLT, Nat.reducePow, Nat.reduceLeDiff, st, Option.bind_eq_bind, Option.pure_def, List.length_nil, Int.cast_ofNat_Int, List.reverse_nil, UU, idxP, cellsAt, storeA, fillA, zerosA, putAll, optNat, sliceA, row, Int.reduceLT, Int.reduceLE, Int.reduceGT, Int.reduceGE, Int.reduceEq, Int.reduceNe, Int.reduceToNat, Int.reduceBEq, Int.reduceBNe, Nat.reduceLeDiff, Nat.reduceLT, Nat.reduceBNe, Nat.reduceGT, List.drop_nil, List.take_nil, Option.isSome_none, Int.ofNat_one, Int.ofNat_zero] at hz
    refine ⟨⟨0, [xv, vI dx]⟩ :: (R ++ [⟨0, (unit t.length i).map vI⟩, ⟨0, [.sl (R.length + 1) 0 1 0 t.length none, vI 1]⟩, ⟨0, [vI 0, vI 0]⟩]), ?_⟩
    rw [un44_0]
    simp only [SS, insA, wantedA, Opd.ev, putA, binA, eqbA, unA, fldA, partA, reduceIte, reduceCtorEq, Nat.reduceMod, Nat.reduceDiv, Nat.reduceBEq, resultA, resA, vI, Nat.reduceMul, Nat.reduceAdd, Nat.reduceSub, Nat.reduceEqDiff, Nat.reduceLT, Nat.reducePow, Nat.reduceLeDiff, st, Option.bind_eq_bind, Option.pure_def, List.length_nil, Int.cast_ofNat_Int, List.reverse_nil] at k
    simp only [F44L0b, SS, insA, wantedA, Opd.ev, putA, binA, eqbA, unA, fldA, partA, reduceIte, reduceCtorEq, Nat.reduceMod, Nat.reduceDiv, Nat.reduceBEq, resultA, resA, vI, Nat.reduceMul, Nat.reduceAdd, Nat.reduceSub, Nat.reduceEqDiff, Nat.reduceLT, Nat.reducePow, Nat.reduceLeDiff, st, Option.bind_eq_bind, Option.pure_def, List.length_nil, Int.cast_ofNat_Int, List.reverse_nil, UU, idxP, cellsAt, storeA, fillA, zerosA, putAll, optNat, sliceA, row, Int.reduceLT, Int.reduceLE, Int.reduceGT, Int.reduceGE, Int.reduceEq, Int.reduceNe, Int.reduceToNat, Int.reduceBEq, Int.reduceBNe, Nat.reduceLeDiff, Nat.reduceLT, Nat.reduceBNe, Nat.reduceGT, List.drop_nil, List.take_nil, Option.isSome_none, Int.ofNat_one, Int.ofNat_zero, ht.len, hc, hz, Int.toNat_natCast, Int.natCast_nonneg, hk, hset, hil, hj, htk, hu, List.length_map, List.length_replicate, Nat.mul_one, mapM_snap, ht.snap, hx.snap,
      get_last, set_last, ap2_0, ap2_1, ap3_0, ap3_1, ap3_2, as2_0, as2_1, as3_2, k]
  | succ d ih =>
    intro i R hi
    have hlt : i < t.length := by omega
    have hc : (i : Int) < (t.length : Int) := by omega
    have hw := wrap_succ (n := i) (by omega)
    have hu : (unit t.length i).length = t.length := by simp [unit]
    have k := fun H => limit38 (Y := Y) (H := H) (dx := dx) (dy := 1) ht hs hx hxl (.imm true (unit t.length i)) (by rw [hu]; omega)
    obtain ⟨a, b, c, e⟩ := limR_form t (xs, dx) (unit t.length i, 1)
    simp only [e, hu] at k
    have hk : 0 ≤ (t.length : Int) ∧ (t.length : Int) * 8 ≤ 140737488355328 ∧ (t.length : Int) ≤ 9223372036854775807 := by omega
    have hset : ((List.replicate t.length (0 : Int)).map vI).set i (.int .i64 1) = (unit t.length i).map vI := by simp [unit, List.map_set]
    have hil : i + 1 ≤ t.length := hlt
    have htk : List.take t.length ((unit t.length i).map vI) = (unit t.length i).map vI := List.take_of_length_le (by simp [hu])
    have hz := zeros_int (n := t.length)
    simp only [SS, insA, wantedA, Opd.ev, putA, binA, eqbA, unA, fldA, partA, reduceIte, reduceCtorEq, Nat.reduceMod, Nat.reduceDiv, Nat.reduceBEq, resultA, resA, vI, Nat.reduceMul, Nat.reduceAdd, Nat.reduceSub, Nat.reduceEqDiff, Nat.reduceLT, Nat.reducePow, Nat.reduceLeDiff, st, Option.bind_eq_bind, Option.pure_def, List.length_nil, Int.cast_ofNat_Int, List.reverse_nil, UU, idxP, cellsAt, storeA, fillA, zerosA, putAll, optNat, sliceA, row, Int.reduceLT, Int.reduceLE, Int.reduceGT, Int.reduceGE, Int.reduceEq, Int.reduceNe, Int.reduceToNat, Int.reduceBEq, Int.reduceBNe, Nat.reduceLeDiff, Nat.reduceLT, Nat.reduceBNe, Nat.reduceGT, List.drop_nil, List.take_nil, Option.isSome_none, Int.ofNat_one, Int.ofNat_zero] at hz
    by_cases h9 : c = 9
    · subst h9
      refine ⟨⟨0, [xv, vI dx]⟩ :: (R ++ [⟨0, (unit t.length i).map vI⟩, ⟨0, [.sl (R.length + 1) 0 1 0 t.length none, vI 1]⟩, ⟨0, [vI a, vI b]⟩]), ?_⟩
      rw [un44_0]
      simp only [SS, insA, wantedA, Opd.ev, putA, binA, eqbA, unA, fldA, partA, reduceIte, reduceCtorEq, Nat.reduceMod, Nat.reduceDiv, Nat.reduceBEq, resultA, resA, vI, Nat.reduceMul, Nat.reduceAdd, Nat.reduceSub, Nat.reduceEqDiff, Nat.reduceLT, Nat.reducePow, Nat.reduceLeDiff, st, Option.bind_eq_bind, Option.pure_def, List.length_nil, Int.cast_ofNat_Int, List.reverse_nil] at k
      simp only [F44L0b, SS, insA, wantedA, Opd.ev, putA, binA, eqbA, unA, fldA, partA, reduceIte, reduceCtorEq, Nat.reduceMod, Nat.reduceDiv, Nat.reduceBEq, resultA, resA, vI, Nat.reduceMul, Nat.reduceAdd, Nat.reduceSub, Nat.reduceEqDiff, Nat.reduceLT, Nat.reducePow, Nat.reduceLeDiff, st, Option.bind_eq_bind, Option.pure_def, List.length_nil, Int.cast_ofNat_Int, List.reverse_nil, UU, idxP, cellsAt, storeA, fillA, zerosA, putAll, optNat, sliceA, row, Int.reduceLT, Int.reduceLE, Int.reduceGT, Int.reduceGE, Int.reduceEq, Int.reduceNe, Int.reduceToNat, Int.reduceBEq, Int.reduceBNe, Nat.reduceLeDiff, Nat.reduceLT, Nat.reduceBNe, Nat.reduceGT, List.drop_nil, List.take_nil, Option.isSome_none, Int.ofNat_one, Int.ofNat_zero, ht.len, hc, hz, Int.toNat_natCast, Int.natCast_nonneg, hk, hset, hil, hlt, htk, hu, List.length_map, List.length_replicate, Nat.mul_one, mapM_snap, ht.snap, hx.snap,
        get_last, set_last, ap2_0, ap2_1, ap3_0, ap3_1, ap3_2, as2_0, as2_1, as3_2, k]
    · have h9' : (c == 9) = false := by simpa using h9
      obtain ⟨H', q⟩ := ih (i + 1) (R ++ [⟨0, (unit t.length i).map vI⟩, ⟨0, [.sl (R.length + 1) 0 1 0 t.length none, vI 1]⟩, ⟨0, [vI a, vI b]⟩]) (by omega)
      refine ⟨H', ?_⟩
      rw [un44_0]
      simp only [SS, insA, wantedA, Opd.ev, putA, binA, eqbA, unA, fldA, partA, reduceIte, reduceCtorEq, Nat.reduceMod, Nat.reduceDiv, Nat.reduceBEq, resultA, resA, vI, Nat.reduceMul, Nat.reduceAdd, Nat.reduceSub, Nat.reduceEqDiff, Nat.reduceLT, Nat.reducePow, Nat.reduceLeDiff, st, Option.bind_eq_bind, Option.pure_def, List.length_nil, Int.cast_ofNat_Int, List.reverse_nil] at k q
      simp only [F44L0b, SS, insA, wantedA, Opd.ev, putA, binA, eqbA, unA, fldA, partA, reduceIte, reduceCtorEq, Nat.reduceMod, Nat.reduceDiv, Nat.reduceBEq, resultA, resA, vI, Nat.reduceMul, Nat.reduceAdd, Nat.reduceSub, Nat.reduceEqDiff, Nat.reduceLT, Nat.reducePow, Nat.reduceLeDiff, st, Option.bind_eq_bind, Option.pure_def, List.length_nil, Int.cast_ofNat_Int, List.reverse_nil, UU, idxP, cellsAt, storeA, fillA, zerosA, putAll, optNat, sliceA, row, Int.reduceLT, Int.reduceLE, Int.reduceGT, Int.reduceGE, Int.reduceEq, Int.reduceNe, Int.reduceToNat, Int.reduceBEq, Int.reduceBNe, Nat.reduceLeDiff, Nat.reduceLT, Nat.reduceBNe, Nat.reduceGT, List.drop_nil, List.take_nil, Option.isSome_none, Int.ofNat_one, Int.ofNat_zero, ht.len, hc, hw, hz, Int.toNat_natCast, Int.natCast_nonneg, hk, hset, hil, hlt, htk, hu, List.length_map, List.length_replicate, Nat.mul_one, mapM_snap, ht.snap, hx.snap,
        get_last, set_last, ap2_0, ap2_1, ap3_0, ap3_1, ap3_2, as2_0, as2_1, as3_2, k, h9', q]

theorem refused44 {vt xv : AV} {t : List (List Int)} {xs : List Int} {dx : Int} (ht : IsTab vt t) (hs : Small t) (hx : IsRow xv xs) (hxl : xs.length ≤ 20) (ax : askS t [(xs, dx)] = true) (h : subS (fashS xs) (bestS t xs) = false) :
    freeX H (callL E2 Y 44 [vt, .agg [xv, vI dx]] []) = some (.bool true, H) := by
  obtain ⟨j, hj, h9⟩ := unrest_limit ax h
  obtain ⟨H', q⟩ := L44 (Y := Y) ht hs hx hxl hj h9 j 0 [] (by omega)
  obtain ⟨o1, o2, o3⟩ := hx.one
  rw [call44 rfl]
  simp only [SS, insA, wantedA, Opd.ev, putA, binA, eqbA, unA, fldA, partA, reduceIte, reduceCtorEq, Nat.reduceMod, Nat.reduceDiv, Nat.reduceBEq, resultA, resA, vI, Nat.reduceMul, Nat.reduceAdd, Nat.reduceSub, Nat.reduceEqDiff, Nat.reduceLT, Nat.reducePow, Nat.reduceLeDiff, st, Option.bind_eq_bind, Option.pure_def, List.length_nil, Int.cast_ofNat_Int, List.reverse_nil, Int.ofNat_zero] at q
  simp only [F44B, F44T0, in44_0, SS, insA, wantedA, Opd.ev, putA, binA, eqbA, unA, fldA, partA, reduceIte, reduceCtorEq, Nat.reduceMod, Nat.reduceDiv, Nat.reduceBEq, resultA, resA, vI, Nat.reduceMul, Nat.reduceAdd, Nat.reduceSub, Nat.reduceEqDiff, Nat.reduceLT, Nat.reducePow, Nat.reduceLeDiff, st, Option.bind_eq_bind, Option.pure_def, List.length_nil, Int.cast_ofNat_Int, List.reverse_nil, UU, idxP, cellsAt, storeA, fillA, zerosA, putAll, optNat, sliceA, row, Int.reduceLT, Int.reduceLE, Int.reduceGT, Int.reduceGE, Int.reduceEq, Int.reduceNe, Int.reduceToNat, Int.reduceBEq, Int.reduceBNe, Nat.reduceLeDiff, Nat.reduceLT, Nat.reduceBNe, Nat.reduceGT, List.drop_nil, List.take_nil, Option.isSome_none, Int.ofNat_one, Int.ofNat_zero, o1, o2, o3, q]
end
end Go.X
