import Derived.Test.YtdkgicdbjemalaaDoorSB
import Derived.Test.YtdkgicdbjemalaaDoorNN
/-! Tones: the law Walked. -/
set_option linter.unusedSimpArgs false
set_option linter.unusedVariables false
set_option maxHeartbeats 2000000
set_option maxRecDepth 10000
namespace Go.X
open Go Go.RowKit

theorem wr_shift (x t : Int) : wr (x + 18446744073709551616 * t) = wr x := by
  simp only [wr, IntKind.wrap_i64]; omega
theorem wr_form (a : Int) : ∃ q, wr a = a + 18446744073709551616 * q :=
  ⟨(wr a - a) / 18446744073709551616, by simp only [wr, IntKind.wrap_i64]; omega⟩
theorem wr_mul (a b : Int) : wr (wr a * wr b) = wr (a * b) := by
  obtain ⟨q, hq⟩ := wr_form a
  obtain ⟨r, hr⟩ := wr_form b
  rw [hq, hr]
  have : (a + 18446744073709551616 * q) * (b + 18446744073709551616 * r) = a * b + 18446744073709551616 * (a * r + q * b + q * (18446744073709551616 * r)) := by grind
  rw [this, wr_shift]
theorem wrap_sub {a b : Nat} (h : b ≤ a) (ha : a < 4611686018427387904) : IntKind.wrap .i64 ((a : Int) - (b : Int)) = ((a - b : Nat) : Int) := by
  rw [wrap_id (by omega) (by omega)]; omega

theorem getD_wrq {l : List Int} {i : Nat} (h : i < l.length) : (l.map wr).getD i 0 = wr (l.getD i 0) := by
  simp only [List.getD_eq_getElem?_getD, List.getElem?_map, List.getElem?_eq_getElem h, Option.map_some, Option.getD_some]

/-! ### Walks of two steps -/
theorem sumZ_last (g : Nat → Int) (m : Nat) : sumZ (List.range (m + 1)) g = sumZ (List.range m) g + g m := by
  rw [List.range_succ, sumZ_apl]; simp [sumZ]
theorem wiR_bt (f : List Nat) (i : Nat) : ∀ ks : List Nat, (wiR (f.getD i 0) ks : Int) = sumZ ks (bt f i)
  | [] => rfl
  | k :: ks => by
    have := wiR_bt f i ks
    unfold wiR at this ⊢
    rw [List.filter_cons]
    simp only [sumZ]
    unfold bt at this ⊢
    split
    · simp only [List.length_cons]; omega
    · omega
theorem wires_bt {f : List Nat} (hS : Sy f) (hno : ∀ i, i < f.length → (f.getD i 0).testBit i = false) : sumZ (List.range f.length) (fun i => sumZ (List.range f.length) fun k => bt f i k) = 2 * (wiN f : Int) := by
  have h2 : ∀ m, m ≤ f.length → sumZ (List.range m) (fun i => sumZ (List.range m) fun k => bt f i k) = 2 * (((List.range m).map fun i => wiR (f.getD i 0) (List.range i)).sum : Nat) := by
    intro m
    induction m with
    | zero => intro _; rfl
    | succ m ih =>
      intro hm
      have ih := ih (by omega)
      rw [sumZ_last, sumZ_last]
      have e0 : bt f m m = 0 := by unfold bt; rw [hno m (by omega)]; rfl
      have e : sumZ (List.range m) (fun i => sumZ (List.range (m + 1)) fun k => bt f i k) = sumZ (List.range m) (fun i => sumZ (List.range m) fun k => bt f i k) + sumZ (List.range m) (fun k => bt f m k) := by
        rw [← sumZ_add]
        refine sumZ_congr fun i hi => ?_
        have hi' := List.mem_range.1 hi
        rw [sumZ_last]
        unfold bt
        rw [hS i m (by omega) (by omega)]
      rw [e, ih, e0, List.range_succ, List.map_append, List.sum_append]
      have := wiR_bt f m (List.range m)
      simp only [List.map_cons, List.map_nil, List.sum_cons, List.sum_nil]
      have e3 : sumZ (List.range m) (fun k => bt f m k) = sumZ (List.range m) (bt f m) := rfl
      rw [e3]
      omega
  unfold wiN
  exact h2 f.length (Nat.le_refl _)
theorem walk_two {f : List Nat} (hS : Sy f) (hno : ∀ i, i < f.length → (f.getD i 0).testBit i = false) : wkA f f.length 2 = 2 * (wiN f : Int) := by
  rw [wkA_eq, ← wires_bt hS hno]
  refine sumZ_congr fun a ha => ?_
  have ha' := List.mem_range.1 ha
  rw [vS_last]
  refine sumZ_congr fun c hc => ?_
  have hc' := List.mem_range.1 hc
  have h1 : vS (bt f) (List.range f.length) 1 (fun k => if k = a then 1 else 0) c = bt f a c := by
    simp only [vS]
    exact sumZ_one ha' fun i => bt f i c
  rw [h1]
  unfold bt
  rw [hS c a hc' ha']
  split <;> rfl

/-- What the law adds up. -/
def nwS (f : List Nat) (k : Nat) : Int := wkA f f.length k + k * PT f k
theorem nwS_zero {f : List Nat} (hf : frameB (f.map fun n : Nat => (n : Int)) = true) {k : Nat} (hk : 1 ≤ k) : nwS f k + sumZ (List.range' 1 (k - 1)) (fun i => PT f i * wkA f f.length (k - i)) = 0 := by
  obtain ⟨n1, n7, hok, hS⟩ := frame_iff.1 hf
  have h := newton hf k
  obtain ⟨m, rfl⟩ : ∃ m, k = m + 1 := ⟨k - 1, by omega⟩
  rw [List.range_eq_range', List.range'_succ] at h
  simp only [sumZ] at h
  have e1 : List.range' (0 + 1) (m + 1) = List.range' 1 m ++ [m + 1] := by
    rw [Nat.zero_add]
    have := List.range'_concat (s := 1) (n := m) (step := 1)
    rw [this]; congr 2; omega
  rw [e1, sumZ_apl] at h
  simp only [sumZ, Nat.sub_self, Nat.sub_zero, Int.add_zero] at h
  rw [PT_zero hS n7, walk_zero, Int.one_mul] at h
  unfold nwS
  rw [Nat.add_sub_cancel]
  rw [Int.sub_mul] at h
  rw [Int.mul_comm (PT f (m + 1)) (f.length : Int)] at h
  omega

section
variable {Y : Run}

theorem L13_0 {v p4 : AV} {l : List Int} (hv : IsRow v l) (hf : frameB l = true) (d : Nat) : ∀ {H : Heap} {wv : AV} {p : Nat} {wl : List Int} (k : Nat), k + d = l.length + 1 → wl.length = l.length + 1 → Rw H wv p wl → (∀ j, j < k → wl.getD j 0 = wkA (l.map Int.toNat) l.length j) →
    ∃ H' wl', lp ET Y F13L0 (sp 119 [(7, vI k), (6, wv), (4, p4), (3, vI l.length), (0, v)]) H = some (.x 0, sp 119 [(6, wv), (4, p4), (3, vI l.length), (0, v)], H') ∧ Rw H' wv p wl' ∧ wl'.length = l.length + 1 ∧ ∀ j, j < l.length + 1 → wl'.getD j 0 = wkA (l.map Int.toNat) l.length j := by
  have hn := frame_n hf
  induction d with
  | zero =>
    intro H wv p wl k hk hl h hj
    refine ⟨H, wl, ?_, h, hl, fun j hj' => hj j (by omega)⟩
    rw [un13_0]
    have : ¬ ((k : Int) ≤ (l.length : Int)) := by omega
    simp only [F13L0b, SS, insA, wantedA, Opd.ev, putA, binA, eqbA, unA, fldA, partA, reduceIte, reduceCtorEq, Nat.reduceMod, Nat.reduceDiv, Nat.reduceBEq, resultA, resA, vI, Nat.reduceMul, Nat.reduceAdd, Nat.reduceSub, Nat.reduceEqDiff, Nat.reduceLT, Nat.reducePow, Nat.reduceLeDiff, st, Option.bind_eq_bind, Option.pure_def, List.length_nil, Int.cast_ofNat_Int, List.reverse_nil, UU, idxP, cellsAt, storeA, fillA, zerosA, putAll, optNat, sliceA, row, Int.reduceLT, Int.reduceLE, Int.reduceGT, Int.reduceGE, Int.reduceEq, Int.reduceNe, Int.reduceToNat, Int.reduceBEq, Int.reduceBNe, Nat.reduceLeDiff, Nat.reduceLT, Nat.reduceBNe, Nat.reduceGT, List.drop_nil, List.take_nil, Option.isSome_none, Int.ofNat_one, Int.ofNat_zero, this]
  | succ d ih =>
    intro H wv p wl k hk hl h hj
    have hc : (k : Int) ≤ (l.length : Int) := by omega
    have hw := wrap_succ (n := k) (by omega)
    have k1 := fun H => walks44 (Y := Y) (H := H) hv hf (s := k) (by omega)
    have i1 := h.gro.idx (i := k) (by omega)
    obtain ⟨H1, s1, r1, _, _⟩ := h.st (i := k) (by omega) (wkA (l.map Int.toNat) l.length k)
    obtain ⟨H', wl', e1, r2, r3, r4⟩ := ih (k + 1) (by omega) (by simpa using hl) r1 fun j hj' => by
      by_cases c : j = k
      · subst c
        rw [List.getD_eq_getElem?_getD, List.getElem?_set_self (by omega)]; rfl
      · rw [List.getD_eq_getElem?_getD, List.getElem?_set_ne (Ne.symm c), ← List.getD_eq_getElem?_getD]
        exact hj j (by omega)
    refine ⟨H', wl', ?_, r2, r3, r4⟩
    rw [un13_0]
    generalize wkA (l.map Int.toNat) l.length k = z at *
    simp only [vW, wr, SS, insA, wantedA, Opd.ev, putA, binA, eqbA, unA, fldA, partA, reduceIte, reduceCtorEq, Nat.reduceMod, Nat.reduceDiv, Nat.reduceBEq, resultA, resA, vI, Nat.reduceMul, Nat.reduceAdd, Nat.reduceSub, Nat.reduceEqDiff, Nat.reduceLT, Nat.reducePow, Nat.reduceLeDiff, st, Option.bind_eq_bind, Option.pure_def, List.length_nil, Int.cast_ofNat_Int, List.reverse_nil] at e1 s1
    simp only [F13L0b, SS, insA, wantedA, Opd.ev, putA, binA, eqbA, unA, fldA, partA, reduceIte, reduceCtorEq, Nat.reduceMod, Nat.reduceDiv, Nat.reduceBEq, resultA, resA, vI, Nat.reduceMul, Nat.reduceAdd, Nat.reduceSub, Nat.reduceEqDiff, Nat.reduceLT, Nat.reducePow, Nat.reduceLeDiff, st, Option.bind_eq_bind, Option.pure_def, List.length_nil, Int.cast_ofNat_Int, List.reverse_nil, UU, idxP, cellsAt, fillA, zerosA, putAll, row, Int.reduceLT, Int.reduceLE, Int.reduceGT, Int.reduceGE, Int.reduceEq, Int.reduceNe, Int.reduceToNat, Int.reduceBEq, Int.reduceBNe, Nat.reduceLeDiff, Nat.reduceLT, Nat.reduceBNe, Nat.reduceGT, List.drop_nil, List.take_nil, Option.isSome_none, Int.ofNat_one, Int.ofNat_zero, hv.snap, hc, hw, k1, i1, s1, e1, vW, wr]

theorem L13_1 {v wv p4 : AV} {f : List Nat} {pl wl : List Int} {p K : Nat} {H : Heap} (hn : f.length ≤ 7) (hp : IsRow p4 pl) (hpl : pl.length = f.length + 1) (hP : ∀ i, i ≤ f.length → pl.getD (f.length - i) 0 = wr (PT f i))
    (hW : Rw H wv p wl) (hwl : wl.length = f.length + 1) (hwk : ∀ j, j < f.length + 1 → wl.getD j 0 = wkA f f.length j) (hK : K ≤ f.length) (d : Nat) : ∀ (i : Nat) (s : Int), i + d = K →
    lp ET Y F13L1 (sp 119 [(12, vI i), (11, vW s), (10, vI K), (6, wv), (4, p4), (3, vI f.length), (0, v)]) H =
      some (.x 4, sp 119 [(11, vW (s + sumZ (List.range' i d) fun i => PT f i * wkA f f.length (K - i))), (10, vI K), (6, wv), (4, p4), (3, vI f.length), (0, v)], H) := by
  induction d with
  | zero =>
    intro i s hi
    rw [un13_1]
    have : ¬ ((i : Int) < (K : Int)) := by omega
    simp only [F13L1b, SS, insA, wantedA, Opd.ev, putA, binA, eqbA, unA, fldA, partA, reduceIte, reduceCtorEq, Nat.reduceMod, Nat.reduceDiv, Nat.reduceBEq, resultA, resA, vI, Nat.reduceMul, Nat.reduceAdd, Nat.reduceSub, Nat.reduceEqDiff, Nat.reduceLT, Nat.reducePow, Nat.reduceLeDiff, st, Option.bind_eq_bind, Option.pure_def, List.length_nil, Int.cast_ofNat_Int, List.reverse_nil, UU, idxP, cellsAt, storeA, fillA, zerosA, putAll, optNat, sliceA, row, Int.reduceLT, Int.reduceLE, Int.reduceGT, Int.reduceGE, Int.reduceEq, Int.reduceNe, Int.reduceToNat, Int.reduceBEq, Int.reduceBNe, Nat.reduceLeDiff, Nat.reduceLT, Nat.reduceBNe, Nat.reduceGT, List.drop_nil, List.take_nil, Option.isSome_none, Int.ofNat_one, Int.ofNat_zero, this, List.range'_zero, sumZ, Int.add_zero]
  | succ d ih =>
    intro i s hi
    have hc : (i : Int) < (K : Int) := by omega
    have hw := wrap_succ (n := i) (by omega)
    have s1 := wrap_sub (a := f.length) (b := i) (by omega) (by omega)
    have s2 := wrap_sub (a := K) (b := i) (by omega) (by omega)
    have i1 := hp.idx (i := f.length - i) (by omega)
    have l1 := hp.load (H := H) (i := f.length - i) (by omega)
    rw [hP i (by omega)] at l1
    have i2 := hW.gro.idx (i := K - i) (by omega)
    have l2 := hW.gro.load (i := K - i) (by omega)
    rw [getD_wr (by omega), hwk _ (by omega)] at l2
    have m1 := wr_mul (PT f i) (wkA f f.length (K - i))
    have a1 := wr_add s (PT f i * wkA f f.length (K - i))
    have ih := ih (i + 1) (s + PT f i * wkA f f.length (K - i)) (by omega)
    rw [List.range'_succ]
    simp only [sumZ]
    rw [← Int.add_assoc, un13_1]
    generalize PT f i = x at *
    generalize wkA f f.length (K - i) = y at *
    simp only [vW, wr, SS, insA, wantedA, Opd.ev, putA, binA, eqbA, unA, fldA, partA, reduceIte, reduceCtorEq, Nat.reduceMod, Nat.reduceDiv, Nat.reduceBEq, resultA, resA, vI, Nat.reduceMul, Nat.reduceAdd, Nat.reduceSub, Nat.reduceEqDiff, Nat.reduceLT, Nat.reducePow, Nat.reduceLeDiff, st, Option.bind_eq_bind, Option.pure_def, List.length_nil, Int.cast_ofNat_Int, List.reverse_nil] at ih l1 l2 m1 a1
    simp only [F13L1b, SS, insA, wantedA, Opd.ev, putA, binA, eqbA, unA, fldA, partA, reduceIte, reduceCtorEq, Nat.reduceMod, Nat.reduceDiv, Nat.reduceBEq, resultA, resA, vI, Nat.reduceMul, Nat.reduceAdd, Nat.reduceSub, Nat.reduceEqDiff, Nat.reduceLT, Nat.reducePow, Nat.reduceLeDiff, st, Option.bind_eq_bind, Option.pure_def, List.length_nil, Int.cast_ofNat_Int, List.reverse_nil, UU, idxP, cellsAt, storeA, fillA, zerosA, putAll, optNat, sliceA, row, Int.reduceLT, Int.reduceLE, Int.reduceGT, Int.reduceGE, Int.reduceEq, Int.reduceNe, Int.reduceToNat, Int.reduceBEq, Int.reduceBNe, Nat.reduceLeDiff, Nat.reduceLT, Nat.reduceBNe, Nat.reduceGT, List.drop_nil, List.take_nil, Option.isSome_none, Int.ofNat_one, Int.ofNat_zero, hc, hw, s1, s2, i1, l1, i2, l2, m1, a1, ih, vW, wr]

theorem L13_2 {v wv p4 : AV} {f : List Nat} {pl wl : List Int} {p : Nat} {H : Heap} (hf : frameB (f.map fun n : Nat => (n : Int)) = true) (hp : IsRow p4 pl) (hpl : pl.length = f.length + 1) (hP : ∀ i, i ≤ f.length → pl.getD (f.length - i) 0 = wr (PT f i))
    (hW : Rw H wv p wl) (hwl : wl.length = f.length + 1) (hwk : ∀ j, j < f.length + 1 → wl.getD j 0 = wkA f f.length j) (d : Nat) : ∀ (k : Nat), 1 ≤ k → k + d = f.length + 1 →
    lp ET Y F13L2 (sp 119 [(10, vI k), (6, wv), (4, p4), (3, vI f.length), (0, v)]) H = some (.x 2, sp 119 [(6, wv), (3, vI f.length), (0, v)], H) := by
  obtain ⟨n1, n7, hok, hS⟩ := frame_iff.1 hf
  induction d with
  | zero =>
    intro k hk1 hk
    rw [un13_2]
    have : ¬ ((k : Int) ≤ (f.length : Int)) := by omega
    simp only [F13L2b, SS, insA, wantedA, Opd.ev, putA, binA, eqbA, unA, fldA, partA, reduceIte, reduceCtorEq, Nat.reduceMod, Nat.reduceDiv, Nat.reduceBEq, resultA, resA, vI, Nat.reduceMul, Nat.reduceAdd, Nat.reduceSub, Nat.reduceEqDiff, Nat.reduceLT, Nat.reducePow, Nat.reduceLeDiff, st, Option.bind_eq_bind, Option.pure_def, List.length_nil, Int.cast_ofNat_Int, List.reverse_nil, UU, idxP, cellsAt, storeA, fillA, zerosA, putAll, optNat, sliceA, row, Int.reduceLT, Int.reduceLE, Int.reduceGT, Int.reduceGE, Int.reduceEq, Int.reduceNe, Int.reduceToNat, Int.reduceBEq, Int.reduceBNe, Nat.reduceLeDiff, Nat.reduceLT, Nat.reduceBNe, Nat.reduceGT, List.drop_nil, List.take_nil, Option.isSome_none, Int.ofNat_one, Int.ofNat_zero, this]
  | succ d ih =>
    intro k hk1 hk
    have hc : (k : Int) ≤ (f.length : Int) := by omega
    have hw := wrap_succ (n := k) (by omega)
    have s1 := wrap_sub (a := f.length) (b := k) (by omega) (by omega)
    have i1 := hp.idx (i := f.length - k) (by omega)
    have l1 := hp.load (H := H) (i := f.length - k) (by omega)
    rw [hP k (by omega)] at l1
    have i2 := hW.gro.idx (i := k) (by omega)
    have l2 := hW.gro.load (i := k) (by omega)
    rw [getD_wr (by omega), hwk _ (by omega)] at l2
    have m1 := wr_mul (k : Int) (PT f k)
    have wk : wr (k : Int) = (k : Int) := wrap_id (by omega) (by omega)
    rw [wk] at m1
    have a1 := wr_add (wkA f f.length k) ((k : Int) * PT f k)
    have e0 := L13_1 (Y := Y) (v := v) (K := k) n7 hp hpl hP hW hwl hwk (by omega) (k - 1) 1 (nwS f k) (by omega)
    rw [nwS_zero hf hk1] at e0
    have w0 : wr 0 = 0 := rfl
    have ih := ih (k + 1) (by omega) (by omega)
    rw [un13_2]
    unfold nwS at e0
    generalize PT f k = x at *
    generalize wkA f f.length k = y at *
    simp only [vW, wr, SS, insA, wantedA, Opd.ev, putA, binA, eqbA, unA, fldA, partA, reduceIte, reduceCtorEq, Nat.reduceMod, Nat.reduceDiv, Nat.reduceBEq, resultA, resA, vI, Nat.reduceMul, Nat.reduceAdd, Nat.reduceSub, Nat.reduceEqDiff, Nat.reduceLT, Nat.reducePow, Nat.reduceLeDiff, st, Option.bind_eq_bind, Option.pure_def, List.length_nil, Int.cast_ofNat_Int, List.reverse_nil, Int.ofNat_one] at e0 l1 l2 m1 a1 w0 ih
    simp only [F13L2b, F13T0, F13T1, in13_1, SS, insA, wantedA, Opd.ev, putA, binA, eqbA, unA, fldA, partA, reduceIte, reduceCtorEq, Nat.reduceMod, Nat.reduceDiv, Nat.reduceBEq, resultA, resA, vI, Nat.reduceMul, Nat.reduceAdd, Nat.reduceSub, Nat.reduceEqDiff, Nat.reduceLT, Nat.reducePow, Nat.reduceLeDiff, st, Option.bind_eq_bind, Option.pure_def, List.length_nil, Int.cast_ofNat_Int, List.reverse_nil, UU, idxP, cellsAt, storeA, fillA, zerosA, putAll, optNat, sliceA, row, Int.reduceLT, Int.reduceLE, Int.reduceGT, Int.reduceGE, Int.reduceEq, Int.reduceNe, Int.reduceToNat, Int.reduceBEq, Int.reduceBNe, Nat.reduceLeDiff, Nat.reduceLT, Nat.reduceBNe, Nat.reduceGT, List.drop_nil, List.take_nil, Option.isSome_none, Int.ofNat_one, Int.ofNat_zero, hc, hw, s1, i1, l1, i2, l2, m1, a1, w0, e0, ih, vW, wr]

theorem law13 (hY : ∀ args H, Y 97 args H = yA 97 args H) {v : AV} {l : List Int} (hv : IsRow v l) : freeX [] (callL ET Y 13 [v] []) = some (.bool true, []) := by
  have hal := fun H => alive17 (Y := Y) (H := H) hY
  have hfew := fun H => few16 (Y := Y) (H := H) hv .nil
  simp only [List.length_nil, show (0 : Nat) ≤ 40 from by decide, decide_true, Bool.and_true] at hfew
  rw [call13 rfl]
  by_cases h40 : l.length ≤ 40
  · simp only [h40, decide_true] at hfew
    have hfr := fun H => frame20 (Y := Y) (H := H) hv (by omega)
    cases hf : frameB l with
    | false =>
      rw [hf] at hfr
      simp only [F13B, SS, insA, wantedA, Opd.ev, putA, binA, eqbA, unA, fldA, partA, reduceIte, reduceCtorEq, Nat.reduceMod, Nat.reduceDiv, Nat.reduceBEq, resultA, resA, vI, Nat.reduceMul, Nat.reduceAdd, Nat.reduceSub, Nat.reduceEqDiff, Nat.reduceLT, Nat.reducePow, Nat.reduceLeDiff, st, Option.bind_eq_bind, Option.pure_def, List.length_nil, Int.cast_ofNat_Int, List.reverse_nil, UU, idxP, cellsAt, storeA, fillA, zerosA, putAll, optNat, sliceA, row, Int.reduceLT, Int.reduceLE, Int.reduceGT, Int.reduceGE, Int.reduceEq, Int.reduceNe, Int.reduceToNat, Int.reduceBEq, Int.reduceBNe, Nat.reduceLeDiff, Nat.reduceLT, Nat.reduceBNe, Nat.reduceGT, List.drop_nil, List.take_nil, Option.isSome_none, Int.ofNat_one, Int.ofNat_zero, hv.snap, hfew, hfr, hal]
    | true =>
      rw [hf] at hfr
      have hn := frame_n hf
      obtain ⟨hF, he⟩ := Fr.of hv hf
      have hf2 := hf
      rw [he] at hf2
      obtain ⟨n1, n7, hok, hS⟩ := frame_iff.1 hf2
      have hlen : (l.map Int.toNat).length = l.length := by simp
      obtain ⟨t1, p1, p2⟩ := tones21 (Y := Y) hv (by omega)
      rw [if_pos hf] at p1 p2
      rw [poly_trim] at p2
      have hpl : ((polyL (l.map Int.toNat) (-1) (-2)).map wr).length = (l.map Int.toNat).length + 1 := by rw [List.length_map, polyL_len]
      have hP : ∀ i, i ≤ (l.map Int.toNat).length → ((polyL (l.map Int.toNat) (-1) (-2)).map wr).getD ((l.map Int.toNat).length - i) 0 = wr (PT (l.map Int.toNat) i) := fun i hi => by
        rw [getD_wrq (by rw [polyL_len]; omega), PT_get hS n7 hi]
      have hlp := p2.row.len
      rw [hpl] at hlp
      have hws : IntKind.wrap .i64 ((l.length : Int) + 1) = ((l.length + 1 : Nat) : Int) := wrap_succ (by omega)
      have hki : (0 : Int) ≤ ((l.length + 1 : Nat) : Int) ∧ ((l.length + 1 : Nat) : Int) * 8 ≤ 140737488355328 ∧ ((l.length + 1 : Nat) : Int) ≤ 9223372036854775807 := by omega
      have hzr := zeros_int (n := l.length + 1)
      have hrw := Rw.fresh [] (l.length + 1)
      obtain ⟨H1, wl, e1, r1, r2, r3⟩ := L13_0 (Y := Y) (p4 := t1) hv hf (l.length + 1) 0 (by omega) (by simp) hrw (fun j hj => by omega)
      have e2 := L13_2 (Y := Y) (v := v) hf2 p2.row hpl hP r1 (by omega) (by rw [hlen]; exact r3) (l.map Int.toNat).length 1 (Nat.le_refl _) (by omega)
      rw [hlen] at e2
      have c1 : (((l.length + 1 : Nat) : Int) != ((l.length + 1 : Nat) : Int)) = false := by simp
      have i0 := r1.gro.idx (i := 0) (by omega)
      have l0 := r1.gro.load (i := 0) (by omega)
      rw [getD_wr (by omega), r3 _ (by omega), walk_zero] at l0
      have w0 : wr (l.length : Int) = (l.length : Int) := wrap_id (by omega) (by omega)
      have q2 : ∀ x : Int, (x == x) = true := fun x => by simp
      rw [hlen] at hlp
      have n1' := fun H n => p2.row.snap (H := H) (n := n)
      by_cases c2 : (l.length : Int) < 2
      · clear p2 hrw r1 r2 r3
        generalize hZ : List.map vI (List.replicate (l.length + 1) (0 : Int)) = Z at *
        simp only [vW, wr, SS, insA, wantedA, Opd.ev, putA, binA, eqbA, unA, fldA, partA, reduceIte, reduceCtorEq, Nat.reduceMod, Nat.reduceDiv, Nat.reduceBEq, resultA, resA, vI, Nat.reduceMul, Nat.reduceAdd, Nat.reduceSub, Nat.reduceEqDiff, Nat.reduceLT, Nat.reducePow, Nat.reduceLeDiff, st, Option.bind_eq_bind, Option.pure_def, List.length_nil, Int.cast_ofNat_Int, List.reverse_nil, Int.ofNat_zero, List.length_nil, List.nil_append, Int.ofNat_one] at e1 e2 hzr i0 l0 w0
        simp only [F13B, F13T3, F13T2, in13_0, in13_2, SS, insA, wantedA, Opd.ev, putA, binA, eqbA, unA, fldA, partA, reduceIte, reduceCtorEq, Nat.reduceMod, Nat.reduceDiv, Nat.reduceBEq, resultA, resA, vI, Nat.reduceMul, Nat.reduceAdd, Nat.reduceSub, Nat.reduceEqDiff, Nat.reduceLT, Nat.reducePow, Nat.reduceLeDiff, st, Option.bind_eq_bind, Option.pure_def, List.length_nil, Int.cast_ofNat_Int, List.reverse_nil, UU, idxP, cellsAt, storeA, fillA, putAll, optNat, sliceA, row, Int.reduceLT, Int.reduceLE, Int.reduceGT, Int.reduceGE, Int.reduceEq, Int.reduceNe, Int.reduceToNat, Int.reduceBEq, Int.reduceBNe, Nat.reduceLeDiff, Nat.reduceLT, Nat.reduceBNe, Nat.reduceGT, List.drop_nil, List.take_nil, Option.isSome_none, Int.ofNat_one, Int.ofNat_zero, hv.snap, hv.len, hfew, hfr, p1, hlp, hws, hki, hzr, Int.toNat_natCast, Int.natCast_nonneg, Nat.mul_one, c1, e1, e2, i0, l0, w0, q2, c2, hal, vW, wr]
      · have i2 := r1.gro.idx (i := 2) (by omega)
        have l2 := r1.gro.load (i := 2) (by omega)
        have h2 := walk_two hS (fun i hi => (hok i hi).2)
        rw [hlen] at h2
        rw [getD_wr (by omega), r3 _ (by omega), h2] at l2
        have hwi : wiN (l.map Int.toNat) ≤ 1000 := by
          have hs : ∀ (ks : List Nat), (∀ i ∈ ks, i < 7) → (ks.map fun i => wiR ((l.map Int.toNat).getD i 0) (List.range i)).sum ≤ 7 * ks.length := fun ks => by
            induction ks with
            | nil => intro _; simp
            | cons k ks ih =>
              intro hk
              have h1 := wiR_le ((l.map Int.toNat).getD k 0) (List.range k)
              have h2 := hk k List.mem_cons_self
              have h3 := ih fun i hi => hk i (List.mem_cons_of_mem _ hi)
              rw [List.length_range] at h1
              rw [List.map_cons, List.sum_cons, List.length_cons]
              omega
          have := hs (List.range (l.map Int.toNat).length) fun i hi => by have := List.mem_range.1 hi; omega
          rw [List.length_range] at this
          unfold wiN
          omega
        have w2 : IntKind.wrap .i64 (2 * (wiN (l.map Int.toNat) : Int)) = 2 * (wiN (l.map Int.toNat) : Int) := wrap_id (by omega) (by omega)
        have k3 := fun H => wires32 (Y := Y) (H := H) hF
        clear p2 hrw r1 r2 r3
        generalize hZ : List.map vI (List.replicate (l.length + 1) (0 : Int)) = Z at *
        simp only [vW, wr, SS, insA, wantedA, Opd.ev, putA, binA, eqbA, unA, fldA, partA, reduceIte, reduceCtorEq, Nat.reduceMod, Nat.reduceDiv, Nat.reduceBEq, resultA, resA, vI, Nat.reduceMul, Nat.reduceAdd, Nat.reduceSub, Nat.reduceEqDiff, Nat.reduceLT, Nat.reducePow, Nat.reduceLeDiff, st, Option.bind_eq_bind, Option.pure_def, List.length_nil, Int.cast_ofNat_Int, List.reverse_nil, Int.ofNat_zero, List.length_nil, List.nil_append, Int.ofNat_one] at e1 e2 hzr i0 l0 w0 i2 l2 w2
        simp only [F13B, F13T3, F13T2, in13_0, in13_2, SS, insA, wantedA, Opd.ev, putA, binA, eqbA, unA, fldA, partA, reduceIte, reduceCtorEq, Nat.reduceMod, Nat.reduceDiv, Nat.reduceBEq, resultA, resA, vI, Nat.reduceMul, Nat.reduceAdd, Nat.reduceSub, Nat.reduceEqDiff, Nat.reduceLT, Nat.reducePow, Nat.reduceLeDiff, st, Option.bind_eq_bind, Option.pure_def, List.length_nil, Int.cast_ofNat_Int, List.reverse_nil, UU, idxP, cellsAt, storeA, fillA, putAll, optNat, sliceA, row, Int.reduceLT, Int.reduceLE, Int.reduceGT, Int.reduceGE, Int.reduceEq, Int.reduceNe, Int.reduceToNat, Int.reduceBEq, Int.reduceBNe, Nat.reduceLeDiff, Nat.reduceLT, Nat.reduceBNe, Nat.reduceGT, List.drop_nil, List.take_nil, Option.isSome_none, Int.ofNat_one, Int.ofNat_zero, hv.snap, hv.len, hfew, hfr, p1, hlp, hws, hki, hzr, Int.toNat_natCast, Int.natCast_nonneg, Nat.mul_one, c1, e1, e2, i0, l0, w0, i2, l2, w2, k3, q2, c2, hal, vW, wr]
  · simp only [h40, decide_false] at hfew
    simp only [F13B, SS, insA, wantedA, Opd.ev, putA, binA, eqbA, unA, fldA, partA, reduceIte, reduceCtorEq, Nat.reduceMod, Nat.reduceDiv, Nat.reduceBEq, resultA, resA, vI, Nat.reduceMul, Nat.reduceAdd, Nat.reduceSub, Nat.reduceEqDiff, Nat.reduceLT, Nat.reducePow, Nat.reduceLeDiff, st, Option.bind_eq_bind, Option.pure_def, List.length_nil, Int.cast_ofNat_Int, List.reverse_nil, UU, idxP, cellsAt, storeA, fillA, zerosA, putAll, optNat, sliceA, row, Int.reduceLT, Int.reduceLE, Int.reduceGT, Int.reduceGE, Int.reduceEq, Int.reduceNe, Int.reduceToNat, Int.reduceBEq, Int.reduceBNe, Nat.reduceLeDiff, Nat.reduceLT, Nat.reduceBNe, Nat.reduceGT, List.drop_nil, List.take_nil, Option.isSome_none, Int.ofNat_one, Int.ofNat_zero, hv.snap, hfew, hal]
end
end Go.X
