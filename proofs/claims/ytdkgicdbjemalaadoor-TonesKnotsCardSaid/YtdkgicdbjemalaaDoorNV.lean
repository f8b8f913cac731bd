import Derived.Test.YtdkgicdbjemalaaDoorNU
/-! Tones: the law Knots. -/
set_option linter.unusedSimpArgs false
set_option linter.unusedVariables false
set_option maxHeartbeats 2000000
set_option maxRecDepth 10000
namespace Go.X
open Go Go.RowKit
section
variable {Y : Run}

theorem shifted40 {v : AV} {l : List Int} (hv : IsRow v l) (h1 : 1 ≤ l.length) (hl : l.length ≤ 1000) : ∃ w, (∀ H, freeX H (callL ET Y 40 [v] []) = some (w, H)) ∧ IsFree w (0 :: l) := by
  have ha : appA [(⟨0, [vI 0]⟩ : Ob)] 1 8 (.sl 0 0 1 0 1 none) v = some (.sl 0 1 1 0 (1 + l.length) none, [⟨1, [vI 0] ++ l.map vI⟩]) := by
    have hlen : lenA (.sl 0 0 1 0 1 none) = some 1 := rfl
    simp only [appA, hlen, hv.len, hv.content]
    rw [if_neg (by omega), if_pos ⟨by omega, by omega, ones_all _⟩]
    simp
  have hR : Rv [⟨1, [vI 0] ++ l.map vI⟩] (.sl 0 1 1 0 (1 + l.length) none) 0 1 (0 :: l) := ⟨by simp [Nat.add_comm], by simp⟩
  have hfr : freeA [⟨1, [vI 0] ++ l.map vI⟩] 6 (.sl 0 1 1 0 (1 + l.length) none) = _ := hR.free (n := 4)
  have hc : callL ET Y 40 [v] [] = some (.sl 0 1 1 0 (1 + l.length) none, [⟨1, [vI 0] ++ l.map vI⟩]) := by
    rw [call40 rfl]
    simp only [F40B, SS, insA, wantedA, Opd.ev, putA, binA, eqbA, unA, fldA, partA, reduceIte, reduceCtorEq, Nat.reduceMod, Nat.reduceDiv, Nat.reduceBEq, resultA, resA, vI, Nat.reduceMul, Nat.reduceAdd, Nat.reduceSub, Nat.reduceEqDiff, Nat.reduceLT, Nat.reducePow, Nat.reduceLeDiff, st, Option.bind_eq_bind, Option.pure_def, List.length_nil, Int.cast_ofNat_Int, List.reverse_nil, UU, idxP, cellsAt, storeA, fillA, zerosA, putAll, optNat, sliceA, row, Int.reduceLT, Int.reduceLE, Int.reduceGT, Int.reduceGE, Int.reduceEq, Int.reduceNe, Int.reduceToNat, Int.reduceBEq, Int.reduceBNe, Nat.reduceLeDiff, Nat.reduceLT, Nat.reduceBNe, Nat.reduceGT, List.drop_nil, List.take_nil, Option.isSome_none, Int.ofNat_one, Int.ofNat_zero, ha, endX]
  exact ⟨_, fun H => by rw [hc, freeX_some, hfr]; rfl, .inr rfl⟩

/-- What has been taken off, so far. -/
def knS (f : List Nat) (a : Nat) (ks : List Nat) (j : Nat) : Int := mE f (dl (full f.length) (2 ^ a)) j + sumZ ks (fun k => if a = k then 0 else if (f.getD a 0).testBit k = true then -1 * sft 2 (mE f (dl (full f.length) (2 ^ a ||| 2 ^ k))) j else 0)

theorem kn_first {f : List Nat} (hf : frameB (f.map fun n : Nat => (n : Int)) = true) {a : Nat} (ha : a < f.length) : 0 :: restL f (2 ^ a) = nL f.length (fun j => knS f a [] (f.length - j)) := by
  obtain ⟨n1, n7, hok, hS⟩ := frame_iff.1 hf
  obtain ⟨hk1, hk2⟩ := kept_two n7 ha ha
  have eo : 2 ^ a ||| 2 ^ a = 2 ^ a := Nat.or_self _
  rw [if_pos rfl, eo] at hk1
  refine ext_getD (by rw [List.length_cons, rest_len hf, ls_len, hk1, nL_len]; omega) fun j hj => ?_
  rw [List.length_cons, rest_len hf, ls_len, hk1] at hj
  rw [nL_get (by omega)]
  unfold knS
  simp only [sumZ, Int.add_zero]
  cases j with
  | zero =>
    have := less_zero n7 ha ha (j := f.length) (by rw [eo, hk1]; omega)
    rw [eo] at this
    rw [Nat.sub_zero, this]
    show (0 : Int) = wr 0
    decide
  | succ j =>
    rw [List.getD_cons_succ]
    have := rest_get hf ha ha j
    rw [eo, hk1, if_pos (by omega)] at this
    rw [this, show f.length - 1 - j = f.length - (j + 1) by omega]

theorem sumZ_snoc (g : Nat → Int) (l : List Nat) (k : Nat) : sumZ (l ++ [k]) g = sumZ l g + g k := by rw [sumZ_app]; simp [sumZ]

theorem kn_next {f : List Nat} (hf : frameB (f.map fun n : Nat => (n : Int)) = true) {a k : Nat} (ha : a < f.length) (hk : k < f.length) (hb : (f.getD a 0).testBit k = true) (ks : List Nat) :
    (mnK (f.length + 1) (nL f.length (fun j => knS f a ks (f.length - j))) (restL f (2 ^ a ||| 2 ^ k)) (f.length + 1)).map wr = nL f.length (fun j => knS f a (ks ++ [k]) (f.length - j)) := by
  obtain ⟨n1, n7, hok, hS⟩ := frame_iff.1 hf
  have hne : a ≠ k := fun e => by rw [← e, (hok a ha).2] at hb; cases hb
  obtain ⟨hk1, hk2⟩ := kept_two n7 ha hk
  rw [if_neg hne] at hk1
  have gm : ∀ (q : List Int) (j : Nat), j < q.length → (q.map wr).getD j 0 = wr (q.getD j 0) := fun q j hj => by simp [List.getD_eq_getElem?_getD, hj]
  refine ext_getD (by simp [mnK, nL_len]) fun j hj => ?_
  have hj : j < f.length + 1 := by simpa [mnK] using hj
  rw [gm _ _ (by simp [mnK]; exact hj), nL_get (by omega)]
  have e1 : (mnK (f.length + 1) (nL f.length (fun j => knS f a ks (f.length - j))) (restL f (2 ^ a ||| 2 ^ k)) (f.length + 1)).getD j 0 = (nL f.length (fun j => knS f a ks (f.length - j))).getD j 0 - (restL f (2 ^ a ||| 2 ^ k)).getD j 0 := by
    unfold mnK
    rw [getD_get (by simpa using hj), List.getElem_map, List.getElem_range, if_pos hj]
  rw [e1, nL_get (by omega), rest_get hf ha hk, hk1]
  unfold knS
  rw [sumZ_snoc, if_neg hne, if_pos hb]
  unfold sft
  by_cases c : j ≤ f.length - 2 ∧ 2 ≤ f.length - j
  · rw [if_pos c.2, if_pos c.1, wr_sub, show f.length - j - 2 = f.length - 2 - j by omega]
    congr 1
    omega
  · have h2 : 2 ≤ f.length := by omega
    rw [if_neg (by omega), if_neg (by omega), Int.mul_zero, Int.add_zero, Int.sub_zero, wr_wr]

theorem kn_skip {f : List Nat} {a k : Nat} (hb : (f.getD a 0).testBit k = false) (ks : List Nat) (j : Nat) : knS f a (ks ++ [k]) j = knS f a ks j := by
  unfold knS
  rw [sumZ_snoc, hb]
  split <;> simp

theorem kn_all {f : List Nat} (hf : frameB (f.map fun n : Nat => (n : Int)) = true) {a : Nat} (ha : a < f.length) : nL f.length (fun j => knS f a (List.range f.length) (f.length - j)) = (polyL f (-1) 0).map wr := by
  obtain ⟨n1, n7, hok, hS⟩ := frame_iff.1 hf
  refine ext_getD (by rw [nL_len, List.length_map, polyL_len]) fun j hj => ?_
  rw [nL_len] at hj
  have gm : ∀ (q : List Int) (j : Nat), j < q.length → (q.map wr).getD j 0 = wr (q.getD j 0) := fun q j hj => by simp [List.getD_eq_getElem?_getD, hj]
  rw [nL_get (by omega), gm _ _ (by rw [polyL_len]; exact hj), poly_mE hS n7 (by omega), knot_mE hS n7 ha]
  rfl

theorem L10 {fr v6 : AV} {f : List Nat} {a : Nat} (hF : Fr fr f) (hf : frameB (f.map fun n : Nat => (n : Int)) = true) (ha : a < f.length) (d : Nat) : ∀ {H : Heap} {u : AV} (k : Nat), k + d = f.length → IsFree u (nL f.length (fun j => knS f a (List.range k) (f.length - j))) →
    ∃ u', lp ET Y F10L0 (sp 121 [(13, vI k), (12, u), (6, v6), (5, vI a), (0, fr)]) H = some (.x 0, sp 121 [(12, u'), (6, v6)], H) ∧ IsFree u' (nL f.length (fun j => knS f a (List.range f.length) (f.length - j))) := by
  have hn7 := hF.n7
  have hflen := hF.hv.len
  rw [List.length_map] at hflen
  have h128 := hF.p7
  induction d with
  | zero =>
    intro H u k hk h
    have e : k = f.length := by omega
    rw [e] at h
    refine ⟨u, ?_, h⟩
    rw [un10_0]
    have : ¬ ((k : Int) < (f.length : Int)) := by omega
    simp only [F10L0b, SS, insA, wantedA, Opd.ev, putA, binA, eqbA, unA, fldA, partA, reduceIte, reduceCtorEq, Nat.reduceMod, Nat.reduceDiv, Nat.reduceBEq, resultA, resA, vI, Nat.reduceMul, Nat.reduceAdd, Nat.reduceSub, Nat.reduceEqDiff, Nat.reduceLT, Nat.reducePow, Nat.reduceLeDiff, st, Option.bind_eq_bind, Option.pure_def, List.length_nil, Int.cast_ofNat_Int, List.reverse_nil, UU, idxP, cellsAt, storeA, fillA, zerosA, putAll, optNat, sliceA, row, Int.reduceLT, Int.reduceLE, Int.reduceGT, Int.reduceGE, Int.reduceEq, Int.reduceNe, Int.reduceToNat, Int.reduceBEq, Int.reduceBNe, Nat.reduceLeDiff, Nat.reduceLT, Nat.reduceBNe, Nat.reduceGT, List.drop_nil, List.take_nil, Option.isSome_none, Int.ofNat_one, Int.ofNat_zero, hflen, this]
  | succ d ih =>
    intro H u k hk h
    have hk1 : k < f.length := by omega
    have hc : (k : Int) < (f.length : Int) := by omega
    have hw := wrap_succ (n := k) (by omega)
    have hip := hF.hv.idx (i := a) (by simpa using ha)
    have hlp := fun H => hF.hv.load (H := H) (i := a) (by simpa using ha)
    rw [getD_nat ha] at hlp
    have hp2 : (0 : Int) ≤ (k : Int) := by omega
    have hp1 : (0 : Int) ≤ (a : Int) := by omega
    have hs2 := shr_eq (k := k) (by omega)
    have h20 : (2 : Int) ≠ 0 := by decide
    have ht := tmod_emod (sh_nonneg (x := ((f.getD a 0 : Nat) : Int)) (by omega) k)
    have q0 := sh_beq (f.getD a 0) k
    rw [un10_0]
    cases hb : (f.getD a 0).testBit k with
    | false =>
      rw [hb] at q0
      have e : (fun j => knS f a (List.range k) (f.length - j)) = (fun j => knS f a (List.range (k + 1)) (f.length - j)) := by
        funext j; rw [List.range_succ, kn_skip hb]
      rw [e] at h
      obtain ⟨u', e1, r1⟩ := ih (H := H) (k + 1) (by omega) h
      refine ⟨u', ?_, r1⟩
      simp only [SS, insA, wantedA, Opd.ev, putA, binA, eqbA, unA, fldA, partA, reduceIte, reduceCtorEq, Nat.reduceMod, Nat.reduceDiv, Nat.reduceBEq, resultA, resA, vI, Nat.reduceMul, Nat.reduceAdd, Nat.reduceSub, Nat.reduceEqDiff, Nat.reduceLT, Nat.reducePow, Nat.reduceLeDiff, st, Option.bind_eq_bind, Option.pure_def, List.length_nil, Int.cast_ofNat_Int, List.reverse_nil] at e1
      simp only [F10L0b, SS, insA, wantedA, Opd.ev, putA, binA, eqbA, unA, fldA, partA, reduceIte, reduceCtorEq, Nat.reduceMod, Nat.reduceDiv, Nat.reduceBEq, resultA, resA, vI, Nat.reduceMul, Nat.reduceAdd, Nat.reduceSub, Nat.reduceEqDiff, Nat.reduceLT, Nat.reducePow, Nat.reduceLeDiff, st, Option.bind_eq_bind, Option.pure_def, List.length_nil, Int.cast_ofNat_Int, List.reverse_nil, UU, idxP, cellsAt, storeA, fillA, zerosA, putAll, optNat, sliceA, row, Int.reduceLT, Int.reduceLE, Int.reduceGT, Int.reduceGE, Int.reduceEq, Int.reduceNe, Int.reduceToNat, Int.reduceBEq, Int.reduceBNe, Nat.reduceLeDiff, Nat.reduceLT, Nat.reduceBNe, Nat.reduceGT, List.drop_nil, List.take_nil, Option.isSome_none, Int.ofNat_one, Int.ofNat_zero, hflen, hc, hw, hip, hlp, hp2, hs2, h20, ht, q0, e1, ne_eq, not_false_eq_true, and_self]
    | true =>
      rw [hb] at q0
      have hpa := pow_lt (show a < 7 by omega)
      have hpb := pow_lt (show k < 7 by omega)
      have hor : bitsA .or .i64 ((2 ^ a : Nat) : Int) ((2 ^ k : Nat) : Int) = some (vI ((2 ^ a ||| 2 ^ k : Nat) : Int)) := (nat_bits (by omega) (by omega)).2.1
      obtain ⟨t3, p5, p6⟩ := rest33 (Y := Y) (set := 2 ^ a ||| 2 ^ k) hF hf (Nat.or_lt_two_pow (n := 7) hpa hpb)
      obtain ⟨t4, p7, p8⟩ := minus34 (Y := Y) (n := f.length + 1) h.row p6.row (by omega)
      rw [kn_next hf ha hk1 hb, ← List.range_succ] at p8
      obtain ⟨u', e1, r1⟩ := ih (H := H) (k + 1) (by omega) p8
      refine ⟨u', ?_, r1⟩
      have hs3 := shl_eq (k := a) (by omega)
      have hs4 := shl_eq (k := k) (by omega)
      have hws : IntKind.wrap .i64 ((f.length : Int) + 1) = ((f.length + 1 : Nat) : Int) := wrap_succ (by omega)
      have n1 := fun H n => h.row.snap (H := H) (n := n)
      have n2 := fun H n => p6.row.snap (H := H) (n := n)
      generalize 2 ^ a ||| 2 ^ k = ab at *
      simp only [SS, insA, wantedA, Opd.ev, putA, binA, eqbA, unA, fldA, partA, reduceIte, reduceCtorEq, Nat.reduceMod, Nat.reduceDiv, Nat.reduceBEq, resultA, resA, vI, Nat.reduceMul, Nat.reduceAdd, Nat.reduceSub, Nat.reduceEqDiff, Nat.reduceLT, Nat.reducePow, Nat.reduceLeDiff, st, Option.bind_eq_bind, Option.pure_def, List.length_nil, Int.cast_ofNat_Int, List.reverse_nil] at e1
      simp only [F10L0b, SS, insA, wantedA, Opd.ev, putA, binA, eqbA, unA, fldA, partA, reduceIte, reduceCtorEq, Nat.reduceMod, Nat.reduceDiv, Nat.reduceBEq, resultA, resA, vI, Nat.reduceMul, Nat.reduceAdd, Nat.reduceSub, Nat.reduceEqDiff, Nat.reduceLT, Nat.reducePow, Nat.reduceLeDiff, st, Option.bind_eq_bind, Option.pure_def, List.length_nil, Int.cast_ofNat_Int, List.reverse_nil, UU, idxP, cellsAt, storeA, fillA, zerosA, putAll, optNat, sliceA, row, Int.reduceLT, Int.reduceLE, Int.reduceGT, Int.reduceGE, Int.reduceEq, Int.reduceNe, Int.reduceToNat, Int.reduceBEq, Int.reduceBNe, Nat.reduceLeDiff, Nat.reduceLT, Nat.reduceBNe, Nat.reduceGT, List.drop_nil, List.take_nil, Option.isSome_none, Int.ofNat_one, Int.ofNat_zero, hF.hv.snap, hflen, hc, hw, hip, hlp, hp1, hp2, hs2, hs3, hs4, h20, ht, q0, hor, p5, p7, hws, n1, n2, e1, ne_eq, not_false_eq_true, and_self]

theorem law10 (hY : ∀ args H, Y 97 args H = yA 97 args H) {v : AV} {l : List Int} (hv : IsRow v l) {x : Int} (hx : 0 ≤ x ∧ x < 256) : freeX [] (callL ET Y 10 [v, .int .u8 x] []) = some (.bool true, []) := by
  have hal := fun H => alive17 (Y := Y) (H := H) hY
  have hfew := fun H => few16 (Y := Y) (H := H) hv .nil
  simp only [List.length_nil, show (0 : Nat) ≤ 40 from by decide, decide_true, Bool.and_true] at hfew
  rw [call10 rfl]
  by_cases h40 : l.length ≤ 40
  · simp only [h40, decide_true] at hfew
    have hfr := fun H => frame20 (Y := Y) (H := H) hv (by omega)
    cases hf : frameB l with
    | false =>
      rw [hf] at hfr
      simp only [F10B, SS, insA, wantedA, Opd.ev, putA, binA, eqbA, unA, fldA, partA, reduceIte, reduceCtorEq, Nat.reduceMod, Nat.reduceDiv, Nat.reduceBEq, resultA, resA, vI, Nat.reduceMul, Nat.reduceAdd, Nat.reduceSub, Nat.reduceEqDiff, Nat.reduceLT, Nat.reducePow, Nat.reduceLeDiff, st, Option.bind_eq_bind, Option.pure_def, List.length_nil, Int.cast_ofNat_Int, List.reverse_nil, UU, idxP, cellsAt, storeA, fillA, zerosA, putAll, optNat, sliceA, row, Int.reduceLT, Int.reduceLE, Int.reduceGT, Int.reduceGE, Int.reduceEq, Int.reduceNe, Int.reduceToNat, Int.reduceBEq, Int.reduceBNe, Nat.reduceLeDiff, Nat.reduceLT, Nat.reduceBNe, Nat.reduceGT, List.drop_nil, List.take_nil, Option.isSome_none, Int.ofNat_one, Int.ofNat_zero, hv.snap, hfew, hfr, hal]
    | true =>
      rw [hf] at hfr
      have hn := frame_n hf
      obtain ⟨hF, he⟩ := Fr.of hv hf
      have hf2 := hf
      rw [he] at hf2
      have hlen : (l.map Int.toNat).length = l.length := by simp
      have hcx : IntKind.wrap .i64 x = x := wrap_id (by omega) (by omega)
      have hz : (l.length : Int) ≠ 0 := by omega
      have hmx := u8_mod hx l.length
      have hA : x.toNat % l.length < l.length := Nat.mod_lt _ (by omega)
      generalize x.toNat % l.length = A at *
      have hpa := pow_lt (show A < 7 by omega)
      have hp1 : (0 : Int) ≤ (A : Int) := by omega
      have hs3 := shl_eq (k := A) (by omega)
      obtain ⟨t1, p1, p2⟩ := match23 (Y := Y) hv (by omega)
      rw [if_pos hf] at p1 p2
      rw [poly_trim] at p2
      obtain ⟨t2, p3, p4⟩ := rest33 (Y := Y) (set := 2 ^ A) hF hf2 hpa
      obtain ⟨t3, p5, p6⟩ := without38 (Y := Y) hv (by omega) (A : Int)
      have hwit : witR l (A : Int) = if l.length = 1 then ([], 9) else ((lsF (l.map Int.toNat) (2 ^ A)).map (fun n : Nat => (n : Int)), 0) := by
        unfold witR
        rw [if_pos ⟨hf, by omega, by omega⟩, Int.toNat_natCast]
      rw [hwit] at p5 p6
      clear hwit
      obtain ⟨t4, p7, p8⟩ := less39 (Y := Y) (set := 2 ^ A) hF hpa
      obtain ⟨t5, p9, p10⟩ := shifted40 (Y := Y) p4.row (by rw [rest_len hf2]; omega) (by rw [rest_len hf2, ls_len]; have := kept_le (l.map Int.toNat).length (2 ^ A); omega)
      rw [kn_first hf2 (by omega)] at p10
      obtain ⟨t6, r1, r2⟩ := L10 (Y := Y) (v6 := t1) (H := []) hF hf2 (by omega : A < (l.map Int.toNat).length) (l.map Int.toNat).length 0 (by omega) p10
      rw [kn_all hf2 (by omega)] at r2
      have s1 := fun H => same29 (Y := Y) (H := H) p2.row r2.row (by rw [List.length_map, polyL_len, hlen]; omega)
      simp only [decide_true] at s1
      have n1 := fun H n => p2.row.snap (H := H) (n := n)
      have n2 := fun H n => p4.row.snap (H := H) (n := n)
      have n6 := fun H n => r2.row.snap (H := H) (n := n)
      clear p2 p4 p10 r2
      simp only [SS, insA, wantedA, Opd.ev, putA, binA, eqbA, unA, fldA, partA, reduceIte, reduceCtorEq, Nat.reduceMod, Nat.reduceDiv, Nat.reduceBEq, resultA, resA, vI, Nat.reduceMul, Nat.reduceAdd, Nat.reduceSub, Nat.reduceEqDiff, Nat.reduceLT, Nat.reducePow, Nat.reduceLeDiff, st, Option.bind_eq_bind, Option.pure_def, List.length_nil, Int.cast_ofNat_Int, List.reverse_nil, Int.ofNat_zero] at r1
      by_cases c1 : l.length = 1
      · rw [if_pos c1] at p5 p6
        have d1 : ((l.length : Int) == 1) = true := by rw [c1]; rfl
        have d2 : ¬ ((l.length : Int) > 1) := by omega
        have n3 := fun H n => p6.row.snap (H := H) (n := n)
        simp only [F10B, F10T0, in10_0, SS, insA, wantedA, Opd.ev, putA, binA, eqbA, unA, fldA, partA, reduceIte, reduceCtorEq, Nat.reduceMod, Nat.reduceDiv, Nat.reduceBEq, resultA, resA, vI, Nat.reduceMul, Nat.reduceAdd, Nat.reduceSub, Nat.reduceEqDiff, Nat.reduceLT, Nat.reducePow, Nat.reduceLeDiff, st, Option.bind_eq_bind, Option.pure_def, List.length_nil, Int.cast_ofNat_Int, List.reverse_nil, UU, idxP, cellsAt, storeA, fillA, zerosA, putAll, optNat, sliceA, row, Int.reduceLT, Int.reduceLE, Int.reduceGT, Int.reduceGE, Int.reduceEq, Int.reduceNe, Int.reduceToNat, Int.reduceBEq, Int.reduceBNe, Nat.reduceLeDiff, Nat.reduceLT, Nat.reduceBNe, Nat.reduceGT, List.drop_nil, List.take_nil, Option.isSome_none, Int.ofNat_one, Int.ofNat_zero, hv.snap, hfew, hfr, hv.len, hcx, hz, hmx, hp1, hs3, p1, p3, p5, p9, n1, n2, n3, n6, d1, d2, r1, s1, hal, ne_eq, not_false_eq_true, and_self]
      · rw [if_neg c1] at p5 p6
        have d1 : ((l.length : Int) == 1) = false := by simp; omega
        have d2 : ((l.length : Int) > 1) := by omega
        have n3 := fun H n => p6.row.snap (H := H) (n := n)
        have n4 := fun H n => p8.row.snap (H := H) (n := n)
        have s2 := fun H => same29 (Y := Y) (H := H) p6.row p8.row (by rw [List.length_map, ls_len]; have := kept_le (l.map Int.toNat).length (2 ^ A); omega)
        simp only [decide_true] at s2
        simp only [F10B, F10T0, in10_0, SS, insA, wantedA, Opd.ev, putA, binA, eqbA, unA, fldA, partA, reduceIte, reduceCtorEq, Nat.reduceMod, Nat.reduceDiv, Nat.reduceBEq, resultA, resA, vI, Nat.reduceMul, Nat.reduceAdd, Nat.reduceSub, Nat.reduceEqDiff, Nat.reduceLT, Nat.reducePow, Nat.reduceLeDiff, st, Option.bind_eq_bind, Option.pure_def, List.length_nil, Int.cast_ofNat_Int, List.reverse_nil, UU, idxP, cellsAt, storeA, fillA, zerosA, putAll, optNat, sliceA, row, Int.reduceLT, Int.reduceLE, Int.reduceGT, Int.reduceGE, Int.reduceEq, Int.reduceNe, Int.reduceToNat, Int.reduceBEq, Int.reduceBNe, Nat.reduceLeDiff, Nat.reduceLT, Nat.reduceBNe, Nat.reduceGT, List.drop_nil, List.take_nil, Option.isSome_none, Int.ofNat_one, Int.ofNat_zero, hv.snap, hfew, hfr, hv.len, hcx, hz, hmx, hp1, hs3, p1, p3, p5, p7, p9, n1, n2, n3, n4, n6, d1, d2, r1, s1, s2, hal, ne_eq, not_false_eq_true, and_self]
  · simp only [h40, decide_false] at hfew
    simp only [F10B, SS, insA, wantedA, Opd.ev, putA, binA, eqbA, unA, fldA, partA, reduceIte, reduceCtorEq, Nat.reduceMod, Nat.reduceDiv, Nat.reduceBEq, resultA, resA, vI, Nat.reduceMul, Nat.reduceAdd, Nat.reduceSub, Nat.reduceEqDiff, Nat.reduceLT, Nat.reducePow, Nat.reduceLeDiff, st, Option.bind_eq_bind, Option.pure_def, List.length_nil, Int.cast_ofNat_Int, List.reverse_nil, UU, idxP, cellsAt, storeA, fillA, zerosA, putAll, optNat, sliceA, row, Int.reduceLT, Int.reduceLE, Int.reduceGT, Int.reduceGE, Int.reduceEq, Int.reduceNe, Int.reduceToNat, Int.reduceBEq, Int.reduceBNe, Nat.reduceLeDiff, Nat.reduceLT, Nat.reduceBNe, Nat.reduceGT, List.drop_nil, List.take_nil, Option.isSome_none, Int.ofNat_one, Int.ofNat_zero, hv.snap, hfew, hal]
end
end Go.X
