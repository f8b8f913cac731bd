import Derived.Test.YtdkgicdbjemalaaDoorMK
/-! Tones: polynomials of frames. -/
set_option linter.unusedSimpArgs false
set_option linter.unusedVariables false
set_option maxHeartbeats 2000000
set_option maxRecDepth 10000
namespace Go.X
open Go Go.RowKit

/-- A frame as it comes in. -/
structure Fr (fr : AV) (f : List Nat) : Prop where
  hv : IsRow fr (f.map fun n : Nat => (n : Int))
  n1 : 1 ≤ f.length
  n7 : f.length ≤ 7
  fb : ∀ j, f.getD j 0 < 2 ^ f.length

theorem Fr.p7 {fr : AV} {f : List Nat} (h : Fr fr f) : 2 ^ f.length ≤ 128 := by
  have : (2 : Nat) ^ f.length ≤ 2 ^ 7 := Nat.pow_le_pow_right (by decide) h.n7
  omega

theorem Fr.of {v : AV} {l : List Int} (hv : IsRow v l) (h : frameB l = true) : Fr v (l.map Int.toNat) ∧ l = (l.map Int.toNat).map (fun n : Nat => (n : Int)) := by
  unfold frameB at h
  simp only [Bool.and_eq_true, decide_eq_true_eq] at h
  obtain ⟨⟨⟨h1, h2⟩, h3⟩, h4⟩ := h
  have hok : ∀ j, j < l.length → 0 ≤ l.getD j 0 ∧ l.getD j 0 < ((2 ^ l.length : Nat) : Int) := fun j hj => by
    have := List.all_eq_true.1 h3 j (List.mem_range.2 hj)
    simp only [okE, Bool.and_eq_true, decide_eq_true_eq] at this
    exact this.1
  have he : l = (l.map Int.toNat).map (fun n : Nat => (n : Int)) := by
    apply List.ext_getElem
    · simp
    · intro j h1 h2
      have := (hok j h1).1
      rw [getD_get h1] at this
      simp; omega
  refine ⟨⟨he ▸ hv, by simpa using h1, by simpa using h2, fun j => ?_⟩, he⟩
  rw [List.length_map]
  rcases Nat.lt_or_ge j l.length with hj | hj
  · have := hok j hj
    rw [getD_get hj] at this
    rw [getD_get (by simpa using hj), List.getElem_map]
    omega
  · rw [List.getD_eq_getElem?_getD, List.getElem?_eq_none (by simpa using hj)]
    exact Nat.pow_pos (by decide)

/-- A list that shares nothing. -/
def IsFree (w : AV) (l : List Int) : Prop := (w = .nils ∧ l = []) ∨ w = .imm false (l.map vI) l.length

section
variable {Y : Run} {H : Heap}

theorem IsFree.row {w : AV} {l : List Int} (h : IsFree w l) : IsRow w l := by
  rcases h with ⟨rfl, rfl⟩ | rfl
  · exact .nil
  · exact .imm false l
theorem IsFree.free {w : AV} {l : List Int} (h : IsFree w l) {n : Nat} : freeA H (n + 1) w = some w := by
  rcases h with ⟨rfl, rfl⟩ | rfl <;> rfl
theorem IsFree.slice {w : AV} {l : List Int} (h : IsFree w l) {j : Nat} (hj : j ≤ l.length) : ∃ u, sliceA 1 w none (some (.int .i64 (j : Int))) none = some u ∧ IsFree u (l.take j) := by
  rcases h with ⟨rfl, rfl⟩ | rfl
  · have : j = 0 := by simpa using hj
    subst this
    exact ⟨.nils, rfl, .inl ⟨rfl, rfl⟩⟩
  · refine ⟨.imm false ((l.map vI).take j) j, ?_, .inr ?_⟩
    · simp [sliceA, optNat, natOf, hj]
    · rw [List.map_take]
      simp [Nat.min_eq_left hj]

theorem all69 {fr : AV} {f : List Nat} (h : Fr fr f) : freeX H (callL ET Y 69 [fr] []) = some (vI ((2 ^ f.length - 1 : Nat) : Int), H) := by
  rw [call69 rfl]
  have hlen := h.hv.len
  rw [List.length_map] at hlen
  have hs := shl_eq (k := f.length) (by have := h.n7; omega)
  have hp : (0 : Int) ≤ (f.length : Int) := by omega
  have h2 : 1 ≤ 2 ^ f.length := Nat.pow_pos (by decide)
  have h3 := h.p7
  have hw : IntKind.wrap .i64 (((2 ^ f.length : Nat) : Int) - 1) = ((2 ^ f.length - 1 : Nat) : Int) := by
    generalize 2 ^ f.length = b at h2 h3
    rw [wrap_id (by omega) (by omega)]; omega
  simp only [F69B, SS, insA, wantedA, Opd.ev, putA, binA, eqbA, unA, fldA, partA, reduceIte, reduceCtorEq, Nat.reduceMod, Nat.reduceDiv, Nat.reduceBEq, resultA, resA, vI, Nat.reduceMul, Nat.reduceAdd, Nat.reduceSub, Nat.reduceEqDiff, Nat.reduceLT, Nat.reducePow, Nat.reduceLeDiff, st, Option.bind_eq_bind, Option.pure_def, List.length_nil, Int.cast_ofNat_Int, List.reverse_nil, UU, idxP, cellsAt, storeA, fillA, zerosA, putAll, optNat, sliceA, row, Int.reduceLT, Int.reduceLE, Int.reduceGT, Int.reduceGE, Int.reduceEq, Int.reduceNe, Int.reduceToNat, Int.reduceBEq, Int.reduceBNe, Nat.reduceLeDiff, Nat.reduceLT, Nat.reduceBNe, Nat.reduceGT, List.drop_nil, List.take_nil, Option.isSome_none, Int.ofNat_one, Int.ofNat_zero, hlen, hp, hs, hw]

/-- The polynomial's numbers: the sum over figures with k knots stands at n - k. -/
def ofL (n : Nat) (ov : List Int) : List Int := (List.range (n + 1)).map fun j => ov.getD (n - j) 0
/-- .. of which the first m have been laid. -/
def ofK (n : Nat) (ov : List Int) (m : Nat) : List Int := (List.range (n + 1)).map fun j => if n - j < m then wr (ov.getD (n - j) 0) else 0

theorem ofK_zero (n : Nat) (ov : List Int) : ofK n ov 0 = List.replicate (n + 1) 0 := by
  unfold ofK
  apply List.ext_getElem
  · simp
  · intro j h1 h2; simp
theorem ofK_succ {n : Nat} {ov : List Int} {m : Nat} (h : m ≤ n) : (ofK n ov m).set (n - m) (wr (ov.getD m 0)) = ofK n ov (m + 1) := by
  unfold ofK
  apply List.ext_getElem
  · simp
  · intro j h1 h2
    have hj : j < n + 1 := by simpa using h2
    rw [List.getElem_set]
    simp only [List.getElem_map, List.getElem_range]
    by_cases e : n - m = j
    · rw [if_pos e, if_pos (by omega), show n - j = m by omega]
    · rw [if_neg e]
      by_cases c : n - j < m
      · rw [if_pos c, if_pos (by omega)]
      · rw [if_neg c, if_neg (by omega)]
theorem ofK_all {n : Nat} {ov : List Int} (h : ov.length ≤ n + 1) : ofK n ov ov.length = (ofL n ov).map wr := by
  unfold ofK ofL
  rw [List.map_map]
  apply List.map_congr_left
  intro j hj
  simp only [Function.comp]
  split
  · rfl
  · rename_i hc
    rw [List.getD_eq_getElem?_getD, List.getElem?_eq_none (by omega)]
    simp [wr, IntKind.wrap_i64]

theorem L54 {fr : AV} {n : Nat} {o5 q vq : Nat} {ov : List Int} (hfr : lenA fr = some n) (hn : n ≤ 7) (hov : ov.length ≤ n + 1) (hq : q ≠ o5) (d : Nat) : ∀ {H : Heap} (k : Nat), k + d = ov.length → H[o5]? = some ⟨0, (ofK n ov k).map vI⟩ → H[q]? = some ⟨vq, ov.map vW⟩ →
    ∃ H', lp ET Y F54L0 (sp 36 [(18, vI k), (17, vI ov.length), (16, .sl q vq 1 0 ov.length none), (5, .sl o5 0 1 0 (n + 1) none), (4, .ptr 1 0 0), (0, fr)]) H = some (.x 0, sp 36 [(5, .sl o5 0 1 0 (n + 1) none), (4, .ptr 1 0 0), (0, fr)], H') ∧
      H'[o5]? = some ⟨0, (ofK n ov ov.length).map vI⟩ ∧ (∀ i, i ≠ o5 → H'[i]? = H[i]?) := by
  generalize h16 : AV.sl q vq 1 0 ov.length none = v16
  generalize h5 : AV.sl o5 0 1 0 (n + 1) none = v5
  induction d with
  | zero =>
    intro H k hk h1 h2
    refine ⟨H, ?_, by rw [show ov.length = k by omega]; exact h1, fun _ _ => rfl⟩
    rw [un54_0]
    have : ¬ ((k : Int) < (ov.length : Int)) := by omega
    simp only [F54L0b, SS, insA, wantedA, Opd.ev, putA, binA, eqbA, unA, fldA, partA, reduceIte, reduceCtorEq, Nat.reduceMod, Nat.reduceDiv, Nat.reduceBEq, resultA, resA, vI, Nat.reduceMul, Nat.reduceAdd, Nat.reduceSub, Nat.reduceEqDiff, Nat.reduceLT, Nat.reducePow, Nat.reduceLeDiff, st, Option.bind_eq_bind, Option.pure_def, List.length_nil, Int.cast_ofNat_Int, List.reverse_nil, UU, idxP, cellsAt, fillA, zerosA, putAll, row, Int.reduceLT, Int.reduceLE, Int.reduceGT, Int.reduceGE, Int.reduceEq, Int.reduceNe, Int.reduceToNat, Int.reduceBEq, Int.reduceBNe, Nat.reduceLeDiff, Nat.reduceLT, Nat.reduceBNe, Nat.reduceGT, List.drop_nil, List.take_nil, Option.isSome_none, Int.ofNat_one, Int.ofNat_zero, this]
  | succ d ih =>
    intro H k hk h1 h2
    have hlt : k < ov.length := by omega
    have hc : (k : Int) < (ov.length : Int) := by omega
    have hw := wrap_succ (n := k) (by omega)
    have hsub : IntKind.wrap .i64 ((n : Int) - (k : Int)) = ((n - k : Nat) : Int) := by rw [wrap_id (by omega) (by omega)]; omega
    have G16 : Gro 0 1 H v16 ov.length ((ov.map wr).map vI) := ⟨by simp, .inr ⟨q, vq, Nat.zero_le _, h16.symm, by rw [h2, map_vW]⟩⟩
    have hld := G16.load hlt
    rw [getD_wr hlt] at hld
    have G5 : Gro 0 1 H v5 (n + 1) ((ofK n ov k).map vI) := ⟨by simp [ofK], .inr ⟨o5, 0, Nat.zero_le _, h5.symm, h1⟩⟩
    obtain ⟨id, ver, e1, e2, e3, e4⟩ := G5.store (i := n - k) (x := wr (ov.getD k 0)) (by omega)
    have hid : id = o5 := by rw [← h5] at e1; cases e1; rfl
    subst hid
    rw [h1] at e2; cases e2
    rw [ofK_succ (by omega)] at e3
    obtain ⟨H', e5, h3, h4⟩ := ih (k + 1) (by omega) (by rw [List.getElem?_set_self (hlt_of h1)]) (by rw [List.getElem?_set_ne (Ne.symm hq)]; exact h2)
    refine ⟨H', ?_, h3, fun i hi => (h4 i hi).trans (List.getElem?_set_ne (Ne.symm hi))⟩
    rw [un54_0]
    simp only [vW, wr, SS, insA, wantedA, Opd.ev, putA, binA, eqbA, unA, fldA, partA, reduceIte, reduceCtorEq, Nat.reduceMod, Nat.reduceDiv, Nat.reduceBEq, resultA, resA, vI, Nat.reduceMul, Nat.reduceAdd, Nat.reduceSub, Nat.reduceEqDiff, Nat.reduceLT, Nat.reducePow, Nat.reduceLeDiff, st, Option.bind_eq_bind, Option.pure_def, List.length_nil, Int.cast_ofNat_Int, List.reverse_nil] at hld e3 e5
    simp only [F54L0b, SS, insA, wantedA, Opd.ev, putA, binA, eqbA, unA, fldA, partA, reduceIte, reduceCtorEq, Nat.reduceMod, Nat.reduceDiv, Nat.reduceBEq, resultA, resA, vI, Nat.reduceMul, Nat.reduceAdd, Nat.reduceSub, Nat.reduceEqDiff, Nat.reduceLT, Nat.reducePow, Nat.reduceLeDiff, st, Option.bind_eq_bind, Option.pure_def, List.length_nil, Int.cast_ofNat_Int, List.reverse_nil, UU, idxP, cellsAt, fillA, zerosA, putAll, row, Int.reduceLT, Int.reduceLE, Int.reduceGT, Int.reduceGE, Int.reduceEq, Int.reduceNe, Int.reduceToNat, Int.reduceBEq, Int.reduceBNe, Nat.reduceLeDiff, Nat.reduceLT, Nat.reduceBNe, Nat.reduceGT, List.drop_nil, List.take_nil, Option.isSome_none, Int.ofNat_one, Int.ofNat_zero, hc, G16.idx hlt, hld, hfr, hsub, G5.idx (i := n - k) (by omega), e3, hw, e5]

/-- The sums over figures of a frame, each part counting. -/
def polyL (f : List Nat) (w r : Int) : List Int := ofL f.length (ovL f w r 7 (2 ^ f.length - 1))
theorem polyL_len (f : List Nat) (w r : Int) : (polyL f w r).length = f.length + 1 := by simp [polyL, ofL]

theorem of54 {fr : AV} {f : List Nat} {w r : Nat} (h : Fr fr f) (hw' : w = 139 ∨ w = 140 ∨ w = 141 ∨ w = 142 ∨ w = 143 ∨ w = 144) (hr' : r = 139 ∨ r = 140 ∨ r = 141 ∨ r = 142 ∨ r = 143 ∨ r = 144) :
    freeX H (callL ET Y 54 [fr, .agg [.fn w [], .fn r []]] []) = some (.agg [.imm false (((polyL f (cm w) (cm r)).map wr).map vI) (f.length + 1), vI f.length], H) := by
  have hlen := h.hv.len
  rw [List.length_map] at hlen
  have n7 := h.n7
  have h2 : 1 ≤ 2 ^ f.length := Nat.pow_pos (by decide)
  have h3 := h.p7
  have hpc : pc (2 ^ f.length - 1) ≤ 7 := by unfold pc; exact Nat.le_trans (List.length_filter_le _ _) (by simp)
  obtain ⟨v, R0, q0, ver, o1, o2, o3, o4⟩ := over71 (Y := Y) h.hv n7 (fun j => by have := h.fb j; omega) hw' hr' 7 (2 ^ f.length - 1) (by omega) hpc
  have hovl : (ovL f (cm w) (cm r) 7 (2 ^ f.length - 1)).length ≤ f.length + 1 := by
    have hle := ovL_le (f := f) (w := cm w) (r := cm r) n7 7 (2 ^ f.length - 1) (by omega)
    have : pc (2 ^ f.length - 1) ≤ f.length := by
      unfold pc
      have e : (List.range 7).filter (fun j => (2 ^ f.length - 1).testBit j) = (List.range 7).filter (fun j => decide (j < f.length)) := by
        apply List.filter_congr
        intro j _
        rw [Nat.testBit_two_pow_sub_one]
      rw [e]
      have : ∀ m, m ≤ 7 → ((List.range 7).filter (fun j => decide (j < m))).length ≤ m := by decide
      exact this _ n7
    omega
  have hall := fun H => all69 (Y := Y) (H := H) h
  have hws : IntKind.wrap .i64 ((f.length : Int) + 1) = ((f.length + 1 : Nat) : Int) := wrap_succ (by omega)
  have hki : (0 : Int) ≤ ((f.length + 1 : Nat) : Int) ∧ ((f.length + 1 : Nat) : Int) * 8 ≤ 140737488355328 ∧ ((f.length + 1 : Nat) : Int) ≤ 9223372036854775807 := by omega
  have hzr := zeros_int (n := f.length + 1)
  obtain ⟨m1, m2⟩ := call_row (H := [⟨0, [.fn w [], .fn r []]⟩, ⟨0, [.nils, vI 0]⟩, ⟨0, (List.replicate (f.length + 1) (0 : Int)).map vI⟩]) (R := callL ET Y) (f := 71) (args := [fr, vI ((2 ^ f.length - 1 : Nat) : Int), .agg [.fn w [], .fn r []]]) (bs := [fr, vI ((2 ^ f.length - 1 : Nat) : Int), .agg [.fn w [], .fn r []]]) (by rw [mapM_cons', h.hv.snap]; rfl) o1 o2 o3
  generalize hH5 : ([⟨0, [.fn w [], .fn r []]⟩, ⟨0, [.nils, vI 0]⟩, ⟨0, (List.replicate (f.length + 1) (0 : Int)).map vI⟩] : Heap) ++ R0.map (shO ([⟨0, [.fn w [], .fn r []]⟩, ⟨0, [.nils, vI 0]⟩, ⟨0, (List.replicate (f.length + 1) (0 : Int)).map vI⟩] : Heap).length) = H5 at m1 m2
  have g1 : H5[1]? = some ⟨0, [.nils, vI 0]⟩ := by rw [← hH5]; rfl
  have g2 : H5[2]? = some ⟨0, (List.replicate (f.length + 1) (0 : Int)).map vI⟩ := by rw [← hH5]; rfl
  have hq : q0 + ([⟨0, [.fn w [], .fn r []]⟩, ⟨0, [.nils, vI 0]⟩, ⟨0, (List.replicate (f.length + 1) (0 : Int)).map vI⟩] : Heap).length = q0 + 3 := rfl
  rw [hq] at m1 m2
  clear hH5 hq
  obtain ⟨H', e1, h5, hoth⟩ := L54 (Y := Y) (fr := fr) (n := f.length) (o5 := 2) (q := q0 + 3) hlen n7 hovl (by omega) _ 0 (Nat.zero_add _) (by rw [ofK_zero]; exact g2) m2
  rw [ofK_all hovl] at h5
  have g1' := (hoth 1 (by omega)).trans g1
  rw [call54 rfl]
  simp only [SS, insA, wantedA, Opd.ev, putA, binA, eqbA, unA, fldA, partA, reduceIte, reduceCtorEq, Nat.reduceMod, Nat.reduceDiv, Nat.reduceBEq, resultA, resA, vI, Nat.reduceMul, Nat.reduceAdd, Nat.reduceSub, Nat.reduceEqDiff, Nat.reduceLT, Nat.reducePow, Nat.reduceLeDiff, st, Option.bind_eq_bind, Option.pure_def, List.length_nil, Int.cast_ofNat_Int, List.reverse_nil, Int.ofNat_zero] at e1 m1 hzr g1'
  have hfree := mapM_free (H := H'.set 1 ⟨0, [.sl 2 0 1 0 (f.length + 1) none, vI f.length]⟩) (n := 3) ((ofL f.length (ovL f (cm w) (cm r) 7 (2 ^ f.length - 1))).map wr)
  have h5' : (H'.set 1 ⟨0, [.sl 2 0 1 0 (f.length + 1) none, vI f.length]⟩)[2]? = some ⟨0, ((ofL f.length (ovL f (cm w) (cm r) 7 (2 ^ f.length - 1))).map wr).map vI⟩ := by
    rw [List.getElem?_set_ne (by decide)]; exact h5
  have h1' : (H'.set 1 ⟨0, [.sl 2 0 1 0 (f.length + 1) none, vI f.length]⟩)[1]? = some ⟨0, [.sl 2 0 1 0 (f.length + 1) none, vI f.length]⟩ := by
    rw [List.getElem?_set_self (hlt_of g1')]
  have hfin : freeA (H'.set 1 ⟨0, [.sl 2 0 1 0 (f.length + 1) none, vI f.length]⟩) 5 (.sl 2 0 1 0 (f.length + 1) none) = some (.imm false (((polyL f (cm w) (cm r)).map wr).map vI) (f.length + 1)) := by
    rw [free_sl, h5', freeS_some, if_pos ⟨rfl, by simp [ofL]⟩, List.drop_zero, Nat.mul_one, List.take_of_length_le (by simp [ofL]), hfree, freeB_some]
    rfl
  generalize hv5 : AV.sl 2 0 1 0 (f.length + 1) none = v5 at *
  have hone : one v5 = true ∧ isU v5 = false ∧ cellsOf v5 = [v5] := by rw [← hv5]; exact ⟨rfl, rfl, rfl⟩
  clear g2
  generalize hZ : List.map vI (List.replicate (f.length + 1) (0 : Int)) = Z at *
  simp only [SS, insA, wantedA, Opd.ev, putA, binA, eqbA, unA, fldA, partA, reduceIte, reduceCtorEq, Nat.reduceMod, Nat.reduceDiv, Nat.reduceBEq, resultA, resA, vI, Nat.reduceMul, Nat.reduceAdd, Nat.reduceSub, Nat.reduceEqDiff, Nat.reduceLT, Nat.reducePow, Nat.reduceLeDiff, st, Option.bind_eq_bind, Option.pure_def, List.length_nil, Int.cast_ofNat_Int, List.reverse_nil] at h1' hfin
  simp only [F54B, F54T0, in54_0, SS, insA, wantedA, Opd.ev, putA, binA, eqbA, unA, fldA, partA, reduceIte, reduceCtorEq, Nat.reduceMod, Nat.reduceDiv, Nat.reduceBEq, resultA, resA, vI, Nat.reduceMul, Nat.reduceAdd, Nat.reduceSub, Nat.reduceEqDiff, Nat.reduceLT, Nat.reducePow, Nat.reduceLeDiff, st, Option.bind_eq_bind, Option.pure_def, List.length_nil, Int.cast_ofNat_Int, List.reverse_nil, UU, idxP, cellsAt, storeA, fillA, putAll, optNat, sliceA, row, Int.reduceLT, Int.reduceLE, Int.reduceGT, Int.reduceGE, Int.reduceEq, Int.reduceNe, Int.reduceToNat, Int.reduceBEq, Int.reduceBNe, Nat.reduceLeDiff, Nat.reduceLT, Nat.reduceBNe, Nat.reduceGT, List.drop_nil, List.take_nil, Option.isSome_none, Int.ofNat_one, Int.ofNat_zero, hlen, hws, hall, hki, h.hv.snap, Int.toNat_natCast, Int.natCast_nonneg, Nat.mul_one, hzr, hv5, m1, e1, hone, g1', h1', hfin]
end
end Go.X
