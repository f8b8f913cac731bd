import Derived.Test.YtdkgicdbjemalaaDoorMK
import Derived.Test.YtdkgicdbjemalaaDoorMF
/-! Tones: polynomials of frames. -/
set_option linter.unusedSimpArgs false
set_option linter.unusedVariables false
set_option maxHeartbeats 2000000
set_option maxRecDepth 10000
namespace Go.X
open Go Go.RowKit

/-- A frame as it comes in. -/
structure Fr (fr : AV) (f : List Nat) : Prop where
  hv : IsRow fr (f.map fun n : Nat => (n : Int))
  n1 : 1 ≤ f.length
  n7 : f.length ≤ 7
  fb : ∀ j, f.getD j 0 < 2 ^ f.length

theorem Fr.p7 {fr : AV} {f : List Nat} (h : Fr fr f) : 2 ^ f.length ≤ 128 := by
  have : (2 : Nat) ^ f.length ≤ 2 ^ 7 := Nat.pow_le_pow_right (by decide) h.n7
  omega

theorem Fr.of {v : AV} {l : List Int} (hv : IsRow v l) (h : frameB l = true) : Fr v (l.map Int.toNat) ∧ l = (l.map Int.toNat).map (fun n : Nat => (n : Int)) := by
  unfold frameB at h
  simp only [Bool.and_eq_true, decide_eq_true_eq] at h
  obtain ⟨⟨⟨h1, h2⟩, h3⟩, h4⟩ := h
  have hok : ∀ j, j < l.length → 0 ≤ l.getD j 0 ∧ l.getD j 0 < ((2 ^ l.length : Nat) : Int) := fun j hj => by
    have := List.all_eq_true.1 h3 j (List.mem_range.2 hj)
    simp only [okE, Bool.and_eq_true, decide_eq_true_eq] at this
    exact this.1
  have he : l = (l.map Int.toNat).map (fun n : Nat => (n : Int)) := by
    apply List.ext_getElem
    · simp
    · intro j h1 h2
      have := (hok j h1).1
      rw [getD_get h1] at this
      simp; omega
  refine ⟨⟨he ▸ hv, by simpa using h1, by simpa using h2, fun j => ?_⟩, he⟩
  rw [List.length_map]
  rcases Nat.lt_or_ge j l.length with hj | hj
  · have := hok j hj
    rw [getD_get hj] at this
    rw [getD_get (by simpa using hj), List.getElem_map]
    omega
  · rw [List.getD_eq_getElem?_getD, List.getElem?_eq_none (by simpa using hj)]
    exact Nat.pow_pos (by decide)

/-- A list that shares nothing. -/
def IsFree (w : AV) (l : List Int) : Prop := (w = .nils ∧ l = []) ∨ w = .imm false (l.map vI) l.length

section
variable {Y : Run} {H : Heap}

theorem IsFree.row {w : AV} {l : List Int} (h : IsFree w l) : IsRow w l := by
  rcases h with ⟨rfl, rfl⟩ | rfl
  · exact .nil
  · exact .imm false l
theorem IsFree.free {w : AV} {l : List Int} (h : IsFree w l) {n : Nat} : freeA H (n + 1) w = some w := by
  rcases h with ⟨rfl, rfl⟩ | rfl <;> rfl
theorem IsFree.slice {w : AV} {l : List Int} (h : IsFree w l) {j : Nat} (hj : j ≤ l.length) : ∃ u, sliceA 1 w none (some (.int .i64 (j : Int))) none = some u ∧ IsFree u (l.take j) := by
  rcases h with ⟨rfl, rfl⟩ | rfl
  · have : j = 0 := by simpa using hj
    subst this
    exact ⟨.nils, rfl, .inl ⟨rfl, rfl⟩⟩
  · refine ⟨.imm false ((l.map vI).take j) j, ?_, .inr ?_⟩
    · simp [sliceA, optNat, natOf, hj]
    · rw [List.map_take]
      simp [Nat.min_eq_left hj]

theorem all69 {fr : AV} {f : List Nat} (h : Fr fr f) : freeX H (callL ET Y 69 [fr] []) = some (vI ((2 ^ f.length - 1 : Nat) : Int), H) := by
  rw [call69 rfl]
  have hlen := h.hv.len
  rw [List.length_map] at hlen
  have hs := shl_eq (k := f.length) (by have := h.n7; omega)
  have hp : (0 : Int) ≤ (f.length : Int) := by omega
  have h2 : 1 ≤ 2 ^ f.length := Nat.pow_pos (by decide)
  have h3 := h.p7
  have hw : IntKind.wrap .i64 (((2 ^ f.length : Nat) : Int) - 1) = ((2 ^ f.length - 1 : Nat) : Int) := by
    generalize 2 ^ f.length = b at h2 h3
    rw [wrap_id (by omega) (by omega)]; omega
  simp only [F69B, SS, insA, wantedA, Opd.ev, putA, binA, eqbA, unA, fldA, partA, reduceIte, reduceCtorEq, Nat.reduceMod, Nat.reduceDiv, Nat.reduceBEq, resultA, resA, vI, Nat.reduceMul, Nat.reduceAdd, Nat.reduceSub, Nat.reduceEqDiff, Nat.reduceLT, Nat.reducePow, Nat.reduceLeDiff, st, Option.bind_eq_bind, Option.pure_def, List.length_nil, Int.cast_ofNat_Int, List.reverse_nil, UU, idxP, cellsAt, storeA, fillA, zerosA, putAll, optNat, sliceA, row, Int.reduceLT, Int.reduceLE, Int.reduceGT, Int.reduceGE, Int.reduceEq, Int.reduceNe, Int.reduceToNat, Int.reduceBEq, Int.reduceBNe, Nat.reduceLeDiff, Nat.reduceLT, Nat.reduceBNe, Nat.reduceGT, List.drop_nil, List.take_nil, Option.isSome_none, Int.ofNat_one, Int.ofNat_zero, hlen, hp, hs, hw]

/-- The polynomial's numbers: the sum over figures with k knots stands at n - k. -/
def ofL (n : Nat) (ov : List Int) : List Int := (List.range (n + 1)).map fun j => ov.getD (n - j) 0
/-- .. of which the first m have been laid. -/
def ofK (n : Nat) (ov : List Int) (m : Nat) : List Int := (List.range (n + 1)).map fun j => if n - j < m then wr (ov.getD (n - j) 0) else 0

theorem ofK_zero (n : Nat) (ov : List Int) : ofK n ov 0 = List.replicate (n + 1) 0 := by
  unfold ofK
  apply List.ext_getElem
  · simp
  · intro j h1 h2; simp
theorem ofK_succ {n : Nat} {ov : List Int} {m : Nat} (h : m ≤ n) : (ofK n ov m).set (n - m) (wr (ov.getD m 0)) = ofK n ov (m + 1) := by
  unfold ofK
  apply List.ext_getElem
  · simp
  · intro j h1 h2
    have hj : j < n + 1 := by simpa using h2
    rw [List.getElem_set]
    simp only [List.getElem_map, List.getElem_range]
    by_cases e : n - m = j
    · rw [if_pos e, if_pos (by omega), show n - j = m by omega]
    · rw [if_neg e]
      by_cases c : n - j < m
      · rw [if_pos c, if_pos (by omega)]
      · rw [if_neg c, if_neg (by omega)]
theorem ofK_all {n : Nat} {ov : List Int} (h : ov.length ≤ n + 1) : ofK n ov ov.length = (ofL n ov).map wr := by
  unfold ofK ofL
  rw [List.map_map]
  apply List.map_congr_left
  intro j hj
  simp only [Function.comp]
  split
  · rfl
  · rename_i hc
    rw [List.getD_eq_getElem?_getD, List.getElem?_eq_none (by omega)]
    simp [wr, IntKind.wrap_i64]

theorem L54 {fr : AV} {n : Nat} {o5 q vq : Nat} {ov : List Int} (hfr : lenA fr = some n) (hn : n ≤ 7) (hov : ov.length ≤ n + 1) (hq : q ≠ o5) (d : Nat) : ∀ {H : Heap} (k : Nat), k + d = ov.length → H[o5]? = some ⟨0, (ofK n ov k).map vI⟩ → H[q]? = some ⟨vq, ov.map vW⟩ →
    ∃ H', lp ET Y F54L0 (sp 36 [(18, vI k), (17, vI ov.length), (16, .sl q vq 1 0 ov.length none), (5, .sl o5 0 1 0 (n + 1) none), (4, .ptr 1 0 0), (0, fr)]) H = some (.x 0, sp 36 [(5, .sl o5 0 1 0 (n + 1) none), (4, .ptr 1 0 0), (0, fr)], H') ∧
      H'[o5]? = some ⟨0, (ofK n ov ov.length).map vI⟩ ∧ (∀ i, i ≠ o5 → H'[i]? = H[i]?) := by
  generalize h16 : AV.sl q vq 1 0 ov.length none = v16
  generalize h5 : AV.sl o5 0 1 0 (n + 1) none = v5
  induction d with
  | zero =>
    intro H k hk h1 h2
    refine ⟨H, ?_, by rw [show ov.length = k by omega]; exact h1, fun _ _ => rfl⟩
    rw [un54_0]
    have : ¬ ((k : Int) < (ov.length : Int)) := by omega
    simp only [F54L0b, SS, insA, wantedA, Opd.ev, putA, binA, eqbA, unA, fldA, partA, reduceIte, reduceCtorEq, Nat.reduceMod, Nat.reduceDiv, Nat.reduceBEq, resultA, resA, vI, Nat.reduceMul, Nat.reduceAdd, Nat.reduceSub, Nat.reduceEqDiff, Nat.reduceLT, Nat.reducePow, Nat.reduceLeDiff, st, Option.bind_eq_bind, Option.pure_def, List.length_nil, Int.cast_ofNat_Int, List.reverse_nil, UU, idxP, cellsAt, fillA, zerosA, putAll, row, Int.reduceLT, Int.reduceLE, Int.reduceGT, Int.reduceGE, Int.reduceEq, Int.reduceNe, Int.reduceToNat, Int.reduceBEq, Int.reduceBNe, Nat.reduceLeDiff, Nat.reduceLT, Nat.reduceBNe, Nat.reduceGT, List.drop_nil, List.take_nil, Option.isSome_none, Int.ofNat_one, Int.ofNat_zero, this]
  | succ d ih =>
    intro H k hk h1 h2
    have hlt : k < ov.length := by omega
    have hc : (k : Int) < (ov.length : Int) := by omega
    have hw := wrap_succ (n := k) (by omega)
    have hsub : IntKind.wrap .i64 ((n : Int) - (k : Int)) = ((n - k : Nat) : Int) := by rw [wrap_id (by omega) (by omega)]; omega
    have G16 : Gro 0 1 H v16 ov.length ((ov.map wr).map vI) := ⟨by simp, .inr ⟨q, vq, Nat.zero_le _, h16.symm, by rw [h2, map_vW]⟩⟩
    have hld := G16.load hlt
    rw [getD_wr hlt] at hld
    have G5 : Gro 0 1 H v5 (n + 1) ((ofK n ov k).map vI) := ⟨by simp [ofK], .inr ⟨o5, 0, Nat.zero_le _, h5.symm, h1⟩⟩
    obtain ⟨id, ver, e1, e2, e3, e4⟩ := G5.store (i := n - k) (x := wr (ov.getD k 0)) (by omega)
    have hid : id = o5 := by rw [← h5] at e1; cases e1; rfl
    subst hid
    rw [h1] at e2; cases e2
    rw [ofK_succ (by omega)] at e3
    obtain ⟨H', e5, h3, h4⟩ := ih (k + 1) (by omega) (by rw [List.getElem?_set_self (hlt_of h1)]) (by rw [List.getElem?_set_ne (Ne.symm hq)]; exact h2)
    refine ⟨H', ?_, h3, fun i hi => (h4 i hi).trans (List.getElem?_set_ne (Ne.symm hi))⟩
    rw [un54_0]
    simp only [vW, wr, SS, insA, wantedA, Opd.ev, putA, binA, eqbA, unA, fldA, partA, reduceIte, reduceCtorEq, Nat.reduceMod, Nat.reduceDiv, Nat.reduceBEq, resultA, resA, vI, Nat.reduceMul, Nat.reduceAdd, Nat.reduceSub, Nat.reduceEqDiff, Nat.reduceLT, Nat.reducePow, Nat.reduceLeDiff, st, Option.bind_eq_bind, Option.pure_def, List.length_nil, Int.cast_ofNat_Int, List.reverse_nil] at hld e3 e5
    simp only [F54L0b, SS, insA, wantedA, Opd.ev, putA, binA, eqbA, unA, fldA, partA, reduceIte, reduceCtorEq, Nat.reduceMod, Nat.reduceDiv, Nat.reduceBEq, resultA, resA, vI, Nat.reduceMul, Nat.reduceAdd, Nat.reduceSub, Nat.reduceEqDiff, Nat.reduceLT, Nat.reducePow, Nat.reduceLeDiff, st, Option.bind_eq_bind, Option.pure_def, List.length_nil, Int.cast_ofNat_Int, List.reverse_nil, UU, idxP, cellsAt, fillA, zerosA, putAll, row, Int.reduceLT, Int.reduceLE, Int.reduceGT, Int.reduceGE, Int.reduceEq, Int.reduceNe, Int.reduceToNat, Int.reduceBEq, Int.reduceBNe, Nat.reduceLeDiff, Nat.reduceLT, Nat.reduceBNe, Nat.reduceGT, List.drop_nil, List.take_nil, Option.isSome_none, Int.ofNat_one, Int.ofNat_zero, hc, G16.idx hlt, hld, hfr, hsub, G5.idx (i := n - k) (by omega), e3, hw, e5]

/-- The sums over figures of a frame, each part counting. -/
def polyL (f : List Nat) (w r : Int) : List Int := ofL f.length (ovL f w r 7 (2 ^ f.length - 1))
theorem polyL_len (f : List Nat) (w r : Int) : (polyL f w r).length = f.length + 1 := by simp [polyL, ofL]

theorem of54 {fr : AV} {f : List Nat} {w r : Nat} (h : Fr fr f) (hw' : w = 139 ∨ w = 140 ∨ w = 141 ∨ w = 142 ∨ w = 143 ∨ w = 144) (hr' : r = 139 ∨ r = 140 ∨ r = 141 ∨ r = 142 ∨ r = 143 ∨ r = 144) :
    freeX H (callL ET Y 54 [fr, .agg [.fn w [], .fn r []]] []) = some (.agg [.imm false (((polyL f (cm w) (cm r)).map wr).map vI) (f.length + 1), vI f.length], H) := by
  have hlen := h.hv.len
  rw [List.length_map] at hlen
  have n7 := h.n7
  have h2 : 1 ≤ 2 ^ f.length := Nat.pow_pos (by decide)
  have h3 := h.p7
  have hpc : pc (2 ^ f.length - 1) ≤ 7 := by unfold pc; exact Nat.le_trans (List.length_filter_le _ _) (by simp)
  obtain ⟨v, R0, q0, ver, o1, o2, o3, o4⟩ := over71 (Y := Y) h.hv n7 (fun j => by have := h.fb j; omega) hw' hr' 7 (2 ^ f.length - 1) (by omega) hpc
  have hovl : (ovL f (cm w) (cm r) 7 (2 ^ f.length - 1)).length ≤ f.length + 1 := by
    have hle := ovL_le (f := f) (w := cm w) (r := cm r) n7 7 (2 ^ f.length - 1) (by omega)
    have : pc (2 ^ f.length - 1) ≤ f.length := by
      unfold pc
      have e : (List.range 7).filter (fun j => (2 ^ f.length - 1).testBit j) = (List.range 7).filter (fun j => decide (j < f.length)) := by
        apply List.filter_congr
        intro j _
        rw [Nat.testBit_two_pow_sub_one]
      rw [e]
      have : ∀ m, m ≤ 7 → ((List.range 7).filter (fun j => decide (j < m))).length ≤ m := by decide
      exact this _ n7
    omega
  have hall := fun H => all69 (Y := Y) (H := H) h
  have hws : IntKind.wrap .i64 ((f.length : Int) + 1) = ((f.length + 1 : Nat) : Int) := wrap_succ (by omega)
  have hki : (0 : Int) ≤ ((f.length + 1 : Nat) : Int) ∧ ((f.length + 1 : Nat) : Int) * 8 ≤ 140737488355328 ∧ ((f.length + 1 : Nat) : Int) ≤ 9223372036854775807 := by omega
  have hzr := zeros_int (n := f.length + 1)
  obtain ⟨m1, m2⟩ := call_row (H := [⟨0, [.fn w [], .fn r []]⟩, ⟨0, [.nils, vI 0]⟩, ⟨0, (List.replicate (f.length + 1) (0 : Int)).map vI⟩]) (R := callL ET Y) (f := 71) (args := [fr, vI ((2 ^ f.length - 1 : Nat) : Int), .agg [.fn w [], .fn r []]]) (bs := [fr, vI ((2 ^ f.length - 1 : Nat) : Int), .agg [.fn w [], .fn r []]]) (by rw [mapM_cons', h.hv.snap]; rfl) o1 o2 o3
  generalize hH5 : ([⟨0, [.fn w [], .fn r []]⟩, ⟨0, [.nils, vI 0]⟩, ⟨0, (List.replicate (f.length + 1) (0 : Int)).map vI⟩] : Heap) ++ R0.map (shO ([⟨0, [.fn w [], .fn r []]⟩, ⟨0, [.nils, vI 0]⟩, ⟨0, (List.replicate (f.length + 1) (0 : Int)).map vI⟩] : Heap).length) = H5 at m1 m2
  have g1 : H5[1]? = some ⟨0, [.nils, vI 0]⟩ := by rw [← hH5]; rfl
  have g2 : H5[2]? = some ⟨0, (List.replicate (f.length + 1) (0 : Int)).map vI⟩ := by rw [← hH5]; rfl
  have hq : q0 + ([⟨0, [.fn w [], .fn r []]⟩, ⟨0, [.nils, vI 0]⟩, ⟨0, (List.replicate (f.length + 1) (0 : Int)).map vI⟩] : Heap).length = q0 + 3 := rfl
  rw [hq] at m1 m2
  clear hH5 hq
  obtain ⟨H', e1, h5, hoth⟩ := L54 (Y := Y) (fr := fr) (n := f.length) (o5 := 2) (q := q0 + 3) hlen n7 hovl (by omega) _ 0 (Nat.zero_add _) (by rw [ofK_zero]; exact g2) m2
  rw [ofK_all hovl] at h5
  have g1' := (hoth 1 (by omega)).trans g1
  rw [call54 rfl]
  simp only [SS, insA, wantedA, Opd.ev, putA, binA, eqbA, unA, fldA, partA, reduceIte, reduceCtorEq, Nat.reduceMod, Nat.reduceDiv, Nat.reduceBEq, resultA, resA, vI, Nat.reduceMul, Nat.reduceAdd, Nat.reduceSub, Nat.reduceEqDiff, Nat.reduceLT, Nat.reducePow, Nat.reduceLeDiff, st, Option.bind_eq_bind, Option.pure_def, List.length_nil, Int.cast_ofNat_Int, List.reverse_nil, Int.ofNat_zero] at e1 m1 hzr g1'
  have hfree := mapM_free (H := H'.set 1 ⟨0, [.sl 2 0 1 0 (f.length + 1) none, vI f.length]⟩) (n := 3) ((ofL f.length (ovL f (cm w) (cm r) 7 (2 ^ f.length - 1))).map wr)
  have h5' : (H'.set 1 ⟨0, [.sl 2 0 1 0 (f.length + 1) none, vI f.length]⟩)[2]? = some ⟨0, ((ofL f.length (ovL f (cm w) (cm r) 7 (2 ^ f.length - 1))).map wr).map vI⟩ := by
    rw [List.getElem?_set_ne (by decide)]; exact h5
  have h1' : (H'.set 1 ⟨0, [.sl 2 0 1 0 (f.length + 1) none, vI f.length]⟩)[1]? = some ⟨0, [.sl 2 0 1 0 (f.length + 1) none, vI f.length]⟩ := by
    rw [List.getElem?_set_self (hlt_of g1')]
  have hfin : freeA (H'.set 1 ⟨0, [.sl 2 0 1 0 (f.length + 1) none, vI f.length]⟩) 5 (.sl 2 0 1 0 (f.length + 1) none) = some (.imm false (((polyL f (cm w) (cm r)).map wr).map vI) (f.length + 1)) := by
    rw [free_sl, h5', freeS_some, if_pos ⟨rfl, by simp [ofL]⟩, List.drop_zero, Nat.mul_one, List.take_of_length_le (by simp [ofL]), hfree, freeB_some]
    rfl
  generalize hv5 : AV.sl 2 0 1 0 (f.length + 1) none = v5 at *
  have hone : one v5 = true ∧ isU v5 = false ∧ cellsOf v5 = [v5] := by rw [← hv5]; exact ⟨rfl, rfl, rfl⟩
  clear g2
  generalize hZ : List.map vI (List.replicate (f.length + 1) (0 : Int)) = Z at *
  simp only [SS, insA, wantedA, Opd.ev, putA, binA, eqbA, unA, fldA, partA, reduceIte, reduceCtorEq, Nat.reduceMod, Nat.reduceDiv, Nat.reduceBEq, resultA, resA, vI, Nat.reduceMul, Nat.reduceAdd, Nat.reduceSub, Nat.reduceEqDiff, Nat.reduceLT, Nat.reducePow, Nat.reduceLeDiff, st, Option.bind_eq_bind, Option.pure_def, List.length_nil, Int.cast_ofNat_Int, List.reverse_nil] at h1' hfin
  simp only [F54B, F54T0, in54_0, SS, insA, wantedA, Opd.ev, putA, binA, eqbA, unA, fldA, partA, reduceIte, reduceCtorEq, Nat.reduceMod, Nat.reduceDiv, Nat.reduceBEq, resultA, resA, vI, Nat.reduceMul, Nat.reduceAdd, Nat.reduceSub, Nat.reduceEqDiff, Nat.reduceLT, Nat.reducePow, Nat.reduceLeDiff, st, Option.bind_eq_bind, Option.pure_def, List.length_nil, Int.cast_ofNat_Int, List.reverse_nil, UU, idxP, cellsAt, storeA, fillA, putAll, optNat, sliceA, row, Int.reduceLT, Int.reduceLE, Int.reduceGT, Int.reduceGE, Int.reduceEq, Int.reduceNe, Int.reduceToNat, Int.reduceBEq, Int.reduceBNe, Nat.reduceLeDiff, Nat.reduceLT, Nat.reduceBNe, Nat.reduceGT, List.drop_nil, List.take_nil, Option.isSome_none, Int.ofNat_one, Int.ofNat_zero, hlen, hws, hall, hki, h.hv.snap, Int.toNat_natCast, Int.natCast_nonneg, Nat.mul_one, hzr, hv5, m1, e1, hone, g1', h1', hfin]
end
end Go.X

/-! Tones: Tones, Matchings, Figures. -/
set_option linter.unusedSimpArgs false
set_option linter.unusedVariables false
set_option maxHeartbeats 2000000
set_option maxRecDepth 10000
namespace Go.X
open Go Go.RowKit

/-- Without the zeros at the end. -/
def trimN : Nat → List Int → List Int
  | 0, l => l
  | d + 1, l => if l.getD d 0 = 0 then trimN d (l.take d) else l
def trimL (l : List Int) : List Int := trimN l.length l

section
variable {Y : Run} {H : Heap}

theorem IsFree.one {w : AV} {l : List Int} (h : IsFree w l) : one w = true ∧ isU w = false ∧ cellsOf w = [w] := by rcases h with ⟨rfl, rfl⟩ | rfl <;> exact ⟨rfl, rfl, rfl⟩

theorem L57 {a b : Nat} (hab : a ≠ b) (d : Nat) : ∀ {H : Heap} {u : AV} {l : List Int}, IsFree u l → l.length = d → d ≤ 1000 → H[a]? = some ⟨0, [u]⟩ →
    ∃ H' u', lp ET Y F57L0 (sp 27 [(2, .ptr b 0 0), (1, .ptr a 0 0)]) H = some (.x 0, sp 27 [(2, .ptr b 0 0), (1, .ptr a 0 0)], H') ∧ H'[a]? = some ⟨0, [u']⟩ ∧ IsFree u' (trimN d l) ∧ (∀ i, i ≠ a → H'[i]? = H[i]?) := by
  induction d with
  | zero =>
    intro H u l hu hl _ h
    refine ⟨H, u, ?_, h, hu, fun _ _ => rfl⟩
    have hlen := hu.row.len
    rw [hl] at hlen
    rw [un57_0]
    simp only [F57L0b, SS, insA, wantedA, Opd.ev, putA, binA, eqbA, unA, fldA, partA, reduceIte, reduceCtorEq, Nat.reduceMod, Nat.reduceDiv, Nat.reduceBEq, resultA, resA, vI, Nat.reduceMul, Nat.reduceAdd, Nat.reduceSub, Nat.reduceEqDiff, Nat.reduceLT, Nat.reducePow, Nat.reduceLeDiff, st, Option.bind_eq_bind, Option.pure_def, List.length_nil, Int.cast_ofNat_Int, List.reverse_nil, UU, idxP, cellsAt, fillA, zerosA, putAll, row, Int.reduceLT, Int.reduceLE, Int.reduceGT, Int.reduceGE, Int.reduceEq, Int.reduceNe, Int.reduceToNat, Int.reduceBEq, Int.reduceBNe, Nat.reduceLeDiff, Nat.reduceLT, Nat.reduceBNe, Nat.reduceGT, List.drop_nil, List.take_nil, Option.isSome_none, Int.ofNat_one, Int.ofNat_zero, h, hlen, Int.ofNat_zero]
  | succ d ih =>
    intro H u l hu hl hd h
    have hlen := hu.row.len
    rw [hl] at hlen
    have hc : ((d + 1 : Nat) : Int) > 0 := by omega
    have hw : IntKind.wrap .i64 (((d + 1 : Nat) : Int) - 1) = (d : Int) := by rw [wrap_id (by omega) (by omega)]; omega
    have hix := hu.row.idx (i := d) (by omega)
    have hld := hu.row.load (H := H) (i := d) (by omega)
    by_cases c : l.getD d 0 = 0
    · have c1 : (l.getD d 0 == 0) = true := beq_iff_eq.2 c
      obtain ⟨u', e1, hu'⟩ := hu.slice (j := d) (by omega)
      have hone := hu'.one
      obtain ⟨H', u'', e2, h2, h3, h4⟩ := ih (H := H.set a ⟨0, [u']⟩) hu' (by simp; omega) (by omega) (by rw [List.getElem?_set_self (hlt_of h)])
      refine ⟨H', u'', ?_, h2, by simp only [trimN]; rw [if_pos c]; exact h3, fun i hi => (h4 i hi).trans (List.getElem?_set_ne (Ne.symm hi))⟩
      rw [un57_0]
      simp only [F57L0b, SS, insA, wantedA, Opd.ev, putA, binA, eqbA, unA, fldA, partA, reduceIte, reduceCtorEq, Nat.reduceMod, Nat.reduceDiv, Nat.reduceBEq, resultA, resA, vI, Nat.reduceMul, Nat.reduceAdd, Nat.reduceSub, Nat.reduceEqDiff, Nat.reduceLT, Nat.reducePow, Nat.reduceLeDiff, st, Option.bind_eq_bind, Option.pure_def, List.length_nil, Int.cast_ofNat_Int, List.reverse_nil, UU, idxP, cellsAt, fillA, zerosA, putAll, row, Int.reduceLT, Int.reduceLE, Int.reduceGT, Int.reduceGE, Int.reduceEq, Int.reduceNe, Int.reduceToNat, Int.reduceBEq, Int.reduceBNe, Nat.reduceLeDiff, Nat.reduceLT, Nat.reduceBNe, Nat.reduceGT, List.drop_nil, List.take_nil, Option.isSome_none, Int.ofNat_one, Int.ofNat_zero, storeA, h, hlen, hc, hw, hix, hld, c1, e1, hone, e2]
    · have c1 : (l.getD d 0 == 0) = false := beq_false_of_ne c
      refine ⟨H, u, ?_, h, by simp only [trimN]; rw [if_neg c]; exact hu, fun _ _ => rfl⟩
      rw [un57_0]
      simp only [F57L0b, SS, insA, wantedA, Opd.ev, putA, binA, eqbA, unA, fldA, partA, reduceIte, reduceCtorEq, Nat.reduceMod, Nat.reduceDiv, Nat.reduceBEq, resultA, resA, vI, Nat.reduceMul, Nat.reduceAdd, Nat.reduceSub, Nat.reduceEqDiff, Nat.reduceLT, Nat.reducePow, Nat.reduceLeDiff, st, Option.bind_eq_bind, Option.pure_def, List.length_nil, Int.cast_ofNat_Int, List.reverse_nil, UU, idxP, cellsAt, fillA, zerosA, putAll, row, Int.reduceLT, Int.reduceLE, Int.reduceGT, Int.reduceGE, Int.reduceEq, Int.reduceNe, Int.reduceToNat, Int.reduceBEq, Int.reduceBNe, Nat.reduceLeDiff, Nat.reduceLT, Nat.reduceBNe, Nat.reduceGT, List.drop_nil, List.take_nil, Option.isSome_none, Int.ofNat_one, Int.ofNat_zero, h, hlen, hc, hw, hix, hld, c1]

theorem trim57 {u : AV} {l : List Int} (hu : IsFree u l) (hl : l.length ≤ 1000) : ∃ u' H', callL ET Y 57 [.agg [u]] H = some (.agg [u'], H') ∧ IsFree u' (trimL l) := by
  have h0 : (H ++ [(⟨0, [u]⟩ : Ob), ⟨0, [.nils]⟩])[H.length]? = some ⟨0, [u]⟩ := by rw [List.getElem?_append_right (Nat.le_refl _)]; simp
  obtain ⟨H', u', e1, h1, h2, h3⟩ := L57 (Y := Y) (a := H.length) (b := H.length + 1) (by omega) l.length hu rfl hl h0
  have hb : H'[H.length + 1]? = some ⟨0, [.nils]⟩ := by
    rw [h3 _ (by omega), List.getElem?_append_right (by omega)]; simp
  have hb' : (H'.set (H.length + 1) ⟨0, [u']⟩)[H.length + 1]? = some ⟨0, [u']⟩ := by rw [List.getElem?_set_self (hlt_of hb)]
  have ho := hu.one
  have ho' := h2.one
  refine ⟨u', H'.set (H.length + 1) ⟨0, [u']⟩, ?_, h2⟩
  rw [call57 rfl]
  simp only [F57B, F57T0, in57_0, SS, insA, wantedA, Opd.ev, putA, binA, eqbA, unA, fldA, partA, reduceIte, reduceCtorEq, Nat.reduceMod, Nat.reduceDiv, Nat.reduceBEq, resultA, resA, vI, Nat.reduceMul, Nat.reduceAdd, Nat.reduceSub, Nat.reduceEqDiff, Nat.reduceLT, Nat.reducePow, Nat.reduceLeDiff, st, Option.bind_eq_bind, Option.pure_def, List.length_nil, Int.cast_ofNat_Int, List.reverse_nil, UU, idxP, cellsAt, fillA, zerosA, putAll, row, Int.reduceLT, Int.reduceLE, Int.reduceGT, Int.reduceGE, Int.reduceEq, Int.reduceNe, Int.reduceToNat, Int.reduceBEq, Int.reduceBNe, Nat.reduceLeDiff, Nat.reduceLT, Nat.reduceBNe, Nat.reduceGT, List.drop_nil, List.take_nil, Option.isSome_none, Int.ofNat_one, Int.ofNat_zero, storeA, ho, ho', e1, h1, hb, hb', endX, List.cons_append, List.nil_append, List.length_append]

theorem tones21 {v : AV} {l : List Int} (hv : IsRow v l) (hl : l.length ≤ 1000) : ∃ w, (∀ H, freeX H (callL ET Y 21 [v] []) = some (.tup [w, vI (if frameB l = true then 0 else 2)], H)) ∧
    IsFree w (if frameB l = true then trimL ((polyL (l.map Int.toNat) (-1) (-2)).map wr) else []) := by
  cases hf : frameB l with
  | false =>
    have hr := read51 (Y := Y) (H := []) hv hl
    rw [hf, if_neg (by simp)] at hr
    refine ⟨.nils, fun H => ?_, .inl ⟨rfl, rfl⟩⟩
    rw [call21 rfl]
    simp only [F21B, SS, insA, wantedA, Opd.ev, putA, binA, eqbA, unA, fldA, partA, reduceIte, reduceCtorEq, Nat.reduceMod, Nat.reduceDiv, Nat.reduceBEq, resultA, resA, vI, Nat.reduceMul, Nat.reduceAdd, Nat.reduceSub, Nat.reduceEqDiff, Nat.reduceLT, Nat.reducePow, Nat.reduceLeDiff, st, Option.bind_eq_bind, Option.pure_def, List.length_nil, Int.cast_ofNat_Int, List.reverse_nil, UU, idxP, cellsAt, storeA, fillA, zerosA, putAll, optNat, sliceA, row, Int.reduceLT, Int.reduceLE, Int.reduceGT, Int.reduceGE, Int.reduceEq, Int.reduceNe, Int.reduceToNat, Int.reduceBEq, Int.reduceBNe, Nat.reduceLeDiff, Nat.reduceLT, Nat.reduceBNe, Nat.reduceGT, List.drop_nil, List.take_nil, Option.isSome_none, Int.ofNat_one, Int.ofNat_zero, hr, Bool.false_eq_true]
  | true =>
    have hr := read51 (Y := Y) (H := []) hv hl
    rw [hf, if_pos rfl] at hr
    obtain ⟨hF, _⟩ := Fr.of hv hf
    have ho := fun H => of54 (Y := Y) (H := H) (w := 139) (r := 140) hF (by simp) (by simp)
    have e1 : cm 139 = -1 := by decide
    have e2 : cm 140 = -2 := by decide
    rw [e1, e2] at ho
    have hfree : IsFree (.imm false (((polyL (l.map Int.toNat) (-1) (-2)).map wr).map vI) ((l.map Int.toNat).length + 1)) ((polyL (l.map Int.toNat) (-1) (-2)).map wr) := .inr (by simp [polyL_len])
    obtain ⟨u', H', t1, t2⟩ := trim57 (Y := Y) (H := []) hfree (by rw [List.length_map, polyL_len]; have := hF.n7; omega)
    refine ⟨u', fun H => ?_, by rw [if_pos rfl]; exact t2⟩
    generalize AV.imm false (((polyL (l.map Int.toNat) (-1) (-2)).map wr).map vI) ((l.map Int.toNat).length + 1) = pv at *
    rw [call21 rfl]
    simp only [F21B, SS, insA, wantedA, Opd.ev, putA, binA, eqbA, unA, fldA, partA, reduceIte, reduceCtorEq, Nat.reduceMod, Nat.reduceDiv, Nat.reduceBEq, resultA, resA, vI, Nat.reduceMul, Nat.reduceAdd, Nat.reduceSub, Nat.reduceEqDiff, Nat.reduceLT, Nat.reducePow, Nat.reduceLeDiff, st, Option.bind_eq_bind, Option.pure_def, List.length_nil, Int.cast_ofNat_Int, List.reverse_nil, UU, idxP, cellsAt, storeA, fillA, zerosA, putAll, optNat, sliceA, row, Int.reduceLT, Int.reduceLE, Int.reduceGT, Int.reduceGE, Int.reduceEq, Int.reduceNe, Int.reduceToNat, Int.reduceBEq, Int.reduceBNe, Nat.reduceLeDiff, Nat.reduceLT, Nat.reduceBNe, Nat.reduceGT, List.drop_nil, List.take_nil, Option.isSome_none, Int.ofNat_one, Int.ofNat_zero, hr, hv.snap, ho, t1, t2.free, if_true]

theorem match23 {v : AV} {l : List Int} (hv : IsRow v l) (hl : l.length ≤ 1000) : ∃ w, (∀ H, freeX H (callL ET Y 23 [v] []) = some (.tup [w, vI (if frameB l = true then 0 else 2)], H)) ∧
    IsFree w (if frameB l = true then trimL ((polyL (l.map Int.toNat) (-1) 0).map wr) else []) := by
  cases hf : frameB l with
  | false =>
    have hr := read51 (Y := Y) (H := []) hv hl
    rw [hf, if_neg (by simp)] at hr
    refine ⟨.nils, fun H => ?_, .inl ⟨rfl, rfl⟩⟩
    rw [call23 rfl]
    simp only [F23B, SS, insA, wantedA, Opd.ev, putA, binA, eqbA, unA, fldA, partA, reduceIte, reduceCtorEq, Nat.reduceMod, Nat.reduceDiv, Nat.reduceBEq, resultA, resA, vI, Nat.reduceMul, Nat.reduceAdd, Nat.reduceSub, Nat.reduceEqDiff, Nat.reduceLT, Nat.reducePow, Nat.reduceLeDiff, st, Option.bind_eq_bind, Option.pure_def, List.length_nil, Int.cast_ofNat_Int, List.reverse_nil, UU, idxP, cellsAt, storeA, fillA, zerosA, putAll, optNat, sliceA, row, Int.reduceLT, Int.reduceLE, Int.reduceGT, Int.reduceGE, Int.reduceEq, Int.reduceNe, Int.reduceToNat, Int.reduceBEq, Int.reduceBNe, Nat.reduceLeDiff, Nat.reduceLT, Nat.reduceBNe, Nat.reduceGT, List.drop_nil, List.take_nil, Option.isSome_none, Int.ofNat_one, Int.ofNat_zero, hr, Bool.false_eq_true]
  | true =>
    have hr := read51 (Y := Y) (H := []) hv hl
    rw [hf, if_pos rfl] at hr
    obtain ⟨hF, _⟩ := Fr.of hv hf
    have ho := fun H => of54 (Y := Y) (H := H) (w := 141) (r := 142) hF (by simp) (by simp)
    have e1 : cm 141 = -1 := by decide
    have e2 : cm 142 = 0 := by decide
    rw [e1, e2] at ho
    have hfree : IsFree (.imm false (((polyL (l.map Int.toNat) (-1) 0).map wr).map vI) ((l.map Int.toNat).length + 1)) ((polyL (l.map Int.toNat) (-1) 0).map wr) := .inr (by simp [polyL_len])
    obtain ⟨u', H', t1, t2⟩ := trim57 (Y := Y) (H := []) hfree (by rw [List.length_map, polyL_len]; have := hF.n7; omega)
    refine ⟨u', fun H => ?_, by rw [if_pos rfl]; exact t2⟩
    generalize AV.imm false (((polyL (l.map Int.toNat) (-1) 0).map wr).map vI) ((l.map Int.toNat).length + 1) = pv at *
    rw [call23 rfl]
    simp only [F23B, SS, insA, wantedA, Opd.ev, putA, binA, eqbA, unA, fldA, partA, reduceIte, reduceCtorEq, Nat.reduceMod, Nat.reduceDiv, Nat.reduceBEq, resultA, resA, vI, Nat.reduceMul, Nat.reduceAdd, Nat.reduceSub, Nat.reduceEqDiff, Nat.reduceLT, Nat.reducePow, Nat.reduceLeDiff, st, Option.bind_eq_bind, Option.pure_def, List.length_nil, Int.cast_ofNat_Int, List.reverse_nil, UU, idxP, cellsAt, storeA, fillA, zerosA, putAll, optNat, sliceA, row, Int.reduceLT, Int.reduceLE, Int.reduceGT, Int.reduceGE, Int.reduceEq, Int.reduceNe, Int.reduceToNat, Int.reduceBEq, Int.reduceBNe, Nat.reduceLeDiff, Nat.reduceLT, Nat.reduceBNe, Nat.reduceGT, List.drop_nil, List.take_nil, Option.isSome_none, Int.ofNat_one, Int.ofNat_zero, hr, hv.snap, ho, t1, t2.free, if_true]

theorem figs22 {v : AV} {l : List Int} (hv : IsRow v l) (hf : frameB l = true) {k : Nat} (hk : k ≤ l.length) :
    freeX H (callL ET Y 22 [v, vI k] []) = some (.tup [vI (wr ((polyL (l.map Int.toNat) (-1) (-2)).getD (l.length - k) 0)), vI (wr ((polyL (l.map Int.toNat) 1 1).getD (l.length - k) 0)), vI 0], H) := by
  have h7 : l.length ≤ 7 := by simp only [frameB, Bool.and_eq_true, decide_eq_true_eq] at hf; exact hf.1.1.2
  have hr := read51 (Y := Y) (H := []) hv (by omega)
  rw [hf, if_pos rfl] at hr
  obtain ⟨hF, _⟩ := Fr.of hv hf
  have o1 := fun H => of54 (Y := Y) (H := H) (w := 139) (r := 140) hF (by simp) (by simp)
  have o2 := fun H => of54 (Y := Y) (H := H) (w := 143) (r := 144) hF (by simp) (by simp)
  have e1 : cm 139 = -1 := by decide
  have e2 : cm 140 = -2 := by decide
  have e3 : cm 143 = 1 := by decide
  have e4 : cm 144 = 1 := by decide
  rw [e1, e2] at o1
  rw [e3, e4] at o2
  have hlen : (l.map Int.toNat).length = l.length := by simp
  rw [hlen] at o1 o2
  have c1 : ¬ ((k : Int) < 0) := by omega
  have c2 : ¬ ((k : Int) > (l.length : Int)) := by omega
  have hsub : IntKind.wrap .i64 ((l.length : Int) - (k : Int)) = ((l.length - k : Nat) : Int) := by rw [wrap_id (by omega) (by omega)]; omega
  have r1 : IsRow (.imm false (((polyL (l.map Int.toNat) (-1) (-2)).map wr).map vI) (l.length + 1)) ((polyL (l.map Int.toNat) (-1) (-2)).map wr) := by
    have := IsRow.imm false ((polyL (l.map Int.toNat) (-1) (-2)).map wr)
    rwa [List.length_map, polyL_len, hlen] at this
  have r2 : IsRow (.imm false (((polyL (l.map Int.toNat) 1 1).map wr).map vI) (l.length + 1)) ((polyL (l.map Int.toNat) 1 1).map wr) := by
    have := IsRow.imm false ((polyL (l.map Int.toNat) 1 1).map wr)
    rwa [List.length_map, polyL_len, hlen] at this
  have hi1 := r1.idx (i := l.length - k) (by rw [List.length_map, polyL_len, hlen]; omega)
  have hi2 := r2.idx (i := l.length - k) (by rw [List.length_map, polyL_len, hlen]; omega)
  have gm : ∀ (q : List Int) (j : Nat), j < q.length → (q.map wr).getD j 0 = wr (q.getD j 0) := fun q j hj => by simp [List.getD_eq_getElem?_getD, hj]
  have hl1 := fun H => r1.load (H := H) (i := l.length - k) (by rw [List.length_map, polyL_len, hlen]; omega)
  have hl2 := fun H => r2.load (H := H) (i := l.length - k) (by rw [List.length_map, polyL_len, hlen]; omega)
  rw [gm _ _ (by rw [polyL_len, hlen]; omega)] at hl1 hl2
  have hone : ∀ (q : List AV) (n : Nat), one (.imm false q n) = true ∧ isU (.imm false q n) = false ∧ cellsOf (.imm false q n) = [.imm false q n] := fun _ _ => ⟨rfl, rfl, rfl⟩
  have hone1 := hone (((polyL (l.map Int.toNat) (-1) (-2)).map wr).map vI) (l.length + 1)
  have hone2 := hone (((polyL (l.map Int.toNat) 1 1).map wr).map vI) (l.length + 1)
  clear hone r1 r2
  generalize AV.imm false (((polyL (l.map Int.toNat) (-1) (-2)).map wr).map vI) (l.length + 1) = p1 at *
  generalize AV.imm false (((polyL (l.map Int.toNat) 1 1).map wr).map vI) (l.length + 1) = p2 at *
  rw [call22 rfl]
  simp only [wr, SS, insA, wantedA, Opd.ev, putA, binA, eqbA, unA, fldA, partA, reduceIte, reduceCtorEq, Nat.reduceMod, Nat.reduceDiv, Nat.reduceBEq, resultA, resA, vI, Nat.reduceMul, Nat.reduceAdd, Nat.reduceSub, Nat.reduceEqDiff, Nat.reduceLT, Nat.reducePow, Nat.reduceLeDiff, st, Option.bind_eq_bind, Option.pure_def, List.length_nil, Int.cast_ofNat_Int, List.reverse_nil] at hl1 hl2
  simp only [F22B, SS, insA, wantedA, Opd.ev, putA, binA, eqbA, unA, fldA, partA, reduceIte, reduceCtorEq, Nat.reduceMod, Nat.reduceDiv, Nat.reduceBEq, resultA, resA, vI, Nat.reduceMul, Nat.reduceAdd, Nat.reduceSub, Nat.reduceEqDiff, Nat.reduceLT, Nat.reducePow, Nat.reduceLeDiff, st, Option.bind_eq_bind, Option.pure_def, List.length_nil, Int.cast_ofNat_Int, List.reverse_nil, UU, idxP, cellsAt, storeA, fillA, zerosA, putAll, optNat, sliceA, row, Int.reduceLT, Int.reduceLE, Int.reduceGT, Int.reduceGE, Int.reduceEq, Int.reduceNe, Int.reduceToNat, Int.reduceBEq, Int.reduceBNe, Nat.reduceLeDiff, Nat.reduceLT, Nat.reduceBNe, Nat.reduceGT, List.drop_nil, List.take_nil, Option.isSome_none, Int.ofNat_one, Int.ofNat_zero, hr, hv.snap, hv.len, c1, c2, o1, o2, hone1, hone2, hsub, hi1, hi2, hl1, hl2, if_true]
end
end Go.X

/-! Tones: what the sums over figures have in common. -/
set_option linter.unusedSimpArgs false
set_option linter.unusedVariables false
namespace Go.X

theorem adL_get (out : List Int) (k j : Nat) (x : Int) : (adL out k x).getD j 0 = out.getD j 0 + if j = k then x else 0 := by
  unfold adL
  simp only [List.getD_eq_getElem?_getD, List.getElem?_set, List.length_append, List.length_replicate]
  have hpad : ∀ i : Nat, ((out ++ List.replicate (k + 1 - out.length) (0 : Int))[i]?).getD 0 = (out[i]?).getD 0 := fun i => by
    rw [List.getElem?_append]
    split
    · rfl
    · rw [List.getElem?_replicate, List.getElem?_eq_none (by omega)]
      split <;> rfl
  by_cases h : k = j
  · subst h
    rw [if_pos rfl, if_pos (by omega), if_pos rfl, Option.getD_some, hpad]
  · rw [if_neg h, hpad, if_neg (fun e => h e.symm)]
    omega

theorem morL_get (c : Int) : ∀ (l out : List Int) (m j : Nat), (morL c out m l).getD j 0 = out.getD j 0 + c * (if m ≤ j then l.getD (j - m) 0 else 0)
  | [], out, m, j => by simp [morL]
  | x :: l, out, m, j => by
    simp only [morL]
    rw [morL_get c l, adL_get]
    by_cases h : j = m
    · subst h
      rw [if_pos rfl, if_neg (by omega), if_pos (Nat.le_refl _), Nat.sub_self]
      simp
    · rw [if_neg h]
      by_cases h2 : m ≤ j
      · rw [if_pos (by omega), if_pos h2, show j - m = j - (m + 1) + 1 by omega]
        simp
      · rw [if_neg (by omega), if_neg h2]
        simp

/-! ### The number for no knots -/
theorem onL_get0 {ov : Nat → List Int} {f : List Nat} {n i S : Nat} {c : Int} : ∀ (e p sec met : Nat) (out : List Int), (onL ov f n i S c e p sec met out).getD 0 0 = out.getD 0 0
  | 0, _, _, _, _ => rfl
  | e + 1, p, sec, met, out => by
    simp only [onL]
    have : ∀ (ks : List Nat) (out : List Int), (ks.foldl (fun out k => if (dl (f.getD p 0 &&& S) met).testBit k = true then
      onL ov f n i S c e k (if met = 0 then k else sec) (met ||| 2 ^ k)
        (if 0 < met ∧ sec < k ∧ (f.getD k 0).testBit i = true then morL c out (pc met + 2) (ov (dl (dl S met) (2 ^ k))) else out)
      else out) out).getD 0 0 = out.getD 0 0 := by
      intro ks
      induction ks with
      | nil => intro out; rfl
      | cons k ks ih =>
        intro out
        rw [List.foldl_cons, ih]
        split
        · rw [onL_get0 e]
          split
          · rw [morL_get, if_neg (by omega)]; simp
          · rfl
        · rfl
    exact this _ _

theorem ovL_get0 {f : List Nat} {w r : Int} : ∀ (d left : Nat), (ovL f w r d left).getD 0 0 = 1
  | 0, left => rfl
  | d + 1, left => by
    simp only [ovL]
    split
    · rfl
    · rw [onL_get0]
      have : ∀ (ks : List Nat) (out : List Int), (ks.foldl (fun out k => if (f.getD (ctz left) 0 &&& dl left (2 ^ ctz left)).testBit k = true then morL w out 2 (ovL f w r d (dl (dl left (2 ^ ctz left)) (2 ^ k))) else out) out).getD 0 0 = out.getD 0 0 := by
        intro ks
        induction ks with
        | nil => intro out; rfl
        | cons k ks ih =>
          intro out
          rw [List.foldl_cons, ih]
          split
          · rw [morL_get, if_neg (by omega)]; simp
          · rfl
      rw [this]
      exact ovL_get0 d _

/-! ### Signs do not make more than there is -/
/-- A sum with signs, how many there are, and how many there would be with all wires. -/
def Tri (s m k : List Int) : Prop := ∀ j, 0 ≤ m.getD j 0 ∧ m.getD j 0 ≤ k.getD j 0 ∧ (m.getD j 0 = 0 → s.getD j 0 = 0)

theorem Tri.more {c : Int} {s m k s' m' k' : List Int} (h : Tri s m k) (h' : Tri s' m' k') (q : Nat) : Tri (morL c s q s') (morL 1 m q m') (morL 1 k q k') := by
  intro j
  obtain ⟨a1, a2, a3⟩ := h j
  rw [morL_get, morL_get, morL_get]
  split
  · obtain ⟨b1, b2, b3⟩ := h' (j - q)
    refine ⟨by omega, by omega, fun e => ?_⟩
    rw [a3 (by omega), b3 (by omega)]; simp
  · refine ⟨by omega, by omega, fun e => ?_⟩
    rw [a3 (by omega)]; simp

theorem Tri.moreK {s m k k' : List Int} (h : Tri s m k) (h' : ∀ j, 0 ≤ k'.getD j 0) (q : Nat) : Tri s m (morL 1 k q k') := by
  intro j
  obtain ⟨a1, a2, a3⟩ := h j
  rw [morL_get]
  refine ⟨a1, ?_, a3⟩
  split
  · have := h' (j - q); omega
  · omega

theorem fold_inv {α β : Type} {I : β → Prop} {g : β → α → β} : ∀ (l : List α) (b : β), I b → (∀ b a, a ∈ l → I b → I (g b a)) → I (l.foldl g b)
  | [], b, h, _ => h
  | a :: l, b, h, hs => fold_inv l _ (hs b a List.mem_cons_self h) fun b' a' ha' => hs b' a' (List.mem_cons_of_mem _ ha')

theorem onL_moreK {ov : Nat → List Int} {g : List Nat} {n i S : Nat} {s m : List Int} (hk : ∀ T, Sub T S → ∀ j, 0 ≤ (ov T).getD j 0) : ∀ (e p sec met : Nat) (k : List Int), Tri s m k → Tri s m (onL ov g n i S 1 e p sec met k)
  | 0, _, _, _, k, h => h
  | e + 1, p, sec, met, k, h => by
    simp only [onL]
    refine fold_inv (I := fun k => Tri s m k) _ _ h fun k a _ hI => ?_
    split
    · refine onL_moreK hk e _ _ _ _ ?_
      split
      · exact hI.moreK (hk _ ((sub_dl _ _).trans (sub_dl _ _))) _
      · exact hI
    · exact hI

theorem fold_tri {α : Type} {g1 g2 g3 : List Int → α → List Int} : ∀ (l : List α) (s m k : List Int), Tri s m k → (∀ s m k a, a ∈ l → Tri s m k → Tri (g1 s a) (g2 m a) (g3 k a)) → Tri (l.foldl g1 s) (l.foldl g2 m) (l.foldl g3 k)
  | [], _, _, _, h, _ => h
  | a :: l, s, m, k, h, hs => fold_tri l _ _ _ (hs s m k a List.mem_cons_self h) fun s m k a' ha' => hs s m k a' (List.mem_cons_of_mem _ ha')

theorem full_bit {n p k : Nat} (hp : p < n) (hk : k < 7) : ((List.replicate n 127).getD p 0).testBit k = true := by
  rw [List.getD_eq_getElem?_getD, List.getElem?_replicate, if_pos hp]
  have : ∀ k, k < 7 → (127 : Nat).testBit k = true := by decide
  exact this k hk

theorem onL_tri {os om ok : Nat → List Int} {f : List Nat} {i S : Nat} {c : Int} (hn : f.length ≤ 7) (hi : i < f.length) (ht : ∀ T, Sub T S → Tri (os T) (om T) (ok T)) : ∀ (e p sec met : Nat) (s m k : List Int), p < f.length → Tri s m k →
    Tri (onL os f f.length i S c e p sec met s) (onL om f f.length i S 1 e p sec met m) (onL ok (List.replicate f.length 127) f.length i S 1 e p sec met k)
  | 0, _, _, _, _, _, _, _, h => h
  | e + 1, p, sec, met, s, m, k, hp, h => by
    simp only [onL]
    refine fold_tri _ _ _ _ h fun s m k a ha hI => ?_
    have ha' : a < f.length := List.mem_range.1 ha
    have hk0 : ∀ T, Sub T S → ∀ j, 0 ≤ (ok T).getD j 0 := fun T hT j => by have := ht T hT j; omega
    have hsub : Sub (dl (dl S met) (2 ^ a)) S := (sub_dl _ _).trans (sub_dl _ _)
    have hg : (dl ((List.replicate f.length 127).getD p 0 &&& S) met).testBit a = (S.testBit a && !met.testBit a) := by
      rw [dl_bit, Nat.testBit_and, full_bit hp (by omega), Bool.true_and]
    cases hb : (dl (f.getD p 0 &&& S) met).testBit a with
    | true =>
      have hb' := hb
      rw [dl_bit, Nat.testBit_and, Bool.and_eq_true, Bool.and_eq_true] at hb'
      have hK : (dl ((List.replicate f.length 127).getD p 0 &&& S) met).testBit a = true := by rw [hg, hb'.1.2, hb'.2]; rfl
      rw [if_pos rfl, if_pos rfl, if_pos hK]
      refine onL_tri hn hi ht e _ _ _ _ _ _ ha' ?_
      by_cases hc : 0 < met ∧ sec < a ∧ (f.getD a 0).testBit i = true
      · rw [if_pos hc, if_pos hc, if_pos ⟨hc.1, hc.2.1, full_bit ha' (by omega)⟩]
        exact hI.more (ht _ hsub) _
      · rw [if_neg hc, if_neg hc]
        split
        · exact hI.moreK (hk0 _ hsub) _
        · exact hI
    | false =>
      rw [if_neg (by simp), if_neg (by simp)]
      split
      · refine onL_moreK hk0 _ _ _ _ _ ?_
        split
        · exact hI.moreK (hk0 _ hsub) _
        · exact hI
      · exact hI

theorem ovL_tri {f : List Nat} {w r : Int} (hn : f.length ≤ 7) : ∀ (d left : Nat), left < 2 ^ f.length → Tri (ovL f w r d left) (ovL f 1 1 d left) (ovL (List.replicate f.length 127) 1 1 d left)
  | 0, left, _ => fun j => by
    simp only [ovL]
    cases j <;> simp
  | d + 1, left, hl => by
    have hp7 : 2 ^ f.length ≤ 128 := by
      have : (2 : Nat) ^ f.length ≤ 2 ^ 7 := Nat.pow_le_pow_right (by decide) hn
      omega
    simp only [ovL, List.length_replicate]
    by_cases h0 : left = 0
    · rw [if_pos h0, if_pos h0, if_pos h0]
      intro j
      cases j <;> simp
    · rw [if_neg h0, if_neg h0, if_neg h0]
      have hb := ctz_ok (m := left) (by omega) h0
      have hin : ctz left < f.length := by
        rcases Nat.lt_or_ge (ctz left) f.length with h | h
        · exact h
        · rw [Nat.testBit_lt_two_pow (Nat.lt_of_lt_of_le hl (Nat.pow_le_pow_right (by decide) h))] at hb; cases hb
      have hS : dl left (2 ^ ctz left) < 2 ^ f.length := Nat.lt_of_le_of_lt (dl_le _ _) hl
      have ht : ∀ T, Sub T (dl left (2 ^ ctz left)) → Tri (ovL f w r d T) (ovL f 1 1 d T) (ovL (List.replicate f.length 127) 1 1 d T) := fun T hT => ovL_tri hn d T (Nat.lt_of_le_of_lt hT.le hS)
      generalize dl left (2 ^ ctz left) = S at ht hS
      refine onL_tri hn hin ht _ _ _ _ _ _ _ hin ?_
      refine fold_tri _ _ _ _ (ht S (Sub.refl S)) fun s m k a ha hI => ?_
      have ha' : a < f.length := List.mem_range.1 ha
      have hk0 : ∀ T, Sub T S → ∀ j, 0 ≤ (ovL (List.replicate f.length 127) 1 1 d T).getD j 0 := fun T hT j => by have := ht T hT j; omega
      cases hb : (f.getD (ctz left) 0 &&& S).testBit a with
      | true =>
        have hb' := hb
        rw [Nat.testBit_and, Bool.and_eq_true] at hb'
        have hK : ((List.replicate f.length 127).getD (ctz left) 0 &&& S).testBit a = true := by rw [Nat.testBit_and, full_bit hin (by omega), hb'.2]; rfl
        rw [if_pos rfl, if_pos rfl, if_pos hK]
        exact hI.more (ht _ (sub_dl _ _)) _
      | false =>
        rw [if_neg (by simp), if_neg (by simp)]
        split
        · exact hI.moreK (hk0 _ (sub_dl _ _)) _
        · exact hI

set_option maxRecDepth 100000 in
theorem full_all : ([1, 2, 3, 4, 5, 6, 7].all fun n => (ovL (List.replicate n 127) 1 1 7 (2 ^ n - 1)).all fun x => decide (x < 100000)) = true := by decide +kernel

/-- The numbers of figures are small, and not below 0; where there are none, their sum is 0. -/
theorem figs_small {f : List Nat} {w r : Int} (h1 : 1 ≤ f.length) (h7 : f.length ≤ 7) (j : Nat) : 0 ≤ (ovL f 1 1 7 (2 ^ f.length - 1)).getD j 0 ∧ (ovL f 1 1 7 (2 ^ f.length - 1)).getD j 0 < 100000 ∧
    ((ovL f 1 1 7 (2 ^ f.length - 1)).getD j 0 = 0 → (ovL f w r 7 (2 ^ f.length - 1)).getD j 0 = 0) := by
  have h2 : 1 ≤ 2 ^ f.length := Nat.pow_pos (by decide)
  obtain ⟨a1, a2, a3⟩ := ovL_tri (w := w) (r := r) h7 7 (2 ^ f.length - 1) (by omega) j
  refine ⟨a1, ?_, a3⟩
  have hall := List.all_eq_true.1 full_all f.length (by simp; omega)
  have : (ovL (List.replicate f.length 127) 1 1 7 (2 ^ f.length - 1)).getD j 0 < 100000 := by
    rcases Nat.lt_or_ge j (ovL (List.replicate f.length 127) 1 1 7 (2 ^ f.length - 1)).length with hj | hj
    · rw [List.getD_eq_getElem?_getD, List.getElem?_eq_getElem hj, Option.getD_some]
      have := List.all_eq_true.1 hall _ (List.getElem_mem hj)
      simpa using this
    · rw [List.getD_eq_getElem?_getD, List.getElem?_eq_none hj]; decide
  omega
end Go.X

/-! Tones: the law of Sachs. -/
set_option linter.unusedSimpArgs false
set_option linter.unusedVariables false
set_option maxHeartbeats 2000000
set_option maxRecDepth 10000
namespace Go.X
open Go Go.RowKit

theorem ofL_get {n k : Nat} {ov : List Int} (h : k ≤ n) : (ofL n ov).getD (n - k) 0 = ov.getD k 0 := by
  unfold ofL
  rw [getD_get (by simp; omega), List.getElem_map, List.getElem_range, show n - (n - k) = k by omega]

theorem trimL_last {l : List Int} (h : l.getD (l.length - 1) 0 ≠ 0) : trimL l = l := by
  unfold trimL
  cases hl : l.length with
  | zero => rfl
  | succ d =>
    simp only [trimN]
    rw [hl] at h
    rw [if_neg (by simpa using h)]

theorem wr_id {x : Int} (h0 : 0 ≤ x) (h1 : x < 100000) : wr x = x := wrap_id (by omega) (by omega)

theorem poly_last {f : List Nat} {w r : Int} : (polyL f w r).getD f.length 0 = 1 := by
  unfold polyL
  have := ofL_get (n := f.length) (k := 0) (ov := ovL f w r 7 (2 ^ f.length - 1)) (Nat.zero_le _)
  rw [Nat.sub_zero] at this
  rw [this, ovL_get0]

theorem poly_trim {f : List Nat} {w r : Int} : trimL ((polyL f w r).map wr) = (polyL f w r).map wr := by
  apply trimL_last
  rw [List.length_map, polyL_len, Nat.add_sub_cancel]
  have h := poly_last (f := f) (w := w) (r := r)
  rw [List.getD_eq_getElem?_getD] at h ⊢
  rw [List.getElem?_map]
  cases hq : (polyL f w r)[f.length]? with
  | none => rw [hq] at h; simp at h
  | some x => rw [hq] at h; simp at h; subst h; decide

section
variable {Y : Run} {H : Heap}

theorem L4 {v w : AV} {l : List Int} (hv : IsRow v l) (hf : frameB l = true) (hw : IsRow w ((polyL (l.map Int.toNat) (-1) (-2)).map wr)) (d : Nat) : ∀ (k : Nat), k + d = l.length + 1 →
    lp ET Y F4L0 (sp 87 [(6, vI k), (4, w), (3, vI l.length), (0, v)]) H = some (.x 0, sp 87 [], H) := by
  have h7 : 1 ≤ l.length ∧ l.length ≤ 7 := by simp only [frameB, Bool.and_eq_true, decide_eq_true_eq] at hf; exact hf.1.1
  have hlen : (l.map Int.toNat).length = l.length := by simp
  induction d with
  | zero =>
    intro k hk
    rw [un4_0]
    have : ¬ ((k : Int) ≤ (l.length : Int)) := by omega
    simp only [F4L0b, SS, insA, wantedA, Opd.ev, putA, binA, eqbA, unA, fldA, partA, reduceIte, reduceCtorEq, Nat.reduceMod, Nat.reduceDiv, Nat.reduceBEq, resultA, resA, vI, Nat.reduceMul, Nat.reduceAdd, Nat.reduceSub, Nat.reduceEqDiff, Nat.reduceLT, Nat.reducePow, Nat.reduceLeDiff, st, Option.bind_eq_bind, Option.pure_def, List.length_nil, Int.cast_ofNat_Int, List.reverse_nil, UU, idxP, cellsAt, storeA, fillA, zerosA, putAll, optNat, sliceA, row, Int.reduceLT, Int.reduceLE, Int.reduceGT, Int.reduceGE, Int.reduceEq, Int.reduceNe, Int.reduceToNat, Int.reduceBEq, Int.reduceBNe, Nat.reduceLeDiff, Nat.reduceLT, Nat.reduceBNe, Nat.reduceGT, List.drop_nil, List.take_nil, Option.isSome_none, Int.ofNat_one, Int.ofNat_zero, this]
  | succ d ih =>
    intro k hk
    have hkn : k ≤ l.length := by omega
    have hc : (k : Int) ≤ (l.length : Int) := by omega
    have hww := wrap_succ (n := k) (by omega)
    have hfig := fun H => figs22 (Y := Y) (H := H) hv hf hkn
    have hsub : IntKind.wrap .i64 ((l.length : Int) - (k : Int)) = ((l.length - k : Nat) : Int) := by rw [wrap_id (by omega) (by omega)]; omega
    have hpl : l.length - k < ((polyL (l.map Int.toNat) (-1) (-2)).map wr).length := by rw [List.length_map, polyL_len, hlen]; omega
    have hix := hw.idx hpl
    have hld := hw.load (H := H) hpl
    have hgd : ((polyL (l.map Int.toNat) (-1) (-2)).map wr).getD (l.length - k) 0 = wr ((polyL (l.map Int.toNat) (-1) (-2)).getD (l.length - k) 0) := by
      rw [List.length_map] at hpl
      simp [List.getD_eq_getElem?_getD, hpl]
    rw [hgd] at hld
    have hsm := figs_small (f := l.map Int.toNat) (w := -1) (r := -2) (by omega) (by omega) k
    rw [hlen] at hsm
    have e1 : (polyL (l.map Int.toNat) (-1) (-2)).getD (l.length - k) 0 = (ovL (l.map Int.toNat) (-1) (-2) 7 (2 ^ l.length - 1)).getD k 0 := by unfold polyL; rw [hlen, ofL_get hkn]
    have e2 : (polyL (l.map Int.toNat) 1 1).getD (l.length - k) 0 = (ovL (l.map Int.toNat) 1 1 7 (2 ^ l.length - 1)).getD k 0 := by unfold polyL; rw [hlen, ofL_get hkn]
    have hk0 : k = 0 → (ovL (l.map Int.toNat) 1 1 7 (2 ^ l.length - 1)).getD k 0 = 1 := fun e => by subst e; exact ovL_get0 _ _
    rw [e1, e2] at hfig
    rw [e1] at hld
    generalize (ovL (l.map Int.toNat) (-1) (-2) 7 (2 ^ l.length - 1)).getD k 0 = s at *
    generalize (ovL (l.map Int.toNat) 1 1 7 (2 ^ l.length - 1)).getD k 0 = mm at *
    rw [wr_id hsm.1 hsm.2.1] at hfig
    have q1 : (wr s != wr s) = false := by simp
    have q2 : ¬ mm < 0 := by omega
    have ih := ih (k + 1) (by omega)
    rw [un4_0]
    simp only [wr, SS, insA, wantedA, Opd.ev, putA, binA, eqbA, unA, fldA, partA, reduceIte, reduceCtorEq, Nat.reduceMod, Nat.reduceDiv, Nat.reduceBEq, resultA, resA, vI, Nat.reduceMul, Nat.reduceAdd, Nat.reduceSub, Nat.reduceEqDiff, Nat.reduceLT, Nat.reducePow, Nat.reduceLeDiff, st, Option.bind_eq_bind, Option.pure_def, List.length_nil, Int.cast_ofNat_Int, List.reverse_nil] at hld ih q1 hfig
    by_cases ck : k = 0
    · have hm1 := hk0 ck
      have q3 : ((k : Int) == 0) = true := by simp [ck]
      have q4 : (mm != 1) = false := by rw [hm1]; rfl
      have q5 : (mm == 0) = false := by rw [hm1]; rfl
      simp only [F4L0b, SS, insA, wantedA, Opd.ev, putA, binA, eqbA, unA, fldA, partA, reduceIte, reduceCtorEq, Nat.reduceMod, Nat.reduceDiv, Nat.reduceBEq, resultA, resA, vI, Nat.reduceMul, Nat.reduceAdd, Nat.reduceSub, Nat.reduceEqDiff, Nat.reduceLT, Nat.reducePow, Nat.reduceLeDiff, st, Option.bind_eq_bind, Option.pure_def, List.length_nil, Int.cast_ofNat_Int, List.reverse_nil, UU, idxP, cellsAt, storeA, fillA, zerosA, putAll, optNat, sliceA, row, Int.reduceLT, Int.reduceLE, Int.reduceGT, Int.reduceGE, Int.reduceEq, Int.reduceNe, Int.reduceToNat, Int.reduceBEq, Int.reduceBNe, Nat.reduceLeDiff, Nat.reduceLT, Nat.reduceBNe, Nat.reduceGT, List.drop_nil, List.take_nil, Option.isSome_none, Int.ofNat_one, Int.ofNat_zero, hc, hww, hv.snap, hfig, hsub, hix, hld, q1, q2, q3, q4, q5, ih]
    · have q3 : ((k : Int) == 0) = false := by simp [ck]
      by_cases cm : mm = 0
      · have q5 : (mm == 0) = true := by rw [cm]; rfl
        have q6 : (IntKind.wrap .i64 s != 0) = false := by rw [hsm.2.2 cm]; decide
        simp only [F4L0b, SS, insA, wantedA, Opd.ev, putA, binA, eqbA, unA, fldA, partA, reduceIte, reduceCtorEq, Nat.reduceMod, Nat.reduceDiv, Nat.reduceBEq, resultA, resA, vI, Nat.reduceMul, Nat.reduceAdd, Nat.reduceSub, Nat.reduceEqDiff, Nat.reduceLT, Nat.reducePow, Nat.reduceLeDiff, st, Option.bind_eq_bind, Option.pure_def, List.length_nil, Int.cast_ofNat_Int, List.reverse_nil, UU, idxP, cellsAt, storeA, fillA, zerosA, putAll, optNat, sliceA, row, Int.reduceLT, Int.reduceLE, Int.reduceGT, Int.reduceGE, Int.reduceEq, Int.reduceNe, Int.reduceToNat, Int.reduceBEq, Int.reduceBNe, Nat.reduceLeDiff, Nat.reduceLT, Nat.reduceBNe, Nat.reduceGT, List.drop_nil, List.take_nil, Option.isSome_none, Int.ofNat_one, Int.ofNat_zero, hc, hww, hv.snap, hfig, hsub, hix, hld, q1, q2, q3, q5, q6, ih]
      · have q5 : (mm == 0) = false := by simp [cm]
        simp only [F4L0b, SS, insA, wantedA, Opd.ev, putA, binA, eqbA, unA, fldA, partA, reduceIte, reduceCtorEq, Nat.reduceMod, Nat.reduceDiv, Nat.reduceBEq, resultA, resA, vI, Nat.reduceMul, Nat.reduceAdd, Nat.reduceSub, Nat.reduceEqDiff, Nat.reduceLT, Nat.reducePow, Nat.reduceLeDiff, st, Option.bind_eq_bind, Option.pure_def, List.length_nil, Int.cast_ofNat_Int, List.reverse_nil, UU, idxP, cellsAt, storeA, fillA, zerosA, putAll, optNat, sliceA, row, Int.reduceLT, Int.reduceLE, Int.reduceGT, Int.reduceGE, Int.reduceEq, Int.reduceNe, Int.reduceToNat, Int.reduceBEq, Int.reduceBNe, Nat.reduceLeDiff, Nat.reduceLT, Nat.reduceBNe, Nat.reduceGT, List.drop_nil, List.take_nil, Option.isSome_none, Int.ofNat_one, Int.ofNat_zero, hc, hww, hv.snap, hfig, hsub, hix, hld, q1, q2, q3, q5, ih]

theorem law4 (hY : ∀ args H, Y 97 args H = yA 97 args H) {v : AV} {l : List Int} (hv : IsRow v l) : freeX [] (callL ET Y 4 [v] []) = some (.bool true, []) := by
  have hal := fun H => alive17 (Y := Y) (H := H) hY
  have hfew := fun H => few16 (Y := Y) (H := H) hv .nil
  simp only [List.length_nil, show (0 : Nat) ≤ 40 from by decide, decide_true, Bool.and_true] at hfew
  rw [call4 rfl]
  by_cases h40 : l.length ≤ 40
  · simp only [h40, decide_true] at hfew
    have hfr := fun H => frame20 (Y := Y) (H := H) hv (by omega)
    cases hf : frameB l with
    | false =>
      rw [hf] at hfr
      simp only [F4B, SS, insA, wantedA, Opd.ev, putA, binA, eqbA, unA, fldA, partA, reduceIte, reduceCtorEq, Nat.reduceMod, Nat.reduceDiv, Nat.reduceBEq, resultA, resA, vI, Nat.reduceMul, Nat.reduceAdd, Nat.reduceSub, Nat.reduceEqDiff, Nat.reduceLT, Nat.reducePow, Nat.reduceLeDiff, st, Option.bind_eq_bind, Option.pure_def, List.length_nil, Int.cast_ofNat_Int, List.reverse_nil, UU, idxP, cellsAt, storeA, fillA, zerosA, putAll, optNat, sliceA, row, Int.reduceLT, Int.reduceLE, Int.reduceGT, Int.reduceGE, Int.reduceEq, Int.reduceNe, Int.reduceToNat, Int.reduceBEq, Int.reduceBNe, Nat.reduceLeDiff, Nat.reduceLT, Nat.reduceBNe, Nat.reduceGT, List.drop_nil, List.take_nil, Option.isSome_none, Int.ofNat_one, Int.ofNat_zero, hv.snap, hfew, hfr, hal]
    | true =>
      rw [hf] at hfr
      have h7 : 1 ≤ l.length ∧ l.length ≤ 7 := by simp only [frameB, Bool.and_eq_true, decide_eq_true_eq] at hf; exact hf.1.1
      have hlen : (l.map Int.toNat).length = l.length := by simp
      obtain ⟨w, t1, t2⟩ := tones21 (Y := Y) hv (by omega)
      rw [if_pos hf] at t1 t2
      rw [poly_trim] at t2
      have hw := t2.row
      have hwl := hw.len
      rw [List.length_map, polyL_len, hlen] at hwl
      have hpl : l.length < ((polyL (l.map Int.toNat) (-1) (-2)).map wr).length := by rw [List.length_map, polyL_len, hlen]; omega
      have hix := hw.idx hpl
      have hld := fun H => hw.load (H := H) hpl
      have hgd : ((polyL (l.map Int.toNat) (-1) (-2)).map wr).getD l.length 0 = 1 := by
        have := poly_last (f := l.map Int.toNat) (w := -1) (r := -2)
        rw [hlen] at this
        rw [List.length_map] at hpl
        rw [List.getD_eq_getElem?_getD, List.getElem?_map, List.getElem?_eq_getElem hpl]
        rw [List.getD_eq_getElem?_getD, List.getElem?_eq_getElem hpl] at this
        simp at this
        simp [this]
        decide
      rw [hgd] at hld
      have hws := wrap_succ (n := l.length) (by omega)
      have q1 : (((l.length + 1 : Nat) : Int) != ((l.length + 1 : Nat) : Int)) = false := by simp
      have hL := L4 (Y := Y) (H := []) hv hf hw (l.length + 1) 0 (by omega)
      simp only [SS, insA, wantedA, Opd.ev, putA, binA, eqbA, unA, fldA, partA, reduceIte, reduceCtorEq, Nat.reduceMod, Nat.reduceDiv, Nat.reduceBEq, resultA, resA, vI, Nat.reduceMul, Nat.reduceAdd, Nat.reduceSub, Nat.reduceEqDiff, Nat.reduceLT, Nat.reducePow, Nat.reduceLeDiff, st, Option.bind_eq_bind, Option.pure_def, List.length_nil, Int.cast_ofNat_Int, List.reverse_nil, Int.ofNat_zero] at hL hld
      simp only [F4B, F4T0, in4_0, SS, insA, wantedA, Opd.ev, putA, binA, eqbA, unA, fldA, partA, reduceIte, reduceCtorEq, Nat.reduceMod, Nat.reduceDiv, Nat.reduceBEq, resultA, resA, vI, Nat.reduceMul, Nat.reduceAdd, Nat.reduceSub, Nat.reduceEqDiff, Nat.reduceLT, Nat.reducePow, Nat.reduceLeDiff, st, Option.bind_eq_bind, Option.pure_def, List.length_nil, Int.cast_ofNat_Int, List.reverse_nil, UU, idxP, cellsAt, storeA, fillA, zerosA, putAll, optNat, sliceA, row, Int.reduceLT, Int.reduceLE, Int.reduceGT, Int.reduceGE, Int.reduceEq, Int.reduceNe, Int.reduceToNat, Int.reduceBEq, Int.reduceBNe, Nat.reduceLeDiff, Nat.reduceLT, Nat.reduceBNe, Nat.reduceGT, List.drop_nil, List.take_nil, Option.isSome_none, Int.ofNat_one, Int.ofNat_zero, hv.snap, hv.len, hfew, hfr, t1, hwl, hws, q1, hix, hld, hL, hal]
  · simp only [h40, decide_false] at hfew
    simp only [F4B, SS, insA, wantedA, Opd.ev, putA, binA, eqbA, unA, fldA, partA, reduceIte, reduceCtorEq, Nat.reduceMod, Nat.reduceDiv, Nat.reduceBEq, resultA, resA, vI, Nat.reduceMul, Nat.reduceAdd, Nat.reduceSub, Nat.reduceEqDiff, Nat.reduceLT, Nat.reducePow, Nat.reduceLeDiff, st, Option.bind_eq_bind, Option.pure_def, List.length_nil, Int.cast_ofNat_Int, List.reverse_nil, UU, idxP, cellsAt, storeA, fillA, zerosA, putAll, optNat, sliceA, row, Int.reduceLT, Int.reduceLE, Int.reduceGT, Int.reduceGE, Int.reduceEq, Int.reduceNe, Int.reduceToNat, Int.reduceBEq, Int.reduceBNe, Nat.reduceLeDiff, Nat.reduceLT, Nat.reduceBNe, Nat.reduceGT, List.drop_nil, List.take_nil, Option.isSome_none, Int.ofNat_one, Int.ofNat_zero, hv.snap, hfew, hal]
end
end Go.X
