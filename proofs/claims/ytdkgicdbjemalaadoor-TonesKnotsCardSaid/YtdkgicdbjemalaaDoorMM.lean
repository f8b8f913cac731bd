import Derived.Test.YtdkgicdbjemalaaDoorML
/-! Tones: Tones, Matchings, Figures. -/
set_option linter.unusedSimpArgs false
set_option linter.unusedVariables false
set_option maxHeartbeats 2000000
set_option maxRecDepth 10000
namespace Go.X
open Go Go.RowKit

/-- Without the zeros at the end. -/
def trimN : Nat → List Int → List Int
  | 0, l => l
  | d + 1, l => if l.getD d 0 = 0 then trimN d (l.take d) else l
def trimL (l : List Int) : List Int := trimN l.length l

section
variable {Y : Run} {H : Heap}

theorem IsFree.one {w : AV} {l : List Int} (h : IsFree w l) : one w = true ∧ isU w = false ∧ cellsOf w = [w] := by rcases h with ⟨rfl, rfl⟩ | rfl <;> exact ⟨rfl, rfl, rfl⟩

theorem L57 {a b : Nat} (hab : a ≠ b) (d : Nat) : ∀ {H : Heap} {u : AV} {l : List Int}, IsFree u l → l.length = d → d ≤ 1000 → H[a]? = some ⟨0, [u]⟩ →
    ∃ H' u', lp ET Y F57L0 (sp 27 [(2, .ptr b 0 0), (1, .ptr a 0 0)]) H = some (.x 0, sp 27 [(2, .ptr b 0 0), (1, .ptr a 0 0)], H') ∧ H'[a]? = some ⟨0, [u']⟩ ∧ IsFree u' (trimN d l) ∧ (∀ i, i ≠ a → H'[i]? = H[i]?) := by
  induction d with
  | zero =>
    intro H u l hu hl _ h
    refine ⟨H, u, ?_, h, hu, fun _ _ => rfl⟩
    have hlen := hu.row.len
    rw [hl] at hlen
    rw [un57_0]
    simp only [F57L0b, SS, insA, wantedA, Opd.ev, putA, binA, eqbA, unA, fldA, partA, reduceIte, reduceCtorEq, Nat.reduceMod, Nat.reduceDiv, Nat.reduceBEq, resultA, resA, vI, Nat.reduceMul, Nat.reduceAdd, Nat.reduceSub, Nat.reduceEqDiff, Nat.reduceLT, Nat.reducePow, Nat.reduceLeDiff, st, Option.bind_eq_bind, Option.pure_def, List.length_nil, Int.cast_ofNat_Int, List.reverse_nil, UU, idxP, cellsAt, fillA, zerosA, putAll, row, Int.reduceLT, Int.reduceLE, Int.reduceGT, Int.reduceGE, Int.reduceEq, Int.reduceNe, Int.reduceToNat, Int.reduceBEq, Int.reduceBNe, Nat.reduceLeDiff, Nat.reduceLT, Nat.reduceBNe, Nat.reduceGT, List.drop_nil, List.take_nil, Option.isSome_none, Int.ofNat_one, Int.ofNat_zero, h, hlen, Int.ofNat_zero]
  | succ d ih =>
    intro H u l hu hl hd h
    have hlen := hu.row.len
    rw [hl] at hlen
    have hc : ((d + 1 : Nat) : Int) > 0 := by omega
    have hw : IntKind.wrap .i64 (((d + 1 : Nat) : Int) - 1) = (d : Int) := by rw [wrap_id (by omega) (by omega)]; omega
    have hix := hu.row.idx (i := d) (by omega)
    have hld := hu.row.load (H := H) (i := d) (by omega)
    by_cases c : l.getD d 0 = 0
    · have c1 : (l.getD d 0 == 0) = true := beq_iff_eq.2 c
      obtain ⟨u', e1, hu'⟩ := hu.slice (j := d) (by omega)
      have hone := hu'.one
      obtain ⟨H', u'', e2, h2, h3, h4⟩ := ih (H := H.set a ⟨0, [u']⟩) hu' (by simp; omega) (by omega) (by rw [List.getElem?_set_self (hlt_of h)])
      refine ⟨H', u'', ?_, h2, by simp only [trimN]; rw [if_pos c]; exact h3, fun i hi => (h4 i hi).trans (List.getElem?_set_ne (Ne.symm hi))⟩
      rw [un57_0]
      simp only [F57L0b, SS, insA, wantedA, Opd.ev, putA, binA, eqbA, unA, fldA, partA, reduceIte, reduceCtorEq, Nat.reduceMod, Nat.reduceDiv, Nat.reduceBEq, resultA, resA, vI, Nat.reduceMul, Nat.reduceAdd, Nat.reduceSub, Nat.reduceEqDiff, Nat.reduceLT, Nat.reducePow, Nat.reduceLeDiff, st, Option.bind_eq_bind, Option.pure_def, List.length_nil, Int.cast_ofNat_Int, List.reverse_nil, UU, idxP, cellsAt, fillA, zerosA, putAll, row, Int.reduceLT, Int.reduceLE, Int.reduceGT, Int.reduceGE, Int.reduceEq, Int.reduceNe, Int.reduceToNat, Int.reduceBEq, Int.reduceBNe, Nat.reduceLeDiff, Nat.reduceLT, Nat.reduceBNe, Nat.reduceGT, List.drop_nil, List.take_nil, Option.isSome_none, Int.ofNat_one, Int.ofNat_zero, storeA, h, hlen, hc, hw, hix, hld, c1, e1, hone, e2]
    · have c1 : (l.getD d 0 == 0) = false := beq_false_of_ne c
      refine ⟨H, u, ?_, h, by simp only [trimN]; rw [if_neg c]; exact hu, fun _ _ => rfl⟩
      rw [un57_0]
      simp only [F57L0b, SS, insA, wantedA, Opd.ev, putA, binA, eqbA, unA, fldA, partA, reduceIte, reduceCtorEq, Nat.reduceMod, Nat.reduceDiv, Nat.reduceBEq, resultA, resA, vI, Nat.reduceMul, Nat.reduceAdd, Nat.reduceSub, Nat.reduceEqDiff, Nat.reduceLT, Nat.reducePow, Nat.reduceLeDiff, st, Option.bind_eq_bind, Option.pure_def, List.length_nil, Int.cast_ofNat_Int, List.reverse_nil, UU, idxP, cellsAt, fillA, zerosA, putAll, row, Int.reduceLT, Int.reduceLE, Int.reduceGT, Int.reduceGE, Int.reduceEq, Int.reduceNe, Int.reduceToNat, Int.reduceBEq, Int.reduceBNe, Nat.reduceLeDiff, Nat.reduceLT, Nat.reduceBNe, Nat.reduceGT, List.drop_nil, List.take_nil, Option.isSome_none, Int.ofNat_one, Int.ofNat_zero, h, hlen, hc, hw, hix, hld, c1]

theorem trim57 {u : AV} {l : List Int} (hu : IsFree u l) (hl : l.length ≤ 1000) : ∃ u' H', callL ET Y 57 [.agg [u]] H = some (.agg [u'], H') ∧ IsFree u' (trimL l) := by
  have h0 : (H ++ [(⟨0, [u]⟩ : Ob), ⟨0, [.nils]⟩])[H.length]? = some ⟨0, [u]⟩ := by rw [List.getElem?_append_right (Nat.le_refl _)]; simp
  obtain ⟨H', u', e1, h1, h2, h3⟩ := L57 (Y := Y) (a := H.length) (b := H.length + 1) (by omega) l.length hu rfl hl h0
  have hb : H'[H.length + 1]? = some ⟨0, [.nils]⟩ := by
    rw [h3 _ (by omega), List.getElem?_append_right (by omega)]; simp
  have hb' : (H'.set (H.length + 1) ⟨0, [u']⟩)[H.length + 1]? = some ⟨0, [u']⟩ := by rw [List.getElem?_set_self (hlt_of hb)]
  have ho := hu.one
  have ho' := h2.one
  refine ⟨u', H'.set (H.length + 1) ⟨0, [u']⟩, ?_, h2⟩
  rw [call57 rfl]
  simp only [F57B, F57T0, in57_0, SS, insA, wantedA, Opd.ev, putA, binA, eqbA, unA, fldA, partA, reduceIte, reduceCtorEq, Nat.reduceMod, Nat.reduceDiv, Nat.reduceBEq, resultA, resA, vI, Nat.reduceMul, Nat.reduceAdd, Nat.reduceSub, Nat.reduceEqDiff, Nat.reduceLT, Nat.reducePow, Nat.reduceLeDiff, st, Option.bind_eq_bind, Option.pure_def, List.length_nil, Int.cast_ofNat_Int, List.reverse_nil, UU, idxP, cellsAt, fillA, zerosA, putAll, row, Int.reduceLT, Int.reduceLE, Int.reduceGT, Int.reduceGE, Int.reduceEq, Int.reduceNe, Int.reduceToNat, Int.reduceBEq, Int.reduceBNe, Nat.reduceLeDiff, Nat.reduceLT, Nat.reduceBNe, Nat.reduceGT, List.drop_nil, List.take_nil, Option.isSome_none, Int.ofNat_one, Int.ofNat_zero, storeA, ho, ho', e1, h1, hb, hb', endX, List.cons_append, List.nil_append, List.length_append]

theorem tones21 {v : AV} {l : List Int} (hv : IsRow v l) (hl : l.length ≤ 1000) : ∃ w, (∀ H, freeX H (callL ET Y 21 [v] []) = some (.tup [w, vI (if frameB l = true then 0 else 2)], H)) ∧
    IsFree w (if frameB l = true then trimL ((polyL (l.map Int.toNat) (-1) (-2)).map wr) else []) := by
  cases hf : frameB l with
  | false =>
    have hr := read51 (Y := Y) (H := []) hv hl
    rw [hf, if_neg (by simp)] at hr
    refine ⟨.nils, fun H => ?_, .inl ⟨rfl, rfl⟩⟩
    rw [call21 rfl]
    simp only [F21B, SS, insA, wantedA, Opd.ev, putA, binA, eqbA, unA, fldA, partA, reduceIte, reduceCtorEq, Nat.reduceMod, Nat.reduceDiv, Nat.reduceBEq, resultA, resA, vI, Nat.reduceMul, Nat.reduceAdd, Nat.reduceSub, Nat.reduceEqDiff, Nat.reduceLT, Nat.reducePow, Nat.reduceLeDiff, st, Option.bind_eq_bind, Option.pure_def, List.length_nil, Int.cast_ofNat_Int, List.reverse_nil, UU, idxP, cellsAt, storeA, fillA, zerosA, putAll, optNat, sliceA, row, Int.reduceLT, Int.reduceLE, Int.reduceGT, Int.reduceGE, Int.reduceEq, Int.reduceNe, Int.reduceToNat, Int.reduceBEq, Int.reduceBNe, Nat.reduceLeDiff, Nat.reduceLT, Nat.reduceBNe, Nat.reduceGT, List.drop_nil, List.take_nil, Option.isSome_none, Int.ofNat_one, Int.ofNat_zero, hr, Bool.false_eq_true]
  | true =>
    have hr := read51 (Y := Y) (H := []) hv hl
    rw [hf, if_pos rfl] at hr
    obtain ⟨hF, _⟩ := Fr.of hv hf
    have ho := fun H => of54 (Y := Y) (H := H) (w := 139) (r := 140) hF (by simp) (by simp)
    have e1 : cm 139 = -1 := by decide
    have e2 : cm 140 = -2 := by decide
    rw [e1, e2] at ho
    have hfree : IsFree (.imm false (((polyL (l.map Int.toNat) (-1) (-2)).map wr).map vI) ((l.map Int.toNat).length + 1)) ((polyL (l.map Int.toNat) (-1) (-2)).map wr) := .inr (by simp [polyL_len])
    obtain ⟨u', H', t1, t2⟩ := trim57 (Y := Y) (H := []) hfree (by rw [List.length_map, polyL_len]; have := hF.n7; omega)
    refine ⟨u', fun H => ?_, by rw [if_pos rfl]; exact t2⟩
    generalize AV.imm false (((polyL (l.map Int.toNat) (-1) (-2)).map wr).map vI) ((l.map Int.toNat).length + 1) = pv at *
    rw [call21 rfl]
    simp only [F21B, SS, insA, wantedA, Opd.ev, putA, binA, eqbA, unA, fldA, partA, reduceIte, reduceCtorEq, Nat.reduceMod, Nat.reduceDiv, Nat.reduceBEq, resultA, resA, vI, Nat.reduceMul, Nat.reduceAdd, Nat.reduceSub, Nat.reduceEqDiff, Nat.reduceLT, Nat.reducePow, Nat.reduceLeDiff, st, Option.bind_eq_bind, Option.pure_def, List.length_nil, Int.cast_ofNat_Int, List.reverse_nil, UU, idxP, cellsAt, storeA, fillA, zerosA, putAll, optNat, sliceA, row, Int.reduceLT, Int.reduceLE, Int.reduceGT, Int.reduceGE, Int.reduceEq, Int.reduceNe, Int.reduceToNat, Int.reduceBEq, Int.reduceBNe, Nat.reduceLeDiff, Nat.reduceLT, Nat.reduceBNe, Nat.reduceGT, List.drop_nil, List.take_nil, Option.isSome_none, Int.ofNat_one, Int.ofNat_zero, hr, hv.snap, ho, t1, t2.free, if_true]

theorem match23 {v : AV} {l : List Int} (hv : IsRow v l) (hl : l.length ≤ 1000) : ∃ w, (∀ H, freeX H (callL ET Y 23 [v] []) = some (.tup [w, vI (if frameB l = true then 0 else 2)], H)) ∧
    IsFree w (if frameB l = true then trimL ((polyL (l.map Int.toNat) (-1) 0).map wr) else []) := by
  cases hf : frameB l with
  | false =>
    have hr := read51 (Y := Y) (H := []) hv hl
    rw [hf, if_neg (by simp)] at hr
    refine ⟨.nils, fun H => ?_, .inl ⟨rfl, rfl⟩⟩
    rw [call23 rfl]
    simp only [F23B, SS, insA, wantedA, Opd.ev, putA, binA, eqbA, unA, fldA, partA, reduceIte, reduceCtorEq, Nat.reduceMod, Nat.reduceDiv, Nat.reduceBEq, resultA, resA, vI, Nat.reduceMul, Nat.reduceAdd, Nat.reduceSub, Nat.reduceEqDiff, Nat.reduceLT, Nat.reducePow, Nat.reduceLeDiff, st, Option.bind_eq_bind, Option.pure_def, List.length_nil, Int.cast_ofNat_Int, List.reverse_nil, UU, idxP, cellsAt, storeA, fillA, zerosA, putAll, optNat, sliceA, row, Int.reduceLT, Int.reduceLE, Int.reduceGT, Int.reduceGE, Int.reduceEq, Int.reduceNe, Int.reduceToNat, Int.reduceBEq, Int.reduceBNe, Nat.reduceLeDiff, Nat.reduceLT, Nat.reduceBNe, Nat.reduceGT, List.drop_nil, List.take_nil, Option.isSome_none, Int.ofNat_one, Int.ofNat_zero, hr, Bool.false_eq_true]
  | true =>
    have hr := read51 (Y := Y) (H := []) hv hl
    rw [hf, if_pos rfl] at hr
    obtain ⟨hF, _⟩ := Fr.of hv hf
    have ho := fun H => of54 (Y := Y) (H := H) (w := 141) (r := 142) hF (by simp) (by simp)
    have e1 : cm 141 = -1 := by decide
    have e2 : cm 142 = 0 := by decide
    rw [e1, e2] at ho
    have hfree : IsFree (.imm false (((polyL (l.map Int.toNat) (-1) 0).map wr).map vI) ((l.map Int.toNat).length + 1)) ((polyL (l.map Int.toNat) (-1) 0).map wr) := .inr (by simp [polyL_len])
    obtain ⟨u', H', t1, t2⟩ := trim57 (Y := Y) (H := []) hfree (by rw [List.length_map, polyL_len]; have := hF.n7; omega)
    refine ⟨u', fun H => ?_, by rw [if_pos rfl]; exact t2⟩
    generalize AV.imm false (((polyL (l.map Int.toNat) (-1) 0).map wr).map vI) ((l.map Int.toNat).length + 1) = pv at *
    rw [call23 rfl]
    simp only [F23B, SS, insA, wantedA, Opd.ev, putA, binA, eqbA, unA, fldA, partA, reduceIte, reduceCtorEq, Nat.reduceMod, Nat.reduceDiv, Nat.reduceBEq, resultA, resA, vI, Nat.reduceMul, Nat.reduceAdd, Nat.reduceSub, Nat.reduceEqDiff, Nat.reduceLT, Nat.reducePow, Nat.reduceLeDiff, st, Option.bind_eq_bind, Option.pure_def, List.length_nil, Int.cast_ofNat_Int, List.reverse_nil, UU, idxP, cellsAt, storeA, fillA, zerosA, putAll, optNat, sliceA, row, Int.reduceLT, Int.reduceLE, Int.reduceGT, Int.reduceGE, Int.reduceEq, Int.reduceNe, Int.reduceToNat, Int.reduceBEq, Int.reduceBNe, Nat.reduceLeDiff, Nat.reduceLT, Nat.reduceBNe, Nat.reduceGT, List.drop_nil, List.take_nil, Option.isSome_none, Int.ofNat_one, Int.ofNat_zero, hr, hv.snap, ho, t1, t2.free, if_true]

theorem figs22 {v : AV} {l : List Int} (hv : IsRow v l) (hf : frameB l = true) {k : Nat} (hk : k ≤ l.length) :
    freeX H (callL ET Y 22 [v, vI k] []) = some (.tup [vI (wr ((polyL (l.map Int.toNat) (-1) (-2)).getD (l.length - k) 0)), vI (wr ((polyL (l.map Int.toNat) 1 1).getD (l.length - k) 0)), vI 0], H) := by
  have h7 : l.length ≤ 7 := by simp only [frameB, Bool.and_eq_true, decide_eq_true_eq] at hf; exact hf.1.1.2
  have hr := read51 (Y := Y) (H := []) hv (by omega)
  rw [hf, if_pos rfl] at hr
  obtain ⟨hF, _⟩ := Fr.of hv hf
  have o1 := fun H => of54 (Y := Y) (H := H) (w := 139) (r := 140) hF (by simp) (by simp)
  have o2 := fun H => of54 (Y := Y) (H := H) (w := 143) (r := 144) hF (by simp) (by simp)
  have e1 : cm 139 = -1 := by decide
  have e2 : cm 140 = -2 := by decide
  have e3 : cm 143 = 1 := by decide
  have e4 : cm 144 = 1 := by decide
  rw [e1, e2] at o1
  rw [e3, e4] at o2
  have hlen : (l.map Int.toNat).length = l.length := by simp
  rw [hlen] at o1 o2
  have c1 : ¬ ((k : Int) < 0) := by omega
  have c2 : ¬ ((k : Int) > (l.length : Int)) := by omega
  have hsub : IntKind.wrap .i64 ((l.length : Int) - (k : Int)) = ((l.length - k : Nat) : Int) := by rw [wrap_id (by omega) (by omega)]; omega
  have r1 : IsRow (.imm false (((polyL (l.map Int.toNat) (-1) (-2)).map wr).map vI) (l.length + 1)) ((polyL (l.map Int.toNat) (-1) (-2)).map wr) := by
    have := IsRow.imm false ((polyL (l.map Int.toNat) (-1) (-2)).map wr)
    rwa [List.length_map, polyL_len, hlen] at this
  have r2 : IsRow (.imm false (((polyL (l.map Int.toNat) 1 1).map wr).map vI) (l.length + 1)) ((polyL (l.map Int.toNat) 1 1).map wr) := by
    have := IsRow.imm false ((polyL (l.map Int.toNat) 1 1).map wr)
    rwa [List.length_map, polyL_len, hlen] at this
  have hi1 := r1.idx (i := l.length - k) (by rw [List.length_map, polyL_len, hlen]; omega)
  have hi2 := r2.idx (i := l.length - k) (by rw [List.length_map, polyL_len, hlen]; omega)
  have gm : ∀ (q : List Int) (j : Nat), j < q.length → (q.map wr).getD j 0 = wr (q.getD j 0) := fun q j hj => by simp [List.getD_eq_getElem?_getD, hj]
  have hl1 := fun H => r1.load (H := H) (i := l.length - k) (by rw [List.length_map, polyL_len, hlen]; omega)
  have hl2 := fun H => r2.load (H := H) (i := l.length - k) (by rw [List.length_map, polyL_len, hlen]; omega)
  rw [gm _ _ (by rw [polyL_len, hlen]; omega)] at hl1 hl2
  have hone : ∀ (q : List AV) (n : Nat), one (.imm false q n) = true ∧ isU (.imm false q n) = false ∧ cellsOf (.imm false q n) = [.imm false q n] := fun _ _ => ⟨rfl, rfl, rfl⟩
  have hone1 := hone (((polyL (l.map Int.toNat) (-1) (-2)).map wr).map vI) (l.length + 1)
  have hone2 := hone (((polyL (l.map Int.toNat) 1 1).map wr).map vI) (l.length + 1)
  clear hone r1 r2
  generalize AV.imm false (((polyL (l.map Int.toNat) (-1) (-2)).map wr).map vI) (l.length + 1) = p1 at *
  generalize AV.imm false (((polyL (l.map Int.toNat) 1 1).map wr).map vI) (l.length + 1) = p2 at *
  rw [call22 rfl]
  simp only [wr, SS, insA, wantedA, Opd.ev, putA, binA, eqbA, unA, fldA, partA, reduceIte, reduceCtorEq, Nat.reduceMod, Nat.reduceDiv, Nat.reduceBEq, resultA, resA, vI, Nat.reduceMul, Nat.reduceAdd, Nat.reduceSub, Nat.reduceEqDiff, Nat.reduceLT, Nat.reducePow, Nat.reduceLeDiff, st, Option.bind_eq_bind, Option.pure_def, List.length_nil, Int.cast_ofNat_Int, List.reverse_nil] at hl1 hl2
  simp only [F22B, SS, insA, wantedA, Opd.ev, putA, binA, eqbA, unA, fldA, partA, reduceIte, reduceCtorEq, Nat.reduceMod, Nat.reduceDiv, Nat.reduceBEq, resultA, resA, vI, Nat.reduceMul, Nat.reduceAdd, Nat.reduceSub, Nat.reduceEqDiff, Nat.reduceLT, Nat.reducePow, Nat.reduceLeDiff, st, Option.bind_eq_bind, Option.pure_def, List.length_nil, Int.cast_ofNat_Int, List.reverse_nil, UU, idxP, cellsAt, storeA, fillA, zerosA, putAll, optNat, sliceA, row, Int.reduceLT, Int.reduceLE, Int.reduceGT, Int.reduceGE, Int.reduceEq, Int.reduceNe, Int.reduceToNat, Int.reduceBEq, Int.reduceBNe, Nat.reduceLeDiff, Nat.reduceLT, Nat.reduceBNe, Nat.reduceGT, List.drop_nil, List.take_nil, Option.isSome_none, Int.ofNat_one, Int.ofNat_zero, hr, hv.snap, hv.len, c1, c2, o1, o2, hone1, hone2, hsub, hi1, hi2, hl1, hl2, if_true]
end
end Go.X
