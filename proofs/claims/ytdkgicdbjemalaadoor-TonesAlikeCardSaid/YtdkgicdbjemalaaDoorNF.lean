import Derived.Test.YtdkgicdbjemalaaDoorNE
/-! Tones: the specification's polynomials; its matchings are ours. -/
set_option linter.unusedSimpArgs false
set_option linter.unusedVariables false
set_option maxHeartbeats 2000000
set_option maxRecDepth 10000
namespace Go.X
open Go Go.RowKit

theorem onS_zero {ov : Nat → Nat → Int} {f : List Nat} {n i S : Nat} : ∀ (e p sec met j : Nat), onS ov f n i S 0 e p sec met j = 0
  | 0, _, _, _, _ => rfl
  | e + 1, p, sec, met, j => by
    simp only [onS]
    rw [sumZ_congr (h := fun _ => 0) fun k _ => ?_, sumZ_zero]
    split
    · rw [onS_zero e]; unfold clS; split <;> simp
    · rfl

/-- A list of numbers, read backwards from a place. -/
def rft (m : Nat) (p : Nat → Int) (j : Nat) : Int := if j ≤ m then p (m - j) else 0
theorem rft_add (a : Nat) (p q : Nat → Int) (j : Nat) : rft a (fun j => p j + q j) j = rft a p j + rft a q j := by
  unfold rft; split <;> simp
theorem rft_mul (a : Nat) (c : Int) (p : Nat → Int) (j : Nat) : rft a (fun j => c * p j) j = c * rft a p j := by
  unfold rft; split <;> simp
theorem rft_congr {a : Nat} {p q : Nat → Int} (h : ∀ j, p j = q j) (j : Nat) : rft a p j = rft a q j := by
  unfold rft; rw [h]
theorem rft_sum (a : Nat) (g : Nat → Nat → Int) (j : Nat) (l : List Nat) : rft a (fun j => sumZ l (fun k => g k j)) j = sumZ l (fun k => rft a (g k) j) := by
  unfold rft
  split
  · rfl
  · rw [sumZ_zero]
theorem rft_sft {a : Nat} (h : 2 ≤ a) (p : Nat → Int) (j : Nat) : rft (a - 2) p j = rft a (sft 2 p) j := by
  unfold rft sft
  by_cases h1 : j ≤ a - 2
  · rw [if_pos h1, if_pos (by omega), if_pos (by omega), show a - j - 2 = a - 2 - j by omega]
  · rw [if_neg h1]
    split
    · rw [if_neg (by omega)]
    · rfl
theorem rft_one (u j : Nat) (x : Int) : (if j = u then x else 0) = x * rft u (fun j => if j = 0 then 1 else 0) j := by
  unfold rft
  by_cases e : j = u
  · subst e; simp
  · rw [if_neg e]
    by_cases h : j ≤ u
    · have : u - j ≠ 0 := by omega
      simp only [if_pos h, if_neg this, Int.mul_zero]
    · rw [if_neg h, Int.mul_zero]

theorem addP_get {out : List Int} {u n : Nat} (hl : out.length = n + 1) (hu : u ≤ n) (x : Int) (j : Nat) : (addP out u x).getD j 0 = out.getD j 0 + if j = u then x else 0 := by
  unfold addP
  simp only [List.getD_eq_getElem?_getD, List.getElem?_set]
  by_cases h : u = j
  · subst h; rw [if_pos rfl, if_pos (by omega), if_pos rfl]; simp
  · rw [if_neg h, if_neg (fun e => h e.symm)]; omega

theorem foldl_get2 {F : List Int → Nat → List Int} {g : Nat → Int} {j m : Nat} (hF : ∀ out k, (F out k).length = out.length) : ∀ (l : List Nat) (out : List Int), out.length = m → (∀ out k, out.length = m → k ∈ l → (F out k).getD j 0 = out.getD j 0 + g k) → (l.foldl F out).getD j 0 = out.getD j 0 + sumZ l g
  | [], out, _, _ => by simp [sumZ]
  | k :: l, out, hm, h => by
    rw [List.foldl_cons, foldl_get2 hF l _ (by rw [hF]; exact hm) fun out k' hm h' => h out k' hm (List.mem_cons_of_mem _ h'), h out k hm List.mem_cons_self]
    simp only [sumZ]; omega

theorem pair_get {f : List Nat} (hn : f.length ≤ 7) : ∀ (d left : Nat), left < 128 → ∀ (at' : Nat) (sign : Int) (out : List Int) (j : Nat), pc left ≤ at' → at' ≤ f.length → out.length = f.length + 1 →
    (pairT f f.length d left at' sign out).getD j 0 = out.getD j 0 + sign * rft at' (ovS f (-1) 0 d left) j
  | 0, left, _, at', sign, out, j, ha, hn', hl => by
    simp only [pairT, ovS]
    rw [addP_get hl hn', rft_one]
  | d + 1, left, h, at', sign, out, j, ha, hn', hl => by
    simp only [pairT, ovS]
    by_cases h0 : left = 0
    · simp only [if_pos h0]
      rw [addP_get hl hn', rft_one]
    · simp only [if_neg h0]
      have hb := ctz_ok h h0
      have hp := pc_del hb (ctz_lt left)
      have hS : dl left (2 ^ ctz left) < 128 := Nat.lt_of_le_of_lt (dl_le _ _) h
      generalize ctz left = i at *
      generalize dl left (2 ^ i) = S at *
      have e1 := pair_get hn d S hS at' sign out j (by omega) hn' hl
      rw [foldl_get2 (m := f.length + 1) (g := fun k => sign * rft at' (fun j => if (f.getD i 0 &&& S).testBit k = true then -1 * sft 2 (ovS f (-1) 0 d (dl S (2 ^ k))) j else 0) j) (fun out k => by split; exact pairT_len _ _ _ _ _ _ _; rfl) _ _ (by rw [pairT_len]; exact hl) (fun out k hm hk => ?_), e1]
      · rw [sumZ_mul, ← rft_sum, Int.add_assoc, ← Int.mul_add, ← rft_add]
        congr 2
        refine rft_congr (fun j => ?_) j
        rw [onS_zero, Int.add_zero]
      · by_cases c : (f.getD i 0 &&& S).testBit k = true
        · have c' := c
          rw [Nat.testBit_and, Bool.and_eq_true] at c'
          have hk7 : k < 7 := by have := List.mem_range.1 hk; omega
          have hpk := pc_del c'.2 hk7
          rw [if_pos c, pair_get hn d (dl S (2 ^ k)) (Nat.lt_of_le_of_lt (dl_le _ _) hS) (at' - 2) (-sign) out j (by omega) (by omega) hm, rft_sft (by omega)]
          congr 1
          rw [rft_congr (q := fun j => -1 * sft 2 (ovS f (-1) 0 d (dl S (2 ^ k))) j) (fun j => if_pos c), rft_mul, ← Int.mul_assoc, Int.mul_neg, Int.mul_one]
        · rw [if_neg c, rft_congr (q := fun _ => 0) (fun j => if_neg c)]
          simp [rft]

def detL (f : List Nat) : List Int := detP f f.length f.length 0 0 0 1 (List.replicate (f.length + 1) 0)
def pairL (f : List Nat) : List Int := pairT f f.length 7 (2 ^ f.length - 1) f.length 1 (List.replicate (f.length + 1) 0)
theorem detL_len (f : List Nat) : (detL f).length = f.length + 1 := by rw [detL, detP_len, List.length_replicate]
theorem pairL_len (f : List Nat) : (pairL f).length = f.length + 1 := by rw [pairL, pairT_len, List.length_replicate]

theorem pc_full {n : Nat} (hn : n ≤ 7) : pc (2 ^ n - 1) ≤ n := by
  unfold pc
  have e : (List.range 7).filter (fun j => (2 ^ n - 1).testBit j) = (List.range 7).filter (fun j => decide (j < n)) := by
    apply List.filter_congr
    intro j _
    rw [Nat.testBit_two_pow_sub_one]
  rw [e]
  have : ∀ m, m ≤ 7 → ((List.range 7).filter (fun j => decide (j < m))).length ≤ m := by decide
  exact this _ hn
theorem full_lt {n : Nat} (hn : n ≤ 7) : 2 ^ n - 1 < 128 := by
  have : (2 : Nat) ^ n ≤ 2 ^ 7 := Nat.pow_le_pow_right (by decide) hn
  have h2 : 1 ≤ 2 ^ n := Nat.pow_pos (by decide)
  omega

theorem ext_getD {l q : List Int} (h : l.length = q.length) (e : ∀ j, j < l.length → l.getD j 0 = q.getD j 0) : l = q := by
  apply List.ext_getElem h
  intro j h1 h2
  have := e j h1
  rwa [getD_get h1, getD_get h2] at this

theorem polyL_get {f : List Nat} {w r : Int} {j : Nat} (hj : j ≤ f.length) : (polyL f w r).getD j 0 = ovS f w r 7 (2 ^ f.length - 1) (f.length - j) := by
  unfold polyL
  have := ofL_get (n := f.length) (k := f.length - j) (ov := ovL f w r 7 (2 ^ f.length - 1)) (by omega)
  rw [show f.length - (f.length - j) = j by omega] at this
  rw [this, ovL_get]

/-- Our matchings are the specification's. -/
theorem match_same {f : List Nat} (hn : f.length ≤ 7) : polyL f (-1) 0 = pairL f := by
  refine ext_getD (by rw [polyL_len, pairL_len]) fun j hj => ?_
  rw [polyL_len] at hj
  rw [polyL_get (by omega), pairL, pair_get hn 7 _ (full_lt hn) _ _ _ _ (pc_full hn) (Nat.le_refl _) (by simp), rep_getD, Int.zero_add, Int.one_mul]
  unfold rft
  rw [if_pos (by omega)]

section
variable {Y : Run}

theorem free_row {H : Heap} {p : Nat} {l : List Int} (h : H[p]? = some ⟨0, l.map vW⟩) : freeA H 6 (.sl p 0 1 0 l.length none) = some (.imm false ((l.map wr).map vI) l.length) := by
  rw [map_vW] at h
  have hfree := mapM_free (H := H) (n := 4) (l.map wr)
  rw [free_sl, h, freeS_some, if_pos ⟨rfl, by simp⟩, List.drop_zero, Nat.mul_one, List.take_of_length_le (by simp), hfree, freeB_some]

theorem dets55 {fr : AV} {f : List Nat} (hF : Fr fr f) {H : Heap} : freeX H (callL ET Y 55 [fr] []) = some (.imm false (((detL f).map wr).map vI) (f.length + 1), H) := by
  have hlen := hF.hv.len
  rw [List.length_map] at hlen
  have n7 := hF.n7
  have h2 : 1 ≤ 2 ^ f.length := Nat.pow_pos (by decide)
  have hR : Rw [⟨0, (List.replicate (f.length + 1) (0 : Int)).map vI⟩] (.sl 0 0 1 0 (f.length + 1) none) 0 (List.replicate (f.length + 1) 0) := by
    have := Rw.fresh [] (f.length + 1); simpa using this
  obtain ⟨H', e1, r1⟩ := det72 (Y := Y) hF f.length _ _ 0 0 0 1 (by omega) (by omega) (Nat.le_refl _) hR (by simp)
  rw [show detP f f.length f.length 0 0 0 1 (List.replicate (f.length + 1) 0) = detL f from rfl] at r1
  have hws : IntKind.wrap .i64 ((f.length : Int) + 1) = ((f.length + 1 : Nat) : Int) := wrap_succ (by omega)
  have hki : (0 : Int) ≤ ((f.length + 1 : Nat) : Int) ∧ ((f.length + 1 : Nat) : Int) * 8 ≤ 140737488355328 ∧ ((f.length + 1 : Nat) : Int) ≤ 9223372036854775807 := by omega
  have hzr := zeros_int (n := f.length + 1)
  have hfin := free_row r1.2
  rw [detL_len] at hfin
  have e01 : vW 1 = vI 1 := by simp [vW, wr, IntKind.wrap_i64]
  rw [e01] at e1
  clear hR r1
  generalize hZ : List.map vI (List.replicate (f.length + 1) (0 : Int)) = Z at *
  have hc : callL ET Y 55 [fr] [] = some (.sl 0 0 1 0 (f.length + 1) none, H') := by
    rw [call55 rfl]
    simp only [vW, wr, SS, insA, wantedA, Opd.ev, putA, binA, eqbA, unA, fldA, partA, reduceIte, reduceCtorEq, Nat.reduceMod, Nat.reduceDiv, Nat.reduceBEq, resultA, resA, vI, Nat.reduceMul, Nat.reduceAdd, Nat.reduceSub, Nat.reduceEqDiff, Nat.reduceLT, Nat.reducePow, Nat.reduceLeDiff, st, Option.bind_eq_bind, Option.pure_def, List.length_nil, Int.cast_ofNat_Int, List.reverse_nil, Int.ofNat_zero] at e1 hzr
    simp only [F55B, SS, insA, wantedA, Opd.ev, putA, binA, eqbA, unA, fldA, partA, reduceIte, reduceCtorEq, Nat.reduceMod, Nat.reduceDiv, Nat.reduceBEq, resultA, resA, vI, Nat.reduceMul, Nat.reduceAdd, Nat.reduceSub, Nat.reduceEqDiff, Nat.reduceLT, Nat.reducePow, Nat.reduceLeDiff, st, Option.bind_eq_bind, Option.pure_def, List.length_nil, Int.cast_ofNat_Int, List.reverse_nil, UU, idxP, cellsAt, storeA, fillA, putAll, optNat, sliceA, row, Int.reduceLT, Int.reduceLE, Int.reduceGT, Int.reduceGE, Int.reduceEq, Int.reduceNe, Int.reduceToNat, Int.reduceBEq, Int.reduceBNe, Nat.reduceLeDiff, Nat.reduceLT, Nat.reduceBNe, Nat.reduceGT, List.drop_nil, List.take_nil, Option.isSome_none, Int.ofNat_one, Int.ofNat_zero, hlen, hws, hki, hzr, Int.toNat_natCast, Int.natCast_nonneg, Nat.mul_one, e1, endX]
  rw [hc, freeX_some, hfin]
  rfl

theorem pairs56 {fr : AV} {f : List Nat} (hF : Fr fr f) {H : Heap} : freeX H (callL ET Y 56 [fr] []) = some (.imm false (((pairL f).map wr).map vI) (f.length + 1), H) := by
  have hlen := hF.hv.len
  rw [List.length_map] at hlen
  have n7 := hF.n7
  have h3 := hF.p7
  have h2 : 1 ≤ 2 ^ f.length := Nat.pow_pos (by decide)
  have hR : Rw [⟨0, (List.replicate (f.length + 1) (0 : Int)).map vI⟩] (.sl 0 0 1 0 (f.length + 1) none) 0 (List.replicate (f.length + 1) 0) := by
    have := Rw.fresh [] (f.length + 1); simpa using this
  obtain ⟨H', e1, r1⟩ := pair73 (Y := Y) hF 7 _ _ (2 ^ f.length - 1) f.length 1 (by omega) (by have := pc_full n7; omega) (pc_full n7) (Nat.le_refl _) hR (by simp)
  rw [show pairT f f.length 7 (2 ^ f.length - 1) f.length 1 (List.replicate (f.length + 1) 0) = pairL f from rfl] at r1
  have hws : IntKind.wrap .i64 ((f.length : Int) + 1) = ((f.length + 1 : Nat) : Int) := wrap_succ (by omega)
  have hki : (0 : Int) ≤ ((f.length + 1 : Nat) : Int) ∧ ((f.length + 1 : Nat) : Int) * 8 ≤ 140737488355328 ∧ ((f.length + 1 : Nat) : Int) ≤ 9223372036854775807 := by omega
  have hzr := zeros_int (n := f.length + 1)
  have hfin := free_row r1.2
  rw [pairL_len] at hfin
  have e01 : vW 1 = vI 1 := by simp [vW, wr, IntKind.wrap_i64]
  rw [e01] at e1
  have hs3 := shl_eq (k := f.length) (by omega)
  rw [Int.toNat_natCast] at hs3
  have hp2 : (0 : Int) ≤ ((f.length : Nat) : Int) := by omega
  have hw : IntKind.wrap .i64 (((2 ^ f.length : Nat) : Int) - 1) = ((2 ^ f.length - 1 : Nat) : Int) := by
    generalize 2 ^ f.length = b at h2 h3
    rw [wrap_id (by omega) (by omega)]; omega
  clear hR r1
  generalize hZ : List.map vI (List.replicate (f.length + 1) (0 : Int)) = Z at *
  have hc : callL ET Y 56 [fr] [] = some (.sl 0 0 1 0 (f.length + 1) none, H') := by
    rw [call56 rfl]
    simp only [vW, wr, SS, insA, wantedA, Opd.ev, putA, binA, eqbA, unA, fldA, partA, reduceIte, reduceCtorEq, Nat.reduceMod, Nat.reduceDiv, Nat.reduceBEq, resultA, resA, vI, Nat.reduceMul, Nat.reduceAdd, Nat.reduceSub, Nat.reduceEqDiff, Nat.reduceLT, Nat.reducePow, Nat.reduceLeDiff, st, Option.bind_eq_bind, Option.pure_def, List.length_nil, Int.cast_ofNat_Int, List.reverse_nil, Int.ofNat_zero] at e1 hzr
    simp only [F56B, SS, insA, wantedA, Opd.ev, putA, binA, eqbA, unA, fldA, partA, reduceIte, reduceCtorEq, Nat.reduceMod, Nat.reduceDiv, Nat.reduceBEq, resultA, resA, vI, Nat.reduceMul, Nat.reduceAdd, Nat.reduceSub, Nat.reduceEqDiff, Nat.reduceLT, Nat.reducePow, Nat.reduceLeDiff, st, Option.bind_eq_bind, Option.pure_def, List.length_nil, Int.cast_ofNat_Int, List.reverse_nil, UU, idxP, cellsAt, storeA, fillA, putAll, optNat, sliceA, row, Int.reduceLT, Int.reduceLE, Int.reduceGT, Int.reduceGE, Int.reduceEq, Int.reduceNe, Int.reduceToNat, Int.reduceBEq, Int.reduceBNe, Nat.reduceLeDiff, Nat.reduceLT, Nat.reduceBNe, Nat.reduceGT, List.drop_nil, List.take_nil, Option.isSome_none, Int.ofNat_one, Int.ofNat_zero, hlen, hws, hki, hzr, hs3, hp2, hw, Int.toNat_natCast, Int.natCast_nonneg, Nat.mul_one, e1, endX]
  rw [hc, freeX_some, hfin]
  rfl

theorem tones28 {v : AV} {l : List Int} (hv : IsRow v l) (hl : l.length ≤ 1000) : ∃ w, (∀ H, freeX H (callL ET Y 28 [v] []) = some (.tup [w, vI (if frameB l = true then 0 else 2)], H)) ∧
    IsFree w (if frameB l = true then (detL (l.map Int.toNat)).map wr else []) := by
  have hr := fun H => frame20 (Y := Y) (H := H) hv hl
  cases hf : frameB l with
  | false =>
    rw [hf] at hr
    refine ⟨.nils, fun H => ?_, .inl ⟨rfl, rfl⟩⟩
    rw [call28 rfl]
    simp only [F28B, SS, insA, wantedA, Opd.ev, putA, binA, eqbA, unA, fldA, partA, reduceIte, reduceCtorEq, Nat.reduceMod, Nat.reduceDiv, Nat.reduceBEq, resultA, resA, vI, Nat.reduceMul, Nat.reduceAdd, Nat.reduceSub, Nat.reduceEqDiff, Nat.reduceLT, Nat.reducePow, Nat.reduceLeDiff, st, Option.bind_eq_bind, Option.pure_def, List.length_nil, Int.cast_ofNat_Int, List.reverse_nil, UU, idxP, cellsAt, storeA, fillA, zerosA, putAll, optNat, sliceA, row, Int.reduceLT, Int.reduceLE, Int.reduceGT, Int.reduceGE, Int.reduceEq, Int.reduceNe, Int.reduceToNat, Int.reduceBEq, Int.reduceBNe, Nat.reduceLeDiff, Nat.reduceLT, Nat.reduceBNe, Nat.reduceGT, List.drop_nil, List.take_nil, Option.isSome_none, Int.ofNat_one, Int.ofNat_zero, hv.snap, hr, Bool.false_eq_true]
  | true =>
    rw [hf] at hr
    obtain ⟨hF, _⟩ := Fr.of hv hf
    have ho := fun H => dets55 (Y := Y) (H := H) hF
    have hfree : IsFree (.imm false (((detL (l.map Int.toNat)).map wr).map vI) ((l.map Int.toNat).length + 1)) ((detL (l.map Int.toNat)).map wr) := .inr (by simp [detL_len])
    refine ⟨_, fun H => ?_, by rw [if_pos rfl]; exact hfree⟩
    generalize AV.imm false (((detL (l.map Int.toNat)).map wr).map vI) ((l.map Int.toNat).length + 1) = pv at *
    rw [call28 rfl]
    simp only [F28B, SS, insA, wantedA, Opd.ev, putA, binA, eqbA, unA, fldA, partA, reduceIte, reduceCtorEq, Nat.reduceMod, Nat.reduceDiv, Nat.reduceBEq, resultA, resA, vI, Nat.reduceMul, Nat.reduceAdd, Nat.reduceSub, Nat.reduceEqDiff, Nat.reduceLT, Nat.reducePow, Nat.reduceLeDiff, st, Option.bind_eq_bind, Option.pure_def, List.length_nil, Int.cast_ofNat_Int, List.reverse_nil, UU, idxP, cellsAt, storeA, fillA, zerosA, putAll, optNat, sliceA, row, Int.reduceLT, Int.reduceLE, Int.reduceGT, Int.reduceGE, Int.reduceEq, Int.reduceNe, Int.reduceToNat, Int.reduceBEq, Int.reduceBNe, Nat.reduceLeDiff, Nat.reduceLT, Nat.reduceBNe, Nat.reduceGT, List.drop_nil, List.take_nil, Option.isSome_none, Int.ofNat_one, Int.ofNat_zero, hv.snap, hr, ho, hfree.free, if_true]

theorem match30 {v : AV} {l : List Int} (hv : IsRow v l) (hl : l.length ≤ 1000) : ∃ w, (∀ H, freeX H (callL ET Y 30 [v] []) = some (.tup [w, vI (if frameB l = true then 0 else 2)], H)) ∧
    IsFree w (if frameB l = true then (pairL (l.map Int.toNat)).map wr else []) := by
  have hr := fun H => frame20 (Y := Y) (H := H) hv hl
  cases hf : frameB l with
  | false =>
    rw [hf] at hr
    refine ⟨.nils, fun H => ?_, .inl ⟨rfl, rfl⟩⟩
    rw [call30 rfl]
    simp only [F30B, SS, insA, wantedA, Opd.ev, putA, binA, eqbA, unA, fldA, partA, reduceIte, reduceCtorEq, Nat.reduceMod, Nat.reduceDiv, Nat.reduceBEq, resultA, resA, vI, Nat.reduceMul, Nat.reduceAdd, Nat.reduceSub, Nat.reduceEqDiff, Nat.reduceLT, Nat.reducePow, Nat.reduceLeDiff, st, Option.bind_eq_bind, Option.pure_def, List.length_nil, Int.cast_ofNat_Int, List.reverse_nil, UU, idxP, cellsAt, storeA, fillA, zerosA, putAll, optNat, sliceA, row, Int.reduceLT, Int.reduceLE, Int.reduceGT, Int.reduceGE, Int.reduceEq, Int.reduceNe, Int.reduceToNat, Int.reduceBEq, Int.reduceBNe, Nat.reduceLeDiff, Nat.reduceLT, Nat.reduceBNe, Nat.reduceGT, List.drop_nil, List.take_nil, Option.isSome_none, Int.ofNat_one, Int.ofNat_zero, hv.snap, hr, Bool.false_eq_true]
  | true =>
    rw [hf] at hr
    obtain ⟨hF, _⟩ := Fr.of hv hf
    have ho := fun H => pairs56 (Y := Y) (H := H) hF
    have hfree : IsFree (.imm false (((pairL (l.map Int.toNat)).map wr).map vI) ((l.map Int.toNat).length + 1)) ((pairL (l.map Int.toNat)).map wr) := .inr (by simp [pairL_len])
    refine ⟨_, fun H => ?_, by rw [if_pos rfl]; exact hfree⟩
    generalize AV.imm false (((pairL (l.map Int.toNat)).map wr).map vI) ((l.map Int.toNat).length + 1) = pv at *
    rw [call30 rfl]
    simp only [F30B, SS, insA, wantedA, Opd.ev, putA, binA, eqbA, unA, fldA, partA, reduceIte, reduceCtorEq, Nat.reduceMod, Nat.reduceDiv, Nat.reduceBEq, resultA, resA, vI, Nat.reduceMul, Nat.reduceAdd, Nat.reduceSub, Nat.reduceEqDiff, Nat.reduceLT, Nat.reducePow, Nat.reduceLeDiff, st, Option.bind_eq_bind, Option.pure_def, List.length_nil, Int.cast_ofNat_Int, List.reverse_nil, UU, idxP, cellsAt, storeA, fillA, zerosA, putAll, optNat, sliceA, row, Int.reduceLT, Int.reduceLE, Int.reduceGT, Int.reduceGE, Int.reduceEq, Int.reduceNe, Int.reduceToNat, Int.reduceBEq, Int.reduceBNe, Nat.reduceLeDiff, Nat.reduceLT, Nat.reduceBNe, Nat.reduceGT, List.drop_nil, List.take_nil, Option.isSome_none, Int.ofNat_one, Int.ofNat_zero, hv.snap, hr, ho, hfree.free, if_true]
end
end Go.X
