import Derived.Test.YtdkgicdbjemalaaDoorNB
import Derived.Test.YtdkgicdbjemalaaDoorMO
/-! Tones: Figures and Walks, both ways. -/
set_option linter.unusedSimpArgs false
set_option linter.unusedVariables false
set_option maxHeartbeats 2000000
set_option maxRecDepth 10000
namespace Go.X
open Go Go.RowKit

theorem frame_n {l : List Int} (hf : frameB l = true) : 1 ≤ l.length ∧ l.length ≤ 7 := by simp only [frameB, Bool.and_eq_true, decide_eq_true_eq] at hf; exact hf.1.1

section
variable {Y : Run} {H : Heap}

theorem figs22S {v : AV} {l : List Int} (hv : IsRow v l) (hf : frameB l = true) {k : Nat} (hk : k ≤ l.length) :
    freeX H (callL ET Y 22 [v, vI k] []) = some (.tup [vW (ovS (l.map Int.toNat) (-1) (-2) 7 (2 ^ l.length - 1) k), vW (ovS (l.map Int.toNat) 1 1 7 (2 ^ l.length - 1) k), vI 0], H) := by
  have hlen : (l.map Int.toNat).length = l.length := by simp
  have e : ∀ w r, (polyL (l.map Int.toNat) w r).getD (l.length - k) 0 = ovS (l.map Int.toNat) w r 7 (2 ^ l.length - 1) k := fun w r => by
    unfold polyL; rw [hlen, ofL_get hk, ovL_get]
  rw [figs22 hv hf hk, e, e]

theorem figs22_bad {v : AV} {l : List Int} (hv : IsRow v l) (hl : l.length ≤ 1000) {k : Int} (h : frameB l = false ∨ k < 0 ∨ k > l.length) :
    freeX H (callL ET Y 22 [v, .int .i64 k] []) = some (.tup [vI 0, vI 0, vI 2], H) := by
  have hr := read51 (Y := Y) (H := []) hv hl
  rw [call22 rfl]
  cases hf : frameB l with
  | false =>
    rw [hf, if_neg (by simp)] at hr
    simp only [F22B, SS, insA, wantedA, Opd.ev, putA, binA, eqbA, unA, fldA, partA, reduceIte, reduceCtorEq, Nat.reduceMod, Nat.reduceDiv, Nat.reduceBEq, resultA, resA, vI, Nat.reduceMul, Nat.reduceAdd, Nat.reduceSub, Nat.reduceEqDiff, Nat.reduceLT, Nat.reducePow, Nat.reduceLeDiff, st, Option.bind_eq_bind, Option.pure_def, List.length_nil, Int.cast_ofNat_Int, List.reverse_nil, UU, idxP, cellsAt, storeA, fillA, zerosA, putAll, optNat, sliceA, row, Int.reduceLT, Int.reduceLE, Int.reduceGT, Int.reduceGE, Int.reduceEq, Int.reduceNe, Int.reduceToNat, Int.reduceBEq, Int.reduceBNe, Nat.reduceLeDiff, Nat.reduceLT, Nat.reduceBNe, Nat.reduceGT, List.drop_nil, List.take_nil, Option.isSome_none, Int.ofNat_one, Int.ofNat_zero, hr, Bool.false_eq_true]
  | true =>
    rw [hf, if_pos rfl] at hr
    by_cases c : k < 0
    · simp only [F22B, SS, insA, wantedA, Opd.ev, putA, binA, eqbA, unA, fldA, partA, reduceIte, reduceCtorEq, Nat.reduceMod, Nat.reduceDiv, Nat.reduceBEq, resultA, resA, vI, Nat.reduceMul, Nat.reduceAdd, Nat.reduceSub, Nat.reduceEqDiff, Nat.reduceLT, Nat.reducePow, Nat.reduceLeDiff, st, Option.bind_eq_bind, Option.pure_def, List.length_nil, Int.cast_ofNat_Int, List.reverse_nil, UU, idxP, cellsAt, storeA, fillA, zerosA, putAll, optNat, sliceA, row, Int.reduceLT, Int.reduceLE, Int.reduceGT, Int.reduceGE, Int.reduceEq, Int.reduceNe, Int.reduceToNat, Int.reduceBEq, Int.reduceBNe, Nat.reduceLeDiff, Nat.reduceLT, Nat.reduceBNe, Nat.reduceGT, List.drop_nil, List.take_nil, Option.isSome_none, Int.ofNat_one, Int.ofNat_zero, hr, hv.len, c, if_true]
    · have c2 : k > l.length := by
        rcases h with h | h | h
        · rw [hf] at h; cases h
        · exact absurd h c
        · exact h
      simp only [F22B, SS, insA, wantedA, Opd.ev, putA, binA, eqbA, unA, fldA, partA, reduceIte, reduceCtorEq, Nat.reduceMod, Nat.reduceDiv, Nat.reduceBEq, resultA, resA, vI, Nat.reduceMul, Nat.reduceAdd, Nat.reduceSub, Nat.reduceEqDiff, Nat.reduceLT, Nat.reducePow, Nat.reduceLeDiff, st, Option.bind_eq_bind, Option.pure_def, List.length_nil, Int.cast_ofNat_Int, List.reverse_nil, UU, idxP, cellsAt, storeA, fillA, zerosA, putAll, optNat, sliceA, row, Int.reduceLT, Int.reduceLE, Int.reduceGT, Int.reduceGE, Int.reduceEq, Int.reduceNe, Int.reduceToNat, Int.reduceBEq, Int.reduceBNe, Nat.reduceLeDiff, Nat.reduceLT, Nat.reduceBNe, Nat.reduceGT, List.drop_nil, List.take_nil, Option.isSome_none, Int.ofNat_one, Int.ofNat_zero, hr, hv.len, c, c2, if_true]

theorem figs43_bad {v : AV} {l : List Int} (hv : IsRow v l) (hl : l.length ≤ 1000) {k : Int} (h : frameB l = false ∨ k < 0 ∨ k > l.length) :
    freeX H (callL ET Y 43 [v, .int .i64 k] []) = some (.tup [vI 0, vI 0, vI 2], H) := by
  have hr := fun H => frame20 (Y := Y) (H := H) hv hl
  rw [call43 rfl]
  cases hf : frameB l with
  | false =>
    rw [hf] at hr
    simp only [F43B, SS, insA, wantedA, Opd.ev, putA, binA, eqbA, unA, fldA, partA, reduceIte, reduceCtorEq, Nat.reduceMod, Nat.reduceDiv, Nat.reduceBEq, resultA, resA, vI, Nat.reduceMul, Nat.reduceAdd, Nat.reduceSub, Nat.reduceEqDiff, Nat.reduceLT, Nat.reducePow, Nat.reduceLeDiff, st, Option.bind_eq_bind, Option.pure_def, List.length_nil, Int.cast_ofNat_Int, List.reverse_nil, UU, idxP, cellsAt, storeA, fillA, zerosA, putAll, optNat, sliceA, row, Int.reduceLT, Int.reduceLE, Int.reduceGT, Int.reduceGE, Int.reduceEq, Int.reduceNe, Int.reduceToNat, Int.reduceBEq, Int.reduceBNe, Nat.reduceLeDiff, Nat.reduceLT, Nat.reduceBNe, Nat.reduceGT, List.drop_nil, List.take_nil, Option.isSome_none, Int.ofNat_one, Int.ofNat_zero, hv.snap, hr]
  | true =>
    rw [hf] at hr
    by_cases c : k < 0
    · simp only [F43B, SS, insA, wantedA, Opd.ev, putA, binA, eqbA, unA, fldA, partA, reduceIte, reduceCtorEq, Nat.reduceMod, Nat.reduceDiv, Nat.reduceBEq, resultA, resA, vI, Nat.reduceMul, Nat.reduceAdd, Nat.reduceSub, Nat.reduceEqDiff, Nat.reduceLT, Nat.reducePow, Nat.reduceLeDiff, st, Option.bind_eq_bind, Option.pure_def, List.length_nil, Int.cast_ofNat_Int, List.reverse_nil, UU, idxP, cellsAt, storeA, fillA, zerosA, putAll, optNat, sliceA, row, Int.reduceLT, Int.reduceLE, Int.reduceGT, Int.reduceGE, Int.reduceEq, Int.reduceNe, Int.reduceToNat, Int.reduceBEq, Int.reduceBNe, Nat.reduceLeDiff, Nat.reduceLT, Nat.reduceBNe, Nat.reduceGT, List.drop_nil, List.take_nil, Option.isSome_none, Int.ofNat_one, Int.ofNat_zero, hv.snap, hr, hv.len, c]
    · have c2 : k > l.length := by
        rcases h with h | h | h
        · rw [hf] at h; cases h
        · exact absurd h c
        · exact h
      simp only [F43B, SS, insA, wantedA, Opd.ev, putA, binA, eqbA, unA, fldA, partA, reduceIte, reduceCtorEq, Nat.reduceMod, Nat.reduceDiv, Nat.reduceBEq, resultA, resA, vI, Nat.reduceMul, Nat.reduceAdd, Nat.reduceSub, Nat.reduceEqDiff, Nat.reduceLT, Nat.reducePow, Nat.reduceLeDiff, st, Option.bind_eq_bind, Option.pure_def, List.length_nil, Int.cast_ofNat_Int, List.reverse_nil, UU, idxP, cellsAt, storeA, fillA, zerosA, putAll, optNat, sliceA, row, Int.reduceLT, Int.reduceLE, Int.reduceGT, Int.reduceGE, Int.reduceEq, Int.reduceNe, Int.reduceToNat, Int.reduceBEq, Int.reduceBNe, Nat.reduceLeDiff, Nat.reduceLT, Nat.reduceBNe, Nat.reduceGT, List.drop_nil, List.take_nil, Option.isSome_none, Int.ofNat_one, Int.ofNat_zero, hv.snap, hr, hv.len, c, c2]

theorem rep_getD (n j : Nat) : (List.replicate n (0 : Int)).getD j 0 = 0 := by
  rw [List.getD_eq_getElem?_getD, List.getElem?_replicate]; split <;> rfl

theorem figs43 {v : AV} {l : List Int} (hv : IsRow v l) (hf : frameB l = true) {k : Nat} (hk : k ≤ l.length) :
    freeX H (callL ET Y 43 [v, vI k] []) = some (.tup [vW (ovS (l.map Int.toNat) (-1) (-2) 7 (2 ^ l.length - 1) k), vW (ovS (l.map Int.toNat) 1 1 7 (2 ^ l.length - 1) k), vI 0], H) := by
  have hn := frame_n hf
  have hr := fun H => frame20 (Y := Y) (H := H) hv (by omega)
  rw [hf] at hr
  obtain ⟨hF, _⟩ := Fr.of hv hf
  have hlen : (l.map Int.toNat).length = l.length := by simp
  have hpc : pc (2 ^ l.length - 1) ≤ l.length := by
    unfold pc
    have e : (List.range 7).filter (fun j => (2 ^ l.length - 1).testBit j) = (List.range 7).filter (fun j => decide (j < l.length)) := by
      apply List.filter_congr
      intro j _
      rw [Nat.testBit_two_pow_sub_one]
    rw [e]
    have : ∀ m, m ≤ 7 → ((List.range 7).filter (fun j => decide (j < m))).length ≤ m := by decide
    exact this _ hn.2
  have h3 := hF.p7
  rw [hlen] at h3
  have h2 : 1 ≤ 2 ^ l.length := Nat.pow_pos (by decide)
  have hT : Two 0 1 (.sl 0 0 1 0 (l.length + 1) none) (.sl 1 0 1 0 (l.length + 1) none) (l.map Int.toNat).length [⟨0, (List.replicate (l.length + 1) (0 : Int)).map vI⟩, ⟨0, (List.replicate (l.length + 1) (0 : Int)).map vI⟩] (List.replicate (l.length + 1) 0, List.replicate (l.length + 1) 0) := by
    have e : (List.replicate (l.length + 1) (0 : Int)).map vW = (List.replicate (l.length + 1) (0 : Int)).map vI := by simp [vW, wr, IntKind.wrap_i64]
    refine ⟨by rw [hlen], by rw [hlen], ?_, ?_, by simp, by simp, by decide⟩
    · rw [e]; rfl
    · rw [e]; rfl
  obtain ⟨H', e1, t1, _⟩ := fig70 (Y := Y) hF 7 _ _ (2 ^ l.length - 1) 0 1 (by rw [hlen]; omega) (by omega) (by rw [hlen]; omega) hT
  have hA := fig_get (f := l.map Int.toNat) (by omega) 7 (2 ^ l.length - 1) (by omega) 0 1 (List.replicate (l.length + 1) 0, List.replicate (l.length + 1) 0) (by rw [hlen]; omega)
  rw [hlen] at hA t1
  generalize figP (l.map Int.toNat) l.length 7 (2 ^ l.length - 1) 0 1 (List.replicate (l.length + 1) 0, List.replicate (l.length + 1) 0) = Q at hA t1
  have g1 := hA.g1 (by simp) k
  have g2 := hA.g2 (by simp) k
  simp only at g1 g2
  rw [rep_getD, sft_zero, Int.zero_add, Int.one_mul] at g1
  rw [rep_getD, sft_zero, Int.zero_add] at g2
  have i1 := t1.gro1.idx (i := k) (by omega)
  have l1 := t1.gro1.load (i := k) (by omega)
  rw [getD_wr (by rw [t1.l1]; omega), g1] at l1
  have i2 := t1.gro2.idx (i := k) (by omega)
  have l2 := t1.gro2.load (i := k) (by omega)
  rw [getD_wr (by rw [t1.l2]; omega), g2] at l2
  have c1 : ¬ ((k : Int) < 0) := by omega
  have c2 : ¬ ((k : Int) > (l.length : Int)) := by omega
  have hws : IntKind.wrap .i64 ((l.length : Int) + 1) = ((l.length + 1 : Nat) : Int) := wrap_succ (by omega)
  have hki : (0 : Int) ≤ ((l.length + 1 : Nat) : Int) ∧ ((l.length + 1 : Nat) : Int) * 8 ≤ 140737488355328 ∧ ((l.length + 1 : Nat) : Int) ≤ 9223372036854775807 := by omega
  have hzr := zeros_int (n := l.length + 1)
  have hs3 := shl_eq (k := l.length) (by omega)
  rw [Int.toNat_natCast] at hs3
  have hp2 : (0 : Int) ≤ ((l.length : Nat) : Int) := by omega
  have hw : IntKind.wrap .i64 (((2 ^ l.length : Nat) : Int) - 1) = ((2 ^ l.length - 1 : Nat) : Int) := by
    generalize 2 ^ l.length = b at h2 h3
    rw [wrap_id (by omega) (by omega)]; omega
  clear hT hA
  have e01 : vW 1 = vI 1 := by simp [vW, wr, IntKind.wrap_i64]
  rw [e01] at e1
  generalize hZ : List.map vI (List.replicate (l.length + 1) (0 : Int)) = Z at *
  rw [call43 rfl]
  simp only [vW, wr, SS, insA, wantedA, Opd.ev, putA, binA, eqbA, unA, fldA, partA, reduceIte, reduceCtorEq, Nat.reduceMod, Nat.reduceDiv, Nat.reduceBEq, resultA, resA, vI, Nat.reduceMul, Nat.reduceAdd, Nat.reduceSub, Nat.reduceEqDiff, Nat.reduceLT, Nat.reducePow, Nat.reduceLeDiff, st, Option.bind_eq_bind, Option.pure_def, List.length_nil, Int.cast_ofNat_Int, List.reverse_nil, Int.ofNat_zero] at e1 l1 l2 hzr
  simp only [F43B, SS, insA, wantedA, Opd.ev, putA, binA, eqbA, unA, fldA, partA, reduceIte, reduceCtorEq, Nat.reduceMod, Nat.reduceDiv, Nat.reduceBEq, resultA, resA, vI, Nat.reduceMul, Nat.reduceAdd, Nat.reduceSub, Nat.reduceEqDiff, Nat.reduceLT, Nat.reducePow, Nat.reduceLeDiff, st, Option.bind_eq_bind, Option.pure_def, List.length_nil, Int.cast_ofNat_Int, List.reverse_nil, UU, idxP, cellsAt, storeA, fillA, putAll, optNat, sliceA, row, Int.reduceLT, Int.reduceLE, Int.reduceGT, Int.reduceGE, Int.reduceEq, Int.reduceNe, Int.reduceToNat, Int.reduceBEq, Int.reduceBNe, Nat.reduceLeDiff, Nat.reduceLT, Nat.reduceBNe, Nat.reduceGT, List.drop_nil, List.take_nil, Option.isSome_none, Int.ofNat_one, Int.ofNat_zero, hv.snap, hv.len, hr, c1, c2, hws, hki, hzr, Int.toNat_natCast, Int.natCast_nonneg, Nat.mul_one, hs3, hp2, hw, e1, i1, l1, i2, l2]
end

/-! ### Walks -/
def bt (f : List Nat) (i k : Nat) : Int := if (f.getD i 0).testBit k then 1 else 0
def wk1 (f : List Nat) (n : Nat) (now next : List Int) (i : Nat) : List Int := (List.range n).foldl (fun next k => next.set k (next.getD k 0 + now.getD i 0 * bt f i k)) next
def wk2 (f : List Nat) (n : Nat) (now : List Int) : List Int := (List.range n).foldl (fun next i => wk1 f n now next i) (List.replicate n 0)
def wkS (f : List Nat) (n : Nat) : Nat → List Int → List Int
  | 0, now => now
  | s + 1, now => wkS f n s (wk2 f n now)
def wkA (f : List Nat) (n s : Nat) : Int := (List.range n).foldl (fun out a => out + (wkS f n s ((List.replicate n 0).set a 1)).getD a 0) 0

theorem fold_len {F : List Int → Nat → List Int} {n : Nat} (h : ∀ l k, l.length = n → (F l k).length = n) : ∀ (ks : List Nat) (l : List Int), l.length = n → (ks.foldl F l).length = n
  | [], l, e => e
  | k :: ks, l, e => fold_len h ks _ (h l k e)
theorem wk1_len (f : List Nat) (n : Nat) (now next : List Int) (i m : Nat) (h : next.length = m) : (wk1 f n now next i).length = m := fold_len (fun l k e => by simpa using e) _ _ h
theorem wk2_len (f : List Nat) (n : Nat) (now : List Int) : (wk2 f n now).length = n := fold_len (fun l k e => wk1_len _ _ _ _ _ _ e) _ _ (by simp)
theorem wkS_len (f : List Nat) (n : Nat) : ∀ (s : Nat) (now : List Int), now.length = n → (wkS f n s now).length = n
  | 0, _, h => h
  | s + 1, now, _ => wkS_len f n s _ (wk2_len f n now)

/-- A list in the heap. -/
def Rw (H : Heap) (v : AV) (p : Nat) (l : List Int) : Prop := v = .sl p 0 1 0 l.length none ∧ H[p]? = some ⟨0, l.map vW⟩
theorem Rw.gro {H : Heap} {v : AV} {p : Nat} {l : List Int} (h : Rw H v p l) : Gro 0 1 H v l.length ((l.map wr).map vI) := by
  have := h.2; rw [map_vW] at this
  exact ⟨by simp, .inr ⟨p, 0, Nat.zero_le _, h.1, this⟩⟩
theorem Rw.add {H : Heap} {v : AV} {p : Nat} {l : List Int} (h : Rw H v p l) (x : Heap) : Rw (H ++ x) v p l := ⟨h.1, by rw [List.getElem?_append_left (hlt_of h.2)]; exact h.2⟩
theorem Rw.st {H : Heap} {v : AV} {p i : Nat} {l : List Int} (h : Rw H v p l) (hi : i < l.length) (y : Int) : ∃ H', storeA H 1 (gptr 1 v i) (vW y) = some H' ∧ Rw H' v p (l.set i y) ∧ (∀ v' p' l', p' ≠ p → Rw H v' p' l' → Rw H' v' p' l') ∧ H'.length = H.length := by
  obtain ⟨id, ver, e1, e2, e3, e4⟩ := h.gro.store (i := i) (x := wr y) hi
  rw [h.1] at e1; cases e1
  have hh := h.2; rw [map_vW] at hh
  rw [hh] at e2; cases e2
  refine ⟨_, e3, ⟨by rw [h.1]; simp, ?_⟩, fun v' p' l' hp h' => ⟨h'.1, by rw [List.getElem?_set_ne (Ne.symm hp)]; exact h'.2⟩, by simp⟩
  rw [List.getElem?_set_self (hlt_of h.2)]; simp [map_vW, List.map_set]
theorem Rw.fresh (H : Heap) (n : Nat) : Rw (H ++ [⟨0, (List.replicate n (0 : Int)).map vI⟩]) (.sl H.length 0 1 0 n none) H.length (List.replicate n 0) := by
  refine ⟨by simp, ?_⟩
  rw [get_last]
  simp [vW, wr, IntKind.wrap_i64]

theorem bt_eq (f : List Nat) (i k : Nat) : sh ((f.getD i 0 : Nat) : Int) k % 2 = bt f i k := sh_bit _ _

section
variable {Y : Run}

theorem L44_0 {fr nx nv v8 v9 w1 w31 w32 w41 w42 : AV} {f : List Nat} {i p q : Nat} {now : List Int} (hF : Fr fr f) (hpq : p ≠ q) (hi : i < f.length) (hnow : now.length = f.length) (d : Nat) : ∀ {H : Heap} {next : List Int} (k : Nat), k + d = f.length → next.length = f.length → Rw H nx q next → Rw H nv p now →
    ∃ H', lp ET Y F44L0 (sp 86 [(56, vI k), (55, vI f.length), (49, vI i), (48, vI f.length), (47, fr), (42, w42), (41, w41), (32, w32), (31, w31), (13, vI (f.getD i 0 : Nat)), (12, vI i), (11, nx), (10, nv), (9, v9), (8, v8), (6, fr), (1, w1)]) H =
        some (.x 6, sp 86 [(49, vI i), (48, vI f.length), (47, fr), (42, w42), (41, w41), (32, w32), (31, w31), (11, nx), (10, nv), (9, v9), (8, v8), (6, fr), (1, w1)], H') ∧
      Rw H' nx q ((List.range' k d).foldl (fun next k => next.set k (next.getD k 0 + now.getD i 0 * bt f i k)) next) ∧ Rw H' nv p now ∧ H'.length = H.length := by
  have hn7 := hF.n7
  induction d with
  | zero =>
    intro H next k hk hl h1 h2
    refine ⟨H, ?_, by simpa using h1, h2, rfl⟩
    rw [un44_0]
    have : ¬ ((k : Int) < (f.length : Int)) := by omega
    simp only [F44L0b, SS, insA, wantedA, Opd.ev, putA, binA, eqbA, unA, fldA, partA, reduceIte, reduceCtorEq, Nat.reduceMod, Nat.reduceDiv, Nat.reduceBEq, resultA, resA, vI, Nat.reduceMul, Nat.reduceAdd, Nat.reduceSub, Nat.reduceEqDiff, Nat.reduceLT, Nat.reducePow, Nat.reduceLeDiff, st, Option.bind_eq_bind, Option.pure_def, List.length_nil, Int.cast_ofNat_Int, List.reverse_nil, UU, idxP, cellsAt, storeA, fillA, zerosA, putAll, optNat, sliceA, row, Int.reduceLT, Int.reduceLE, Int.reduceGT, Int.reduceGE, Int.reduceEq, Int.reduceNe, Int.reduceToNat, Int.reduceBEq, Int.reduceBNe, Nat.reduceLeDiff, Nat.reduceLT, Nat.reduceBNe, Nat.reduceGT, List.drop_nil, List.take_nil, Option.isSome_none, Int.ofNat_one, Int.ofNat_zero, this]
  | succ d ih =>
    intro H next k hk hl h1 h2
    have hc : (k : Int) < (f.length : Int) := by omega
    have hw := wrap_succ (n := k) (by omega)
    have hp2 : (0 : Int) ≤ (k : Int) := by omega
    have hs2 := shr_eq (k := k) (by omega)
    have hb := bt_eq f i k
    have i1 := h1.gro.idx (i := k) (by omega)
    have l1 := h1.gro.load (i := k) (by omega)
    rw [getD_wr (by omega)] at l1
    have i2 := h2.gro.idx (i := i) (by omega)
    have l2 := h2.gro.load (i := i) (by omega)
    rw [getD_wr (by omega)] at l2
    obtain ⟨H1, e1, r1, r2, r3⟩ := h1.st (i := k) (by omega) (next.getD k 0 + now.getD i 0 * bt f i k)
    have w1 : IntKind.wrap .i64 (wr (now.getD i 0) * bt f i k) = wr (now.getD i 0 * bt f i k) := by
      unfold bt; split
      · rw [Int.mul_one, Int.mul_one]; exact wr_wr _
      · rw [Int.mul_zero, Int.mul_zero]
    have w2 := wr_add (next.getD k 0) (now.getD i 0 * bt f i k)
    obtain ⟨H', e2, r4, r5, r6⟩ := ih (k + 1) (by omega) (by simp [hl]) r1 (r2 _ _ _ hpq h2)
    refine ⟨H', ?_, by rw [List.range'_succ, List.foldl_cons]; exact r4, r5, by omega⟩
    rw [un44_0]
    simp only [vW, wr, SS, insA, wantedA, Opd.ev, putA, binA, eqbA, unA, fldA, partA, reduceIte, reduceCtorEq, Nat.reduceMod, Nat.reduceDiv, Nat.reduceBEq, resultA, resA, vI, Nat.reduceMul, Nat.reduceAdd, Nat.reduceSub, Nat.reduceEqDiff, Nat.reduceLT, Nat.reducePow, Nat.reduceLeDiff, st, Option.bind_eq_bind, Option.pure_def, List.length_nil, Int.cast_ofNat_Int, List.reverse_nil] at e1 e2 l1 l2 w1 w2
    simp only [F44L0b, SS, insA, wantedA, Opd.ev, putA, binA, eqbA, unA, fldA, partA, reduceIte, reduceCtorEq, Nat.reduceMod, Nat.reduceDiv, Nat.reduceBEq, resultA, resA, vI, Nat.reduceMul, Nat.reduceAdd, Nat.reduceSub, Nat.reduceEqDiff, Nat.reduceLT, Nat.reducePow, Nat.reduceLeDiff, st, Option.bind_eq_bind, Option.pure_def, List.length_nil, Int.cast_ofNat_Int, List.reverse_nil, UU, idxP, cellsAt, fillA, zerosA, putAll, row, Int.reduceLT, Int.reduceLE, Int.reduceGT, Int.reduceGE, Int.reduceEq, Int.reduceNe, Int.reduceToNat, Int.reduceBEq, Int.reduceBNe, Nat.reduceLeDiff, Nat.reduceLT, Nat.reduceBNe, Nat.reduceGT, List.drop_nil, List.take_nil, Option.isSome_none, Int.ofNat_one, Int.ofNat_zero, hc, hw, hp2, hs2, and_one, hb, i1, l1, i2, l2, w1, w2, e1, e2]

theorem L44_1 {fr nx nv v8 v9 w1 w31 w32 w41 w42 : AV} {f : List Nat} {p q : Nat} {now : List Int} (hF : Fr fr f) (hpq : p ≠ q) (hnow : now.length = f.length) (d : Nat) : ∀ {H : Heap} {next : List Int} (i : Nat), i + d = f.length → next.length = f.length → Rw H nx q next → Rw H nv p now →
    ∃ H', lp ET Y F44L1 (sp 86 [(49, vI i), (48, vI f.length), (47, fr), (42, w42), (41, w41), (32, w32), (31, w31), (11, nx), (10, nv), (9, v9), (8, v8), (6, fr), (1, w1)]) H =
        some (.x 4, sp 86 [(42, w42), (41, w41), (32, w32), (31, w31), (11, nx), (9, v9), (8, v8), (6, fr), (1, w1)], H') ∧
      Rw H' nx q ((List.range' i d).foldl (fun next i => wk1 f f.length now next i) next) ∧ H'.length = H.length := by
  have hn7 := hF.n7
  have hflen := hF.hv.len
  rw [List.length_map] at hflen
  induction d with
  | zero =>
    intro H next i hk hl h1 h2
    refine ⟨H, ?_, by simpa using h1, rfl⟩
    rw [un44_1]
    have : ¬ ((i : Int) < (f.length : Int)) := by omega
    simp only [F44L1b, SS, insA, wantedA, Opd.ev, putA, binA, eqbA, unA, fldA, partA, reduceIte, reduceCtorEq, Nat.reduceMod, Nat.reduceDiv, Nat.reduceBEq, resultA, resA, vI, Nat.reduceMul, Nat.reduceAdd, Nat.reduceSub, Nat.reduceEqDiff, Nat.reduceLT, Nat.reducePow, Nat.reduceLeDiff, st, Option.bind_eq_bind, Option.pure_def, List.length_nil, Int.cast_ofNat_Int, List.reverse_nil, UU, idxP, cellsAt, storeA, fillA, zerosA, putAll, optNat, sliceA, row, Int.reduceLT, Int.reduceLE, Int.reduceGT, Int.reduceGE, Int.reduceEq, Int.reduceNe, Int.reduceToNat, Int.reduceBEq, Int.reduceBNe, Nat.reduceLeDiff, Nat.reduceLT, Nat.reduceBNe, Nat.reduceGT, List.drop_nil, List.take_nil, Option.isSome_none, Int.ofNat_one, Int.ofNat_zero, this]
  | succ d ih =>
    intro H next i hk hl h1 h2
    have hi : i < f.length := by omega
    have hc : (i : Int) < (f.length : Int) := by omega
    have hw := wrap_succ (n := i) (by omega)
    have hip := hF.hv.idx (i := i) (by simpa using hi)
    have hlp := hF.hv.load (H := H) (i := i) (by simpa using hi)
    rw [getD_nat hi] at hlp
    obtain ⟨H1, e1, r1, r2, r3⟩ := L44_0 (Y := Y) (v8 := v8) (v9 := v9) (w1 := w1) (w31 := w31) (w32 := w32) (w41 := w41) (w42 := w42) hF hpq hi hnow f.length 0 (by omega) hl h1 h2
    rw [← List.range_eq_range'] at r1
    obtain ⟨H', e2, r4, r6⟩ := ih (i + 1) (by omega) (wk1_len f f.length now next i f.length hl) r1 r2
    refine ⟨H', ?_, by rw [List.range'_succ, List.foldl_cons]; exact r4, by omega⟩
    rw [un44_1]
    simp only [SS, insA, wantedA, Opd.ev, putA, binA, eqbA, unA, fldA, partA, reduceIte, reduceCtorEq, Nat.reduceMod, Nat.reduceDiv, Nat.reduceBEq, resultA, resA, vI, Nat.reduceMul, Nat.reduceAdd, Nat.reduceSub, Nat.reduceEqDiff, Nat.reduceLT, Nat.reducePow, Nat.reduceLeDiff, st, Option.bind_eq_bind, Option.pure_def, List.length_nil, Int.cast_ofNat_Int, List.reverse_nil, Int.ofNat_zero] at e1 e2
    simp only [F44L1b, F44T0, in44_0, SS, insA, wantedA, Opd.ev, putA, binA, eqbA, unA, fldA, partA, reduceIte, reduceCtorEq, Nat.reduceMod, Nat.reduceDiv, Nat.reduceBEq, resultA, resA, vI, Nat.reduceMul, Nat.reduceAdd, Nat.reduceSub, Nat.reduceEqDiff, Nat.reduceLT, Nat.reducePow, Nat.reduceLeDiff, st, Option.bind_eq_bind, Option.pure_def, List.length_nil, Int.cast_ofNat_Int, List.reverse_nil, UU, idxP, cellsAt, storeA, fillA, zerosA, putAll, optNat, sliceA, row, Int.reduceLT, Int.reduceLE, Int.reduceGT, Int.reduceGE, Int.reduceEq, Int.reduceNe, Int.reduceToNat, Int.reduceBEq, Int.reduceBNe, Nat.reduceLeDiff, Nat.reduceLT, Nat.reduceBNe, Nat.reduceGT, List.drop_nil, List.take_nil, Option.isSome_none, Int.ofNat_one, Int.ofNat_zero, hc, hw, hip, hlp, hflen, e1, e2]

theorem L44_2 {fr v8 v9 w31 w32 : AV} {f : List Nat} {stp : Nat} (hF : Fr fr f) (hst : stp ≤ 16) (d : Nat) : ∀ {H : Heap} {nv : AV} {p : Nat} {now : List Int} (s : Nat), s + d = stp → now.length = f.length → Rw H nv p now →
    ∃ H' nv' p', lp ET Y F44L2 (sp 86 [(42, vI s), (41, vI stp), (32, w32), (31, w31), (10, nv), (9, v9), (8, v8), (6, fr), (1, vI stp)]) H =
        some (.x 2, sp 86 [(32, w32), (31, w31), (10, nv'), (9, v9), (8, v8), (6, fr), (1, vI stp)], H') ∧ Rw H' nv' p' (wkS f f.length d now) := by
  have hn7 := hF.n7
  have hflen := hF.hv.len
  rw [List.length_map] at hflen
  induction d with
  | zero =>
    intro H nv p now s hs hl h
    refine ⟨H, nv, p, ?_, h⟩
    rw [un44_2]
    have : ¬ ((s : Int) < (stp : Int)) := by omega
    simp only [F44L2b, SS, insA, wantedA, Opd.ev, putA, binA, eqbA, unA, fldA, partA, reduceIte, reduceCtorEq, Nat.reduceMod, Nat.reduceDiv, Nat.reduceBEq, resultA, resA, vI, Nat.reduceMul, Nat.reduceAdd, Nat.reduceSub, Nat.reduceEqDiff, Nat.reduceLT, Nat.reducePow, Nat.reduceLeDiff, st, Option.bind_eq_bind, Option.pure_def, List.length_nil, Int.cast_ofNat_Int, List.reverse_nil, UU, idxP, cellsAt, storeA, fillA, zerosA, putAll, optNat, sliceA, row, Int.reduceLT, Int.reduceLE, Int.reduceGT, Int.reduceGE, Int.reduceEq, Int.reduceNe, Int.reduceToNat, Int.reduceBEq, Int.reduceBNe, Nat.reduceLeDiff, Nat.reduceLT, Nat.reduceBNe, Nat.reduceGT, List.drop_nil, List.take_nil, Option.isSome_none, Int.ofNat_one, Int.ofNat_zero, this]
  | succ d ih =>
    intro H nv p now s hs hl h
    have hc : (s : Int) < (stp : Int) := by omega
    have hw := wrap_succ (n := s) (by omega)
    have hki : (0 : Int) ≤ (f.length : Int) ∧ (f.length : Int) * 8 ≤ 140737488355328 ∧ (f.length : Int) ≤ 9223372036854775807 := by omega
    have hzr := zeros_int (n := f.length)
    have hfr := Rw.fresh H f.length
    obtain ⟨H1, e1, r1, r2⟩ := L44_1 (Y := Y) (v8 := v8) (v9 := v9) (w1 := vI stp) (w31 := w31) (w32 := w32) (w41 := vI stp) (w42 := vI s) hF (by have := hlt_of h.2; omega) hl f.length 0 (by omega) (by simp) hfr (h.add _)
    rw [← List.range_eq_range'] at r1
    obtain ⟨H', nv', p', e2, r4⟩ := ih (s + 1) (by omega) (wk2_len f f.length now) r1
    refine ⟨H', nv', p', ?_, r4⟩
    rw [un44_2]
    generalize hZ : List.map vI (List.replicate f.length (0 : Int)) = Z at *
    simp only [SS, insA, wantedA, Opd.ev, putA, binA, eqbA, unA, fldA, partA, reduceIte, reduceCtorEq, Nat.reduceMod, Nat.reduceDiv, Nat.reduceBEq, resultA, resA, vI, Nat.reduceMul, Nat.reduceAdd, Nat.reduceSub, Nat.reduceEqDiff, Nat.reduceLT, Nat.reducePow, Nat.reduceLeDiff, st, Option.bind_eq_bind, Option.pure_def, List.length_nil, Int.cast_ofNat_Int, List.reverse_nil, Int.ofNat_zero] at e1 e2 hzr
    simp only [F44L2b, F44T1, F44T2, in44_1, SS, insA, wantedA, Opd.ev, putA, binA, eqbA, unA, fldA, partA, reduceIte, reduceCtorEq, Nat.reduceMod, Nat.reduceDiv, Nat.reduceBEq, resultA, resA, vI, Nat.reduceMul, Nat.reduceAdd, Nat.reduceSub, Nat.reduceEqDiff, Nat.reduceLT, Nat.reducePow, Nat.reduceLeDiff, st, Option.bind_eq_bind, Option.pure_def, List.length_nil, Int.cast_ofNat_Int, List.reverse_nil, UU, idxP, cellsAt, storeA, fillA, putAll, optNat, sliceA, row, Int.reduceLT, Int.reduceLE, Int.reduceGT, Int.reduceGE, Int.reduceEq, Int.reduceNe, Int.reduceToNat, Int.reduceBEq, Int.reduceBNe, Nat.reduceLeDiff, Nat.reduceLT, Nat.reduceBNe, Nat.reduceGT, List.drop_nil, List.take_nil, Option.isSome_none, Int.ofNat_one, Int.ofNat_zero, hc, hw, hflen, hki, hzr, Int.toNat_natCast, Int.natCast_nonneg, Nat.mul_one, e1, e2]

theorem L44_3 {fr : AV} {f : List Nat} {stp : Nat} (hF : Fr fr f) (hst : stp ≤ 16) (d : Nat) : ∀ {H : Heap} {out : Int} (a : Nat), a + d = f.length →
    ∃ H', lp ET Y F44L3 (sp 86 [(32, vI a), (31, vI f.length), (8, vW out), (6, fr), (1, vI stp)]) H =
        some (.x 0, sp 86 [(8, vW ((List.range' a d).foldl (fun out a => out + (wkS f f.length stp ((List.replicate f.length 0).set a 1)).getD a 0) out))], H') := by
  have hn7 := hF.n7
  have hflen := hF.hv.len
  rw [List.length_map] at hflen
  induction d with
  | zero =>
    intro H out a hs
    refine ⟨H, ?_⟩
    rw [un44_3]
    have : ¬ ((a : Int) < (f.length : Int)) := by omega
    simp only [F44L3b, SS, insA, wantedA, Opd.ev, putA, binA, eqbA, unA, fldA, partA, reduceIte, reduceCtorEq, Nat.reduceMod, Nat.reduceDiv, Nat.reduceBEq, resultA, resA, vI, Nat.reduceMul, Nat.reduceAdd, Nat.reduceSub, Nat.reduceEqDiff, Nat.reduceLT, Nat.reducePow, Nat.reduceLeDiff, st, Option.bind_eq_bind, Option.pure_def, List.length_nil, Int.cast_ofNat_Int, List.reverse_nil, UU, idxP, cellsAt, storeA, fillA, zerosA, putAll, optNat, sliceA, row, Int.reduceLT, Int.reduceLE, Int.reduceGT, Int.reduceGE, Int.reduceEq, Int.reduceNe, Int.reduceToNat, Int.reduceBEq, Int.reduceBNe, Nat.reduceLeDiff, Nat.reduceLT, Nat.reduceBNe, Nat.reduceGT, List.drop_nil, List.take_nil, Option.isSome_none, Int.ofNat_one, Int.ofNat_zero, this, List.range'_zero, List.foldl_nil]
  | succ d ih =>
    intro H out a hs
    have hc : (a : Int) < (f.length : Int) := by omega
    have hw := wrap_succ (n := a) (by omega)
    have hki : (0 : Int) ≤ (f.length : Int) ∧ (f.length : Int) * 8 ≤ 140737488355328 ∧ (f.length : Int) ≤ 9223372036854775807 := by omega
    have hzr := zeros_int (n := f.length)
    have hfr := Rw.fresh H f.length
    have i1 := hfr.gro.idx (i := a) (by simp; omega)
    obtain ⟨H1, e1, r1, r2, r3⟩ := hfr.st (i := a) (by simp; omega) 1
    have e01 : vW 1 = vI 1 := by simp [vW, wr, IntKind.wrap_i64]
    rw [e01] at e1
    obtain ⟨H2, nv, p, e2, r4⟩ := L44_2 (Y := Y) (v8 := vW out) (v9 := vI a) (w31 := vI f.length) (w32 := vI a) hF hst stp 0 (by omega) (by simp) r1
    have i2 := r4.gro.idx (i := a) (by rw [wkS_len _ _ _ _ (by simp)]; omega)
    have l2 := r4.gro.load (i := a) (by rw [wkS_len _ _ _ _ (by simp)]; omega)
    rw [getD_wr (by rw [wkS_len _ _ _ _ (by simp)]; omega)] at l2
    have w2 := wr_add out ((wkS f f.length stp ((List.replicate f.length 0).set a 1)).getD a 0)
    obtain ⟨H', e3⟩ := ih (H := H2) (out := out + (wkS f f.length stp ((List.replicate f.length 0).set a 1)).getD a 0) (a + 1) (by omega)
    refine ⟨H', ?_⟩
    rw [List.range'_succ, List.foldl_cons, un44_3]
    clear r1 r2 r4 hfr
    generalize hZ : List.map vI (List.replicate f.length (0 : Int)) = Z at *
    simp only [vW, wr, SS, insA, wantedA, Opd.ev, putA, binA, eqbA, unA, fldA, partA, reduceIte, reduceCtorEq, Nat.reduceMod, Nat.reduceDiv, Nat.reduceBEq, resultA, resA, vI, Nat.reduceMul, Nat.reduceAdd, Nat.reduceSub, Nat.reduceEqDiff, Nat.reduceLT, Nat.reducePow, Nat.reduceLeDiff, st, Option.bind_eq_bind, Option.pure_def, List.length_nil, Int.cast_ofNat_Int, List.reverse_nil, Int.ofNat_zero] at e1 e2 e3 hzr l2 w2
    simp only [F44L3b, F44T3, F44T4, in44_2, SS, insA, wantedA, Opd.ev, putA, binA, eqbA, unA, fldA, partA, reduceIte, reduceCtorEq, Nat.reduceMod, Nat.reduceDiv, Nat.reduceBEq, resultA, resA, vI, Nat.reduceMul, Nat.reduceAdd, Nat.reduceSub, Nat.reduceEqDiff, Nat.reduceLT, Nat.reducePow, Nat.reduceLeDiff, st, Option.bind_eq_bind, Option.pure_def, List.length_nil, Int.cast_ofNat_Int, List.reverse_nil, UU, idxP, cellsAt, fillA, putAll, row, Int.reduceLT, Int.reduceLE, Int.reduceGT, Int.reduceGE, Int.reduceEq, Int.reduceNe, Int.reduceToNat, Int.reduceBEq, Int.reduceBNe, Nat.reduceLeDiff, Nat.reduceLT, Nat.reduceBNe, Nat.reduceGT, List.drop_nil, List.take_nil, Option.isSome_none, Int.ofNat_one, Int.ofNat_zero, hc, hw, hflen, hki, hzr, i1, e1, e2, i2, l2, w2, e3, Int.toNat_natCast, Int.natCast_nonneg, Nat.mul_one, vW]

theorem walks44 {v : AV} {l : List Int} (hv : IsRow v l) (hf : frameB l = true) {s : Nat} (hs : s ≤ 16) {H : Heap} :
    freeX H (callL ET Y 44 [v, vI s] []) = some (.tup [vW (wkA (l.map Int.toNat) l.length s), vI 0], H) := by
  have hn := frame_n hf
  have hr := fun H => read51 (Y := Y) (H := H) hv (by omega)
  rw [hf, if_pos rfl] at hr
  obtain ⟨hF, _⟩ := Fr.of hv hf
  have hlen : (l.map Int.toNat).length = l.length := by simp
  obtain ⟨H', e1⟩ := L44_3 (Y := Y) (stp := s) (H := []) (out := 0) hF hs (l.map Int.toNat).length 0 (by omega)
  rw [← List.range_eq_range', hlen] at e1
  have c1 : ¬ ((s : Int) < 0) := by omega
  have c2 : ¬ ((s : Int) > 16) := by omega
  have e00 : vW 0 = vI 0 := by simp [vW, wr, IntKind.wrap_i64]
  rw [e00] at e1
  rw [call44 rfl]
  unfold wkA
  simp only [SS, insA, wantedA, Opd.ev, putA, binA, eqbA, unA, fldA, partA, reduceIte, reduceCtorEq, Nat.reduceMod, Nat.reduceDiv, Nat.reduceBEq, resultA, resA, vI, Nat.reduceMul, Nat.reduceAdd, Nat.reduceSub, Nat.reduceEqDiff, Nat.reduceLT, Nat.reducePow, Nat.reduceLeDiff, st, Option.bind_eq_bind, Option.pure_def, List.length_nil, Int.cast_ofNat_Int, List.reverse_nil, Int.ofNat_zero] at e1
  simp only [F44B, F44T5, in44_3, SS, insA, wantedA, Opd.ev, putA, binA, eqbA, unA, fldA, partA, reduceIte, reduceCtorEq, Nat.reduceMod, Nat.reduceDiv, Nat.reduceBEq, resultA, resA, vI, Nat.reduceMul, Nat.reduceAdd, Nat.reduceSub, Nat.reduceEqDiff, Nat.reduceLT, Nat.reducePow, Nat.reduceLeDiff, st, Option.bind_eq_bind, Option.pure_def, List.length_nil, Int.cast_ofNat_Int, List.reverse_nil, UU, idxP, cellsAt, storeA, fillA, zerosA, putAll, optNat, sliceA, row, Int.reduceLT, Int.reduceLE, Int.reduceGT, Int.reduceGE, Int.reduceEq, Int.reduceNe, Int.reduceToNat, Int.reduceBEq, Int.reduceBNe, Nat.reduceLeDiff, Nat.reduceLT, Nat.reduceBNe, Nat.reduceGT, List.drop_nil, List.take_nil, Option.isSome_none, Int.ofNat_one, Int.ofNat_zero, hr, hv.snap, hv.len, c1, c2, e1, if_true]

theorem walks44_bad {v : AV} {l : List Int} (hv : IsRow v l) (hl : l.length ≤ 1000) {s : Int} (h : frameB l = false ∨ s < 0 ∨ s > 16) {H : Heap} :
    freeX H (callL ET Y 44 [v, .int .i64 s] []) = some (.tup [vI 0, vI 2], H) := by
  have hr := fun H => read51 (Y := Y) (H := H) hv hl
  rw [call44 rfl]
  cases hf : frameB l with
  | false =>
    rw [hf, if_neg (by simp)] at hr
    simp only [F44B, SS, insA, wantedA, Opd.ev, putA, binA, eqbA, unA, fldA, partA, reduceIte, reduceCtorEq, Nat.reduceMod, Nat.reduceDiv, Nat.reduceBEq, resultA, resA, vI, Nat.reduceMul, Nat.reduceAdd, Nat.reduceSub, Nat.reduceEqDiff, Nat.reduceLT, Nat.reducePow, Nat.reduceLeDiff, st, Option.bind_eq_bind, Option.pure_def, List.length_nil, Int.cast_ofNat_Int, List.reverse_nil, UU, idxP, cellsAt, storeA, fillA, zerosA, putAll, optNat, sliceA, row, Int.reduceLT, Int.reduceLE, Int.reduceGT, Int.reduceGE, Int.reduceEq, Int.reduceNe, Int.reduceToNat, Int.reduceBEq, Int.reduceBNe, Nat.reduceLeDiff, Nat.reduceLT, Nat.reduceBNe, Nat.reduceGT, List.drop_nil, List.take_nil, Option.isSome_none, Int.ofNat_one, Int.ofNat_zero, hr, hv.snap, Bool.false_eq_true]
  | true =>
    rw [hf, if_pos rfl] at hr
    by_cases c : s < 0
    · simp only [F44B, SS, insA, wantedA, Opd.ev, putA, binA, eqbA, unA, fldA, partA, reduceIte, reduceCtorEq, Nat.reduceMod, Nat.reduceDiv, Nat.reduceBEq, resultA, resA, vI, Nat.reduceMul, Nat.reduceAdd, Nat.reduceSub, Nat.reduceEqDiff, Nat.reduceLT, Nat.reducePow, Nat.reduceLeDiff, st, Option.bind_eq_bind, Option.pure_def, List.length_nil, Int.cast_ofNat_Int, List.reverse_nil, UU, idxP, cellsAt, storeA, fillA, zerosA, putAll, optNat, sliceA, row, Int.reduceLT, Int.reduceLE, Int.reduceGT, Int.reduceGE, Int.reduceEq, Int.reduceNe, Int.reduceToNat, Int.reduceBEq, Int.reduceBNe, Nat.reduceLeDiff, Nat.reduceLT, Nat.reduceBNe, Nat.reduceGT, List.drop_nil, List.take_nil, Option.isSome_none, Int.ofNat_one, Int.ofNat_zero, hr, hv.snap, hv.len, c, if_true]
    · have c2 : s > 16 := by
        rcases h with h | h | h
        · rw [hf] at h; cases h
        · exact absurd h c
        · exact h
      simp only [F44B, SS, insA, wantedA, Opd.ev, putA, binA, eqbA, unA, fldA, partA, reduceIte, reduceCtorEq, Nat.reduceMod, Nat.reduceDiv, Nat.reduceBEq, resultA, resA, vI, Nat.reduceMul, Nat.reduceAdd, Nat.reduceSub, Nat.reduceEqDiff, Nat.reduceLT, Nat.reducePow, Nat.reduceLeDiff, st, Option.bind_eq_bind, Option.pure_def, List.length_nil, Int.cast_ofNat_Int, List.reverse_nil, UU, idxP, cellsAt, storeA, fillA, zerosA, putAll, optNat, sliceA, row, Int.reduceLT, Int.reduceLE, Int.reduceGT, Int.reduceGE, Int.reduceEq, Int.reduceNe, Int.reduceToNat, Int.reduceBEq, Int.reduceBNe, Nat.reduceLeDiff, Nat.reduceLT, Nat.reduceBNe, Nat.reduceGT, List.drop_nil, List.take_nil, Option.isSome_none, Int.ofNat_one, Int.ofNat_zero, hr, hv.snap, hv.len, c, c2, if_true]
end
end Go.X
