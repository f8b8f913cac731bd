import Derived.Test.YtdkgicdbjemalaaDoorNR
import Derived.Test.YtdkgicdbjemalaaDoorNO
/-! Tones: rest, minus; the law Wires. -/
set_option linter.unusedSimpArgs false
set_option linter.unusedVariables false
set_option maxHeartbeats 2000000
set_option maxRecDepth 10000
namespace Go.X
open Go Go.RowKit

def nL (n : Nat) (s : Nat → Int) : List Int := (List.range (n + 1)).map fun j => wr (s j)
theorem nL_get {n j : Nat} {s : Nat → Int} (h : j ≤ n) : (nL n s).getD j 0 = wr (s j) := by
  unfold nL
  rw [getD_get (by simp; omega), List.getElem_map, List.getElem_range]
theorem nL_len (n : Nat) (s : Nat → Int) : (nL n s).length = n + 1 := by simp [nL]
theorem nL_congr {n : Nat} {s t : Nat → Int} (h : ∀ j, j ≤ n → wr (s j) = wr (t j)) : nL n s = nL n t := by
  unfold nL
  apply List.map_congr_left
  intro j hj
  have := List.mem_range.1 hj
  exact h j (by omega)

/-- What is left of the matchings without some knots. -/
def restL (f : List Nat) (set : Nat) : List Int := if (lsF f set).length = 0 then [1] else (polyL (lsF f set) (-1) 0).map wr

theorem kept_all : (List.range 8).all (fun n => (List.range n).all fun a => (List.range n).all fun b => (kept n (2 ^ a ||| 2 ^ b)).length == (if a = b then n - 1 else n - 2) && ((kept n (2 ^ a ||| 2 ^ b)).length != 0 || dl (full n) (2 ^ a ||| 2 ^ b) == 0)) = true := by decide +kernel
theorem kept_two {n a b : Nat} (hn : n ≤ 7) (ha : a < n) (hb : b < n) : (kept n (2 ^ a ||| 2 ^ b)).length = (if a = b then n - 1 else n - 2) ∧ ((kept n (2 ^ a ||| 2 ^ b)).length = 0 → dl (full n) (2 ^ a ||| 2 ^ b) = 0) := by
  have := List.all_eq_true.1 (List.all_eq_true.1 (List.all_eq_true.1 kept_all n (List.mem_range.2 (by omega))) a (List.mem_range.2 ha)) b (List.mem_range.2 hb)
  rw [Bool.and_eq_true, Bool.or_eq_true] at this
  refine ⟨by simpa using this.1, fun h => ?_⟩
  rcases this.2 with h2 | h2
  · rw [h] at h2; exact absurd h2 (by decide)
  · simpa using h2

theorem rest_get {f : List Nat} (hf : frameB (f.map fun n : Nat => (n : Int)) = true) {a b : Nat} (ha : a < f.length) (hb : b < f.length) (j : Nat) :
    (restL f (2 ^ a ||| 2 ^ b)).getD j 0 = if j ≤ (kept f.length (2 ^ a ||| 2 ^ b)).length then wr (mE f (dl (full f.length) (2 ^ a ||| 2 ^ b)) ((kept f.length (2 ^ a ||| 2 ^ b)).length - j)) else 0 := by
  obtain ⟨n1, n7, hok, hS⟩ := frame_iff.1 hf
  obtain ⟨hk1, hk2⟩ := kept_two n7 ha hb
  unfold restL
  rw [ls_len]
  by_cases h0 : (kept f.length (2 ^ a ||| 2 ^ b)).length = 0
  · rw [if_pos h0, h0]
    have e : mE f (dl (full f.length) (2 ^ a ||| 2 ^ b)) 0 = 1 := by
      rw [hk2 h0]
      unfold mE
      simp [maY, evE, hs_zero]
    cases j with
    | zero => rw [if_pos (Nat.le_refl _), e]; decide
    | succ j => rw [if_neg (by omega)]; simp
  · rw [if_neg h0]
    have hfr := less_frame hf (set := 2 ^ a ||| 2 ^ b) (by omega)
    obtain ⟨m1, m7, _, mS⟩ := frame_iff.1 hfr
    have hlen := ls_len f (2 ^ a ||| 2 ^ b)
    by_cases hj : j ≤ (kept f.length (2 ^ a ||| 2 ^ b)).length
    · rw [if_pos hj]
      have h1 := poly_mE mS m7 (q := j) (by omega)
      rw [less_mE hS n7 ha hb, hlen] at h1
      have hlt : j < (polyL (lsF f (2 ^ a ||| 2 ^ b)) (-1) 0).length := by rw [polyL_len]; omega
      rw [getD_get hlt] at h1
      rw [getD_get (by simpa using hlt), List.getElem_map, h1]
    · rw [if_neg hj, List.getD_eq_getElem?_getD, List.getElem?_eq_none (by rw [List.length_map, polyL_len]; omega)]
      rfl
theorem rest_len {f : List Nat} (hf : frameB (f.map fun n : Nat => (n : Int)) = true) {set : Nat} : (restL f set).length = (lsF f set).length + 1 := by
  unfold restL
  split
  · rename_i h; rw [h]; rfl
  · rw [List.length_map, polyL_len]

theorem wr_sub (a b : Int) : wr (wr a - wr b) = wr (a - b) := by simp only [wr, IntKind.wrap_i64]; omega
theorem wr_sub' (a b : Int) : wr (wr a - b) = wr (a - b) := by simp only [wr, IntKind.wrap_i64]; omega

def mnK (n : Nat) (p q : List Int) (m : Nat) : List Int := (List.range n).map fun j => if j < m then p.getD j 0 - q.getD j 0 else 0
theorem mnK_zero (n : Nat) (p q : List Int) : mnK n p q 0 = List.replicate n 0 := by
  unfold mnK
  apply List.ext_getElem
  · simp
  · intro j h1 h2; simp
theorem mnK_succ {n : Nat} {p q : List Int} {m : Nat} (h : m < n) (x : Int) (hx : x = p.getD m 0 - q.getD m 0) : (mnK n p q m).set m x = mnK n p q (m + 1) := by
  unfold mnK
  apply List.ext_getElem
  · simp
  · intro j h1 h2
    rw [List.getElem_set]
    simp only [List.getElem_map, List.getElem_range]
    by_cases e : m = j
    · subst e; rw [if_pos rfl, if_pos (by omega), hx]
    · rw [if_neg e]
      by_cases c : j < m
      · rw [if_pos c, if_pos (by omega)]
      · rw [if_neg c, if_neg (by omega)]
theorem mnK_get {n : Nat} {p q : List Int} {m : Nat} (h : m < n) : (mnK n p q m).getD m 0 = 0 := by
  unfold mnK
  rw [getD_get (by simpa using h), List.getElem_map, List.getElem_range, if_neg (by omega)]

section
variable {Y : Run}

theorem L34 {v w : AV} {p q : List Int} {n : Nat} (hv : IsRow v p) (hw : IsRow w q) (hn : n ≤ 100) (d : Nat) : ∀ {H : Heap} {u : AV} {id : Nat} (i : Nat), i + d = n → Rw H u id (mnK n p q i) →
    ∃ H', lp ET Y F34L0 (sp 45 [(8, vI i), (7, u), (2, vI n), (1, w), (0, v)]) H = some (.x 0, sp 45 [(7, u)], H') ∧ Rw H' u id (mnK n p q n) := by
  induction d with
  | zero =>
    intro H u id i hi h
    have e : i = n := by omega
    subst e
    refine ⟨H, ?_, h⟩
    rw [un34_0]
    have : ¬ ((i : Int) < (i : Int)) := by omega
    simp only [F34L0b, SS, insA, wantedA, Opd.ev, putA, binA, eqbA, unA, fldA, partA, reduceIte, reduceCtorEq, Nat.reduceMod, Nat.reduceDiv, Nat.reduceBEq, resultA, resA, vI, Nat.reduceMul, Nat.reduceAdd, Nat.reduceSub, Nat.reduceEqDiff, Nat.reduceLT, Nat.reducePow, Nat.reduceLeDiff, st, Option.bind_eq_bind, Option.pure_def, List.length_nil, Int.cast_ofNat_Int, List.reverse_nil, UU, idxP, cellsAt, storeA, fillA, zerosA, putAll, optNat, sliceA, row, Int.reduceLT, Int.reduceLE, Int.reduceGT, Int.reduceGE, Int.reduceEq, Int.reduceNe, Int.reduceToNat, Int.reduceBEq, Int.reduceBNe, Nat.reduceLeDiff, Nat.reduceLT, Nat.reduceBNe, Nat.reduceGT, List.drop_nil, List.take_nil, Option.isSome_none, Int.ofNat_one, Int.ofNat_zero, this]
  | succ d ih =>
    intro H u id i hi h
    have hi1 : i < n := by omega
    have hc : (i : Int) < (n : Int) := by omega
    have hww := wrap_succ (n := i) (by omega)
    have hl : (mnK n p q i).length = n := by simp [mnK]
    have i1 := h.gro.idx (i := i) (by omega)
    have l1 := h.gro.load (i := i) (by omega)
    rw [getD_wr (by omega), mnK_get hi1] at l1
    rw [un34_0]
    by_cases c1 : i < p.length
    · have d1 : (i : Int) < (p.length : Int) := by omega
      have w1 : IntKind.wrap .i64 (wr 0 + p.getD i 0) = wr (p.getD i 0) := by simp only [wr, IntKind.wrap_i64]; omega
      obtain ⟨H1, e1, r1, _, _⟩ := h.st (i := i) (by omega) (p.getD i 0)
      by_cases c2 : i < q.length
      · have d2 : (i : Int) < (q.length : Int) := by omega
        have i2 := r1.gro.idx (i := i) (by simp; omega)
        have l2 := r1.gro.load (i := i) (by simp; omega)
        rw [getD_wr (by simp; omega)] at l2
        have hg : ((mnK n p q i).set i (p.getD i 0)).getD i 0 = p.getD i 0 := by rw [getD_get (by simp; omega), List.getElem_set_self]
        rw [hg] at l2
        have w2 := wr_sub' (p.getD i 0) (q.getD i 0)
        obtain ⟨H2, e2, r2, _, _⟩ := r1.st (i := i) (by simp; omega) (p.getD i 0 - q.getD i 0)
        rw [List.set_set, mnK_succ hi1 _ rfl] at r2
        obtain ⟨H', e3, r3⟩ := ih (i + 1) (by omega) r2
        refine ⟨H', ?_, r3⟩
        simp only [vW, wr, SS, insA, wantedA, Opd.ev, putA, binA, eqbA, unA, fldA, partA, reduceIte, reduceCtorEq, Nat.reduceMod, Nat.reduceDiv, Nat.reduceBEq, resultA, resA, vI, Nat.reduceMul, Nat.reduceAdd, Nat.reduceSub, Nat.reduceEqDiff, Nat.reduceLT, Nat.reducePow, Nat.reduceLeDiff, st, Option.bind_eq_bind, Option.pure_def, List.length_nil, Int.cast_ofNat_Int, List.reverse_nil] at e1 e2 e3 l1 l2 w1 w2
        simp only [F34L0b, SS, insA, wantedA, Opd.ev, putA, binA, eqbA, unA, fldA, partA, reduceIte, reduceCtorEq, Nat.reduceMod, Nat.reduceDiv, Nat.reduceBEq, resultA, resA, vI, Nat.reduceMul, Nat.reduceAdd, Nat.reduceSub, Nat.reduceEqDiff, Nat.reduceLT, Nat.reducePow, Nat.reduceLeDiff, st, Option.bind_eq_bind, Option.pure_def, List.length_nil, Int.cast_ofNat_Int, List.reverse_nil, UU, idxP, cellsAt, fillA, zerosA, putAll, row, Int.reduceLT, Int.reduceLE, Int.reduceGT, Int.reduceGE, Int.reduceEq, Int.reduceNe, Int.reduceToNat, Int.reduceBEq, Int.reduceBNe, Nat.reduceLeDiff, Nat.reduceLT, Nat.reduceBNe, Nat.reduceGT, List.drop_nil, List.take_nil, Option.isSome_none, Int.ofNat_one, Int.ofNat_zero, hc, hww, hv.len, hw.len, d1, d2, i1, l1, hv.idx c1, hv.load c1, w1, e1, i2, l2, hw.idx c2, hw.load c2, w2, e2, e3]
      · have d2 : ¬ (i : Int) < (q.length : Int) := by omega
        have hq0 : q.getD i 0 = 0 := by rw [List.getD_eq_getElem?_getD, List.getElem?_eq_none (by omega)]; rfl
        rw [mnK_succ hi1 _ (by rw [hq0]; omega)] at r1
        obtain ⟨H', e3, r3⟩ := ih (i + 1) (by omega) r1
        refine ⟨H', ?_, r3⟩
        simp only [vW, wr, SS, insA, wantedA, Opd.ev, putA, binA, eqbA, unA, fldA, partA, reduceIte, reduceCtorEq, Nat.reduceMod, Nat.reduceDiv, Nat.reduceBEq, resultA, resA, vI, Nat.reduceMul, Nat.reduceAdd, Nat.reduceSub, Nat.reduceEqDiff, Nat.reduceLT, Nat.reducePow, Nat.reduceLeDiff, st, Option.bind_eq_bind, Option.pure_def, List.length_nil, Int.cast_ofNat_Int, List.reverse_nil] at e1 e3 l1 w1
        simp only [F34L0b, SS, insA, wantedA, Opd.ev, putA, binA, eqbA, unA, fldA, partA, reduceIte, reduceCtorEq, Nat.reduceMod, Nat.reduceDiv, Nat.reduceBEq, resultA, resA, vI, Nat.reduceMul, Nat.reduceAdd, Nat.reduceSub, Nat.reduceEqDiff, Nat.reduceLT, Nat.reducePow, Nat.reduceLeDiff, st, Option.bind_eq_bind, Option.pure_def, List.length_nil, Int.cast_ofNat_Int, List.reverse_nil, UU, idxP, cellsAt, fillA, zerosA, putAll, row, Int.reduceLT, Int.reduceLE, Int.reduceGT, Int.reduceGE, Int.reduceEq, Int.reduceNe, Int.reduceToNat, Int.reduceBEq, Int.reduceBNe, Nat.reduceLeDiff, Nat.reduceLT, Nat.reduceBNe, Nat.reduceGT, List.drop_nil, List.take_nil, Option.isSome_none, Int.ofNat_one, Int.ofNat_zero, hc, hww, hv.len, hw.len, d1, d2, i1, l1, hv.idx c1, hv.load c1, w1, e1, e3]
    · have d1 : ¬ (i : Int) < (p.length : Int) := by omega
      have hp0 : p.getD i 0 = 0 := by rw [List.getD_eq_getElem?_getD, List.getElem?_eq_none (by omega)]; rfl
      by_cases c2 : i < q.length
      · have d2 : (i : Int) < (q.length : Int) := by omega
        have w2 := wr_sub' 0 (q.getD i 0)
        obtain ⟨H2, e2, r2, _, _⟩ := h.st (i := i) (by omega) (0 - q.getD i 0)
        rw [mnK_succ hi1 _ (by rw [hp0])] at r2
        obtain ⟨H', e3, r3⟩ := ih (i + 1) (by omega) r2
        refine ⟨H', ?_, r3⟩
        simp only [vW, wr, SS, insA, wantedA, Opd.ev, putA, binA, eqbA, unA, fldA, partA, reduceIte, reduceCtorEq, Nat.reduceMod, Nat.reduceDiv, Nat.reduceBEq, resultA, resA, vI, Nat.reduceMul, Nat.reduceAdd, Nat.reduceSub, Nat.reduceEqDiff, Nat.reduceLT, Nat.reducePow, Nat.reduceLeDiff, st, Option.bind_eq_bind, Option.pure_def, List.length_nil, Int.cast_ofNat_Int, List.reverse_nil] at e2 e3 l1 w2
        simp only [F34L0b, SS, insA, wantedA, Opd.ev, putA, binA, eqbA, unA, fldA, partA, reduceIte, reduceCtorEq, Nat.reduceMod, Nat.reduceDiv, Nat.reduceBEq, resultA, resA, vI, Nat.reduceMul, Nat.reduceAdd, Nat.reduceSub, Nat.reduceEqDiff, Nat.reduceLT, Nat.reducePow, Nat.reduceLeDiff, st, Option.bind_eq_bind, Option.pure_def, List.length_nil, Int.cast_ofNat_Int, List.reverse_nil, UU, idxP, cellsAt, fillA, zerosA, putAll, row, Int.reduceLT, Int.reduceLE, Int.reduceGT, Int.reduceGE, Int.reduceEq, Int.reduceNe, Int.reduceToNat, Int.reduceBEq, Int.reduceBNe, Nat.reduceLeDiff, Nat.reduceLT, Nat.reduceBNe, Nat.reduceGT, List.drop_nil, List.take_nil, Option.isSome_none, Int.ofNat_one, Int.ofNat_zero, hc, hww, hv.len, hw.len, d1, d2, i1, l1, hw.idx c2, hw.load c2, w2, e2, e3]
      · have d2 : ¬ (i : Int) < (q.length : Int) := by omega
        have hq0 : q.getD i 0 = 0 := by rw [List.getD_eq_getElem?_getD, List.getElem?_eq_none (by omega)]; rfl
        have e0 : mnK n p q (i + 1) = mnK n p q i := by
          rw [← mnK_succ hi1 0 (by rw [hp0, hq0]; rfl)]
          apply List.ext_getElem
          · simp
          · intro j h1 h2
            rw [List.getElem_set]
            split
            · rename_i e; subst e
              have := mnK_get (p := p) (q := q) hi1
              rw [getD_get (by omega)] at this; exact this.symm
            · rfl
        obtain ⟨H', e3, r3⟩ := ih (i + 1) (by omega) (by rw [e0]; exact h)
        refine ⟨H', ?_, r3⟩
        simp only [vW, wr, SS, insA, wantedA, Opd.ev, putA, binA, eqbA, unA, fldA, partA, reduceIte, reduceCtorEq, Nat.reduceMod, Nat.reduceDiv, Nat.reduceBEq, resultA, resA, vI, Nat.reduceMul, Nat.reduceAdd, Nat.reduceSub, Nat.reduceEqDiff, Nat.reduceLT, Nat.reducePow, Nat.reduceLeDiff, st, Option.bind_eq_bind, Option.pure_def, List.length_nil, Int.cast_ofNat_Int, List.reverse_nil] at e3
        simp only [F34L0b, SS, insA, wantedA, Opd.ev, putA, binA, eqbA, unA, fldA, partA, reduceIte, reduceCtorEq, Nat.reduceMod, Nat.reduceDiv, Nat.reduceBEq, resultA, resA, vI, Nat.reduceMul, Nat.reduceAdd, Nat.reduceSub, Nat.reduceEqDiff, Nat.reduceLT, Nat.reducePow, Nat.reduceLeDiff, st, Option.bind_eq_bind, Option.pure_def, List.length_nil, Int.cast_ofNat_Int, List.reverse_nil, UU, idxP, cellsAt, fillA, zerosA, putAll, row, Int.reduceLT, Int.reduceLE, Int.reduceGT, Int.reduceGE, Int.reduceEq, Int.reduceNe, Int.reduceToNat, Int.reduceBEq, Int.reduceBNe, Nat.reduceLeDiff, Nat.reduceLT, Nat.reduceBNe, Nat.reduceGT, List.drop_nil, List.take_nil, Option.isSome_none, Int.ofNat_one, Int.ofNat_zero, hc, hww, hv.len, hw.len, d1, d2, e3]

theorem minus34 {v w : AV} {p q : List Int} {n : Nat} (hv : IsRow v p) (hw : IsRow w q) (hn : n ≤ 100) : ∃ u, (∀ H, freeX H (callL ET Y 34 [v, w, vI n] []) = some (u, H)) ∧ IsFree u ((mnK n p q n).map wr) := by
  have hR : Rw [⟨0, (List.replicate n (0 : Int)).map vI⟩] (.sl 0 0 1 0 n none) 0 (mnK n p q 0) := by
    rw [mnK_zero]
    have := Rw.fresh [] n; simpa using this
  obtain ⟨H', e1, r1⟩ := L34 (Y := Y) hv hw hn n 0 (by omega) hR
  have hl : (mnK n p q n).length = n := by simp [mnK]
  have hfin := free_row r1.2
  rw [hl] at hfin
  have hki : (0 : Int) ≤ (n : Int) ∧ (n : Int) * 8 ≤ 140737488355328 ∧ (n : Int) ≤ 9223372036854775807 := by omega
  have hzr := zeros_int (n := n)
  refine ⟨_, fun H => ?_, .inr (by rw [List.length_map, hl])⟩
  clear hR r1
  generalize hZ : List.map vI (List.replicate n (0 : Int)) = Z at *
  have hc : callL ET Y 34 [v, w, vI n] [] = some (.sl 0 0 1 0 n none, H') := by
    rw [call34 rfl]
    simp only [SS, insA, wantedA, Opd.ev, putA, binA, eqbA, unA, fldA, partA, reduceIte, reduceCtorEq, Nat.reduceMod, Nat.reduceDiv, Nat.reduceBEq, resultA, resA, vI, Nat.reduceMul, Nat.reduceAdd, Nat.reduceSub, Nat.reduceEqDiff, Nat.reduceLT, Nat.reducePow, Nat.reduceLeDiff, st, Option.bind_eq_bind, Option.pure_def, List.length_nil, Int.cast_ofNat_Int, List.reverse_nil, Int.ofNat_zero] at e1 hzr
    simp only [F34B, F34T0, in34_0, SS, insA, wantedA, Opd.ev, putA, binA, eqbA, unA, fldA, partA, reduceIte, reduceCtorEq, Nat.reduceMod, Nat.reduceDiv, Nat.reduceBEq, resultA, resA, vI, Nat.reduceMul, Nat.reduceAdd, Nat.reduceSub, Nat.reduceEqDiff, Nat.reduceLT, Nat.reducePow, Nat.reduceLeDiff, st, Option.bind_eq_bind, Option.pure_def, List.length_nil, Int.cast_ofNat_Int, List.reverse_nil, UU, idxP, cellsAt, storeA, fillA, putAll, optNat, sliceA, row, Int.reduceLT, Int.reduceLE, Int.reduceGT, Int.reduceGE, Int.reduceEq, Int.reduceNe, Int.reduceToNat, Int.reduceBEq, Int.reduceBNe, Nat.reduceLeDiff, Nat.reduceLT, Nat.reduceBNe, Nat.reduceGT, List.drop_nil, List.take_nil, Option.isSome_none, Int.ofNat_one, Int.ofNat_zero, hki, hzr, Int.toNat_natCast, Int.natCast_nonneg, Nat.mul_one, e1, endX]
  rw [hc, freeX_some, hfin]
  rfl
end
section
variable {Y : Run}

theorem rest33 {fr : AV} {f : List Nat} {set : Nat} (hF : Fr fr f) (hf : frameB (f.map fun n : Nat => (n : Int)) = true) (hs : set < 128) : ∃ w, (∀ H, freeX H (callL ET Y 33 [fr, vI set] []) = some (.tup [w, vI 0], H)) ∧ IsFree w (restL f set) := by
  obtain ⟨w, w1, w2⟩ := less39 (Y := Y) hF hs
  have hwl := w2.row.len
  rw [List.length_map] at hwl
  unfold restL
  by_cases h0 : (lsF f set).length = 0
  · rw [if_pos h0]
    rw [h0] at hwl
    refine ⟨.imm false [vI 1] 1, fun H => ?_, .inr rfl⟩
    rw [call33 rfl]
    simp only [F33B, SS, insA, wantedA, Opd.ev, putA, binA, eqbA, unA, fldA, partA, reduceIte, reduceCtorEq, Nat.reduceMod, Nat.reduceDiv, Nat.reduceBEq, resultA, resA, vI, Nat.reduceMul, Nat.reduceAdd, Nat.reduceSub, Nat.reduceEqDiff, Nat.reduceLT, Nat.reducePow, Nat.reduceLeDiff, st, Option.bind_eq_bind, Option.pure_def, List.length_nil, Int.cast_ofNat_Int, List.reverse_nil, UU, idxP, cellsAt, storeA, fillA, zerosA, putAll, optNat, sliceA, row, Int.reduceLT, Int.reduceLE, Int.reduceGT, Int.reduceGE, Int.reduceEq, Int.reduceNe, Int.reduceToNat, Int.reduceBEq, Int.reduceBNe, Nat.reduceLeDiff, Nat.reduceLT, Nat.reduceBNe, Nat.reduceGT, List.drop_nil, List.take_nil, Option.isSome_none, Int.ofNat_one, Int.ofNat_zero, hF.hv.snap, w1, hwl, Int.ofNat_zero]
  · rw [if_neg h0]
    have h1 : 1 ≤ (kept f.length set).length := by rw [ls_len] at h0; omega
    have hfr := less_frame hf h1
    obtain ⟨t, t1, t2⟩ := match23 (Y := Y) w2.row (by rw [List.length_map, ls_len]; have := kept_le f.length set; have := hF.n7; omega)
    rw [if_pos hfr] at t1 t2
    have e : ((lsF f set).map fun n : Nat => (n : Int)).map Int.toNat = lsF f set := by simp [List.map_map, Function.comp_def]
    rw [poly_trim, e] at t2
    have c : (((lsF f set).length : Int) == 0) = false := by simp; exact fun h => h0 (by rw [h]; rfl)
    refine ⟨t, fun H => ?_, t2⟩
    rw [call33 rfl]
    simp only [F33B, SS, insA, wantedA, Opd.ev, putA, binA, eqbA, unA, fldA, partA, reduceIte, reduceCtorEq, Nat.reduceMod, Nat.reduceDiv, Nat.reduceBEq, resultA, resA, vI, Nat.reduceMul, Nat.reduceAdd, Nat.reduceSub, Nat.reduceEqDiff, Nat.reduceLT, Nat.reducePow, Nat.reduceLeDiff, st, Option.bind_eq_bind, Option.pure_def, List.length_nil, Int.cast_ofNat_Int, List.reverse_nil, UU, idxP, cellsAt, storeA, fillA, zerosA, putAll, optNat, sliceA, row, Int.reduceLT, Int.reduceLE, Int.reduceGT, Int.reduceGE, Int.reduceEq, Int.reduceNe, Int.reduceToNat, Int.reduceBEq, Int.reduceBNe, Nat.reduceLeDiff, Nat.reduceLT, Nat.reduceBNe, Nat.reduceGT, List.drop_nil, List.take_nil, Option.isSome_none, Int.ofNat_one, Int.ofNat_zero, hF.hv.snap, w1, w2.row.snap, hwl, c, t1, t2.free]
end

theorem u8_mod {x : Int} (hx : 0 ≤ x ∧ x < 256) (n : Nat) : x.tmod (n : Int) = ((x.toNat % n : Nat) : Int) := by
  obtain ⟨X, hX⟩ : ∃ X : Nat, x = X := ⟨x.toNat, by omega⟩
  subst hX
  rw [Int.tmod_eq_emod_of_nonneg hx.1]
  simp

theorem sum_set (g : Nat → Nat) : ∀ (l : List Nat) (i x : Nat), i < l.length → ((l.set i x).map g).sum + g (l.getD i 0) = (l.map g).sum + g x
  | y :: l, 0, x, _ => by simp; omega
  | y :: l, i + 1, x, h => by
    have := sum_set g l i x (by simpa using h)
    simp only [List.set_cons_succ, List.map_cons, List.sum_cons, List.getD_cons_succ]
    omega

theorem cut_wires {f : List Nat} (hf : frameB (f.map fun n : Nat => (n : Int)) = true) {a b : Nat} (ha : a < f.length) (hb : b < f.length) (hne : a ≠ b) (hbit : (f.getD a 0).testBit b = true) : wiN (cutF f a b) + 1 = wiN f := by
  obtain ⟨n1, n7, hok, hS⟩ := frame_iff.1 hf
  have hfc := cut_frame hf ha hb hne
  obtain ⟨m1, m7, mok, mS⟩ := frame_iff.1 hfc
  have hbit2 : (f.getD b 0).testBit a = true := by rw [← hS a b ha hb]; exact hbit
  have hlt : ∀ g : List Nat, (∀ i, i < g.length → g.getD i 0 < 2 ^ g.length ∧ (g.getD i 0).testBit i = false) → ∀ j, g.getD j 0 < 2 ^ g.length := fun g h j => by
    rcases Nat.lt_or_ge j g.length with e | e
    · exact (h j e).1
    · rw [List.getD_eq_getElem?_getD, List.getElem?_eq_none e]; exact Nat.pow_pos (by decide)
  have w1 := wires_two hS (fun i hi => (hok i hi).2) n7 (hlt f hok)
  have w2 := wires_two mS (fun i hi => (mok i hi).2) m7 (hlt _ mok)
  have s1 := sum_set pc f a (dl (f.getD a 0) (2 ^ b)) ha
  have s2 := sum_set pc (f.set a (dl (f.getD a 0) (2 ^ b))) b (dl (f.getD b 0) (2 ^ a)) (by simpa using hb)
  have e : (f.set a (dl (f.getD a 0) (2 ^ b))).getD b 0 = f.getD b 0 := by rw [List.getD_eq_getElem?_getD, List.getElem?_set_ne hne, ← List.getD_eq_getElem?_getD]
  rw [e] at s2
  have p1 := pc_del hbit (by omega)
  have p2 := pc_del hbit2 (by omega)
  unfold wsum at w1 w2
  unfold cutF at w2 ⊢
  omega

/-- The polynomials' law. -/
theorem wire_list {f : List Nat} (hf : frameB (f.map fun n : Nat => (n : Int)) = true) {a b : Nat} (ha : a < f.length) (hb : b < f.length) (hne : a ≠ b) (hbit : (f.getD a 0).testBit b = true) :
    (polyL f (-1) 0).map wr = (mnK (f.length + 1) ((polyL (cutF f a b) (-1) 0).map wr) (restL f (2 ^ a ||| 2 ^ b)) (f.length + 1)).map wr := by
  obtain ⟨n1, n7, hok, hS⟩ := frame_iff.1 hf
  have hfc := cut_frame hf ha hb hne
  obtain ⟨m1, m7, mok, mS⟩ := frame_iff.1 hfc
  obtain ⟨hk1, hk2⟩ := kept_two n7 ha hb
  rw [if_neg hne] at hk1
  have gm : ∀ (q : List Int) (j : Nat), j < q.length → (q.map wr).getD j 0 = wr (q.getD j 0) := fun q j hj => by simp [List.getD_eq_getElem?_getD, hj]
  refine ext_getD (by simp [polyL_len, mnK]) fun j hj => ?_
  rw [List.length_map, polyL_len] at hj
  rw [gm _ _ (by rw [polyL_len]; exact hj), gm _ _ (by simp [mnK]; exact hj), poly_mE hS n7 (by omega), wire_mE hS n7 ha hb hne (fun i hi => (hok i hi).2) hbit]
  have e1 : (mnK (f.length + 1) ((polyL (cutF f a b) (-1) 0).map wr) (restL f (2 ^ a ||| 2 ^ b)) (f.length + 1)).getD j 0 = ((polyL (cutF f a b) (-1) 0).map wr).getD j 0 - (restL f (2 ^ a ||| 2 ^ b)).getD j 0 := by
    unfold mnK
    rw [getD_get (by simpa using hj), List.getElem_map, List.getElem_range, if_pos hj]
  rw [e1, gm _ _ (by rw [polyL_len, cutF_len]; exact hj), poly_mE mS m7 (by rw [cutF_len]; omega), cutF_len, rest_get hf ha hb, hk1]
  unfold sft
  by_cases c : j ≤ f.length - 2 ∧ 2 ≤ f.length - j
  · rw [if_pos c.2, if_pos c.1, wr_sub, show f.length - j - 2 = f.length - 2 - j by omega]
    congr 1
    omega
  · have h2 : 2 ≤ f.length := by omega
    rw [if_neg (by omega), if_neg (by omega), Int.mul_zero, Int.add_zero, Int.sub_zero, wr_wr]

section
variable {Y : Run}
theorem law7 (hY : ∀ args H, Y 97 args H = yA 97 args H) {v : AV} {l : List Int} (hv : IsRow v l) {x y : Int} (hx : 0 ≤ x ∧ x < 256) (hy : 0 ≤ y ∧ y < 256) : freeX [] (callL ET Y 7 [v, .int .u8 x, .int .u8 y] []) = some (.bool true, []) := by
  have hal := fun H => alive17 (Y := Y) (H := H) hY
  have hfew := fun H => few16 (Y := Y) (H := H) hv .nil
  simp only [List.length_nil, show (0 : Nat) ≤ 40 from by decide, decide_true, Bool.and_true] at hfew
  rw [call7 rfl]
  by_cases h40 : l.length ≤ 40
  · simp only [h40, decide_true] at hfew
    have hfr := fun H => frame20 (Y := Y) (H := H) hv (by omega)
    cases hf : frameB l with
    | false =>
      rw [hf] at hfr
      simp only [F7B, SS, insA, wantedA, Opd.ev, putA, binA, eqbA, unA, fldA, partA, reduceIte, reduceCtorEq, Nat.reduceMod, Nat.reduceDiv, Nat.reduceBEq, resultA, resA, vI, Nat.reduceMul, Nat.reduceAdd, Nat.reduceSub, Nat.reduceEqDiff, Nat.reduceLT, Nat.reducePow, Nat.reduceLeDiff, st, Option.bind_eq_bind, Option.pure_def, List.length_nil, Int.cast_ofNat_Int, List.reverse_nil, UU, idxP, cellsAt, storeA, fillA, zerosA, putAll, optNat, sliceA, row, Int.reduceLT, Int.reduceLE, Int.reduceGT, Int.reduceGE, Int.reduceEq, Int.reduceNe, Int.reduceToNat, Int.reduceBEq, Int.reduceBNe, Nat.reduceLeDiff, Nat.reduceLT, Nat.reduceBNe, Nat.reduceGT, List.drop_nil, List.take_nil, Option.isSome_none, Int.ofNat_one, Int.ofNat_zero, hv.snap, hfew, hfr, hal]
    | true =>
      rw [hf] at hfr
      have hn := frame_n hf
      obtain ⟨hF, he⟩ := Fr.of hv hf
      have hf2 := hf
      rw [he] at hf2
      have hlen : (l.map Int.toNat).length = l.length := by simp
      have hcx : IntKind.wrap .i64 x = x := wrap_id (by omega) (by omega)
      have hcy : IntKind.wrap .i64 y = y := wrap_id (by omega) (by omega)
      have hz : (l.length : Int) ≠ 0 := by omega
      have hmx := u8_mod hx l.length
      have hmy := u8_mod hy l.length
      have hA : x.toNat % l.length < l.length := Nat.mod_lt _ (by omega)
      have hB : y.toNat % l.length < l.length := Nat.mod_lt _ (by omega)
      generalize x.toNat % l.length = A at *
      generalize y.toNat % l.length = B at *
      obtain ⟨w9, k1, k2⟩ := cut31 (Y := Y) hv (by omega) (A : Int) (B : Int)
      have hip := hF.hv.idx (i := A) (by simpa using hA)
      have hlp := fun H => hF.hv.load (H := H) (i := A) (by simpa using hA)
      rw [getD_nat (by omega)] at hlp
      have hp2 : (0 : Int) ≤ (B : Int) := by omega
      have hp1 : (0 : Int) ≤ (A : Int) := by omega
      have hs2 := shr_eq (k := B) (by omega)
      have h20 : (2 : Int) ≠ 0 := by decide
      have ht := tmod_emod (sh_nonneg (x := (((l.map Int.toNat).getD A 0 : Nat) : Int)) (by omega) B)
      have q0 := sh_beq0 ((l.map Int.toNat).getD A 0) B
      have hcut : cutR l (A : Int) (B : Int) = if ((l.map Int.toNat).getD A 0).testBit B then ((cutF (l.map Int.toNat) A B).map (fun n : Nat => (n : Int)), 0) else ([], 6) := by
        unfold cutR
        rw [if_pos ⟨hf, by omega, by omega, by omega, by omega⟩, Int.toNat_natCast, Int.toNat_natCast]
      rw [hcut] at k1 k2
      clear hcut
      cases hbit : ((l.map Int.toNat).getD A 0).testBit B with
      | false =>
        rw [hbit] at q0
        rw [hbit, if_neg (by simp)] at k1 k2
        have hwl := k2.row.len
        simp only [Bool.not_false] at q0
        simp only [List.length_nil, Int.ofNat_zero] at hwl
        simp only [F7B, SS, insA, wantedA, Opd.ev, putA, binA, eqbA, unA, fldA, partA, reduceIte, reduceCtorEq, Nat.reduceMod, Nat.reduceDiv, Nat.reduceBEq, resultA, resA, vI, Nat.reduceMul, Nat.reduceAdd, Nat.reduceSub, Nat.reduceEqDiff, Nat.reduceLT, Nat.reducePow, Nat.reduceLeDiff, st, Option.bind_eq_bind, Option.pure_def, List.length_nil, Int.cast_ofNat_Int, List.reverse_nil, UU, idxP, cellsAt, storeA, fillA, zerosA, putAll, optNat, sliceA, row, Int.reduceLT, Int.reduceLE, Int.reduceGT, Int.reduceGE, Int.reduceEq, Int.reduceNe, Int.reduceToNat, Int.reduceBEq, Int.reduceBNe, Nat.reduceLeDiff, Nat.reduceLT, Nat.reduceBNe, Nat.reduceGT, List.drop_nil, List.take_nil, Option.isSome_none, Int.ofNat_one, Int.ofNat_zero, hv.snap, hfew, hfr, hv.len, hcx, hcy, hz, hmx, hmy, k1, hip, hlp, hp2, hs2, h20, ht, q0, hwl, hal, ne_eq, not_false_eq_true, and_self, Int.ofNat_zero]
      | true =>
        rw [hbit] at q0
        rw [hbit, if_pos rfl] at k1 k2
        obtain ⟨hne, hbit2⟩ := cut_core hf hv hA hB hbit
        have hfc := cut_frame hf2 (a := A) (b := B) (by omega) (by omega) hne
        have hwl := wire_list hf2 (by omega) (by omega) hne hbit
        have hww := cut_wires hf2 (by omega) (by omega) hne hbit
        have hcl := cutF_len (l.map Int.toNat) A B
        obtain ⟨hFc, hec⟩ := Fr.of k2.row hfc
        have hfrc := fun H => frame20 (Y := Y) (H := H) k2.row (by rw [List.length_map, hcl]; omega)
        rw [hfc] at hfrc
        have ec : ((cutF (l.map Int.toNat) A B).map fun n : Nat => (n : Int)).map Int.toNat = cutF (l.map Int.toNat) A B := by simp [List.map_map, Function.comp_def]
        rw [ec] at hFc
        have hw1 := fun H => wires32 (Y := Y) (H := H) hF
        have hw2 := fun H => wires32 (Y := Y) (H := H) hFc
        obtain ⟨t1, p1, p2⟩ := match23 (Y := Y) hv (by omega)
        rw [if_pos hf] at p1 p2
        rw [poly_trim] at p2
        obtain ⟨t2, p3, p4⟩ := match23 (Y := Y) k2.row (by rw [List.length_map, hcl]; omega)
        rw [if_pos hfc] at p3 p4
        rw [poly_trim, ec] at p4
        have hpa := pow_lt (show A < 7 by omega)
        have hpb := pow_lt (show B < 7 by omega)
        have hor : bitsA .or .i64 ((2 ^ A : Nat) : Int) ((2 ^ B : Nat) : Int) = some (vI ((2 ^ A ||| 2 ^ B : Nat) : Int)) := (nat_bits (by omega) (by omega)).2.1
        obtain ⟨t3, p5, p6⟩ := rest33 (Y := Y) (set := 2 ^ A ||| 2 ^ B) hF hf2 (Nat.or_lt_two_pow (n := 7) hpa hpb)
        obtain ⟨t4, p7, p8⟩ := minus34 (Y := Y) (n := l.length + 1) p4.row p6.row (by omega)
        rw [hlen] at hwl
        have s1 := fun H => same29 (Y := Y) (H := H) p2.row p8.row (by rw [List.length_map, polyL_len, hlen]; omega)
        simp only [hwl, decide_true] at s1
        have hs3 := shl_eq (k := A) (by omega)
        have hs4 := shl_eq (k := B) (by omega)
        have hsub : IntKind.wrap .i64 ((wiN (l.map Int.toNat) : Int) - 1) = (wiN (cutF (l.map Int.toNat) A B) : Int) := by
          have : wsum (l.map Int.toNat) ≤ 10 * (l.map Int.toNat).length := wsum_le
          have h2 := wires_two (frame_sy hf) (fun i hi => loop_off hf (by simpa using hi)) (by omega) hF.fb
          rw [wrap_id (by omega) (by omega)]; omega
        have q1 : ∀ x : Int, (x != x) = false := fun x => by simp
        have hws : IntKind.wrap .i64 ((l.length : Int) + 1) = ((l.length + 1 : Nat) : Int) := wrap_succ (by omega)
        have n1 := fun H n => p2.row.snap (H := H) (n := n)
        have n2 := fun H n => p4.row.snap (H := H) (n := n)
        have n3 := fun H n => p6.row.snap (H := H) (n := n)
        have n4 := fun H n => p8.row.snap (H := H) (n := n)
        have n5 := fun H n => k2.row.snap (H := H) (n := n)
        clear p2 p4 p6 p8 k2 hwl hww
        generalize wiN (l.map Int.toNat) = wa at *
        generalize wiN (cutF (l.map Int.toNat) A B) = wb at *
        generalize 2 ^ A ||| 2 ^ B = ab at *
        simp only [Bool.not_true] at q0
        simp only [F7B, SS, insA, wantedA, Opd.ev, putA, binA, eqbA, unA, fldA, partA, reduceIte, reduceCtorEq, Nat.reduceMod, Nat.reduceDiv, Nat.reduceBEq, resultA, resA, vI, Nat.reduceMul, Nat.reduceAdd, Nat.reduceSub, Nat.reduceEqDiff, Nat.reduceLT, Nat.reducePow, Nat.reduceLeDiff, st, Option.bind_eq_bind, Option.pure_def, List.length_nil, Int.cast_ofNat_Int, List.reverse_nil, UU, idxP, cellsAt, storeA, fillA, zerosA, putAll, optNat, sliceA, row, Int.reduceLT, Int.reduceLE, Int.reduceGT, Int.reduceGE, Int.reduceEq, Int.reduceNe, Int.reduceToNat, Int.reduceBEq, Int.reduceBNe, Nat.reduceLeDiff, Nat.reduceLT, Nat.reduceBNe, Nat.reduceGT, List.drop_nil, List.take_nil, Option.isSome_none, Int.ofNat_one, Int.ofNat_zero, hv.snap, hfew, hfr, hv.len, hcx, hcy, hz, hmx, hmy, k1, hip, hlp, hp1, hp2, hs2, hs3, hs4, h20, ht, q0, q1, hfrc, hw1, hw2, hsub, hor, p1, p3, p5, p7, hws, s1, n1, n2, n3, n4, n5, hal, ne_eq, not_false_eq_true, and_self, Int.ofNat_zero]
  · simp only [h40, decide_false] at hfew
    simp only [F7B, SS, insA, wantedA, Opd.ev, putA, binA, eqbA, unA, fldA, partA, reduceIte, reduceCtorEq, Nat.reduceMod, Nat.reduceDiv, Nat.reduceBEq, resultA, resA, vI, Nat.reduceMul, Nat.reduceAdd, Nat.reduceSub, Nat.reduceEqDiff, Nat.reduceLT, Nat.reducePow, Nat.reduceLeDiff, st, Option.bind_eq_bind, Option.pure_def, List.length_nil, Int.cast_ofNat_Int, List.reverse_nil, UU, idxP, cellsAt, storeA, fillA, zerosA, putAll, optNat, sliceA, row, Int.reduceLT, Int.reduceLE, Int.reduceGT, Int.reduceGE, Int.reduceEq, Int.reduceNe, Int.reduceToNat, Int.reduceBEq, Int.reduceBNe, Nat.reduceLeDiff, Nat.reduceLT, Nat.reduceBNe, Nat.reduceGT, List.drop_nil, List.take_nil, Option.isSome_none, Int.ofNat_one, Int.ofNat_zero, hv.snap, hfew, hal]
end
end Go.X
