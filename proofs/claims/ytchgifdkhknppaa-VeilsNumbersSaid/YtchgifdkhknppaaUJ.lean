import Derived.Test.YtchgifdkhknppaaUH
/-! Veils: the law on how many there are. -/
set_option linter.unusedSimpArgs false
set_option linter.unusedVariables false
set_option maxHeartbeats 8000000
set_option maxRecDepth 10000
namespace Go.X
open Go Go.RowKit
section
variable {Y : Run} {H : Heap}

theorem wrap_prd {i : Nat} (h1 : 1 ≤ i) (h2 : i < 4611686018427387904) : IntKind.wrap .i64 ((i : Int) - 1) = ((i - 1 : Nat) : Int) := by
  rw [wrap_id (by omega) (by omega)]; omega
def lessR (a b : List Int) : Nat → Nat → Option Bool
  | _, 0 => none
  | k, d + 1 => if a.getD k 0 = b.getD k 0 then lessR a b (k + 1) d else some (decide (a.getD k 0 < b.getD k 0))
def lessT (a b : List (List Int)) (n : Nat) : Nat → Nat → Bool
  | _, 0 => false
  | i, d + 1 => match lessR (a.getD i []) (b.getD i []) 0 n with
    | some r => r
    | none => lessT a b n (i + 1) d

theorem L33_0 {u v : AV} {a b : List (List Int)} {n i : Nat} (hu : IsTab u a) (hv : IsTab v b) (qa : Sq n a) (qb : Sq n b) (hi : i < n) (h5 : n ≤ 5) (d : Nat) : ∀ (k : Nat), k + d = n →
    lp EV Y F33L0 (sp 49 [(6, vI k), (5, vI i), (1, v), (0, u)]) H = match lessR (a.getD i []) (b.getD i []) k d with
      | some r => some (.r, sp 49 [(4, .bool r)], H)
      | none => some (.x 2, sp 49 [(5, vI i), (1, v), (0, u)], H) := by
  have ia : i < a.length := by rw [qa.len]; exact hi
  have ib : i < b.length := by rw [qb.len]; exact hi
  have ra := hu.row ia
  have rb := hv.row ib
  have la : (a.getD i []).length = n := by rw [getD_get ia]; exact qa.rl ia
  have lb : (b.getD i []).length = n := by rw [getD_get ib]; exact qb.rl ib
  have hlen : lenA u = some n := by rw [hu.len, qa.len]
  generalize a.getD i [] = x at *
  generalize b.getD i [] = y at *
  induction d with
  | zero =>
    intro k hk
    have : ¬ ((k : Int) < (n : Int)) := by omega
    rw [un33_0]
    simp only [F33L0b, lessR, SS, insA, wantedA, Opd.ev, putA, binA, eqbA, unA, fldA, partA, reduceIte, reduceCtorEq, Nat.reduceMod, Nat.reduceDiv, Nat.reduceBEq, resultA, resA, vI, Nat.reduceMul, Nat.reduceAdd, Nat.reduceSub, Nat.reduceEqDiff, Nat.reduceLT, Nat.reducePow, Nat.reduceLeDiff, st, Option.bind_eq_bind, Option.pure_def, List.length_nil, Int.cast_ofNat_Int, List.reverse_nil, UU, idxP, cellsAt, storeA, fillA, zerosA, putAll, optNat, sliceA, row, Int.reduceLT, Int.reduceLE, Int.reduceGT, Int.reduceGE, Int.reduceEq, Int.reduceNe, Int.reduceToNat, Int.reduceBEq, Int.reduceBNe, Nat.reduceLeDiff, Nat.reduceLT, Nat.reduceBNe, Nat.reduceGT, List.drop_nil, List.take_nil, Option.isSome_none, Int.ofNat_one, Int.ofNat_zero, hlen, this]
  | succ d ih =>
    intro k hk
    have hc : (k : Int) < (n : Int) := by omega
    have hww := wrap_succ (n := k) (by omega)
    have kx : k < x.length := by omega
    have ky : k < y.length := by omega
    have ih := ih (k + 1) (by omega)
    rw [un33_0]
    unfold lessR
    by_cases c : x.getD k 0 = y.getD k 0
    · rw [if_pos c]
      simp only [SS, insA, wantedA, Opd.ev, putA, binA, eqbA, unA, fldA, partA, reduceIte, reduceCtorEq, Nat.reduceMod, Nat.reduceDiv, Nat.reduceBEq, resultA, resA, vI, Nat.reduceMul, Nat.reduceAdd, Nat.reduceSub, Nat.reduceEqDiff, Nat.reduceLT, Nat.reducePow, Nat.reduceLeDiff, st, Option.bind_eq_bind, Option.pure_def, List.length_nil, Int.cast_ofNat_Int, List.reverse_nil] at ih
      simp only [F33L0b, SS, insA, wantedA, Opd.ev, putA, binA, eqbA, unA, fldA, partA, reduceIte, reduceCtorEq, Nat.reduceMod, Nat.reduceDiv, Nat.reduceBEq, resultA, resA, vI, Nat.reduceMul, Nat.reduceAdd, Nat.reduceSub, Nat.reduceEqDiff, Nat.reduceLT, Nat.reducePow, Nat.reduceLeDiff, st, Option.bind_eq_bind, Option.pure_def, List.length_nil, Int.cast_ofNat_Int, List.reverse_nil, UU, idxP, cellsAt, storeA, fillA, zerosA, putAll, optNat, sliceA, row, Int.reduceLT, Int.reduceLE, Int.reduceGT, Int.reduceGE, Int.reduceEq, Int.reduceNe, Int.reduceToNat, Int.reduceBEq, Int.reduceBNe, Nat.reduceLeDiff, Nat.reduceLT, Nat.reduceBNe, Nat.reduceGT, List.drop_nil, List.take_nil, Option.isSome_none, Int.ofNat_one, Int.ofNat_zero, hlen, hc, hu.idx ia, hu.load ia, hv.idx ib, hv.load ib, ra.idx kx, ra.load kx, rb.idx ky, rb.load ky, c, bne_self_eq_false, hww, ih]
    · rw [if_neg c]
      have c' : (x.getD k 0 != y.getD k 0) = true := by rw [bne_iff_ne]; exact c
      simp only [F33L0b, SS, insA, wantedA, Opd.ev, putA, binA, eqbA, unA, fldA, partA, reduceIte, reduceCtorEq, Nat.reduceMod, Nat.reduceDiv, Nat.reduceBEq, resultA, resA, vI, Nat.reduceMul, Nat.reduceAdd, Nat.reduceSub, Nat.reduceEqDiff, Nat.reduceLT, Nat.reducePow, Nat.reduceLeDiff, st, Option.bind_eq_bind, Option.pure_def, List.length_nil, Int.cast_ofNat_Int, List.reverse_nil, UU, idxP, cellsAt, storeA, fillA, zerosA, putAll, optNat, sliceA, row, Int.reduceLT, Int.reduceLE, Int.reduceGT, Int.reduceGE, Int.reduceEq, Int.reduceNe, Int.reduceToNat, Int.reduceBEq, Int.reduceBNe, Nat.reduceLeDiff, Nat.reduceLT, Nat.reduceBNe, Nat.reduceGT, List.drop_nil, List.take_nil, Option.isSome_none, Int.ofNat_one, Int.ofNat_zero, hlen, hc, hu.idx ia, hu.load ia, hv.idx ib, hv.load ib, ra.idx kx, ra.load kx, rb.idx ky, rb.load ky, c', hww]

theorem L33_1 {u v : AV} {a b : List (List Int)} {n : Nat} (hu : IsTab u a) (hv : IsTab v b) (qa : Sq n a) (qb : Sq n b) (h5 : n ≤ 5) (d : Nat) : ∀ (i : Nat), i + d = n →
    ∃ L, lp EV Y F33L1 (sp 49 [(5, vI i), (1, v), (0, u)]) H = some L ∧ (L = (.x 0, sp 49 [], H) ∧ lessT a b n i d = false ∨ L = (.r, sp 49 [(4, .bool (lessT a b n i d))], H)) := by
  have hlen : lenA u = some n := by rw [hu.len, qa.len]
  induction d with
  | zero =>
    intro i hi
    have : ¬ ((i : Int) < (n : Int)) := by omega
    refine ⟨_, ?_, .inl ⟨rfl, rfl⟩⟩
    rw [un33_1]
    simp only [F33L1b, SS, insA, wantedA, Opd.ev, putA, binA, eqbA, unA, fldA, partA, reduceIte, reduceCtorEq, Nat.reduceMod, Nat.reduceDiv, Nat.reduceBEq, resultA, resA, vI, Nat.reduceMul, Nat.reduceAdd, Nat.reduceSub, Nat.reduceEqDiff, Nat.reduceLT, Nat.reducePow, Nat.reduceLeDiff, st, Option.bind_eq_bind, Option.pure_def, List.length_nil, Int.cast_ofNat_Int, List.reverse_nil, UU, idxP, cellsAt, storeA, fillA, zerosA, putAll, optNat, sliceA, row, Int.reduceLT, Int.reduceLE, Int.reduceGT, Int.reduceGE, Int.reduceEq, Int.reduceNe, Int.reduceToNat, Int.reduceBEq, Int.reduceBNe, Nat.reduceLeDiff, Nat.reduceLT, Nat.reduceBNe, Nat.reduceGT, List.drop_nil, List.take_nil, Option.isSome_none, Int.ofNat_one, Int.ofNat_zero, hlen, this]
  | succ d ih =>
    intro i hi
    have hc : (i : Int) < (n : Int) := by omega
    have hww := wrap_succ (n := i) (by omega)
    have h0 := L33_0 (Y := Y) (H := H) hu hv qa qb (i := i) (by omega) h5 n 0 (by omega)
    unfold lessT
    cases hl : lessR (a.getD i []) (b.getD i []) 0 n with
    | some r =>
      rw [hl] at h0
      refine ⟨_, ?_, .inr rfl⟩
      rw [un33_1]
      simp only [SS, insA, wantedA, Opd.ev, putA, binA, eqbA, unA, fldA, partA, reduceIte, reduceCtorEq, Nat.reduceMod, Nat.reduceDiv, Nat.reduceBEq, resultA, resA, vI, Nat.reduceMul, Nat.reduceAdd, Nat.reduceSub, Nat.reduceEqDiff, Nat.reduceLT, Nat.reducePow, Nat.reduceLeDiff, st, Option.bind_eq_bind, Option.pure_def, List.length_nil, Int.cast_ofNat_Int, List.reverse_nil, Int.ofNat_zero] at h0
      simp only [F33L1b, F33T0, in33_0, SS, insA, wantedA, Opd.ev, putA, binA, eqbA, unA, fldA, partA, reduceIte, reduceCtorEq, Nat.reduceMod, Nat.reduceDiv, Nat.reduceBEq, resultA, resA, vI, Nat.reduceMul, Nat.reduceAdd, Nat.reduceSub, Nat.reduceEqDiff, Nat.reduceLT, Nat.reducePow, Nat.reduceLeDiff, st, Option.bind_eq_bind, Option.pure_def, List.length_nil, Int.cast_ofNat_Int, List.reverse_nil, UU, idxP, cellsAt, storeA, fillA, zerosA, putAll, optNat, sliceA, row, Int.reduceLT, Int.reduceLE, Int.reduceGT, Int.reduceGE, Int.reduceEq, Int.reduceNe, Int.reduceToNat, Int.reduceBEq, Int.reduceBNe, Nat.reduceLeDiff, Nat.reduceLT, Nat.reduceBNe, Nat.reduceGT, List.drop_nil, List.take_nil, Option.isSome_none, Int.ofNat_one, Int.ofNat_zero, hlen, hc, h0]
    | none =>
      rw [hl] at h0
      obtain ⟨L, q1, q2⟩ := ih (i + 1) (by omega)
      refine ⟨L, ?_, q2⟩
      rw [un33_1]
      simp only [SS, insA, wantedA, Opd.ev, putA, binA, eqbA, unA, fldA, partA, reduceIte, reduceCtorEq, Nat.reduceMod, Nat.reduceDiv, Nat.reduceBEq, resultA, resA, vI, Nat.reduceMul, Nat.reduceAdd, Nat.reduceSub, Nat.reduceEqDiff, Nat.reduceLT, Nat.reducePow, Nat.reduceLeDiff, st, Option.bind_eq_bind, Option.pure_def, List.length_nil, Int.cast_ofNat_Int, List.reverse_nil, Int.ofNat_zero] at h0 q1
      simp only [F33L1b, F33T0, in33_0, SS, insA, wantedA, Opd.ev, putA, binA, eqbA, unA, fldA, partA, reduceIte, reduceCtorEq, Nat.reduceMod, Nat.reduceDiv, Nat.reduceBEq, resultA, resA, vI, Nat.reduceMul, Nat.reduceAdd, Nat.reduceSub, Nat.reduceEqDiff, Nat.reduceLT, Nat.reducePow, Nat.reduceLeDiff, st, Option.bind_eq_bind, Option.pure_def, List.length_nil, Int.cast_ofNat_Int, List.reverse_nil, UU, idxP, cellsAt, storeA, fillA, zerosA, putAll, optNat, sliceA, row, Int.reduceLT, Int.reduceLE, Int.reduceGT, Int.reduceGE, Int.reduceEq, Int.reduceNe, Int.reduceToNat, Int.reduceBEq, Int.reduceBNe, Nat.reduceLeDiff, Nat.reduceLT, Nat.reduceBNe, Nat.reduceGT, List.drop_nil, List.take_nil, Option.isSome_none, Int.ofNat_one, Int.ofNat_zero, hlen, hc, h0, hww, q1]

theorem less33 {u v : AV} {a b : List (List Int)} {n : Nat} (hu : IsTab u a) (hv : IsTab v b) (qa : Sq n a) (qb : Sq n b) (h5 : n ≤ 5) : freeX H (callL EV Y 33 [u, v] []) = some (.bool (lessT a b n 0 n), H) := by
  obtain ⟨L, q1, q2⟩ := L33_1 (Y := Y) (H := []) hu hv qa qb h5 n 0 (by omega)
  rw [call33 rfl]
  rcases q2 with ⟨rfl, e⟩ | rfl
  · rw [e]
    simp only [SS, insA, wantedA, Opd.ev, putA, binA, eqbA, unA, fldA, partA, reduceIte, reduceCtorEq, Nat.reduceMod, Nat.reduceDiv, Nat.reduceBEq, resultA, resA, vI, Nat.reduceMul, Nat.reduceAdd, Nat.reduceSub, Nat.reduceEqDiff, Nat.reduceLT, Nat.reducePow, Nat.reduceLeDiff, st, Option.bind_eq_bind, Option.pure_def, List.length_nil, Int.cast_ofNat_Int, List.reverse_nil, Int.ofNat_zero] at q1
    simp only [F33B, F33T1, in33_1, SS, insA, wantedA, Opd.ev, putA, binA, eqbA, unA, fldA, partA, reduceIte, reduceCtorEq, Nat.reduceMod, Nat.reduceDiv, Nat.reduceBEq, resultA, resA, vI, Nat.reduceMul, Nat.reduceAdd, Nat.reduceSub, Nat.reduceEqDiff, Nat.reduceLT, Nat.reducePow, Nat.reduceLeDiff, st, Option.bind_eq_bind, Option.pure_def, List.length_nil, Int.cast_ofNat_Int, List.reverse_nil, UU, idxP, cellsAt, storeA, fillA, zerosA, putAll, optNat, sliceA, row, Int.reduceLT, Int.reduceLE, Int.reduceGT, Int.reduceGE, Int.reduceEq, Int.reduceNe, Int.reduceToNat, Int.reduceBEq, Int.reduceBNe, Nat.reduceLeDiff, Nat.reduceLT, Nat.reduceBNe, Nat.reduceGT, List.drop_nil, List.take_nil, Option.isSome_none, Int.ofNat_one, Int.ofNat_zero, q1]
  · simp only [SS, insA, wantedA, Opd.ev, putA, binA, eqbA, unA, fldA, partA, reduceIte, reduceCtorEq, Nat.reduceMod, Nat.reduceDiv, Nat.reduceBEq, resultA, resA, vI, Nat.reduceMul, Nat.reduceAdd, Nat.reduceSub, Nat.reduceEqDiff, Nat.reduceLT, Nat.reducePow, Nat.reduceLeDiff, st, Option.bind_eq_bind, Option.pure_def, List.length_nil, Int.cast_ofNat_Int, List.reverse_nil, Int.ofNat_zero] at q1
    simp only [F33B, F33T1, in33_1, SS, insA, wantedA, Opd.ev, putA, binA, eqbA, unA, fldA, partA, reduceIte, reduceCtorEq, Nat.reduceMod, Nat.reduceDiv, Nat.reduceBEq, resultA, resA, vI, Nat.reduceMul, Nat.reduceAdd, Nat.reduceSub, Nat.reduceEqDiff, Nat.reduceLT, Nat.reducePow, Nat.reduceLeDiff, st, Option.bind_eq_bind, Option.pure_def, List.length_nil, Int.cast_ofNat_Int, List.reverse_nil, UU, idxP, cellsAt, storeA, fillA, zerosA, putAll, optNat, sliceA, row, Int.reduceLT, Int.reduceLE, Int.reduceGT, Int.reduceGE, Int.reduceEq, Int.reduceNe, Int.reduceToNat, Int.reduceBEq, Int.reduceBNe, Nat.reduceLeDiff, Nat.reduceLT, Nat.reduceBNe, Nat.reduceGT, List.drop_nil, List.take_nil, Option.isSome_none, Int.ofNat_one, Int.ofNat_zero, q1]

def ascT (n : Nat) (ts : List (List (List Int))) : Nat → Bool
  | 0 => true
  | k + 1 => ascT n ts k && (decide (k = 0) || lessT (ts.getD (k - 1) []) (ts.getD k []) n 0 n)
theorem ascT_at {n : Nat} {ts : List (List (List Int))} : ∀ {m : Nat}, ascT n ts m = true → ∀ k, k < m → 0 < k → lessT (ts.getD (k - 1) []) (ts.getD k []) n 0 n = true
  | m + 1, h, k, hk, h0 => by
    unfold ascT at h
    rw [Bool.and_eq_true, Bool.or_eq_true, decide_eq_true_eq] at h
    by_cases c : k = m
    · subst c; exact h.2.resolve_left (by omega)
    · exact ascT_at h.1 k (by omega) h0

theorem L6_0 {n : Nat} {o : AV} {ts : List (List (List Int))} {oc : List AV} {b e : Nat → Nat} {cs : Nat → List AV} {K : Nat} {R : Heap} (h : Lst K 0 R o oc ts b e cs) (h5 : n ≤ 5) (hv : ∀ u ∈ ts, Veil u ∧ u.length = n) (ha : ascT n ts ts.length = true) (hl : ts.length ≤ 1000000) (d : Nat) : ∀ (i : Nat), i + d = ts.length →
    lp EV Y F6L0 (sp 65 [(6, vI i), (4, o)]) R = some (.x 0, sp 65 [], R) := by
  induction d with
  | zero =>
    intro i hi
    have : ¬ ((i : Int) < (ts.length : Int)) := by omega
    rw [un6_0]
    simp only [F6L0b, SS, insA, wantedA, Opd.ev, putA, binA, eqbA, unA, fldA, partA, reduceIte, reduceCtorEq, Nat.reduceMod, Nat.reduceDiv, Nat.reduceBEq, resultA, resA, vI, Nat.reduceMul, Nat.reduceAdd, Nat.reduceSub, Nat.reduceEqDiff, Nat.reduceLT, Nat.reducePow, Nat.reduceLeDiff, st, Option.bind_eq_bind, Option.pure_def, List.length_nil, Int.cast_ofNat_Int, List.reverse_nil, UU, idxP, cellsAt, storeA, fillA, zerosA, putAll, optNat, sliceA, row, Int.reduceLT, Int.reduceLE, Int.reduceGT, Int.reduceGE, Int.reduceEq, Int.reduceNe, Int.reduceToNat, Int.reduceBEq, Int.reduceBNe, Nat.reduceLeDiff, Nat.reduceLT, Nat.reduceBNe, Nat.reduceGT, List.drop_nil, List.take_nil, Option.isSome_none, Int.ofNat_one, Int.ofNat_zero, h.out.len, this]
  | succ d ih =>
    intro i hi
    have hc : (i : Int) < (ts.length : Int) := by omega
    have k1 : i < ts.length := by omega
    have hww := wrap_succ (n := i) (by omega)
    obtain ⟨V, vl⟩ := hv _ (List.getElem_mem k1)
    obtain ⟨_, w, o3, o4⟩ := (h.tab i k1 (Nat.zero_le _)).out (d := 3)
    have o3 : snapA R 6 (oc.getD i .undef) = some w := o3
    have a1 := fun H => isveil25 (Y := Y) (H := H) o4 V.small
    have a2 := fun H => isveil26 (Y := Y) (H := H) o4 V.small
    rw [ref_read] at a2
    rw [veil_iff.2 V] at a1 a2
    have ih := ih (i + 1) (by omega)
    rw [un6_0]
    simp only [SS, insA, wantedA, Opd.ev, putA, binA, eqbA, unA, fldA, partA, reduceIte, reduceCtorEq, Nat.reduceMod, Nat.reduceDiv, Nat.reduceBEq, resultA, resA, vI, Nat.reduceMul, Nat.reduceAdd, Nat.reduceSub, Nat.reduceEqDiff, Nat.reduceLT, Nat.reducePow, Nat.reduceLeDiff, st, Option.bind_eq_bind, Option.pure_def, List.length_nil, Int.cast_ofNat_Int, List.reverse_nil] at ih
    by_cases c : (i : Int) > 0
    · have kp : i - 1 < ts.length := by omega
      have wp : IntKind.wrap .i64 ((i : Int) - 1) = ((i - 1 : Nat) : Int) := wrap_prd (by omega) (by omega)
      obtain ⟨V', vl'⟩ := hv _ (List.getElem_mem kp)
      obtain ⟨_, w', p3, p4⟩ := (h.tab (i - 1) kp (Nat.zero_le _)).out (d := 3)
      have p3 : snapA R 6 (oc.getD (i - 1) .undef) = some w' := p3
      have q1 := V.sq
      have q2 := V'.sq
      rw [vl] at q1
      rw [vl'] at q2
      have l1 := fun H => less33 (Y := Y) (H := H) p4 o4 q2 q1 h5
      have e := ascT_at ha i k1 (by omega)
      rw [getD_get kp, getD_get k1] at e
      rw [e] at l1
      simp only [F6L0b, SS, insA, wantedA, Opd.ev, putA, binA, eqbA, unA, fldA, partA, reduceIte, reduceCtorEq, Nat.reduceMod, Nat.reduceDiv, Nat.reduceBEq, resultA, resA, vI, Nat.reduceMul, Nat.reduceAdd, Nat.reduceSub, Nat.reduceEqDiff, Nat.reduceLT, Nat.reducePow, Nat.reduceLeDiff, st, Option.bind_eq_bind, Option.pure_def, List.length_nil, Int.cast_ofNat_Int, List.reverse_nil, UU, idxP, cellsAt, storeA, fillA, zerosA, putAll, optNat, sliceA, row, Int.reduceLT, Int.reduceLE, Int.reduceGT, Int.reduceGE, Int.reduceEq, Int.reduceNe, Int.reduceToNat, Int.reduceBEq, Int.reduceBNe, Nat.reduceLeDiff, Nat.reduceLT, Nat.reduceBNe, Nat.reduceGT, List.drop_nil, List.take_nil, Option.isSome_none, Int.ofNat_one, Int.ofNat_zero, h.out.len, hc, h.out.idx k1, h.out.load k1, o3, a1, a2, c, wp, h.out.idx kp, h.out.load kp, p3, l1, hww, ih]
    · simp only [F6L0b, SS, insA, wantedA, Opd.ev, putA, binA, eqbA, unA, fldA, partA, reduceIte, reduceCtorEq, Nat.reduceMod, Nat.reduceDiv, Nat.reduceBEq, resultA, resA, vI, Nat.reduceMul, Nat.reduceAdd, Nat.reduceSub, Nat.reduceEqDiff, Nat.reduceLT, Nat.reducePow, Nat.reduceLeDiff, st, Option.bind_eq_bind, Option.pure_def, List.length_nil, Int.cast_ofNat_Int, List.reverse_nil, UU, idxP, cellsAt, storeA, fillA, zerosA, putAll, optNat, sliceA, row, Int.reduceLT, Int.reduceLE, Int.reduceGT, Int.reduceGE, Int.reduceEq, Int.reduceNe, Int.reduceToNat, Int.reduceBEq, Int.reduceBNe, Nat.reduceLeDiff, Nat.reduceLT, Nat.reduceBNe, Nat.reduceGT, List.drop_nil, List.take_nil, Option.isSome_none, Int.ofNat_one, Int.ofNat_zero, h.out.len, hc, h.out.idx k1, h.out.load k1, o3, a1, a2, c, hww, ih]

def number (n : Nat) : Nat := [0, 1, 2, 7, 42, 429].getD n 0
def factN (n : Nat) : Bool := ascT n ((codes n).map (dec n)) (codes n).length && decide ((codes n).length = number n)
theorem factN_1 : factN 1 = true := by kernel_rfl
theorem factN_2 : factN 2 = true := by kernel_rfl
theorem factN_3 : factN 3 = true := by kernel_rfl
theorem factN_4 : factN 4 = true := by kernel_rfl
theorem factN_5 : factN 5 = true := by kernel_rfl
theorem factN_all {n : Nat} (h1 : 1 ≤ n) (h5 : n ≤ 5) : factN n = true := by
  have : n = 1 ∨ n = 2 ∨ n = 3 ∨ n = 4 ∨ n = 5 := by omega
  rcases this with rfl | rfl | rfl | rfl | rfl
  · exact factN_1
  · exact factN_2
  · exact factN_3
  · exact factN_4
  · exact factN_5

theorem law6 {a : Int} (hb : 0 ≤ a ∧ a < 256) : freeX [] (callL EV Y 6 [.int .u8 a] []) = some (.bool true, []) := by
  have ha := fun H => alive20 (Y := Y) (H := H)
  obtain ⟨m, hm, h1, h5⟩ : ∃ m : Nat, IntKind.wrap .i64 (1 + IntKind.wrap .i64 (a.tmod 5)) = m ∧ 1 ≤ m ∧ m ≤ 5 := by
    have e1 : 0 ≤ a.tmod 5 := Int.tmod_nonneg _ hb.1
    have e2 : a.tmod 5 < 5 := Int.tmod_lt_of_pos _ (by decide)
    refine ⟨(1 + a.tmod 5).toNat, ?_, by omega, by omega⟩
    have w1 : IntKind.wrap .i64 (a.tmod 5) = a.tmod 5 := wrap_id (by omega) (by omega)
    rw [w1, wrap_id (by omega) (by omega)]; omega
  obtain ⟨o, H', oc, b, e, cs, q1, q2⟩ := all18_2 (Y := Y) (H := []) h1 h5 (all_len h1 h5)
  have F := factN_all h1 h5
  unfold factN at F
  rw [Bool.and_eq_true, decide_eq_true_eq] at F
  have hl : (allL m).length = number m := by rw [all_codes h1 h5, List.length_map]; exact F.2
  have hasc : ascT m (allL m) (allL m).length = true := by
    have := F.1
    rw [← List.length_map (f := dec m), ← all_codes h1 h5] at this
    exact this
  have lp6 : ∀ {R : Heap} {o : AV} {oc : List AV} {b e : Nat → Nat} {cs : Nat → List AV}, Lst 0 0 R o oc (allL m) b e cs → lp EV Y F6L0 (sp 65 [(6, vI (0 : Nat)), (4, o)]) R = some (.x 0, sp 65 [], R) := fun h => L6_0 h h5 (fun u hu => allL_veil h1 h5 hu) hasc (all_len h1 h5) (allL m).length 0 (by omega)
  have q3 : ∀ (O : Ob), Lst 0 0 (H' ++ [O]) o oc (allL m) b e cs := fun O => q2.keep (fun i _ hi => List.getElem?_append_left hi) (by simp)
  have q4 := fun O => lp6 (q3 O)
  have hlen := q2.out.len
  rw [hl] at hlen
  rw [call6 rfl]
  simp only [SS, insA, wantedA, Opd.ev, putA, binA, eqbA, unA, fldA, partA, reduceIte, reduceCtorEq, Nat.reduceMod, Nat.reduceDiv, Nat.reduceBEq, resultA, resA, vI, Nat.reduceMul, Nat.reduceAdd, Nat.reduceSub, Nat.reduceEqDiff, Nat.reduceLT, Nat.reducePow, Nat.reduceLeDiff, st, Option.bind_eq_bind, Option.pure_def, List.length_nil, Int.cast_ofNat_Int, List.reverse_nil, Int.ofNat_zero] at q1 q4
  have e5 : ¬ ((5 : Int) = 0) := by decide
  have : m = 1 ∨ m = 2 ∨ m = 3 ∨ m = 4 ∨ m = 5 := by omega
  clear q2 q3 lp6 hasc F
  rcases this with rfl | rfl | rfl | rfl | rfl
  · have n0 : number 1 = 1 := rfl
    simp only [Int.ofNat_one, Int.cast_ofNat_Int, n0] at q1 hm hlen
    simp only [F6B, F6T0, in6_0, SS, insA, wantedA, Opd.ev, putA, binA, eqbA, unA, fldA, partA, reduceIte, reduceCtorEq, Nat.reduceMod, Nat.reduceDiv, Nat.reduceBEq, resultA, resA, vI, Nat.reduceMul, Nat.reduceAdd, Nat.reduceSub, Nat.reduceEqDiff, Nat.reduceLT, Nat.reducePow, Nat.reduceLeDiff, st, Option.bind_eq_bind, Option.pure_def, List.length_nil, Int.cast_ofNat_Int, List.reverse_nil, UU, idxP, cellsAt, storeA, fillA, zerosA, putAll, optNat, sliceA, row, Int.reduceLT, Int.reduceLE, Int.reduceGT, Int.reduceGE, Int.reduceEq, Int.reduceNe, Int.reduceToNat, Int.reduceBEq, Int.reduceBNe, Nat.reduceLeDiff, Nat.reduceLT, Nat.reduceBNe, Nat.reduceGT, List.drop_nil, List.take_nil, Option.isSome_none, Int.ofNat_one, Int.ofNat_zero, hm, e5, ne_eq, not_false_eq_true, and_self, q1, hlen, n0, get_last, q4, ha, Int.cast_ofNat_Int]
  · have n0 : number 2 = 2 := rfl
    simp only [Int.ofNat_one, Int.cast_ofNat_Int, n0] at q1 hm hlen
    simp only [F6B, F6T0, in6_0, SS, insA, wantedA, Opd.ev, putA, binA, eqbA, unA, fldA, partA, reduceIte, reduceCtorEq, Nat.reduceMod, Nat.reduceDiv, Nat.reduceBEq, resultA, resA, vI, Nat.reduceMul, Nat.reduceAdd, Nat.reduceSub, Nat.reduceEqDiff, Nat.reduceLT, Nat.reducePow, Nat.reduceLeDiff, st, Option.bind_eq_bind, Option.pure_def, List.length_nil, Int.cast_ofNat_Int, List.reverse_nil, UU, idxP, cellsAt, storeA, fillA, zerosA, putAll, optNat, sliceA, row, Int.reduceLT, Int.reduceLE, Int.reduceGT, Int.reduceGE, Int.reduceEq, Int.reduceNe, Int.reduceToNat, Int.reduceBEq, Int.reduceBNe, Nat.reduceLeDiff, Nat.reduceLT, Nat.reduceBNe, Nat.reduceGT, List.drop_nil, List.take_nil, Option.isSome_none, Int.ofNat_one, Int.ofNat_zero, hm, e5, ne_eq, not_false_eq_true, and_self, q1, hlen, n0, get_last, q4, ha, Int.cast_ofNat_Int]
  · have n0 : number 3 = 7 := rfl
    simp only [Int.ofNat_one, Int.cast_ofNat_Int, n0] at q1 hm hlen
    simp only [F6B, F6T0, in6_0, SS, insA, wantedA, Opd.ev, putA, binA, eqbA, unA, fldA, partA, reduceIte, reduceCtorEq, Nat.reduceMod, Nat.reduceDiv, Nat.reduceBEq, resultA, resA, vI, Nat.reduceMul, Nat.reduceAdd, Nat.reduceSub, Nat.reduceEqDiff, Nat.reduceLT, Nat.reducePow, Nat.reduceLeDiff, st, Option.bind_eq_bind, Option.pure_def, List.length_nil, Int.cast_ofNat_Int, List.reverse_nil, UU, idxP, cellsAt, storeA, fillA, zerosA, putAll, optNat, sliceA, row, Int.reduceLT, Int.reduceLE, Int.reduceGT, Int.reduceGE, Int.reduceEq, Int.reduceNe, Int.reduceToNat, Int.reduceBEq, Int.reduceBNe, Nat.reduceLeDiff, Nat.reduceLT, Nat.reduceBNe, Nat.reduceGT, List.drop_nil, List.take_nil, Option.isSome_none, Int.ofNat_one, Int.ofNat_zero, hm, e5, ne_eq, not_false_eq_true, and_self, q1, hlen, n0, get_last, q4, ha, Int.cast_ofNat_Int]
  · have n0 : number 4 = 42 := rfl
    simp only [Int.ofNat_one, Int.cast_ofNat_Int, n0] at q1 hm hlen
    simp only [F6B, F6T0, in6_0, SS, insA, wantedA, Opd.ev, putA, binA, eqbA, unA, fldA, partA, reduceIte, reduceCtorEq, Nat.reduceMod, Nat.reduceDiv, Nat.reduceBEq, resultA, resA, vI, Nat.reduceMul, Nat.reduceAdd, Nat.reduceSub, Nat.reduceEqDiff, Nat.reduceLT, Nat.reducePow, Nat.reduceLeDiff, st, Option.bind_eq_bind, Option.pure_def, List.length_nil, Int.cast_ofNat_Int, List.reverse_nil, UU, idxP, cellsAt, storeA, fillA, zerosA, putAll, optNat, sliceA, row, Int.reduceLT, Int.reduceLE, Int.reduceGT, Int.reduceGE, Int.reduceEq, Int.reduceNe, Int.reduceToNat, Int.reduceBEq, Int.reduceBNe, Nat.reduceLeDiff, Nat.reduceLT, Nat.reduceBNe, Nat.reduceGT, List.drop_nil, List.take_nil, Option.isSome_none, Int.ofNat_one, Int.ofNat_zero, hm, e5, ne_eq, not_false_eq_true, and_self, q1, hlen, n0, get_last, q4, ha, Int.cast_ofNat_Int]
  · have n0 : number 5 = 429 := rfl
    simp only [Int.ofNat_one, Int.cast_ofNat_Int, n0] at q1 hm hlen
    simp only [F6B, F6T0, in6_0, SS, insA, wantedA, Opd.ev, putA, binA, eqbA, unA, fldA, partA, reduceIte, reduceCtorEq, Nat.reduceMod, Nat.reduceDiv, Nat.reduceBEq, resultA, resA, vI, Nat.reduceMul, Nat.reduceAdd, Nat.reduceSub, Nat.reduceEqDiff, Nat.reduceLT, Nat.reducePow, Nat.reduceLeDiff, st, Option.bind_eq_bind, Option.pure_def, List.length_nil, Int.cast_ofNat_Int, List.reverse_nil, UU, idxP, cellsAt, storeA, fillA, zerosA, putAll, optNat, sliceA, row, Int.reduceLT, Int.reduceLE, Int.reduceGT, Int.reduceGE, Int.reduceEq, Int.reduceNe, Int.reduceToNat, Int.reduceBEq, Int.reduceBNe, Nat.reduceLeDiff, Nat.reduceLT, Nat.reduceBNe, Nat.reduceGT, List.drop_nil, List.take_nil, Option.isSome_none, Int.ofNat_one, Int.ofNat_zero, hm, e5, ne_eq, not_false_eq_true, and_self, q1, hlen, n0, get_last, q4, ha, Int.cast_ofNat_Int]
end
end Go.X
