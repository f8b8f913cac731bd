import Derived.Test.YtchgifdkhknppaaUA
/-! Veils: the specification's list of veils, whole. -/
set_option linter.unusedSimpArgs false
set_option linter.unusedVariables false
set_option maxHeartbeats 8000000
set_option maxRecDepth 10000
namespace Go.X
open Go Go.RowKit
section
variable {Y : Run} {H : Heap}

theorem wrap_nat {m : Nat} (h : m < 4611686018427387904) : IntKind.wrap .i64 (m : Int) = m := wrap_id (by omega) (by omega)

def tryP (n d a : Nat) (i k : Nat) (rs cs x : Int) (s : List (List Int) × List (List (List Int))) : List (List Int) × List (List (List Int)) :=
  if okV n i k rs cs x = true then fillP n d (a + 1) (setAt s.1 i k x) s.2 else s
def tryAll (n d a : Nat) (t : List (List Int)) (ts : List (List (List Int))) : List (List Int) × List (List (List Int)) :=
  tryP n d a (a / n) (a % n) (rowP t (a / n) (a % n)) (colP t (a / n) (a % n)) 1
    (tryP n d a (a / n) (a % n) (rowP t (a / n) (a % n)) (colP t (a / n) (a % n)) 0
      (tryP n d a (a / n) (a % n) (rowP t (a / n) (a % n)) (colP t (a / n) (a % n)) (-1) (t, ts)))
theorem fillP_try {n d a : Nat} {t : List (List Int)} {ts : List (List (List Int))} : fillP n (d + 1) a t ts = (setAt (tryAll n d a t ts).1 (a / n) (a % n) 0, (tryAll n d a t ts).2) := rfl
theorem tryP_len {n d a i k : Nat} {rs cs x : Int} {s : List (List Int) × List (List (List Int))} : s.2.length ≤ (tryP n d a i k rs cs x s).2.length := by
  unfold tryP
  split
  · exact fillP_len d _ _ _
  · exact Nat.le_refl _

theorem L53_2 {R : Heap} {n i k a d : Nat} {v o : AV} {t : List (List Int)} {cells oc : List AV} {ts : List (List (List Int))} (F : Fills Y n d (a + 1)) (h : TO R v t cells o ts oc) (q : Sq n t) (h5 : n ≤ 5) (hi : i < n) (hk : k < n) (ha : a < 100)
    {rs cs : Int} (hr : -10 ≤ rs ∧ rs ≤ 10) (hc : -10 ≤ cs ∧ cs ≤ 10) (hB : (tryP n d a i k rs cs 1 (tryP n d a i k rs cs 0 (tryP n d a i k rs cs (-1) (t, ts)))).2.length ≤ 1000000) :
    ∃ o' R' oc', lp EV Y F53L2 (sp 130 [(14, vI (-1)), (11, vI cs), (10, vI rs), (9, vI k), (8, vI i), (7, vI n), (2, o), (1, vI a), (0, v)]) R = some (.x 4, sp 130 [(9, vI k), (8, vI i), (2, o'), (0, v)], R') ∧
      TO R' v (tryP n d a i k rs cs 1 (tryP n d a i k rs cs 0 (tryP n d a i k rs cs (-1) (t, ts)))).1 cells o' (tryP n d a i k rs cs 1 (tryP n d a i k rs cs 0 (tryP n d a i k rs cs (-1) (t, ts)))).2 oc' ∧
      Sq n (tryP n d a i k rs cs 1 (tryP n d a i k rs cs 0 (tryP n d a i k rs cs (-1) (t, ts)))).1 := by
  have b2 := Nat.le_trans (tryP_len (n := n) (d := d) (a := a) (i := i) (k := k) (rs := rs) (cs := cs) (x := 1) (s := tryP n d a i k rs cs 0 (tryP n d a i k rs cs (-1) (t, ts)))) hB
  have b1 := Nat.le_trans (tryP_len (n := n) (d := d) (a := a) (i := i) (k := k) (rs := rs) (cs := cs) (x := 0) (s := tryP n d a i k rs cs (-1) (t, ts))) b2
  obtain ⟨o1, R1, c1, e1, h1, q1⟩ := step53 F h q h5 hi hk ha hr hc (x := -1) (by omega) b1
  obtain ⟨o2, R2, c2, e2, h2, q2⟩ := step53 F h1 q1 h5 hi hk ha hr hc (x := 0) (by omega) b2
  obtain ⟨o3, R3, c3, e3, h3, q3⟩ := step53 F h2 q2 h5 hi hk ha hr hc (x := 1) (by omega) hB
  refine ⟨o3, R3, c3, ?_, h3, q3⟩
  have : ¬ ((1 : Int) + 1 ≤ 1) := by decide
  refine e1.trans (e2.trans (e3.trans ?_))
  rw [un53_2]
  simp only [F53L2b, SS, insA, wantedA, Opd.ev, putA, binA, eqbA, unA, fldA, partA, reduceIte, reduceCtorEq, Nat.reduceMod, Nat.reduceDiv, Nat.reduceBEq, resultA, resA, vI, Nat.reduceMul, Nat.reduceAdd, Nat.reduceSub, Nat.reduceEqDiff, Nat.reduceLT, Nat.reducePow, Nat.reduceLeDiff, st, Option.bind_eq_bind, Option.pure_def, List.length_nil, Int.cast_ofNat_Int, List.reverse_nil, UU, idxP, cellsAt, storeA, fillA, zerosA, putAll, optNat, sliceA, row, Int.reduceLT, Int.reduceLE, Int.reduceGT, Int.reduceGE, Int.reduceEq, Int.reduceNe, Int.reduceToNat, Int.reduceBEq, Int.reduceBNe, Nat.reduceLeDiff, Nat.reduceLT, Nat.reduceBNe, Nat.reduceGT, List.drop_nil, List.take_nil, Option.isSome_none, Int.ofNat_one, Int.ofNat_zero, this]

theorem rowP_b {n i k : Nat} {t : List (List Int)} (q : Sq n t) (hk : k ≤ 10) : -10 ≤ rowP t i k ∧ rowP t i k ≤ 10 := by
  have := sumF_bound (f := fun x => at2 t i x) (B := 1) (fun a => at2_bound q.unit i a) k 0
  unfold rowP; omega
theorem colP_b {n i k : Nat} {t : List (List Int)} (q : Sq n t) (hi : i ≤ 10) : -10 ≤ colP t i k ∧ colP t i k ≤ 10 := by
  have := sumF_bound (f := fun x => at2 t x k) (B := 1) (fun a => at2_bound q.unit a k) i 0
  unfold colP; omega

theorem fill53 {n : Nat} (h1 : 1 ≤ n) (h5 : n ≤ 5) : ∀ (d a : Nat), a + d = n * n → Fills Y n d a := by
  have hnn : n * n ≤ 25 := Nat.mul_le_mul h5 h5
  have wn : IntKind.wrap .i64 ((n : Int) * n) = ((n * n : Nat) : Int) := by
    have : ((n * n : Nat) : Int) = (n : Int) * n := by rw [Int.natCast_mul]
    rw [this]
    have h2 : ((n * n : Nat) : Int) ≤ 25 := by omega
    exact wrap_id (by omega) (by omega)
  intro d
  induction d with
  | zero =>
    intro a ha R v o t cells oc ts h q hB
    rw [show fillP n 0 a t ts = (t, ts ++ [t]) from rfl] at hB ⊢
    have hlen : lenA v = some n := by rw [h.tab.gro.len, q.len]
    have e : ((a : Int) == ((n * n : Nat) : Int)) = true := by rw [show a = n * n by omega]; exact BEq.rfl
    obtain ⟨_, w', o3, o4⟩ := h.tab.out (d := 3)
    have o3 : snapA R 6 v = some w' := o3
    obtain ⟨w, w1, w2, w3⟩ := out24 (Y := Y) o4 ⟨by rw [q.len]; omega, fun r hr => by rw [q.row r hr]; omega⟩
    obtain ⟨p1, p2, p3⟩ := w1.one
    obtain ⟨o', R', g1, g2⟩ := h.push w1 w3 (by simp at hB; omega)
    refine ⟨o', R', _, ?_, g2, q⟩
    rw [call53 rfl]
    simp only [F53B, SS, insA, wantedA, Opd.ev, putA, binA, eqbA, unA, fldA, partA, reduceIte, reduceCtorEq, Nat.reduceMod, Nat.reduceDiv, Nat.reduceBEq, resultA, resA, vI, Nat.reduceMul, Nat.reduceAdd, Nat.reduceSub, Nat.reduceEqDiff, Nat.reduceLT, Nat.reducePow, Nat.reduceLeDiff, st, Option.bind_eq_bind, Option.pure_def, List.length_nil, Int.cast_ofNat_Int, List.reverse_nil, UU, idxP, cellsAt, storeA, fillA, zerosA, putAll, optNat, sliceA, row, Int.reduceLT, Int.reduceLE, Int.reduceGT, Int.reduceGE, Int.reduceEq, Int.reduceNe, Int.reduceToNat, Int.reduceBEq, Int.reduceBNe, Nat.reduceLeDiff, Nat.reduceLT, Nat.reduceBNe, Nat.reduceGT, List.drop_nil, List.take_nil, Option.isSome_none, Int.ofNat_one, Int.ofNat_zero, hlen, wn, e, o3, w2, p1, p2, p3, g1]
  | succ d ih =>
    intro a ha R v o t cells oc ts h q hB
    have hlen : lenA v = some n := by rw [h.tab.gro.len, q.len]
    have hlt : a < n * n := by omega
    have e : ((a : Int) == ((n * n : Nat) : Int)) = false := by simp; omega
    have hi : a / n < n := Nat.div_lt_of_lt_mul hlt
    have hk : a % n < n := Nat.mod_lt _ (by omega)
    have wd : IntKind.wrap .i64 ((a : Int).tdiv n) = ((a / n : Nat) : Int) := by
      have : (a : Int).tdiv n = ((a / n : Nat) : Int) := by rw [Int.ofNat_tdiv]
      rw [this]; exact wrap_nat (by omega)
    have wm : (a : Int).tmod n = ((a % n : Nat) : Int) := by rw [Int.ofNat_tmod]
    have hn0 : ¬ ((n : Int) = 0) := by omega
    have r1 := L53_0 (Y := Y) (a := a) h q h5 hi hk 0 (a % n) 0 0 (by omega) (by omega)
    have r2 := L53_1 (Y := Y) (a := a) h q h5 hi hk (rowP t (a / n) (a % n)) (a / n) 0 0 (by omega) (by omega)
    rw [Int.zero_add] at r1 r2
    have r1 : lp EV Y F53L0 (sp 130 [(12, vI (0 : Nat)), (11, vI 0), (10, vI 0), (9, vI (a % n : Nat)), (8, vI (a / n : Nat)), (7, vI n), (2, o), (1, vI a), (0, v)]) R =
      some (.x 0, sp 130 [(11, vI 0), (10, vI (rowP t (a / n) (a % n))), (9, vI (a % n : Nat)), (8, vI (a / n : Nat)), (7, vI n), (2, o), (1, vI a), (0, v)], R) := r1
    have r2 : lp EV Y F53L1 (sp 130 [(13, vI (0 : Nat)), (11, vI 0), (10, vI (rowP t (a / n) (a % n))), (9, vI (a % n : Nat)), (8, vI (a / n : Nat)), (7, vI n), (2, o), (1, vI a), (0, v)]) R =
      some (.x 2, sp 130 [(11, vI (colP t (a / n) (a % n))), (10, vI (rowP t (a / n) (a % n))), (9, vI (a % n : Nat)), (8, vI (a / n : Nat)), (7, vI n), (2, o), (1, vI a), (0, v)], R) := r2
    rw [fillP_try] at hB ⊢
    have hB : (tryAll n d a t ts).2.length ≤ 1000000 := hB
    obtain ⟨o3, R3, c3, e3, h3, q3⟩ := L53_2 (Y := Y) (ih (a + 1) (by omega)) h q h5 hi hk (by omega) (rs := rowP t (a / n) (a % n)) (cs := colP t (a / n) (a % n)) (rowP_b q (by omega)) (colP_b q (by omega)) hB
    have h3 : TO R3 v (tryAll n d a t ts).1 cells o3 (tryAll n d a t ts).2 c3 := h3
    have q3 : Sq n (tryAll n d a t ts).1 := q3
    generalize tryAll n d a t ts = s at *
    have hil : a / n < s.1.length := by rw [q3.len]; exact hi
    have hkl : a % n < s.1[a / n].length := by rw [q3.rl hil]; exact hk
    obtain ⟨R4, s1, s2⟩ := h3.store (x := 0) hil hkl
    rw [setAt_eq hil]
    refine ⟨o3, R4, c3, ?_, s2, q3.set hil (by omega)⟩
    rw [call53 rfl]
    simp only [SS, insA, wantedA, Opd.ev, putA, binA, eqbA, unA, fldA, partA, reduceIte, reduceCtorEq, Nat.reduceMod, Nat.reduceDiv, Nat.reduceBEq, resultA, resA, vI, Nat.reduceMul, Nat.reduceAdd, Nat.reduceSub, Nat.reduceEqDiff, Nat.reduceLT, Nat.reducePow, Nat.reduceLeDiff, st, Option.bind_eq_bind, Option.pure_def, List.length_nil, Int.cast_ofNat_Int, List.reverse_nil, Int.ofNat_zero] at r1 r2 e3 s1
    simp only [F53B, F53T2, F53T1, F53T0, in53_0, in53_1, in53_2, SS, insA, wantedA, Opd.ev, putA, binA, eqbA, unA, fldA, partA, reduceIte, reduceCtorEq, Nat.reduceMod, Nat.reduceDiv, Nat.reduceBEq, resultA, resA, vI, Nat.reduceMul, Nat.reduceAdd, Nat.reduceSub, Nat.reduceEqDiff, Nat.reduceLT, Nat.reducePow, Nat.reduceLeDiff, st, Option.bind_eq_bind, Option.pure_def, List.length_nil, Int.cast_ofNat_Int, List.reverse_nil, UU, idxP, cellsAt, fillA, zerosA, putAll, row, Int.reduceLT, Int.reduceLE, Int.reduceGT, Int.reduceGE, Int.reduceEq, Int.reduceNe, Int.reduceToNat, Int.reduceBEq, Int.reduceBNe, Nat.reduceLeDiff, Nat.reduceLT, Nat.reduceBNe, Nat.reduceGT, List.drop_nil, List.take_nil, Option.isSome_none, Int.ofNat_one, Int.ofNat_zero, hlen, wn, e, wd, wm, hn0, and_self, ne_eq, not_false_eq_true, and_true, r1, r2, e3, h3.tab.idx hil, h3.tab.load hil, h3.tab.idx2 hil hkl, s1]

/-- The specification's veils of a size. -/
def fillL (n : Nat) : List (List (List Int)) := (fillP n (n * n) 0 (zeroT n) []).2

theorem fill_zero {n : Nat} (h1 : 1 ≤ n) (h5 : n ≤ 5) (hB : (fillL n).length ≤ 1000000) {v : AV} {cells : List AV} {R : Heap} (hT : HTab 0 R v (zeroT n) cells) : ∃ o R' oc, callL EV Y 53 [v, vI 0, .nils] R = some (o, R') ∧ Gro 0 1 R' o (fillL n).length oc ∧ ∀ j (h : j < (fillL n).length), IsTab (oc.getD j .undef) (fillL n)[j] ∧ ∀ H n, freeA H (n + 1) (oc.getD j .undef) = some (oc.getD j .undef) := by
  obtain ⟨o', R', oc', f1, f2, _⟩ := fill53 (Y := Y) h1 h5 (n * n) 0 (by omega) hT.to Sq.zero hB
  exact ⟨o', R', oc', f1, f2.out, f2.tabs⟩

theorem all17 {n : Int} (hB : ∀ m : Nat, 1 ≤ m → m ≤ 5 → (fillL m).length ≤ 1000000) :
    (1 ≤ n ∧ n ≤ 5 → ∃ w oc, IsLst w (fillL n.toNat).length oc ∧ oc.length = (fillL n.toNat).length ∧ (∀ j (h : j < (fillL n.toNat).length), IsTab (oc.getD j .undef) (fillL n.toNat)[j]) ∧ ∀ H, freeX H (callL EV Y 17 [vI n] []) = some (.tup [w, vI 0], H)) ∧
    (¬ (1 ≤ n ∧ n ≤ 5) → ∀ H, freeX H (callL EV Y 17 [vI n] []) = some (.tup [.nils, vI 2], H)) := by
  constructor
  · rintro ⟨a, b⟩
    obtain ⟨m, rfl⟩ : ∃ m : Nat, n = m := ⟨n.toNat, by omega⟩
    have c1 : ¬ ((m : Int) < 1) := by omega
    have c2 : ¬ ((m : Int) > 5) := by omega
    obtain ⟨v, R, cells, z1, z2⟩ := zeros54 (Y := Y) (n := m) (by omega)
    obtain ⟨v', H', cells', q1, q2, q3⟩ := call_tab (H := []) (R := callL EV Y) (f := 54) (args := [vI (m : Int)]) (bs := [vI (m : Int)]) rfl z1 z2
    obtain ⟨o, R2, oc, f1, f2, f3⟩ := fill_zero (Y := Y) (by omega) (by omega) (hB m (by omega) (by omega)) q2
    have e : ((m : Int)).toNat = m := rfl
    rw [e]
    have hol : oc.length = (fillL m).length := by have := f2.1; omega
    obtain ⟨w, o1, o2⟩ := f2.freeL (d := 3) fun c hc => by
      obtain ⟨j, hj, rfl⟩ := List.getElem_of_mem hc
      have := (f3 j (by omega)).2
      rw [getD_get hj] at this
      exact this _ _
    have o1 : freeA R2 5 o = some w := o1
    refine ⟨w, oc, o2, hol, fun j hj => (f3 j hj).1, fun H => ?_⟩
    rw [call17 rfl]
    simp only [SS, insA, wantedA, Opd.ev, putA, binA, eqbA, unA, fldA, partA, reduceIte, reduceCtorEq, Nat.reduceMod, Nat.reduceDiv, Nat.reduceBEq, resultA, resA, vI, Nat.reduceMul, Nat.reduceAdd, Nat.reduceSub, Nat.reduceEqDiff, Nat.reduceLT, Nat.reducePow, Nat.reduceLeDiff, st, Option.bind_eq_bind, Option.pure_def, List.length_nil, Int.cast_ofNat_Int, List.reverse_nil] at q1 f1
    simp only [F17B, SS, insA, wantedA, Opd.ev, putA, binA, eqbA, unA, fldA, partA, reduceIte, reduceCtorEq, Nat.reduceMod, Nat.reduceDiv, Nat.reduceBEq, resultA, resA, vI, Nat.reduceMul, Nat.reduceAdd, Nat.reduceSub, Nat.reduceEqDiff, Nat.reduceLT, Nat.reducePow, Nat.reduceLeDiff, st, Option.bind_eq_bind, Option.pure_def, List.length_nil, Int.cast_ofNat_Int, List.reverse_nil, UU, idxP, cellsAt, storeA, fillA, zerosA, putAll, optNat, sliceA, row, Int.reduceLT, Int.reduceLE, Int.reduceGT, Int.reduceGE, Int.reduceEq, Int.reduceNe, Int.reduceToNat, Int.reduceBEq, Int.reduceBNe, Nat.reduceLeDiff, Nat.reduceLT, Nat.reduceBNe, Nat.reduceGT, List.drop_nil, List.take_nil, Option.isSome_none, Int.ofNat_one, Int.ofNat_zero, c1, c2, q1, f1, o1]
  · intro hn H
    rw [call17 rfl]
    by_cases c1 : n < 1
    · simp only [F17B, SS, insA, wantedA, Opd.ev, putA, binA, eqbA, unA, fldA, partA, reduceIte, reduceCtorEq, Nat.reduceMod, Nat.reduceDiv, Nat.reduceBEq, resultA, resA, vI, Nat.reduceMul, Nat.reduceAdd, Nat.reduceSub, Nat.reduceEqDiff, Nat.reduceLT, Nat.reducePow, Nat.reduceLeDiff, st, Option.bind_eq_bind, Option.pure_def, List.length_nil, Int.cast_ofNat_Int, List.reverse_nil, UU, idxP, cellsAt, storeA, fillA, zerosA, putAll, optNat, sliceA, row, Int.reduceLT, Int.reduceLE, Int.reduceGT, Int.reduceGE, Int.reduceEq, Int.reduceNe, Int.reduceToNat, Int.reduceBEq, Int.reduceBNe, Nat.reduceLeDiff, Nat.reduceLT, Nat.reduceBNe, Nat.reduceGT, List.drop_nil, List.take_nil, Option.isSome_none, Int.ofNat_one, Int.ofNat_zero, c1]
    · have c2 : n > 5 := by omega
      simp only [F17B, SS, insA, wantedA, Opd.ev, putA, binA, eqbA, unA, fldA, partA, reduceIte, reduceCtorEq, Nat.reduceMod, Nat.reduceDiv, Nat.reduceBEq, resultA, resA, vI, Nat.reduceMul, Nat.reduceAdd, Nat.reduceSub, Nat.reduceEqDiff, Nat.reduceLT, Nat.reducePow, Nat.reduceLeDiff, st, Option.bind_eq_bind, Option.pure_def, List.length_nil, Int.cast_ofNat_Int, List.reverse_nil, UU, idxP, cellsAt, storeA, fillA, zerosA, putAll, optNat, sliceA, row, Int.reduceLT, Int.reduceLE, Int.reduceGT, Int.reduceGE, Int.reduceEq, Int.reduceNe, Int.reduceToNat, Int.reduceBEq, Int.reduceBNe, Nat.reduceLeDiff, Nat.reduceLT, Nat.reduceBNe, Nat.reduceGT, List.drop_nil, List.take_nil, Option.isSome_none, Int.ofNat_one, Int.ofNat_zero, c1, c2]
end
end Go.X
