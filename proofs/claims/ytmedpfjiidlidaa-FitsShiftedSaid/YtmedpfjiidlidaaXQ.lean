import Derived.Test.YtmedpfjiidlidaaXP
/-! The mixture against which some fashions gain the same: the program's way. -/
set_option linter.unusedSimpArgs false
set_option linter.unusedVariables false
set_option maxRecDepth 10000
namespace Go.X
open Go Go.RowKit
section
variable {Y : Run} {H : Heap}

def sumL (l : List Int) : Int := l.foldr (· + ·) 0
def gcdL : Int → List Int → Int
  | g, [] => g
  | g, x :: l => gcdL (Int.gcd g x : Int) l

theorem gcd_small {a b : Int} {n : Nat} (ha : a.natAbs ≤ n) (hb : b.natAbs ≤ n) : Int.gcd a b ≤ n := by
  by_cases h0 : a = 0
  · subst h0; simpa using hb
  · have := Int.gcd_le_natAbs_left (b := b) h0; omega

/-- A list of numbers that is read. -/
structure Reads (v : AV) (l : List Int) (H : Heap) : Prop where
  len : lenA v = some l.length
  idx : ∀ i, i < l.length → idxA 1 v (.int .i64 (i : Int)) = some (gptr 1 v i)
  load : ∀ i, i < l.length → loadA H none (gptr 1 v i) = some (vI (l.getD i 0))

theorem Gro.reads {k : Nat} {v : AV} {l : List Int} (h : Gro k 1 H v l.length (l.map vI)) : Reads v l H :=
  ⟨h.len, fun i hi => h.idx hi, fun i hi => by rw [h.load hi]; simp [List.getD_eq_getElem?_getD, hi]⟩

theorem L48_2 {v a4 a1 : AV} {l : List Int} (hv : Reads v l H) (hl : l.length ≤ 20) (hs : small l) (d : Nat) : ∀ (i : Nat) (s g : Int), i + d = l.length → s.natAbs + d * 100000 ≤ 3000000 → g.natAbs ≤ 100000 →
    lp E Y F48L2 (st 242 [(1, a1), (4, a4), (8, v), (14, vI s), (15, vI g), (194, v), (195, vI l.length), (196, vI i)]) H =
      some (.x 5, st 242 [(1, a1), (4, a4), (8, v), (14, vI (s + sumL (l.drop i))), (15, vI (gcdL g (l.drop i)))], H) := by
  induction d with
  | zero =>
    intro i s g hi h1 h2
    rw [un48_2, List.drop_eq_nil_of_le (by omega)]
    have : ¬ ((i : Int) < (l.length : Int)) := by omega
    simp only [F48L2b, SS, insA, wantedA, Opd.ev, putA, binA, eqbA, unA, fldA, partA, reduceIte, reduceCtorEq, Nat.reduceMod, Nat.reduceDiv, Nat.reduceBEq, resultA, resA, vI, Nat.reduceMul, Nat.reduceAdd, Nat.reduceSub, Nat.reduceEqDiff, Nat.reduceLT, Nat.reducePow, Nat.reduceLeDiff, st, Option.bind_eq_bind, Option.pure_def, List.length_nil, Int.cast_ofNat_Int, List.reverse_nil, this, sumL, gcdL, List.foldr_nil, Int.add_zero]
  | succ d ih =>
    intro i s g hi h1 h2
    have hlt : i < l.length := by omega
    rw [un48_2, List.drop_eq_getElem_cons hlt]
    have hc : (i : Int) < (l.length : Int) := by omega
    have hw := wrap_succ (n := i) (by omega)
    have hg : l.getD i 0 = l[i] := by simp [List.getD_eq_getElem?_getD, hlt]
    have hb := hs l[i] (by simp)
    have w1 : IntKind.wrap .i64 (s + l[i]) = s + l[i] := wrap_id (by omega) (by omega)
    have g1 := gcd52 (Y := Y) (H := []) (a := g) (b := l[i]) (by omega) (by omega)
    have g2 : Int.gcd g l[i] ≤ 100000 := gcd_small h2 (by omega)
    have h3 := ih (i + 1) (s + l[i]) (Int.gcd g l[i] : Int) (by omega) (by omega) (by omega)
    simp only [SS, insA, wantedA, Opd.ev, putA, binA, eqbA, unA, fldA, partA, reduceIte, reduceCtorEq, Nat.reduceMod, Nat.reduceDiv, Nat.reduceBEq, resultA, resA, vI, Nat.reduceMul, Nat.reduceAdd, Nat.reduceSub, Nat.reduceEqDiff, Nat.reduceLT, Nat.reducePow, Nat.reduceLeDiff, st, Option.bind_eq_bind, Option.pure_def, List.length_nil, Int.cast_ofNat_Int, List.reverse_nil] at h3 g1
    simp only [F48L2b, SS, insA, wantedA, Opd.ev, putA, binA, eqbA, unA, fldA, partA, reduceIte, reduceCtorEq, Nat.reduceMod, Nat.reduceDiv, Nat.reduceBEq, resultA, resA, vI, Nat.reduceMul, Nat.reduceAdd, Nat.reduceSub, Nat.reduceEqDiff, Nat.reduceLT, Nat.reducePow, Nat.reduceLeDiff, st, Option.bind_eq_bind, Option.pure_def, List.length_nil, Int.cast_ofNat_Int, List.reverse_nil, hc, hv.idx i hlt, hv.load i hlt, hw, hg, w1, g1, h3, sumL, gcdL, List.foldr_cons, Int.add_assoc]

theorem store_id {id i : Nat} {l : List Int} {x : Int} (h : H[id]? = some ⟨0, l.map vI⟩) (hi : i < l.length) : storeA H 1 (.ptr id 0 (i * 1)) (vI x) = some (H.set id ⟨0, (l.set i x).map vI⟩) := by
  simp only [storeA, h, cells_int, List.length_cons, List.length_nil, List.all_cons, List.all_nil, one_int, putAll, List.length_map]
  rw [if_pos (by simp; omega)]
  simp [List.map_set]

theorem sl_reads {id : Nat} {l : List Int} (h : H[id]? = some ⟨0, l.map vI⟩) : Reads (.sl id 0 1 0 l.length none) l H :=
  Gro.reads (k := 0) ⟨by simp, .inr ⟨id, 0, Nat.zero_le _, rfl, h⟩⟩

theorem L48_3 {a4 a1 : AV} {s dd : Int} {id n : Nat} (hn : n ≤ 20) (hd : dd ≠ 0) (d : Nat) : ∀ (i : Nat) (l : List Int) (H : Heap), l.length = n → small l → H[id]? = some ⟨0, l.map vI⟩ → i + d = n →
    ∃ H', lp E Y F48L3 (st 242 [(1, a1), (4, a4), (8, .sl id 0 1 0 n none), (14, vI s), (15, vI dd), (215, vI n), (216, vI i)]) H =
      some (.x 7, st 242 [(1, a1), (4, a4), (8, .sl id 0 1 0 n none), (14, vI s), (15, vI dd)], H') ∧ H'[id]? = some ⟨0, (l.take i ++ (l.drop i).map fun x => x.tdiv dd).map vI⟩ ∧ (∀ j, j ≠ id → H'[j]? = H[j]?) ∧ H'.length = H.length := by
  induction d with
  | zero =>
    intro i l H hl hs hH hi
    have : ¬ ((i : Int) < (n : Int)) := by omega
    refine ⟨H, ?_, ?_, fun _ _ => rfl, rfl⟩
    · rw [un48_3]
      simp only [F48L3b, SS, insA, wantedA, Opd.ev, putA, binA, eqbA, unA, fldA, partA, reduceIte, reduceCtorEq, Nat.reduceMod, Nat.reduceDiv, Nat.reduceBEq, resultA, resA, vI, Nat.reduceMul, Nat.reduceAdd, Nat.reduceSub, Nat.reduceEqDiff, Nat.reduceLT, Nat.reducePow, Nat.reduceLeDiff, st, Option.bind_eq_bind, Option.pure_def, List.length_nil, Int.cast_ofNat_Int, List.reverse_nil, this]
    · rw [List.drop_eq_nil_of_le (by omega), List.take_of_length_le (by omega)]; simpa using hH
  | succ d ih =>
    intro i l H hl hs hH hi
    have hlt : i < l.length := by omega
    have hc : (i : Int) < (n : Int) := by omega
    have hw := wrap_succ (n := i) (by omega)
    have hr := sl_reads hH
    rw [hl] at hr
    have hg : l.getD i 0 = l[i] := by simp [List.getD_eq_getElem?_getD, hlt]
    have hb := hs l[i] (by simp)
    have hq : -100000 ≤ l[i].tdiv dd ∧ l[i].tdiv dd ≤ 100000 := by
      have : (l[i].tdiv dd).natAbs ≤ l[i].natAbs := by rw [Int.natAbs_tdiv]; exact Nat.div_le_self _ _
      omega
    have w1 : IntKind.wrap .i64 (l[i].tdiv dd) = l[i].tdiv dd := wrap_id (by omega) (by omega)
    have hst := store_id (x := l[i].tdiv dd) hH hlt
    have hlt2 : id < H.length := by
      rcases Nat.lt_or_ge id H.length with h | h
      · exact h
      · rw [List.getElem?_eq_none h] at hH; cases hH
    have hs' : small (l.set i (l[i].tdiv dd)) := by
      intro x hx
      rcases List.mem_or_eq_of_mem_set hx with h | h
      · exact hs x h
      · omega
    obtain ⟨H', q1, q2, q3, q4⟩ := ih (i + 1) (l.set i (l[i].tdiv dd)) (H.set id ⟨0, (l.set i (l[i].tdiv dd)).map vI⟩) (by simp [hl]) hs' (by rw [List.getElem?_set_self hlt2]) (by omega)
    refine ⟨H', ?_, ?_, fun j hj => ?_, by rw [q4]; simp⟩
    · have i1 := hr.idx i hlt
      have i2 := hr.load i hlt
      simp only [gptr] at i1 i2
      rw [un48_3]
      simp only [SS, insA, wantedA, Opd.ev, putA, binA, eqbA, unA, fldA, partA, reduceIte, reduceCtorEq, Nat.reduceMod, Nat.reduceDiv, Nat.reduceBEq, resultA, resA, vI, Nat.reduceMul, Nat.reduceAdd, Nat.reduceSub, Nat.reduceEqDiff, Nat.reduceLT, Nat.reducePow, Nat.reduceLeDiff, st, Option.bind_eq_bind, Option.pure_def, List.length_nil, Int.cast_ofNat_Int, List.reverse_nil] at q1 hst i1 i2
      simp only [F48L3b, SS, insA, wantedA, Opd.ev, putA, binA, eqbA, unA, fldA, partA, reduceIte, reduceCtorEq, Nat.reduceMod, Nat.reduceDiv, Nat.reduceBEq, resultA, resA, vI, Nat.reduceMul, Nat.reduceAdd, Nat.reduceSub, Nat.reduceEqDiff, Nat.reduceLT, Nat.reducePow, Nat.reduceLeDiff, st, Option.bind_eq_bind, Option.pure_def, List.length_nil, Int.cast_ofNat_Int, List.reverse_nil, hc, i1, i2, hw, hg, hd, w1, hst, q1]
    · have e1 : (l.set i (l[i].tdiv dd)).take (i + 1) = l.take i ++ [l[i].tdiv dd] := by
        rw [List.take_succ_eq_append_getElem (by simpa using hlt)]; simp [List.take_set_of_le]
      have e2 : (l.set i (l[i].tdiv dd)).drop (i + 1) = l.drop (i + 1) := by simp [List.drop_set]
      rw [q2, e1, e2, List.drop_eq_getElem_cons hlt, List.map_cons, List.append_assoc]
      rfl
    · rw [q3 j hj, List.getElem?_set_ne (fun e => hj e.symm)]

/-- What the program returns, once it has the numbers, their sum and divisor. -/
theorem T48_0 {l : List Int} {set s dd : Int} {id : Nat} {H0 : Heap} (hl : l.length ≤ 20) (h0 : 0 < l.length) (hd : dd ≠ 0) (hs : s.natAbs ≤ 3000000) (hid : 0 < id)
    (hA : H0[0]? = some ⟨0, [.nils, vI 0]⟩) (hH : H0[id]? = some ⟨0, l.map vI⟩) :
    freeX H (endX [.cell 4 (some 2), .tmp 5] (codeL E Y F48T0 (st 242 [(1, vI set), (4, .ptr 0 0 0), (8, .sl id 0 1 0 l.length none), (14, vI s), (15, vI dd)]) H0)) =
      some (.tup [.agg [.imm false (l.map vI) l.length, vI (s.tdiv dd)], .bool (decide (minI l ≥ 0) && ((fashS l : Int) == set))], H) := by
  obtain ⟨R, rfl⟩ := heap_first hA
  obtain ⟨j, rfl⟩ : ∃ j, id = j + 1 := ⟨id - 1, by omega⟩
  have hR : R[j]? = some ⟨0, l.map vI⟩ := by simpa using hH
  have hq : (s.tdiv dd).natAbs ≤ 3000000 := by
    have : (s.tdiv dd).natAbs ≤ s.natAbs := by rw [Int.natAbs_tdiv]; exact Nat.div_le_self _ _
    omega
  have w1 : IntKind.wrap .i64 (s.tdiv dd) = s.tdiv dd := wrap_id (by omega) (by omega)
  have hlt : j < R.length := by
    rcases Nat.lt_or_ge j R.length with h | h
    · exact h
    · rw [List.getElem?_eq_none h] at hR; cases hR
  have hm := min65 (Y := Y) (H := []) (row_is (s := true) (l := l)) (by omega) h0
  have hf : ∀ H, freeX H (callL E Y 67 [.agg [.imm true (l.map vI) l.length, vI (s.tdiv dd)]] []) = some (vI (fashS l : Int), H) := fun H => fash67 (Y := Y) (H := H) (row_is (s := true) (l := l)) hl
  have ht : List.take (l.length * 1) (List.drop 0 (l.map vI)) = l.map vI := by
    rw [List.drop_zero, Nat.mul_one]; exact List.take_of_length_le (by simp)
  have hsn : ∀ (X : Ob) (R' : Heap) (n : Nat), R'[j]? = some ⟨0, l.map vI⟩ → snapA (X :: R') (n + 2) (.sl (j + 1) 0 1 0 l.length none) = some (.imm true (l.map vI) l.length) := by
    intro X R' n h
    rw [snap_sl, List.getElem?_cons_succ, h, snapS_some, if_pos (by simp), ht, mapM_snap, snapB_some]
  have hfr : ∀ (X : Ob) (R' : Heap) (n : Nat), R'[j]? = some ⟨0, l.map vI⟩ → freeA (X :: R') (n + 2) (.sl (j + 1) 0 1 0 l.length none) = some (.imm false (l.map vI) l.length) := by
    intro X R' n h
    rw [free_sl, List.getElem?_cons_succ, h, freeS_some, if_pos (by simp), ht, mapM_free, freeB_some]
  have hR2 : ∀ o : Ob, (R ++ [o])[j]? = some ⟨0, l.map vI⟩ := fun o => by rw [List.getElem?_append_left hlt]; exact hR
  simp only [SS, insA, wantedA, Opd.ev, putA, binA, eqbA, unA, fldA, partA, reduceIte, reduceCtorEq, Nat.reduceMod, Nat.reduceDiv, Nat.reduceBEq, resultA, resA, vI, Nat.reduceMul, Nat.reduceAdd, Nat.reduceSub, Nat.reduceEqDiff, Nat.reduceLT, Nat.reducePow, Nat.reduceLeDiff, st, Option.bind_eq_bind, Option.pure_def, List.length_nil, Int.cast_ofNat_Int, List.reverse_nil] at hm hf
  by_cases c1 : minI l ≥ 0
  · simp only [F48T0, SS, insA, wantedA, Opd.ev, putA, binA, eqbA, unA, fldA, partA, reduceIte, reduceCtorEq, Nat.reduceMod, Nat.reduceDiv, Nat.reduceBEq, resultA, resA, vI, Nat.reduceMul, Nat.reduceAdd, Nat.reduceSub, Nat.reduceEqDiff, Nat.reduceLT, Nat.reducePow, Nat.reduceLeDiff, st, Option.bind_eq_bind, Option.pure_def, List.length_nil, Int.cast_ofNat_Int, List.reverse_nil, UU, idxP, cellsAt, storeA, fillA, zerosA, putAll, optNat, sliceA, row, Int.reduceLT, Int.reduceLE, Int.reduceGT, Int.reduceGE, Int.reduceEq, Int.reduceNe, Int.reduceToNat, Int.reduceBEq, Int.reduceBNe, Nat.reduceLeDiff, Nat.reduceLT, Nat.reduceBNe, Nat.reduceGT, List.drop_nil, List.take_nil, Option.isSome_none, Int.ofNat_one, Int.ofNat_zero, hd, w1, hsn _ _ _ (hR2 _), hfr _ _ _ (hR2 _), hm, hf, c1, get_last, set_last, Bool.true_and]
  · simp only [F48T0, SS, insA, wantedA, Opd.ev, putA, binA, eqbA, unA, fldA, partA, reduceIte, reduceCtorEq, Nat.reduceMod, Nat.reduceDiv, Nat.reduceBEq, resultA, resA, vI, Nat.reduceMul, Nat.reduceAdd, Nat.reduceSub, Nat.reduceEqDiff, Nat.reduceLT, Nat.reducePow, Nat.reduceLeDiff, st, Option.bind_eq_bind, Option.pure_def, List.length_nil, Int.cast_ofNat_Int, List.reverse_nil, UU, idxP, cellsAt, storeA, fillA, zerosA, putAll, optNat, sliceA, row, Int.reduceLT, Int.reduceLE, Int.reduceGT, Int.reduceGE, Int.reduceEq, Int.reduceNe, Int.reduceToNat, Int.reduceBEq, Int.reduceBNe, Nat.reduceLeDiff, Nat.reduceLT, Nat.reduceBNe, Nat.reduceGT, List.drop_nil, List.take_nil, Option.isSome_none, Int.ofNat_one, Int.ofNat_zero, hd, w1, hsn _ _ _ (hR2 _), hfr _ _ _ (hR2 _), hm, hf, c1, get_last, set_last, Bool.false_and]

/-- The divisor with the sum's sign. -/
def divS (l : List Int) : Int := if sumL l < 0 then -gcdL 0 l else gcdL 0 l
/-- What the program returns for a list of numbers. -/
def resP (l : List Int) (set : Int) : AV :=
  if sumL l = 0 then .tup [.agg [.nils, vI 0], .bool false]
  else .tup [.agg [.imm false ((l.map fun x => x.tdiv (divS l)).map vI) l.length, vI ((sumL l).tdiv (divS l))], .bool (decide (minI (l.map fun x => x.tdiv (divS l)) ≥ 0) && ((fashS (l.map fun x => x.tdiv (divS l)) : Int) == set))]

theorem sumL_bound : ∀ {l : List Int}, small l → (sumL l).natAbs ≤ l.length * 100000
  | [], _ => by simp [sumL]
  | x :: l, h => by
    have h1 := sumL_bound (l := l) fun y hy => h y (List.mem_cons_of_mem _ hy)
    have h2 := h x (by simp)
    simp only [sumL, List.foldr_cons, List.length_cons] at h1 ⊢
    omega

theorem gcdL_bound : ∀ {l : List Int} {g : Int}, small l → 0 ≤ g → g ≤ 100000 → 0 ≤ gcdL g l ∧ gcdL g l ≤ 100000
  | [], g, _, h0, h1 => ⟨h0, h1⟩
  | x :: l, g, h, h0, h1 => by
    have h2 := h x (by simp)
    have h3 : Int.gcd g x ≤ 100000 := gcd_small (by omega) (by omega)
    exact gcdL_bound (l := l) (fun y hy => h y (List.mem_cons_of_mem _ hy)) (by omega) (by omega)

theorem gcdL_zero : ∀ {l : List Int} {g : Int}, gcdL g l = 0 → g = 0 ∧ ∀ x ∈ l, x = 0
  | [], g, h => ⟨h, by simp⟩
  | x :: l, g, h => by
    obtain ⟨h1, h2⟩ := gcdL_zero (l := l) h
    have h3 : Int.gcd g x = 0 := by omega
    obtain ⟨h4, h5⟩ := Int.gcd_eq_zero_iff.1 h3
    exact ⟨h4, fun y hy => by rcases List.mem_cons.1 hy with rfl | h; exact h5; exact h2 y h⟩
theorem sumL_zero : ∀ {l : List Int}, (∀ x ∈ l, x = 0) → sumL l = 0
  | [], _ => rfl
  | x :: l, h => by
    have := sumL_zero (l := l) fun y hy => h y (List.mem_cons_of_mem _ hy)
    simp only [sumL, List.foldr_cons] at this ⊢
    rw [this, h x (by simp)]; rfl

theorem T48_1 {l : List Int} {set : Int} {id : Nat} {H0 : Heap} (hl : l.length ≤ 20) (h0 : 0 < l.length) (hs : small l) (hid : 0 < id)
    (hA : H0[0]? = some ⟨0, [.nils, vI 0]⟩) (hH : H0[id]? = some ⟨0, l.map vI⟩) :
    freeX H (endX [.cell 4 (some 2), .tmp 5] (codeL E Y F48T1 (st 242 [(1, vI set), (4, .ptr 0 0 0), (8, .sl id 0 1 0 l.length none), (14, vI (sumL l)), (15, vI (gcdL 0 l))]) H0)) = some (resP l set, H) := by
  have hb := sumL_bound hs
  have hg := gcdL_bound (g := 0) hs (by omega) (by omega)
  unfold resP
  by_cases c0 : sumL l = 0
  · rw [if_pos c0]
    obtain ⟨R, rfl⟩ := heap_first hA
    simp only [F48T1, in48_3, SS, insA, wantedA, Opd.ev, putA, binA, eqbA, unA, fldA, partA, reduceIte, reduceCtorEq, Nat.reduceMod, Nat.reduceDiv, Nat.reduceBEq, resultA, resA, vI, Nat.reduceMul, Nat.reduceAdd, Nat.reduceSub, Nat.reduceEqDiff, Nat.reduceLT, Nat.reducePow, Nat.reduceLeDiff, st, Option.bind_eq_bind, Option.pure_def, List.length_nil, Int.cast_ofNat_Int, List.reverse_nil, UU, idxP, cellsAt, storeA, fillA, zerosA, putAll, optNat, sliceA, row, Int.reduceLT, Int.reduceLE, Int.reduceGT, Int.reduceGE, Int.reduceEq, Int.reduceNe, Int.reduceToNat, Int.reduceBEq, Int.reduceBNe, Nat.reduceLeDiff, Nat.reduceLT, Nat.reduceBNe, Nat.reduceGT, List.drop_nil, List.take_nil, Option.isSome_none, Int.ofNat_one, Int.ofNat_zero, c0]
  · rw [if_neg c0]
    have hd : divS l ≠ 0 := by
      have : gcdL 0 l ≠ 0 := fun h => c0 (sumL_zero (gcdL_zero h).2)
      unfold divS; split <;> omega
    obtain ⟨H', q1, q2, q3, q4⟩ := L48_3 (Y := Y) (a4 := .ptr 0 0 0) (a1 := vI set) (s := sumL l) (id := id) hl hd l.length 0 l H0 rfl hs hH (by omega)
    have e1 : l.take 0 ++ (l.drop 0).map (fun x => x.tdiv (divS l)) = l.map (fun x => x.tdiv (divS l)) := by simp
    rw [e1] at q2
    have q5 := T48_0 (Y := Y) (H := H) (l := l.map fun x => x.tdiv (divS l)) (set := set) (s := sumL l) (dd := divS l) (id := id) (H0 := H') (by simpa using hl) (by simpa using h0) hd (by omega) hid (by rw [q3 0 (by omega)]; exact hA) q2
    rw [List.length_map] at q5
    by_cases c1 : sumL l < 0
    · have e2 : divS l = -gcdL 0 l := by unfold divS; rw [if_pos c1]
      have w1 : IntKind.wrap .i64 (0 - gcdL 0 l) = divS l := by rw [wrap_id (by omega) (by omega), e2]; omega
      simp only [SS, insA, wantedA, Opd.ev, putA, binA, eqbA, unA, fldA, partA, reduceIte, reduceCtorEq, Nat.reduceMod, Nat.reduceDiv, Nat.reduceBEq, resultA, resA, vI, Nat.reduceMul, Nat.reduceAdd, Nat.reduceSub, Nat.reduceEqDiff, Nat.reduceLT, Nat.reducePow, Nat.reduceLeDiff, st, Option.bind_eq_bind, Option.pure_def, List.length_nil, Int.cast_ofNat_Int, List.reverse_nil, Int.ofNat_zero] at q1 q5
      simp only [F48T1, in48_3, SS, insA, wantedA, Opd.ev, putA, binA, eqbA, unA, fldA, partA, reduceIte, reduceCtorEq, Nat.reduceMod, Nat.reduceDiv, Nat.reduceBEq, resultA, resA, vI, Nat.reduceMul, Nat.reduceAdd, Nat.reduceSub, Nat.reduceEqDiff, Nat.reduceLT, Nat.reducePow, Nat.reduceLeDiff, st, Option.bind_eq_bind, Option.pure_def, List.length_nil, Int.cast_ofNat_Int, List.reverse_nil, UU, idxP, cellsAt, storeA, fillA, zerosA, putAll, optNat, sliceA, row, Int.reduceLT, Int.reduceLE, Int.reduceGT, Int.reduceGE, Int.reduceEq, Int.reduceNe, Int.reduceToNat, Int.reduceBEq, Int.reduceBNe, Nat.reduceLeDiff, Nat.reduceLT, Nat.reduceBNe, Nat.reduceGT, List.drop_nil, List.take_nil, Option.isSome_none, Int.ofNat_one, Int.ofNat_zero, c0, c1, w1, q1, q5]
    · have e2 : gcdL 0 l = divS l := by unfold divS; rw [if_neg c1]
      simp only [SS, insA, wantedA, Opd.ev, putA, binA, eqbA, unA, fldA, partA, reduceIte, reduceCtorEq, Nat.reduceMod, Nat.reduceDiv, Nat.reduceBEq, resultA, resA, vI, Nat.reduceMul, Nat.reduceAdd, Nat.reduceSub, Nat.reduceEqDiff, Nat.reduceLT, Nat.reducePow, Nat.reduceLeDiff, st, Option.bind_eq_bind, Option.pure_def, List.length_nil, Int.cast_ofNat_Int, List.reverse_nil, Int.ofNat_zero] at q1 q5
      simp only [F48T1, in48_3, SS, insA, wantedA, Opd.ev, putA, binA, eqbA, unA, fldA, partA, reduceIte, reduceCtorEq, Nat.reduceMod, Nat.reduceDiv, Nat.reduceBEq, resultA, resA, vI, Nat.reduceMul, Nat.reduceAdd, Nat.reduceSub, Nat.reduceEqDiff, Nat.reduceLT, Nat.reducePow, Nat.reduceLeDiff, st, Option.bind_eq_bind, Option.pure_def, List.length_nil, Int.cast_ofNat_Int, List.reverse_nil, UU, idxP, cellsAt, storeA, fillA, zerosA, putAll, optNat, sliceA, row, Int.reduceLT, Int.reduceLE, Int.reduceGT, Int.reduceGE, Int.reduceEq, Int.reduceNe, Int.reduceToNat, Int.reduceBEq, Int.reduceBNe, Nat.reduceLeDiff, Nat.reduceLT, Nat.reduceBNe, Nat.reduceGT, List.drop_nil, List.take_nil, Option.isSome_none, Int.ofNat_one, Int.ofNat_zero, c0, c1, e2, q1, q5]

theorem T48_2 {l : List Int} {set : Int} {id : Nat} {H0 : Heap} (hl : l.length ≤ 20) (h0 : 0 < l.length) (hs : small l) (hid : 0 < id)
    (hA : H0[0]? = some ⟨0, [.nils, vI 0]⟩) (hH : H0[id]? = some ⟨0, l.map vI⟩) :
    freeX H (endX [.cell 4 (some 2), .tmp 5] (codeL E Y F48T2 (st 242 [(1, vI set), (4, .ptr 0 0 0), (8, .sl id 0 1 0 l.length none)]) H0)) = some (resP l set, H) := by
  have h1 := T48_1 (Y := Y) (H := H) (set := set) hl h0 hs hid hA hH
  have h2 := L48_2 (Y := Y) (H := H0) (a4 := .ptr 0 0 0) (a1 := vI set) (sl_reads hH) hl hs l.length 0 0 0 (by omega) (by omega) (by decide)
  simp only [SS, insA, wantedA, Opd.ev, putA, binA, eqbA, unA, fldA, partA, reduceIte, reduceCtorEq, Nat.reduceMod, Nat.reduceDiv, Nat.reduceBEq, resultA, resA, vI, Nat.reduceMul, Nat.reduceAdd, Nat.reduceSub, Nat.reduceEqDiff, Nat.reduceLT, Nat.reducePow, Nat.reduceLeDiff, st, Option.bind_eq_bind, Option.pure_def, List.length_nil, Int.cast_ofNat_Int, List.reverse_nil, Int.ofNat_zero, List.drop_zero, Int.zero_add] at h1 h2
  simp only [F48T2, in48_2, SS, insA, wantedA, Opd.ev, putA, binA, eqbA, unA, fldA, partA, reduceIte, reduceCtorEq, Nat.reduceMod, Nat.reduceDiv, Nat.reduceBEq, resultA, resA, vI, Nat.reduceMul, Nat.reduceAdd, Nat.reduceSub, Nat.reduceEqDiff, Nat.reduceLT, Nat.reducePow, Nat.reduceLeDiff, st, Option.bind_eq_bind, Option.pure_def, List.length_nil, Int.cast_ofNat_Int, List.reverse_nil, UU, idxP, cellsAt, storeA, fillA, zerosA, putAll, optNat, sliceA, row, Int.reduceLT, Int.reduceLE, Int.reduceGT, Int.reduceGE, Int.reduceEq, Int.reduceNe, Int.reduceToNat, Int.reduceBEq, Int.reduceBNe, Nat.reduceLeDiff, Nat.reduceLT, Nat.reduceBNe, Nat.reduceGT, List.drop_nil, List.take_nil, Option.isSome_none, Int.ofNat_one, Int.ofNat_zero, h1, h2]
end
end Go.X
