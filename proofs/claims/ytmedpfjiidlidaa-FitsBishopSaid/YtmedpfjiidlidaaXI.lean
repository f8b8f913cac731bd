import Derived.Test.YtmedpfjiidlidaaXG
/-! Sets of fashions, gains. -/
set_option linter.unusedSimpArgs false
set_option linter.unusedVariables false
namespace Go.X
open Go Go.RowKit
section
variable {Y : Run} {H : Heap}

/-! ### Objects at the heap's end -/
theorem get_last {o : Ob} : (H ++ [o])[H.length]? = some o := by simp
theorem set_last {o o' : Ob} : (H ++ [o]).set H.length o' = H ++ [o'] := by
  rw [List.set_append_right _ _ (Nat.le_refl _)]; simp
theorem zeros_int {n : Nat} : zerosA [vI 0] n = (List.replicate n (0 : Int)).map vI := by
  apply List.ext_getElem
  · simp [zerosA]
  · intro i h1 h2
    simp [zerosA, Nat.mod_one]
theorem mapM_snap {n : Nat} : ∀ (l : List Int), (l.map vI).mapM (snapA H (n + 1)) = some (l.map vI)
  | [] => rfl
  | x :: l => by rw [List.map_cons, mapM_cons', snap_int, mapM_snap l]; rfl
theorem mapM_free {n : Nat} : ∀ (l : List Int), (l.map vI).mapM (freeA H (n + 1)) = some (l.map vI)
  | [] => rfl
  | x :: l => by rw [List.map_cons, mapM_cons', free_int, mapM_free l]; rfl
theorem store_last {l : List Int} {i : Nat} {x : Int} (h : i < l.length) : storeA (H ++ [⟨0, l.map vI⟩]) 1 (.ptr H.length 0 (0 + i * 1)) (vI x) = some (H ++ [⟨0, (l.set i x).map vI⟩]) := by
  simp only [storeA, get_last, cellsOf, List.length_cons, List.length_nil, List.all_cons, List.all_nil, one, set_last, putAll, List.length_map]
  rw [if_pos (by simp; omega)]
  simp [List.map_set]
theorem idx_sl {id n i : Nat} (h : i < n) : idxA 1 (.sl id 0 1 0 n none) (.int .i64 (i : Int)) = some (.ptr id 0 (0 + i * 1)) := by
  simp only [idxA, natOf_nat]
  rw [if_pos ⟨trivial, h⟩]
theorem snap_last {l : List Int} {n : Nat} : snapA (H ++ [⟨0, l.map vI⟩]) (n + 2) (.sl H.length 0 1 0 l.length none) = some (.imm true (l.map vI) l.length) := by
  have h : List.take (l.length * 1) (List.drop 0 (l.map vI)) = l.map vI := by
    rw [List.drop_zero, Nat.mul_one]; exact List.take_of_length_le (by simp)
  rw [snap_sl, get_last, snapS_some, if_pos (by simp), h, mapM_snap, snapB_some]

/-! ### Sets -/
/-- The places that something holds for, as a set. -/
def setS (p : Int → Bool) : List Int → Nat → Nat
  | [], _ => 0
  | x :: l, i => (if p x then 2 ^ i else 0) + setS p l (i + 1)

theorem pow_small {i : Nat} (h : i < 60) : ∃ p : Nat, 2 ^ i = p ∧ 0 < p ∧ p ≤ 1152921504606846976 :=
  ⟨2 ^ i, rfl, Nat.two_pow_pos i, by
    have : (2 : Nat) ^ i ≤ 2 ^ 60 := Nat.pow_le_pow_right (by decide) (by omega)
    exact this⟩

theorem shlW {i : Nat} (h : i < 60) : binA .shl (vI 1) (vI i) = some (vI ((2 ^ i : Nat) : Int)) := by
  simp only [binA, Int.toNat_natCast, IntKind.bits]
  rw [if_pos (by omega), Nat.min_eq_left (by omega)]
  have : (1 : Int) * 2 ^ i = ((2 ^ i : Nat) : Int) := by simp
  rw [this]
  obtain ⟨p, hp, h1, h2⟩ := pow_small h
  rw [hp, wrap_id (by omega) (by omega)]

theorem ofInt_nat (n : Nat) : BitVec.ofInt 64 (n : Int) = BitVec.ofNat 64 n := BitVec.ofInt_natCast _ _

theorem orW {b i : Nat} (h : i < 60) (hb : b < 2 ^ i) : binA .or (vI b) (vI ((2 ^ i : Nat) : Int)) = some (vI ((b + 2 ^ i : Nat) : Int)) := by
  show some (AV.int .i64 (IntKind.wrap .i64 ((BitVec.ofInt 64 (b : Int) ||| BitVec.ofInt 64 ((2 ^ i : Nat) : Int)).toNat : Int))) = _
  have h3 : b ||| 2 ^ i = b + 2 ^ i := by
    have := Nat.two_pow_add_eq_or_of_lt hb 1
    rw [Nat.mul_one] at this
    rw [Nat.or_comm, ← this, Nat.add_comm]
  rw [ofInt_nat, ofInt_nat, BitVec.toNat_or, BitVec.toNat_ofNat, BitVec.toNat_ofNat]
  obtain ⟨p, hp, h1, h2⟩ := pow_small h
  rw [hp] at hb h3 ⊢
  rw [Nat.mod_eq_of_lt (by omega), Nat.mod_eq_of_lt (by omega), h3, wrap_id (by omega) (by omega)]

theorem setS_bound (p : Int → Bool) : ∀ (l : List Int) (i : Nat), setS p l i + 2 ^ i ≤ 2 ^ (i + l.length)
  | [], i => by simp [setS]
  | x :: l, i => by
    have := setS_bound p l (i + 1)
    have h2 : (2 : Nat) ^ (i + 1) = 2 ^ i + 2 ^ i := by rw [Nat.pow_succ]; omega
    have h3 : i + 1 + l.length = i + (x :: l).length := by simp; omega
    rw [h3, h2] at this
    simp only [setS]
    generalize 2 ^ i = a at *
    generalize 2 ^ (i + (x :: l).length) = c at *
    split <;> omega

/-! ### Fashions of a mixture -/
theorem L67 {v : AV} {l : List Int} (hv : IsRow v l) (hl : l.length ≤ 20) (d : Nat) : ∀ (i b : Nat), i + d = l.length → b < 2 ^ i →
    lp E Y F67L0 (st 22 [(3, vI b), (7, v), (8, vI l.length), (9, vI i)]) H = some (.x 0, st 22 [(3, vI ((b + setS (fun x => decide (x > 0)) (l.drop i) i : Nat) : Int))], H) := by
  induction d with
  | zero =>
    intro i b hi hb
    rw [un67_0, List.drop_eq_nil_of_le (by omega)]
    have : ¬ ((i : Int) < (l.length : Int)) := by omega
    simp only [F67L0b, F67, F67B, F67T0, in67_0, SS, insA, wantedA, Opd.ev, putA, binA, eqbA, unA, fldA, partA, reduceIte, reduceCtorEq, Nat.reduceMod, Nat.reduceDiv, Nat.reduceBEq, resultA, resA, vI, Nat.reduceMul, Nat.reduceAdd, Nat.reduceSub, Nat.reduceEqDiff, Nat.reduceLT, Nat.reducePow, Nat.reduceLeDiff, st, Option.bind_eq_bind, Option.pure_def, List.length_nil, Int.cast_ofNat_Int, List.reverse_nil, this, setS, Nat.add_zero]
  | succ d ih =>
    intro i b hi hb
    have hlt : i < l.length := by omega
    rw [un67_0, List.drop_eq_getElem_cons hlt]
    have hc : (i : Int) < (l.length : Int) := by omega
    have hw := wrap_succ (n := i) (by omega)
    have hg : l.getD i 0 = l[i] := by simp [List.getD_eq_getElem?_getD, hlt]
    have h1 := shlW (i := i) (by omega)
    have h2 := orW (i := i) (b := b) (by omega) hb
    have hp : (2 : Nat) ^ (i + 1) = 2 ^ i + 2 ^ i := by rw [Nat.pow_succ]; omega
    simp only [binA] at h1 h2
    by_cases c : l[i] > 0
    · have h3 := ih (i + 1) (b + 2 ^ i) (by omega) (by omega)
      simp only [SS, insA, wantedA, Opd.ev, putA, binA, eqbA, unA, fldA, partA, reduceIte, reduceCtorEq, Nat.reduceMod, Nat.reduceDiv, Nat.reduceBEq, resultA, resA, vI, Nat.reduceMul, Nat.reduceAdd, Nat.reduceSub, Nat.reduceEqDiff, Nat.reduceLT, Nat.reducePow, Nat.reduceLeDiff, st, Option.bind_eq_bind, Option.pure_def, List.length_nil, Int.cast_ofNat_Int, List.reverse_nil] at h3
      simp only [F67L0b, F67, F67B, F67T0, in67_0, SS, insA, wantedA, Opd.ev, putA, binA, eqbA, unA, fldA, partA, reduceIte, reduceCtorEq, Nat.reduceMod, Nat.reduceDiv, Nat.reduceBEq, resultA, resA, vI, Nat.reduceMul, Nat.reduceAdd, Nat.reduceSub, Nat.reduceEqDiff, Nat.reduceLT, Nat.reducePow, Nat.reduceLeDiff, st, Option.bind_eq_bind, Option.pure_def, List.length_nil, Int.cast_ofNat_Int, List.reverse_nil, hc, hv.idx hlt, hv.load hlt, hw, hg, c, h1, h2, h3, setS, decide_true, Nat.add_assoc]
    · have h3 := ih (i + 1) b (by omega) (by omega)
      simp only [SS, insA, wantedA, Opd.ev, putA, binA, eqbA, unA, fldA, partA, reduceIte, reduceCtorEq, Nat.reduceMod, Nat.reduceDiv, Nat.reduceBEq, resultA, resA, vI, Nat.reduceMul, Nat.reduceAdd, Nat.reduceSub, Nat.reduceEqDiff, Nat.reduceLT, Nat.reducePow, Nat.reduceLeDiff, st, Option.bind_eq_bind, Option.pure_def, List.length_nil, Int.cast_ofNat_Int, List.reverse_nil] at h3
      simp only [F67L0b, F67, F67B, F67T0, in67_0, SS, insA, wantedA, Opd.ev, putA, binA, eqbA, unA, fldA, partA, reduceIte, reduceCtorEq, Nat.reduceMod, Nat.reduceDiv, Nat.reduceBEq, resultA, resA, vI, Nat.reduceMul, Nat.reduceAdd, Nat.reduceSub, Nat.reduceEqDiff, Nat.reduceLT, Nat.reducePow, Nat.reduceLeDiff, st, Option.bind_eq_bind, Option.pure_def, List.length_nil, Int.cast_ofNat_Int, List.reverse_nil, hc, hv.idx hlt, hv.load hlt, hw, hg, c, h3, setS, decide_false, Nat.zero_add]

theorem fash67 {v dv : AV} {l : List Int} (hv : IsRow v l) (hl : l.length ≤ 20) : freeX H (callL E Y 67 [.agg [v, dv]] []) = some (vI ((setS (fun x => decide (x > 0)) l 0 : Nat) : Int), H) := by
  rw [call67 rfl]
  have h1 := L67 (Y := Y) (H := [⟨0, [v, dv]⟩]) hv hl l.length 0 0 (by omega) (by simp)
  simp only [SS, insA, wantedA, Opd.ev, putA, binA, eqbA, unA, fldA, partA, reduceIte, reduceCtorEq, Nat.reduceMod, Nat.reduceDiv, Nat.reduceBEq, resultA, resA, vI, Nat.reduceMul, Nat.reduceAdd, Nat.reduceSub, Nat.reduceEqDiff, Nat.reduceLT, Nat.reducePow, Nat.reduceLeDiff, st, Option.bind_eq_bind, Option.pure_def, List.length_nil, Int.cast_ofNat_Int, List.reverse_nil, List.drop_zero, Int.ofNat_zero, Nat.zero_add] at h1
  have hn : (lenA v) = some l.length := hv.len
  simp only [F67, F67B, F67T0, in67_0, SS, insA, wantedA, Opd.ev, putA, binA, eqbA, unA, fldA, partA, reduceIte, reduceCtorEq, Nat.reduceMod, Nat.reduceDiv, Nat.reduceBEq, resultA, resA, vI, Nat.reduceMul, Nat.reduceAdd, Nat.reduceSub, Nat.reduceEqDiff, Nat.reduceLT, Nat.reducePow, Nat.reduceLeDiff, st, Option.bind_eq_bind, Option.pure_def, List.length_nil, Int.cast_ofNat_Int, List.reverse_nil, UU, idxP, cellsAt, storeA, fillA, zerosA, putAll, optNat, sliceA, row, Int.reduceLT, Int.reduceLE, Int.reduceGT, Int.reduceGE, Int.reduceEq, Int.reduceNe, Int.reduceToNat, Int.reduceBEq, Int.reduceBNe, Nat.reduceLeDiff, Nat.reduceLT, Nat.reduceBNe, Nat.reduceGT, List.drop_nil, List.take_nil, Option.isSome_none, Int.ofNat_one, Int.ofNat_zero, hn, h1]

/-- A place in the heap's first object. -/
theorem load_first {v dv : AV} {R : Heap} : loadA (⟨0, [v, dv]⟩ :: R) none (.ptr 0 0 0) = some v := rfl

theorem L36 {v dv : AV} {l : List Int} (hv : IsRow v l) (hl : l.length ≤ 20) (d : Nat) : ∀ (i b : Nat), i + d = l.length → b < 2 ^ i →
    lp E Y F36L0 (st 23 [(1, .ptr 0 0 0), (3, vI b), (4, vI i)]) [⟨0, [v, dv]⟩] = some (.x 0, st 23 [(3, vI ((b + setS (fun x => decide (x > 0)) (l.drop i) i : Nat) : Int))], [⟨0, [v, dv]⟩]) := by
  induction d with
  | zero =>
    intro i b hi hb
    rw [un36_0, List.drop_eq_nil_of_le (by omega)]
    have : ¬ ((i : Int) < (l.length : Int)) := by omega
    simp only [F36L0b, F36, F36B, F36T0, in36_0, SS, insA, wantedA, Opd.ev, putA, binA, eqbA, unA, fldA, partA, reduceIte, reduceCtorEq, Nat.reduceMod, Nat.reduceDiv, Nat.reduceBEq, resultA, resA, vI, Nat.reduceMul, Nat.reduceAdd, Nat.reduceSub, Nat.reduceEqDiff, Nat.reduceLT, Nat.reducePow, Nat.reduceLeDiff, st, Option.bind_eq_bind, Option.pure_def, List.length_nil, Int.cast_ofNat_Int, List.reverse_nil, load_first, fldA, hv.len, this, setS, Nat.add_zero]
  | succ d ih =>
    intro i b hi hb
    have hlt : i < l.length := by omega
    rw [un36_0, List.drop_eq_getElem_cons hlt]
    have hc : (i : Int) < (l.length : Int) := by omega
    have hw := wrap_succ (n := i) (by omega)
    have hg : l.getD i 0 = l[i] := by simp [List.getD_eq_getElem?_getD, hlt]
    have h1 := shlW (i := i) (by omega)
    have hp : (2 : Nat) ^ (i + 1) = 2 ^ i + 2 ^ i := by rw [Nat.pow_succ]; omega
    have h2 : IntKind.wrap .i64 ((b : Int) + ((2 ^ i : Nat) : Int)) = ((b + 2 ^ i : Nat) : Int) := by
      obtain ⟨p, hp', q1, q2⟩ := pow_small (i := i) (by omega)
      rw [hp'] at hb ⊢
      rw [wrap_id (by omega) (by omega)]; rfl
    simp only [binA] at h1
    by_cases c : l[i] > 0
    · have h3 := ih (i + 1) (b + 2 ^ i) (by omega) (by omega)
      simp only [SS, insA, wantedA, Opd.ev, putA, binA, eqbA, unA, fldA, partA, reduceIte, reduceCtorEq, Nat.reduceMod, Nat.reduceDiv, Nat.reduceBEq, resultA, resA, vI, Nat.reduceMul, Nat.reduceAdd, Nat.reduceSub, Nat.reduceEqDiff, Nat.reduceLT, Nat.reducePow, Nat.reduceLeDiff, st, Option.bind_eq_bind, Option.pure_def, List.length_nil, Int.cast_ofNat_Int, List.reverse_nil] at h3
      simp only [F36L0b, F36, F36B, F36T0, in36_0, SS, insA, wantedA, Opd.ev, putA, binA, eqbA, unA, fldA, partA, reduceIte, reduceCtorEq, Nat.reduceMod, Nat.reduceDiv, Nat.reduceBEq, resultA, resA, vI, Nat.reduceMul, Nat.reduceAdd, Nat.reduceSub, Nat.reduceEqDiff, Nat.reduceLT, Nat.reducePow, Nat.reduceLeDiff, st, Option.bind_eq_bind, Option.pure_def, List.length_nil, Int.cast_ofNat_Int, List.reverse_nil, load_first, fldA, hv.len, hc, hv.idx hlt, hv.load hlt, hw, hg, c, h1, h2, h3, setS, decide_true, Nat.add_assoc]
    · have h3 := ih (i + 1) b (by omega) (by omega)
      simp only [SS, insA, wantedA, Opd.ev, putA, binA, eqbA, unA, fldA, partA, reduceIte, reduceCtorEq, Nat.reduceMod, Nat.reduceDiv, Nat.reduceBEq, resultA, resA, vI, Nat.reduceMul, Nat.reduceAdd, Nat.reduceSub, Nat.reduceEqDiff, Nat.reduceLT, Nat.reducePow, Nat.reduceLeDiff, st, Option.bind_eq_bind, Option.pure_def, List.length_nil, Int.cast_ofNat_Int, List.reverse_nil] at h3
      simp only [F36L0b, F36, F36B, F36T0, in36_0, SS, insA, wantedA, Opd.ev, putA, binA, eqbA, unA, fldA, partA, reduceIte, reduceCtorEq, Nat.reduceMod, Nat.reduceDiv, Nat.reduceBEq, resultA, resA, vI, Nat.reduceMul, Nat.reduceAdd, Nat.reduceSub, Nat.reduceEqDiff, Nat.reduceLT, Nat.reducePow, Nat.reduceLeDiff, st, Option.bind_eq_bind, Option.pure_def, List.length_nil, Int.cast_ofNat_Int, List.reverse_nil, load_first, fldA, hv.len, hc, hv.idx hlt, hv.load hlt, hw, hg, c, h3, setS, decide_false, Nat.zero_add]

theorem fash36 {v dv : AV} {l : List Int} (hv : IsRow v l) (hl : l.length ≤ 20) : freeX H (callL E Y 36 [.agg [v, dv]] []) = some (vI ((setS (fun x => decide (x > 0)) l 0 : Nat) : Int), H) := by
  rw [call36 rfl]
  have h1 := L36 (Y := Y) (dv := dv) hv hl l.length 0 0 (by omega) (by simp)
  simp only [SS, insA, wantedA, Opd.ev, putA, binA, eqbA, unA, fldA, partA, reduceIte, reduceCtorEq, Nat.reduceMod, Nat.reduceDiv, Nat.reduceBEq, resultA, resA, vI, Nat.reduceMul, Nat.reduceAdd, Nat.reduceSub, Nat.reduceEqDiff, Nat.reduceLT, Nat.reducePow, Nat.reduceLeDiff, st, Option.bind_eq_bind, Option.pure_def, List.length_nil, Int.cast_ofNat_Int, List.reverse_nil, List.drop_zero, Int.ofNat_zero, Nat.zero_add] at h1
  simp only [F36, F36B, F36T0, in36_0, SS, insA, wantedA, Opd.ev, putA, binA, eqbA, unA, fldA, partA, reduceIte, reduceCtorEq, Nat.reduceMod, Nat.reduceDiv, Nat.reduceBEq, resultA, resA, vI, Nat.reduceMul, Nat.reduceAdd, Nat.reduceSub, Nat.reduceEqDiff, Nat.reduceLT, Nat.reducePow, Nat.reduceLeDiff, st, Option.bind_eq_bind, Option.pure_def, List.length_nil, Int.cast_ofNat_Int, List.reverse_nil, UU, idxP, cellsAt, storeA, fillA, zerosA, putAll, optNat, sliceA, row, Int.reduceLT, Int.reduceLE, Int.reduceGT, Int.reduceGE, Int.reduceEq, Int.reduceNe, Int.reduceToNat, Int.reduceBEq, Int.reduceBNe, Nat.reduceLeDiff, Nat.reduceLT, Nat.reduceBNe, Nat.reduceGT, List.drop_nil, List.take_nil, Option.isSome_none, Int.ofNat_one, Int.ofNat_zero, h1]

/-! ### The best fashions -/
theorem row_is {s : Bool} {l : List Int} : IsRow (row s l) l := .imm s l

theorem L62 {v : AV} {l : List Int} (hv : IsRow v l) (hl : l.length ≤ 20) (h0 : 0 < l.length) (d : Nat) : ∀ (i b : Nat), i + d = l.length → b < 2 ^ i →
    lp E Y F62L0 (st 29 [(5, v), (6, vI b), (12, v), (13, vI l.length), (14, vI i)]) H = some (.x 0, st 29 [(6, vI ((b + setS (fun x => x == maxI l) (l.drop i) i : Nat) : Int))], H) := by
  have hm := max66 (Y := Y) (H := []) hv (by omega) h0
  induction d with
  | zero =>
    intro i b hi hb
    rw [un62_0, List.drop_eq_nil_of_le (by omega)]
    have : ¬ ((i : Int) < (l.length : Int)) := by omega
    simp only [F62L0b, F62, F62B, F62T0, in62_0, SS, insA, wantedA, Opd.ev, putA, binA, eqbA, unA, fldA, partA, reduceIte, reduceCtorEq, Nat.reduceMod, Nat.reduceDiv, Nat.reduceBEq, resultA, resA, vI, Nat.reduceMul, Nat.reduceAdd, Nat.reduceSub, Nat.reduceEqDiff, Nat.reduceLT, Nat.reducePow, Nat.reduceLeDiff, st, Option.bind_eq_bind, Option.pure_def, List.length_nil, Int.cast_ofNat_Int, List.reverse_nil, this, setS, Nat.add_zero]
  | succ d ih =>
    intro i b hi hb
    have hlt : i < l.length := by omega
    rw [un62_0, List.drop_eq_getElem_cons hlt]
    have hc : (i : Int) < (l.length : Int) := by omega
    have hw := wrap_succ (n := i) (by omega)
    have hg : l.getD i 0 = l[i] := by simp [List.getD_eq_getElem?_getD, hlt]
    have h1 := shlW (i := i) (by omega)
    have h2 := orW (i := i) (b := b) (by omega) hb
    have hp : (2 : Nat) ^ (i + 1) = 2 ^ i + 2 ^ i := by rw [Nat.pow_succ]; omega
    simp only [binA] at h1 h2
    by_cases c : l[i] = maxI l
    · have h3 := ih (i + 1) (b + 2 ^ i) (by omega) (by omega)
      have c' : (l[i] == maxI l) = true := by simpa using c
      simp only [SS, insA, wantedA, Opd.ev, putA, binA, eqbA, unA, fldA, partA, reduceIte, reduceCtorEq, Nat.reduceMod, Nat.reduceDiv, Nat.reduceBEq, resultA, resA, vI, Nat.reduceMul, Nat.reduceAdd, Nat.reduceSub, Nat.reduceEqDiff, Nat.reduceLT, Nat.reducePow, Nat.reduceLeDiff, st, Option.bind_eq_bind, Option.pure_def, List.length_nil, Int.cast_ofNat_Int, List.reverse_nil] at h3
      simp only [F62L0b, F62, F62B, F62T0, in62_0, SS, insA, wantedA, Opd.ev, putA, binA, eqbA, unA, fldA, partA, reduceIte, reduceCtorEq, Nat.reduceMod, Nat.reduceDiv, Nat.reduceBEq, resultA, resA, vI, Nat.reduceMul, Nat.reduceAdd, Nat.reduceSub, Nat.reduceEqDiff, Nat.reduceLT, Nat.reducePow, Nat.reduceLeDiff, st, Option.bind_eq_bind, Option.pure_def, List.length_nil, Int.cast_ofNat_Int, List.reverse_nil, hc, hv.idx hlt, hv.load hlt, hv.snap, hm, hw, hg, c', h1, h2, h3, setS, decide_true, Nat.add_assoc]
    · have h3 := ih (i + 1) b (by omega) (by omega)
      have c' : (l[i] == maxI l) = false := by simpa using c
      simp only [SS, insA, wantedA, Opd.ev, putA, binA, eqbA, unA, fldA, partA, reduceIte, reduceCtorEq, Nat.reduceMod, Nat.reduceDiv, Nat.reduceBEq, resultA, resA, vI, Nat.reduceMul, Nat.reduceAdd, Nat.reduceSub, Nat.reduceEqDiff, Nat.reduceLT, Nat.reducePow, Nat.reduceLeDiff, st, Option.bind_eq_bind, Option.pure_def, List.length_nil, Int.cast_ofNat_Int, List.reverse_nil] at h3
      simp only [F62L0b, F62, F62B, F62T0, in62_0, SS, insA, wantedA, Opd.ev, putA, binA, eqbA, unA, fldA, partA, reduceIte, reduceCtorEq, Nat.reduceMod, Nat.reduceDiv, Nat.reduceBEq, resultA, resA, vI, Nat.reduceMul, Nat.reduceAdd, Nat.reduceSub, Nat.reduceEqDiff, Nat.reduceLT, Nat.reducePow, Nat.reduceLeDiff, st, Option.bind_eq_bind, Option.pure_def, List.length_nil, Int.cast_ofNat_Int, List.reverse_nil, hc, hv.idx hlt, hv.load hlt, hv.snap, hm, hw, hg, c, c', h3, setS, decide_false, Nat.zero_add]

theorem best62 {vt yv : AV} {t : List (List Int)} {ys g : List Int} {den : Int} (ht : IsTab vt t) (hy : IsRow yv ys) (hl : g.length ≤ 20) (h0 : 0 < g.length)
    (h71 : ∀ H, freeX H (callL E Y 71 [vt, .agg [yv, vI den]] []) = some (row false g, H)) :
    freeX H (callL E Y 62 [vt, .agg [yv, vI den]] []) = some (vI ((setS (fun x => x == maxI g) g 0 : Nat) : Int), H) := by
  rw [call62 rfl]
  have h1 := L62 (Y := Y) (H := [⟨0, [yv, vI den]⟩]) (row_is (s := false) (l := g)) hl h0 g.length 0 0 (by omega) (by simp)
  simp only [SS, insA, wantedA, Opd.ev, putA, binA, eqbA, unA, fldA, partA, reduceIte, reduceCtorEq, Nat.reduceMod, Nat.reduceDiv, Nat.reduceBEq, resultA, resA, vI, Nat.reduceMul, Nat.reduceAdd, Nat.reduceSub, Nat.reduceEqDiff, Nat.reduceLT, Nat.reducePow, Nat.reduceLeDiff, st, Option.bind_eq_bind, Option.pure_def, List.length_nil, Int.cast_ofNat_Int, List.reverse_nil, List.drop_zero, Int.ofNat_zero, Nat.zero_add, row] at h1 h71
  have hyn := hy.snap (H := [⟨0, [yv, vI den]⟩]) (n := 4)
  simp only [F62, F62B, F62T0, in62_0, SS, insA, wantedA, Opd.ev, putA, binA, eqbA, unA, fldA, partA, reduceIte, reduceCtorEq, Nat.reduceMod, Nat.reduceDiv, Nat.reduceBEq, resultA, resA, vI, Nat.reduceMul, Nat.reduceAdd, Nat.reduceSub, Nat.reduceEqDiff, Nat.reduceLT, Nat.reducePow, Nat.reduceLeDiff, st, Option.bind_eq_bind, Option.pure_def, List.length_nil, Int.cast_ofNat_Int, List.reverse_nil, UU, idxP, cellsAt, storeA, fillA, zerosA, putAll, optNat, sliceA, row, Int.reduceLT, Int.reduceLE, Int.reduceGT, Int.reduceGE, Int.reduceEq, Int.reduceNe, Int.reduceToNat, Int.reduceBEq, Int.reduceBNe, Nat.reduceLeDiff, Nat.reduceLT, Nat.reduceBNe, Nat.reduceGT, List.drop_nil, List.take_nil, Option.isSome_none, Int.ofNat_one, Int.ofNat_zero, ht.snap, hy.snap, h71, h1]

/-- Whether one set is within another one. -/
def subS (o b : Nat) : Bool := IntKind.wrap .i64 ((BitVec.ofInt 64 (o : Int) &&& ~~~BitVec.ofInt 64 (b : Int)).toNat : Int) == 0

theorem rests60 {vt yv : AV} {t : List (List Int)} {ys : List Int} {den : Int} {o b : Nat} (ht : IsTab vt t) (hy : IsRow yv ys)
    (h67 : ∀ H, freeX H (callL E Y 67 [.agg [yv, vI den]] []) = some (vI (o : Int), H)) (h62 : ∀ H, freeX H (callL E Y 62 [vt, .agg [yv, vI den]] []) = some (vI (b : Int), H)) :
    freeX H (callL E Y 60 [vt, .agg [yv, vI den]] []) = some (.bool (subS o b), H) := by
  rw [call60 rfl]
  simp only [SS, insA, wantedA, Opd.ev, putA, binA, eqbA, unA, fldA, partA, reduceIte, reduceCtorEq, Nat.reduceMod, Nat.reduceDiv, Nat.reduceBEq, resultA, resA, vI, Nat.reduceMul, Nat.reduceAdd, Nat.reduceSub, Nat.reduceEqDiff, Nat.reduceLT, Nat.reducePow, Nat.reduceLeDiff, st, Option.bind_eq_bind, Option.pure_def, List.length_nil, Int.cast_ofNat_Int, List.reverse_nil] at h67 h62
  simp only [F60, F60B, SS, insA, wantedA, Opd.ev, putA, binA, eqbA, unA, fldA, partA, reduceIte, reduceCtorEq, Nat.reduceMod, Nat.reduceDiv, Nat.reduceBEq, resultA, resA, vI, Nat.reduceMul, Nat.reduceAdd, Nat.reduceSub, Nat.reduceEqDiff, Nat.reduceLT, Nat.reducePow, Nat.reduceLeDiff, st, Option.bind_eq_bind, Option.pure_def, List.length_nil, Int.cast_ofNat_Int, List.reverse_nil, UU, idxP, cellsAt, storeA, fillA, zerosA, putAll, optNat, sliceA, row, Int.reduceLT, Int.reduceLE, Int.reduceGT, Int.reduceGE, Int.reduceEq, Int.reduceNe, Int.reduceToNat, Int.reduceBEq, Int.reduceBNe, Nat.reduceLeDiff, Nat.reduceLT, Nat.reduceBNe, Nat.reduceGT, List.drop_nil, List.take_nil, Option.isSome_none, Int.ofNat_one, Int.ofNat_zero, bitsA, ht.snap, hy.snap, h67, h62, subS]
  rfl

/-! ### Gains -/
def dotX (x : Int) : List Int → List Int → Int
  | a :: r, y :: ys => x * y * a + dotX x r ys
  | _, _ => 0
def gainS : List (List Int) → List Int → List Int → Int
  | r :: t, x :: xs, ys => dotX x r ys + gainS t xs ys
  | _, _, _ => 0

theorem mulB {a b A B : Int} (ha : -A ≤ a ∧ a ≤ A) (hb : -B ≤ b ∧ b ≤ B) : -(A * B) ≤ a * b ∧ a * b ≤ A * B := by
  have h1 : (a * b).natAbs ≤ A.toNat * B.toNat := by rw [Int.natAbs_mul]; exact Nat.mul_le_mul (by omega) (by omega)
  have hA : 0 ≤ A := by omega
  have hB : 0 ≤ B := by omega
  have : ((A.toNat * B.toNat : Nat) : Int) = A * B := by simp [Int.toNat_of_nonneg hA, Int.toNat_of_nonneg hB]
  omega

def small (l : List Int) : Prop := ∀ x ∈ l, -100000 ≤ x ∧ x ≤ 100000
def tame (t : List (List Int)) : Prop := ∀ r ∈ t, inB r

theorem L59_0 {vt xv yv : AV} {t : List (List Int)} {xs ys : List Int} (ht : IsTab vt t) (hx : IsRow xv xs) (hy : IsRow yv ys) (hn : t.length ≤ 20) (hxl : xs.length = t.length) (hyl : ys.length = t.length)
    (hT : tame t) (hX : small xs) (hY : small ys) {i : Nat} (hi : i < t.length) (hr : t[i].length = t.length) (d : Nat) : ∀ (k : Nat) (acc : Int), k + d = t.length → acc.natAbs + d * 1000000000000 ≤ 1000000000000000000 →
    lp E Y F59L0 (st 42 [(0, vt), (1, xv), (2, yv), (7, vI acc), (8, vI i), (9, vI k)]) H = some (.x 2, st 42 [(0, vt), (1, xv), (2, yv), (7, vI (acc + dotX (xs.getD i 0) (t[i].drop k) (ys.drop k))), (8, vI i)], H) := by
  have hrow := ht.row hi
  have hg : t.getD i [] = t[i] := by simp [List.getD_eq_getElem?_getD, hi]
  rw [hg] at hrow
  have hix : i < xs.length := by omega
  have hxi : xs.getD i 0 = xs[i] := by simp [List.getD_eq_getElem?_getD, hix]
  induction d with
  | zero =>
    intro k acc hk hacc
    rw [un59_0, List.drop_eq_nil_of_le (by omega)]
    have : ¬ ((k : Int) < (t.length : Int)) := by omega
    simp only [F59L0b, F59, F59B, F59T0, F59T1, in59_0, in59_1, SS, insA, wantedA, Opd.ev, putA, binA, eqbA, unA, fldA, partA, reduceIte, reduceCtorEq, Nat.reduceMod, Nat.reduceDiv, Nat.reduceBEq, resultA, resA, vI, Nat.reduceMul, Nat.reduceAdd, Nat.reduceSub, Nat.reduceEqDiff, Nat.reduceLT, Nat.reducePow, Nat.reduceLeDiff, st, Option.bind_eq_bind, Option.pure_def, List.length_nil, Int.cast_ofNat_Int, List.reverse_nil, ht.len, this, dotX, Int.add_zero]
  | succ d ih =>
    intro k acc hk hacc
    have hlt : k < t.length := by omega
    have hky : k < ys.length := by omega
    have hkr : k < t[i].length := by omega
    rw [un59_0, List.drop_eq_getElem_cons hkr, List.drop_eq_getElem_cons hky]
    have hc : (k : Int) < (t.length : Int) := by omega
    have hw := wrap_succ (n := k) (by omega)
    have hgy : ys.getD k 0 = ys[k] := by simp [List.getD_eq_getElem?_getD, hky]
    have hga : t[i].getD k 0 = t[i][k] := by simp [List.getD_eq_getElem?_getD, hkr]
    have b1 := hX xs[i] (by simp)
    have b2 := hY ys[k] (by simp)
    have b3 := hT t[i] (by simp) t[i][k] (by simp)
    have b4 := mulB b1 b2
    have b5 := mulB b4 (B := 20) (by omega)
    have w1 : IntKind.wrap .i64 (xs[i] * ys[k]) = xs[i] * ys[k] := wrap_id (by omega) (by omega)
    have w2 : IntKind.wrap .i64 (xs[i] * ys[k] * t[i][k]) = xs[i] * ys[k] * t[i][k] := wrap_id (by omega) (by omega)
    have w3 : IntKind.wrap .i64 (acc + xs[i] * ys[k] * t[i][k]) = acc + xs[i] * ys[k] * t[i][k] := wrap_id (by omega) (by omega)
    have h3 := ih (k + 1) (acc + xs[i] * ys[k] * t[i][k]) (by omega) (by omega)
    rw [hxi] at h3 ⊢
    simp only [SS, insA, wantedA, Opd.ev, putA, binA, eqbA, unA, fldA, partA, reduceIte, reduceCtorEq, Nat.reduceMod, Nat.reduceDiv, Nat.reduceBEq, resultA, resA, vI, Nat.reduceMul, Nat.reduceAdd, Nat.reduceSub, Nat.reduceEqDiff, Nat.reduceLT, Nat.reducePow, Nat.reduceLeDiff, st, Option.bind_eq_bind, Option.pure_def, List.length_nil, Int.cast_ofNat_Int, List.reverse_nil] at h3
    simp only [F59L0b, F59, F59B, F59T0, F59T1, in59_0, in59_1, SS, insA, wantedA, Opd.ev, putA, binA, eqbA, unA, fldA, partA, reduceIte, reduceCtorEq, Nat.reduceMod, Nat.reduceDiv, Nat.reduceBEq, resultA, resA, vI, Nat.reduceMul, Nat.reduceAdd, Nat.reduceSub, Nat.reduceEqDiff, Nat.reduceLT, Nat.reducePow, Nat.reduceLeDiff, st, Option.bind_eq_bind, Option.pure_def, List.length_nil, Int.cast_ofNat_Int, List.reverse_nil, ht.len, ht.idx hi, ht.load hi, hrow.idx hkr, hrow.load hkr, hx.idx hix, hx.load hix, hy.idx hky, hy.load hky, hxi, hgy, hga, hc, hw, w1, w2, w3, h3, dotX, Int.add_assoc]

theorem dotX_bound {x : Int} (hx : -100000 ≤ x ∧ x ≤ 100000) : ∀ {r ys : List Int}, inB r → small ys → (dotX x r ys).natAbs ≤ r.length * 1000000000000
  | [], _, _, _ => by simp [dotX]
  | a :: r, [], _, _ => by simp [dotX]
  | a :: r, y :: ys, hr, hy => by
    have h1 := dotX_bound hx (r := r) (ys := ys) (fun z hz => hr z (List.mem_cons_of_mem _ hz)) (fun z hz => hy z (List.mem_cons_of_mem _ hz))
    have b4 := mulB hx (hy y (by simp))
    have b5 := mulB b4 (B := 20) (hr a (by simp))
    simp only [dotX, List.length_cons]
    omega

theorem L59_1 {vt xv yv : AV} {t : List (List Int)} {xs ys : List Int} (ht : IsTab vt t) (hx : IsRow xv xs) (hy : IsRow yv ys) (hn : t.length ≤ 20) (hxl : xs.length = t.length) (hyl : ys.length = t.length)
    (hT : tame t) (hX : small xs) (hY : small ys) (hr : ∀ r ∈ t, r.length = t.length) (d : Nat) : ∀ (i : Nat) (acc : Int), i + d = t.length → acc.natAbs + d * 100000000000000 ≤ 10000000000000000 →
    lp E Y F59L1 (st 42 [(0, vt), (1, xv), (2, yv), (7, vI acc), (8, vI i)]) H = some (.x 0, st 42 [(7, vI (acc + gainS (t.drop i) (xs.drop i) ys))], H) := by
  induction d with
  | zero =>
    intro i acc hi hacc
    rw [un59_1, List.drop_eq_nil_of_le (by omega)]
    have : ¬ ((i : Int) < (t.length : Int)) := by omega
    simp only [F59L1b, F59, F59B, F59T0, F59T1, in59_0, in59_1, SS, insA, wantedA, Opd.ev, putA, binA, eqbA, unA, fldA, partA, reduceIte, reduceCtorEq, Nat.reduceMod, Nat.reduceDiv, Nat.reduceBEq, resultA, resA, vI, Nat.reduceMul, Nat.reduceAdd, Nat.reduceSub, Nat.reduceEqDiff, Nat.reduceLT, Nat.reducePow, Nat.reduceLeDiff, st, Option.bind_eq_bind, Option.pure_def, List.length_nil, Int.cast_ofNat_Int, List.reverse_nil, ht.len, this, gainS, Int.add_zero]
  | succ d ih =>
    intro i acc hi hacc
    have hlt : i < t.length := by omega
    have hix : i < xs.length := by omega
    rw [un59_1, List.drop_eq_getElem_cons hlt, List.drop_eq_getElem_cons hix]
    have hc : (i : Int) < (t.length : Int) := by omega
    have hw := wrap_succ (n := i) (by omega)
    have hxi : xs.getD i 0 = xs[i] := by simp [List.getD_eq_getElem?_getD, hix]
    have hri := hr t[i] (by simp)
    have hq1 : t.length * 1000000000000 ≤ 20 * 1000000000000 := Nat.mul_le_mul_right _ hn
    have hq2 : acc.natAbs ≤ 10000000000000000 := Nat.le_trans (Nat.le_add_right _ _) hacc
    have hq : acc.natAbs + t.length * 1000000000000 ≤ 1000000000000000000 := Nat.le_trans (Nat.add_le_add hq2 hq1) (by decide)
    have h0 := L59_0 (Y := Y) (H := H) ht hx hy hn hxl hyl hT hX hY hlt hri t.length 0 acc (Nat.zero_add _) hq
    have hb := dotX_bound (hX xs[i] (by simp)) (hT t[i] (by simp)) hY
    rw [hri] at hb
    have h3 := ih (i + 1) (acc + dotX xs[i] t[i] ys) (by omega) (by omega)
    rw [hxi] at h0
    simp only [SS, insA, wantedA, Opd.ev, putA, binA, eqbA, unA, fldA, partA, reduceIte, reduceCtorEq, Nat.reduceMod, Nat.reduceDiv, Nat.reduceBEq, resultA, resA, vI, Nat.reduceMul, Nat.reduceAdd, Nat.reduceSub, Nat.reduceEqDiff, Nat.reduceLT, Nat.reducePow, Nat.reduceLeDiff, st, Option.bind_eq_bind, Option.pure_def, List.length_nil, Int.cast_ofNat_Int, List.reverse_nil, List.drop_zero, Int.ofNat_zero] at h0
    simp only [SS, insA, wantedA, Opd.ev, putA, binA, eqbA, unA, fldA, partA, reduceIte, reduceCtorEq, Nat.reduceMod, Nat.reduceDiv, Nat.reduceBEq, resultA, resA, vI, Nat.reduceMul, Nat.reduceAdd, Nat.reduceSub, Nat.reduceEqDiff, Nat.reduceLT, Nat.reducePow, Nat.reduceLeDiff, st, Option.bind_eq_bind, Option.pure_def, List.length_nil, Int.cast_ofNat_Int, List.reverse_nil] at h3
    simp only [F59L1b, F59, F59B, F59T0, F59T1, in59_0, in59_1, SS, insA, wantedA, Opd.ev, putA, binA, eqbA, unA, fldA, partA, reduceIte, reduceCtorEq, Nat.reduceMod, Nat.reduceDiv, Nat.reduceBEq, resultA, resA, vI, Nat.reduceMul, Nat.reduceAdd, Nat.reduceSub, Nat.reduceEqDiff, Nat.reduceLT, Nat.reducePow, Nat.reduceLeDiff, st, Option.bind_eq_bind, Option.pure_def, List.length_nil, Int.cast_ofNat_Int, List.reverse_nil, ht.len, hc, hw, h0, h3, gainS, Int.add_assoc]

theorem gain59 {vt xv yv : AV} {t : List (List Int)} {xs ys : List Int} (ht : IsTab vt t) (hx : IsRow xv xs) (hy : IsRow yv ys) (hn : t.length ≤ 20) (hxl : xs.length = t.length) (hyl : ys.length = t.length)
    (hT : tame t) (hX : small xs) (hY : small ys) (hr : ∀ r ∈ t, r.length = t.length) : freeX H (callL E Y 59 [vt, xv, yv] []) = some (vI (gainS t xs ys), H) := by
  rw [call59 rfl]
  have h1 := L59_1 (Y := Y) (H := []) ht hx hy hn hxl hyl hT hX hY hr t.length 0 0 (by omega) (by omega)
  simp only [SS, insA, wantedA, Opd.ev, putA, binA, eqbA, unA, fldA, partA, reduceIte, reduceCtorEq, Nat.reduceMod, Nat.reduceDiv, Nat.reduceBEq, resultA, resA, vI, Nat.reduceMul, Nat.reduceAdd, Nat.reduceSub, Nat.reduceEqDiff, Nat.reduceLT, Nat.reducePow, Nat.reduceLeDiff, st, Option.bind_eq_bind, Option.pure_def, List.length_nil, Int.cast_ofNat_Int, List.reverse_nil, List.drop_zero, Int.ofNat_zero, Int.zero_add] at h1
  simp only [F59, F59B, F59T0, F59T1, in59_0, in59_1, SS, insA, wantedA, Opd.ev, putA, binA, eqbA, unA, fldA, partA, reduceIte, reduceCtorEq, Nat.reduceMod, Nat.reduceDiv, Nat.reduceBEq, resultA, resA, vI, Nat.reduceMul, Nat.reduceAdd, Nat.reduceSub, Nat.reduceEqDiff, Nat.reduceLT, Nat.reducePow, Nat.reduceLeDiff, st, Option.bind_eq_bind, Option.pure_def, List.length_nil, Int.cast_ofNat_Int, List.reverse_nil, h1]

/-! ### The best fashions, by the specification -/
/-- One fashion more: the set so far, and what its fashions gain. -/
def stepB (s : Nat × Int) (i : Nat) (g : Int) : Nat × Int :=
  if s.1 = 0 ∨ g > s.2 then (2 ^ i, g) else if g = s.2 then (s.1 + 2 ^ i, s.2) else s
def runB : List Int → Nat → Nat × Int → Nat × Int
  | [], _, s => s
  | g :: l, i, s => runB l (i + 1) (stepB s i g)

def unit (n i : Nat) : List Int := (List.replicate n 0).set i 1

theorem unit_small (n i : Nat) : small (unit n i) := by
  intro x hx
  rcases List.mem_or_eq_of_mem_set hx with h | h
  · have := (List.mem_replicate.1 h).2; omega
  · omega

theorem stepB_bound {s : Nat × Int} {i : Nat} {g : Int} (h : s.1 < 2 ^ i) : (stepB s i g).1 < 2 ^ (i + 1) := by
  have h2 : (2 : Nat) ^ (i + 1) = 2 ^ i + 2 ^ i := by rw [Nat.pow_succ]; omega
  unfold stepB
  generalize 2 ^ i = a at *
  split
  · simp only; omega
  · split
    · simp only; omega
    · omega

theorem L61 {vt yv : AV} {t : List (List Int)} {ys : List Int} {den : Int} (ht : IsTab vt t) (hy : IsRow yv ys) (hn : t.length ≤ 20) (hyl : ys.length = t.length)
    (hT : tame t) (hY : small ys) (hr : ∀ r ∈ t, r.length = t.length) (d : Nat) : ∀ (i b : Nat) (mo : Int) (R : Heap), i + d = t.length → b < 2 ^ i →
    ∃ R', lp E Y F61L0 (st 43 [(0, vt), (3, .ptr 0 0 0), (5, vI b), (6, vI mo), (7, vI i)]) (⟨0, [yv, vI den]⟩ :: R) =
      some (.x 0, st 43 [(5, vI ((runB ((List.range' i d).map fun j => gainS t (unit t.length j) ys) i (b, mo)).1 : Int))], R') := by
  induction d with
  | zero =>
    intro i b mo R hi hb
    refine ⟨⟨0, [yv, vI den]⟩ :: R, ?_⟩
    rw [un61_0]
    have : ¬ ((i : Int) < (t.length : Int)) := by omega
    simp only [F61L0b, F61, F61B, F61T0, in61_0, SS, insA, wantedA, Opd.ev, putA, binA, eqbA, unA, fldA, partA, reduceIte, reduceCtorEq, Nat.reduceMod, Nat.reduceDiv, Nat.reduceBEq, resultA, resA, vI, Nat.reduceMul, Nat.reduceAdd, Nat.reduceSub, Nat.reduceEqDiff, Nat.reduceLT, Nat.reducePow, Nat.reduceLeDiff, st, Option.bind_eq_bind, Option.pure_def, List.length_nil, Int.cast_ofNat_Int, List.reverse_nil, ht.len, this, List.range'_zero, runB]
  | succ d ih =>
    intro i b mo R hi hb
    have hlt : i < t.length := by omega
    have hc : (i : Int) < (t.length : Int) := by omega
    have hw := wrap_succ (n := i) (by omega)
    have hu : (unit t.length i).length = t.length := by simp [unit]
    have hg := gain59 (Y := Y) (H := (⟨0, [yv, vI den]⟩ :: R) ++ [⟨0, (unit t.length i).map vI⟩]) ht (.imm true (unit t.length i)) hy hn hu hyl hT (unit_small _ _) hY hr
    rw [hu] at hg
    have hs := snap_last (H := ⟨0, [yv, vI den]⟩ :: R) (l := unit t.length i) (n := 4)
    rw [hu] at hs
    have hst := store_last (H := ⟨0, [yv, vI den]⟩ :: R) (l := List.replicate t.length 0) (i := i) (x := 1) (by simp; omega)
    have hix := idx_sl (id := (⟨0, [yv, vI den]⟩ :: R : Heap).length) hlt
    have h1 := shlW (i := i) (by omega)
    have hz : (b : Int) = 0 ↔ b = 0 := by omega
    simp only [binA] at h1
    generalize hG : gainS t (unit t.length i) ys = G at hg
    obtain ⟨R', h3⟩ := ih (i + 1) (stepB (b, mo) i G).1 (stepB (b, mo) i G).2 (R ++ [⟨0, (unit t.length i).map vI⟩]) (by omega) (stepB_bound hb)
    refine ⟨R', ?_⟩
    rw [un61_0, List.range'_succ]
    have hun : (List.replicate t.length (0 : Int)).set i 1 = unit t.length i := rfl
    rw [hun] at hst
    have hk : 0 ≤ (t.length : Int) ∧ (t.length : Int) * 8 ≤ 140737488355328 ∧ (t.length : Int) ≤ 9223372036854775807 := by omega
    simp only [SS, insA, wantedA, Opd.ev, putA, binA, eqbA, unA, fldA, partA, reduceIte, reduceCtorEq, Nat.reduceMod, Nat.reduceDiv, Nat.reduceBEq, resultA, resA, vI, Nat.reduceMul, Nat.reduceAdd, Nat.reduceSub, Nat.reduceEqDiff, Nat.reduceLT, Nat.reducePow, Nat.reduceLeDiff, st, Option.bind_eq_bind, Option.pure_def, List.length_nil, Int.cast_ofNat_Int, List.reverse_nil] at h3 hg
    simp only [SS, insA, wantedA, Opd.ev, putA, binA, eqbA, unA, fldA, partA, reduceIte, reduceCtorEq, Nat.reduceMod, Nat.reduceDiv, Nat.reduceBEq, resultA, resA, vI, Nat.reduceMul, Nat.reduceAdd, Nat.reduceSub, Nat.reduceEqDiff, Nat.reduceLT, Nat.reducePow, Nat.reduceLeDiff, st, Option.bind_eq_bind, Option.pure_def, List.length_nil, Int.cast_ofNat_Int, List.reverse_nil, Nat.mul_one, Nat.zero_add] at hs hst hix
    have hp : (2 : Nat) ^ (i + 1) = 2 ^ i + 2 ^ i := by rw [Nat.pow_succ]; omega
    have ha : IntKind.wrap .i64 ((b : Int) + ((2 ^ i : Nat) : Int)) = ((b + 2 ^ i : Nat) : Int) := by
      obtain ⟨p, hp', q1, q2⟩ := pow_small (i := i) (by omega)
      rw [hp'] at hb ⊢
      rw [wrap_id (by omega) (by omega)]; rfl
    have ha0 : IntKind.wrap .i64 ((0 : Int) + ((2 ^ i : Nat) : Int)) = ((2 ^ i : Nat) : Int) := by
      obtain ⟨p, hp', q1, q2⟩ := pow_small (i := i) (by omega)
      rw [hp']
      rw [wrap_id (by omega) (by omega)]; omega
    simp only [Int.toNat_natCast] at h1
    by_cases c0 : b = 0
    · have c0' : ((b : Int) == 0) = true := by simp [c0]
      have hsb : stepB (b, mo) i G = (2 ^ i, G) := by simp [stepB, c0]
      rw [hsb] at h3
      simp only [F61L0b, F61, F61B, F61T0, in61_0, SS, insA, wantedA, Opd.ev, putA, binA, eqbA, unA, fldA, partA, reduceIte, reduceCtorEq, Nat.reduceMod, Nat.reduceDiv, Nat.reduceBEq, resultA, resA, vI, Nat.reduceMul, Nat.reduceAdd, Nat.reduceSub, Nat.reduceEqDiff, Nat.reduceLT, Nat.reducePow, Nat.reduceLeDiff, st, Option.bind_eq_bind, Option.pure_def, List.length_nil, Int.cast_ofNat_Int, List.reverse_nil, ht.len, ht.snap, hy.snap, hc, Int.toNat_natCast, Nat.mul_one, Nat.zero_add, zeros_int, hk, hix, hst, hs, hG, hg, hw, load_first, fldA, c0', h1, h3, ha0, List.map_cons, runB, hsb, decide_true, BEq.rfl]
    · have c0' : ((b : Int) == 0) = false := by simp [c0]
      by_cases c1 : G > mo
      · have hsb : stepB (b, mo) i G = (2 ^ i, G) := by simp [stepB, c0, c1]
        rw [hsb] at h3
        simp only [F61L0b, F61, F61B, F61T0, in61_0, SS, insA, wantedA, Opd.ev, putA, binA, eqbA, unA, fldA, partA, reduceIte, reduceCtorEq, Nat.reduceMod, Nat.reduceDiv, Nat.reduceBEq, resultA, resA, vI, Nat.reduceMul, Nat.reduceAdd, Nat.reduceSub, Nat.reduceEqDiff, Nat.reduceLT, Nat.reducePow, Nat.reduceLeDiff, st, Option.bind_eq_bind, Option.pure_def, List.length_nil, Int.cast_ofNat_Int, List.reverse_nil, ht.len, ht.snap, hy.snap, hc, Int.toNat_natCast, Nat.mul_one, Nat.zero_add, zeros_int, hk, hix, hst, hs, hG, hg, hw, load_first, fldA, c0', c1, h1, h3, ha0, List.map_cons, runB, hsb, decide_true, BEq.rfl]
      · by_cases c2 : G = mo
        · have c2' : (G == mo) = true := by simpa using c2
          have hsb : stepB (b, mo) i G = (b + 2 ^ i, mo) := by simp [stepB, c0, c2]
          rw [hsb] at h3
          simp only [F61L0b, F61, F61B, F61T0, in61_0, SS, insA, wantedA, Opd.ev, putA, binA, eqbA, unA, fldA, partA, reduceIte, reduceCtorEq, Nat.reduceMod, Nat.reduceDiv, Nat.reduceBEq, resultA, resA, vI, Nat.reduceMul, Nat.reduceAdd, Nat.reduceSub, Nat.reduceEqDiff, Nat.reduceLT, Nat.reducePow, Nat.reduceLeDiff, st, Option.bind_eq_bind, Option.pure_def, List.length_nil, Int.cast_ofNat_Int, List.reverse_nil, ht.len, ht.snap, hy.snap, hc, Int.toNat_natCast, Nat.mul_one, Nat.zero_add, zeros_int, hk, hix, hst, hs, hG, hg, hw, load_first, fldA, c0', c1, c2', h1, h3, ha, List.map_cons, runB, hsb, decide_true, decide_false, BEq.rfl]
        · have c2' : (G == mo) = false := by simpa using c2
          have hsb : stepB (b, mo) i G = (b, mo) := by simp [stepB, c0, c1, c2]
          rw [hsb] at h3
          simp only [F61L0b, F61, F61B, F61T0, in61_0, SS, insA, wantedA, Opd.ev, putA, binA, eqbA, unA, fldA, partA, reduceIte, reduceCtorEq, Nat.reduceMod, Nat.reduceDiv, Nat.reduceBEq, resultA, resA, vI, Nat.reduceMul, Nat.reduceAdd, Nat.reduceSub, Nat.reduceEqDiff, Nat.reduceLT, Nat.reducePow, Nat.reduceLeDiff, st, Option.bind_eq_bind, Option.pure_def, List.length_nil, Int.cast_ofNat_Int, List.reverse_nil, ht.len, ht.snap, hy.snap, hc, Int.toNat_natCast, Nat.mul_one, Nat.zero_add, zeros_int, hk, hix, hst, hs, hG, hg, hw, load_first, fldA, c0', c1, c2', h1, h3, List.map_cons, runB, hsb, decide_true, decide_false, BEq.rfl]
end
end Go.X
