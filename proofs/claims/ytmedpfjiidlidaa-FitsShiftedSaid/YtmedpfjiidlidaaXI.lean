import Derived.Test.YtmedpfjiidlidaaXG
/-! Sets of fashions, gains. -/
set_option linter.unusedSimpArgs false
set_option linter.unusedVariables false
namespace Go.X
open Go Go.RowKit
section
variable {Y : Run} {H : Heap}

/-! ### Objects at the heap's end -/
theorem get_last {o : Ob} : (H ++ [o])[H.length]? = some o := by simp
theorem set_last {o o' : Ob} : (H ++ [o]).set H.length o' = H ++ [o'] := by
  rw [List.set_append_right _ _ (Nat.le_refl _)]; simp
theorem mapM_snap {n : Nat} : ∀ (l : List Int), (l.map vI).mapM (snapA H (n + 1)) = some (l.map vI)
  | [] => rfl
  | x :: l => by rw [List.map_cons, mapM_cons', snap_int, mapM_snap l]; rfl
theorem mapM_free {n : Nat} : ∀ (l : List Int), (l.map vI).mapM (freeA H (n + 1)) = some (l.map vI)
  | [] => rfl
  | x :: l => by rw [List.map_cons, mapM_cons', free_int, mapM_free l]; rfl
/-! ### Sets -/
/-- The places that something holds for, as a set. -/
def setS (p : Int → Bool) : List Int → Nat → Nat
  | [], _ => 0
  | x :: l, i => (if p x then 2 ^ i else 0) + setS p l (i + 1)

theorem pow_small {i : Nat} (h : i < 60) : ∃ p : Nat, 2 ^ i = p ∧ 0 < p ∧ p ≤ 1152921504606846976 :=
  ⟨2 ^ i, rfl, Nat.two_pow_pos i, by
    have : (2 : Nat) ^ i ≤ 2 ^ 60 := Nat.pow_le_pow_right (by decide) (by omega)
    exact this⟩

theorem shlW {i : Nat} (h : i < 60) : binA .shl (vI 1) (vI i) = some (vI ((2 ^ i : Nat) : Int)) := by
  simp only [binA, Int.toNat_natCast, IntKind.bits]
  rw [if_pos (by omega), Nat.min_eq_left (by omega)]
  have : (1 : Int) * 2 ^ i = ((2 ^ i : Nat) : Int) := by simp
  rw [this]
  obtain ⟨p, hp, h1, h2⟩ := pow_small h
  rw [hp, wrap_id (by omega) (by omega)]

theorem ofInt_nat (n : Nat) : BitVec.ofInt 64 (n : Int) = BitVec.ofNat 64 n := BitVec.ofInt_natCast _ _

theorem orW {b i : Nat} (h : i < 60) (hb : b < 2 ^ i) : binA .or (vI b) (vI ((2 ^ i : Nat) : Int)) = some (vI ((b + 2 ^ i : Nat) : Int)) := by
  show some (AV.int .i64 (IntKind.wrap .i64 ((BitVec.ofInt 64 (b : Int) ||| BitVec.ofInt 64 ((2 ^ i : Nat) : Int)).toNat : Int))) = _
  have h3 : b ||| 2 ^ i = b + 2 ^ i := by
    have := Nat.two_pow_add_eq_or_of_lt hb 1
    rw [Nat.mul_one] at this
    rw [Nat.or_comm, ← this, Nat.add_comm]
  rw [ofInt_nat, ofInt_nat, BitVec.toNat_or, BitVec.toNat_ofNat, BitVec.toNat_ofNat]
  obtain ⟨p, hp, h1, h2⟩ := pow_small h
  rw [hp] at hb h3 ⊢
  rw [Nat.mod_eq_of_lt (by omega), Nat.mod_eq_of_lt (by omega), h3, wrap_id (by omega) (by omega)]

theorem setS_bound (p : Int → Bool) : ∀ (l : List Int) (i : Nat), setS p l i + 2 ^ i ≤ 2 ^ (i + l.length)
  | [], i => by simp [setS]
  | x :: l, i => by
    have := setS_bound p l (i + 1)
    have h2 : (2 : Nat) ^ (i + 1) = 2 ^ i + 2 ^ i := by rw [Nat.pow_succ]; omega
    have h3 : i + 1 + l.length = i + (x :: l).length := by simp; omega
    rw [h3, h2] at this
    simp only [setS]
    generalize 2 ^ i = a at *
    generalize 2 ^ (i + (x :: l).length) = c at *
    split <;> omega

/-! ### Fashions of a mixture -/
theorem L67 {v : AV} {l : List Int} (hv : IsRow v l) (hl : l.length ≤ 20) (d : Nat) : ∀ (i b : Nat), i + d = l.length → b < 2 ^ i →
    lp E Y F67L0 (st 22 [(3, vI b), (7, v), (8, vI l.length), (9, vI i)]) H = some (.x 0, st 22 [(3, vI ((b + setS (fun x => decide (x > 0)) (l.drop i) i : Nat) : Int))], H) := by
  induction d with
  | zero =>
    intro i b hi hb
    rw [un67_0, List.drop_eq_nil_of_le (by omega)]
    have : ¬ ((i : Int) < (l.length : Int)) := by omega
    simp only [F67L0b, F67, F67B, F67T0, in67_0, SS, insA, wantedA, Opd.ev, putA, binA, eqbA, unA, fldA, partA, reduceIte, reduceCtorEq, Nat.reduceMod, Nat.reduceDiv, Nat.reduceBEq, resultA, resA, vI, Nat.reduceMul, Nat.reduceAdd, Nat.reduceSub, Nat.reduceEqDiff, Nat.reduceLT, Nat.reducePow, Nat.reduceLeDiff, st, Option.bind_eq_bind, Option.pure_def, List.length_nil, Int.cast_ofNat_Int, List.reverse_nil, this, setS, Nat.add_zero]
  | succ d ih =>
    intro i b hi hb
    have hlt : i < l.length := by omega
    rw [un67_0, List.drop_eq_getElem_cons hlt]
    have hc : (i : Int) < (l.length : Int) := by omega
    have hw := wrap_succ (n := i) (by omega)
    have hg : l.getD i 0 = l[i] := by simp [List.getD_eq_getElem?_getD, hlt]
    have h1 := shlW (i := i) (by omega)
    have h2 := orW (i := i) (b := b) (by omega) hb
    have hp : (2 : Nat) ^ (i + 1) = 2 ^ i + 2 ^ i := by rw [Nat.pow_succ]; omega
    simp only [binA] at h1 h2
    by_cases c : l[i] > 0
    · have h3 := ih (i + 1) (b + 2 ^ i) (by omega) (by omega)
      simp only [SS, insA, wantedA, Opd.ev, putA, binA, eqbA, unA, fldA, partA, reduceIte, reduceCtorEq, Nat.reduceMod, Nat.reduceDiv, Nat.reduceBEq, resultA, resA, vI, Nat.reduceMul, Nat.reduceAdd, Nat.reduceSub, Nat.reduceEqDiff, Nat.reduceLT, Nat.reducePow, Nat.reduceLeDiff, st, Option.bind_eq_bind, Option.pure_def, List.length_nil, Int.cast_ofNat_Int, List.reverse_nil] at h3
      simp only [F67L0b, F67, F67B, F67T0, in67_0, SS, insA, wantedA, Opd.ev, putA, binA, eqbA, unA, fldA, partA, reduceIte, reduceCtorEq, Nat.reduceMod, Nat.reduceDiv, Nat.reduceBEq, resultA, resA, vI, Nat.reduceMul, Nat.reduceAdd, Nat.reduceSub, Nat.reduceEqDiff, Nat.reduceLT, Nat.reducePow, Nat.reduceLeDiff, st, Option.bind_eq_bind, Option.pure_def, List.length_nil, Int.cast_ofNat_Int, List.reverse_nil, hc, hv.idx hlt, hv.load hlt, hw, hg, c, h1, h2, h3, setS, decide_true, Nat.add_assoc]
    · have h3 := ih (i + 1) b (by omega) (by omega)
      simp only [SS, insA, wantedA, Opd.ev, putA, binA, eqbA, unA, fldA, partA, reduceIte, reduceCtorEq, Nat.reduceMod, Nat.reduceDiv, Nat.reduceBEq, resultA, resA, vI, Nat.reduceMul, Nat.reduceAdd, Nat.reduceSub, Nat.reduceEqDiff, Nat.reduceLT, Nat.reducePow, Nat.reduceLeDiff, st, Option.bind_eq_bind, Option.pure_def, List.length_nil, Int.cast_ofNat_Int, List.reverse_nil] at h3
      simp only [F67L0b, F67, F67B, F67T0, in67_0, SS, insA, wantedA, Opd.ev, putA, binA, eqbA, unA, fldA, partA, reduceIte, reduceCtorEq, Nat.reduceMod, Nat.reduceDiv, Nat.reduceBEq, resultA, resA, vI, Nat.reduceMul, Nat.reduceAdd, Nat.reduceSub, Nat.reduceEqDiff, Nat.reduceLT, Nat.reducePow, Nat.reduceLeDiff, st, Option.bind_eq_bind, Option.pure_def, List.length_nil, Int.cast_ofNat_Int, List.reverse_nil, hc, hv.idx hlt, hv.load hlt, hw, hg, c, h3, setS, decide_false, Nat.zero_add]

theorem fash67 {v dv : AV} {l : List Int} (hv : IsRow v l) (hl : l.length ≤ 20) : freeX H (callL E Y 67 [.agg [v, dv]] []) = some (vI ((setS (fun x => decide (x > 0)) l 0 : Nat) : Int), H) := by
  rw [call67 rfl]
  have h1 := L67 (Y := Y) (H := [⟨0, [v, dv]⟩]) hv hl l.length 0 0 (by omega) (by simp)
  simp only [SS, insA, wantedA, Opd.ev, putA, binA, eqbA, unA, fldA, partA, reduceIte, reduceCtorEq, Nat.reduceMod, Nat.reduceDiv, Nat.reduceBEq, resultA, resA, vI, Nat.reduceMul, Nat.reduceAdd, Nat.reduceSub, Nat.reduceEqDiff, Nat.reduceLT, Nat.reducePow, Nat.reduceLeDiff, st, Option.bind_eq_bind, Option.pure_def, List.length_nil, Int.cast_ofNat_Int, List.reverse_nil, List.drop_zero, Int.ofNat_zero, Nat.zero_add] at h1
  have hn : (lenA v) = some l.length := hv.len
  simp only [F67, F67B, F67T0, in67_0, SS, insA, wantedA, Opd.ev, putA, binA, eqbA, unA, fldA, partA, reduceIte, reduceCtorEq, Nat.reduceMod, Nat.reduceDiv, Nat.reduceBEq, resultA, resA, vI, Nat.reduceMul, Nat.reduceAdd, Nat.reduceSub, Nat.reduceEqDiff, Nat.reduceLT, Nat.reducePow, Nat.reduceLeDiff, st, Option.bind_eq_bind, Option.pure_def, List.length_nil, Int.cast_ofNat_Int, List.reverse_nil, UU, idxP, cellsAt, storeA, fillA, zerosA, putAll, optNat, sliceA, row, Int.reduceLT, Int.reduceLE, Int.reduceGT, Int.reduceGE, Int.reduceEq, Int.reduceNe, Int.reduceToNat, Int.reduceBEq, Int.reduceBNe, Nat.reduceLeDiff, Nat.reduceLT, Nat.reduceBNe, Nat.reduceGT, List.drop_nil, List.take_nil, Option.isSome_none, Int.ofNat_one, Int.ofNat_zero, hn, h1]

/-! ### The best fashions -/
theorem row_is {s : Bool} {l : List Int} : IsRow (row s l) l := .imm s l

theorem L62 {v : AV} {l : List Int} (hv : IsRow v l) (hl : l.length ≤ 20) (h0 : 0 < l.length) (d : Nat) : ∀ (i b : Nat), i + d = l.length → b < 2 ^ i →
    lp E Y F62L0 (st 29 [(5, v), (6, vI b), (12, v), (13, vI l.length), (14, vI i)]) H = some (.x 0, st 29 [(6, vI ((b + setS (fun x => x == maxI l) (l.drop i) i : Nat) : Int))], H) := by
  have hm := max66 (Y := Y) (H := []) hv (by omega) h0
  induction d with
  | zero =>
    intro i b hi hb
    rw [un62_0, List.drop_eq_nil_of_le (by omega)]
    have : ¬ ((i : Int) < (l.length : Int)) := by omega
    simp only [F62L0b, F62, F62B, F62T0, in62_0, SS, insA, wantedA, Opd.ev, putA, binA, eqbA, unA, fldA, partA, reduceIte, reduceCtorEq, Nat.reduceMod, Nat.reduceDiv, Nat.reduceBEq, resultA, resA, vI, Nat.reduceMul, Nat.reduceAdd, Nat.reduceSub, Nat.reduceEqDiff, Nat.reduceLT, Nat.reducePow, Nat.reduceLeDiff, st, Option.bind_eq_bind, Option.pure_def, List.length_nil, Int.cast_ofNat_Int, List.reverse_nil, this, setS, Nat.add_zero]
  | succ d ih =>
    intro i b hi hb
    have hlt : i < l.length := by omega
    rw [un62_0, List.drop_eq_getElem_cons hlt]
    have hc : (i : Int) < (l.length : Int) := by omega
    have hw := wrap_succ (n := i) (by omega)
    have hg : l.getD i 0 = l[i] := by simp [List.getD_eq_getElem?_getD, hlt]
    have h1 := shlW (i := i) (by omega)
    have h2 := orW (i := i) (b := b) (by omega) hb
    have hp : (2 : Nat) ^ (i + 1) = 2 ^ i + 2 ^ i := by rw [Nat.pow_succ]; omega
    simp only [binA] at h1 h2
    by_cases c : l[i] = maxI l
    · have h3 := ih (i + 1) (b + 2 ^ i) (by omega) (by omega)
      have c' : (l[i] == maxI l) = true := by simpa using c
      simp only [SS, insA, wantedA, Opd.ev, putA, binA, eqbA, unA, fldA, partA, reduceIte, reduceCtorEq, Nat.reduceMod, Nat.reduceDiv, Nat.reduceBEq, resultA, resA, vI, Nat.reduceMul, Nat.reduceAdd, Nat.reduceSub, Nat.reduceEqDiff, Nat.reduceLT, Nat.reducePow, Nat.reduceLeDiff, st, Option.bind_eq_bind, Option.pure_def, List.length_nil, Int.cast_ofNat_Int, List.reverse_nil] at h3
      simp only [F62L0b, F62, F62B, F62T0, in62_0, SS, insA, wantedA, Opd.ev, putA, binA, eqbA, unA, fldA, partA, reduceIte, reduceCtorEq, Nat.reduceMod, Nat.reduceDiv, Nat.reduceBEq, resultA, resA, vI, Nat.reduceMul, Nat.reduceAdd, Nat.reduceSub, Nat.reduceEqDiff, Nat.reduceLT, Nat.reducePow, Nat.reduceLeDiff, st, Option.bind_eq_bind, Option.pure_def, List.length_nil, Int.cast_ofNat_Int, List.reverse_nil, hc, hv.idx hlt, hv.load hlt, hv.snap, hm, hw, hg, c', h1, h2, h3, setS, decide_true, Nat.add_assoc]
    · have h3 := ih (i + 1) b (by omega) (by omega)
      have c' : (l[i] == maxI l) = false := by simpa using c
      simp only [SS, insA, wantedA, Opd.ev, putA, binA, eqbA, unA, fldA, partA, reduceIte, reduceCtorEq, Nat.reduceMod, Nat.reduceDiv, Nat.reduceBEq, resultA, resA, vI, Nat.reduceMul, Nat.reduceAdd, Nat.reduceSub, Nat.reduceEqDiff, Nat.reduceLT, Nat.reducePow, Nat.reduceLeDiff, st, Option.bind_eq_bind, Option.pure_def, List.length_nil, Int.cast_ofNat_Int, List.reverse_nil] at h3
      simp only [F62L0b, F62, F62B, F62T0, in62_0, SS, insA, wantedA, Opd.ev, putA, binA, eqbA, unA, fldA, partA, reduceIte, reduceCtorEq, Nat.reduceMod, Nat.reduceDiv, Nat.reduceBEq, resultA, resA, vI, Nat.reduceMul, Nat.reduceAdd, Nat.reduceSub, Nat.reduceEqDiff, Nat.reduceLT, Nat.reducePow, Nat.reduceLeDiff, st, Option.bind_eq_bind, Option.pure_def, List.length_nil, Int.cast_ofNat_Int, List.reverse_nil, hc, hv.idx hlt, hv.load hlt, hv.snap, hm, hw, hg, c, c', h3, setS, decide_false, Nat.zero_add]

theorem best62 {vt yv : AV} {t : List (List Int)} {ys g : List Int} {den : Int} (ht : IsTab vt t) (hy : IsRow yv ys) (hl : g.length ≤ 20) (h0 : 0 < g.length)
    (h71 : ∀ H, freeX H (callL E Y 71 [vt, .agg [yv, vI den]] []) = some (row false g, H)) :
    freeX H (callL E Y 62 [vt, .agg [yv, vI den]] []) = some (vI ((setS (fun x => x == maxI g) g 0 : Nat) : Int), H) := by
  rw [call62 rfl]
  have h1 := L62 (Y := Y) (H := [⟨0, [yv, vI den]⟩]) (row_is (s := false) (l := g)) hl h0 g.length 0 0 (by omega) (by simp)
  simp only [SS, insA, wantedA, Opd.ev, putA, binA, eqbA, unA, fldA, partA, reduceIte, reduceCtorEq, Nat.reduceMod, Nat.reduceDiv, Nat.reduceBEq, resultA, resA, vI, Nat.reduceMul, Nat.reduceAdd, Nat.reduceSub, Nat.reduceEqDiff, Nat.reduceLT, Nat.reducePow, Nat.reduceLeDiff, st, Option.bind_eq_bind, Option.pure_def, List.length_nil, Int.cast_ofNat_Int, List.reverse_nil, List.drop_zero, Int.ofNat_zero, Nat.zero_add, row] at h1 h71
  have hyn := hy.snap (H := [⟨0, [yv, vI den]⟩]) (n := 4)
  simp only [F62, F62B, F62T0, in62_0, SS, insA, wantedA, Opd.ev, putA, binA, eqbA, unA, fldA, partA, reduceIte, reduceCtorEq, Nat.reduceMod, Nat.reduceDiv, Nat.reduceBEq, resultA, resA, vI, Nat.reduceMul, Nat.reduceAdd, Nat.reduceSub, Nat.reduceEqDiff, Nat.reduceLT, Nat.reducePow, Nat.reduceLeDiff, st, Option.bind_eq_bind, Option.pure_def, List.length_nil, Int.cast_ofNat_Int, List.reverse_nil, UU, idxP, cellsAt, storeA, fillA, zerosA, putAll, optNat, sliceA, row, Int.reduceLT, Int.reduceLE, Int.reduceGT, Int.reduceGE, Int.reduceEq, Int.reduceNe, Int.reduceToNat, Int.reduceBEq, Int.reduceBNe, Nat.reduceLeDiff, Nat.reduceLT, Nat.reduceBNe, Nat.reduceGT, List.drop_nil, List.take_nil, Option.isSome_none, Int.ofNat_one, Int.ofNat_zero, ht.snap, hy.snap, h71, h1]

/-- Whether one set is within another one. -/
def subS (o b : Nat) : Bool := IntKind.wrap .i64 ((BitVec.ofInt 64 (o : Int) &&& ~~~BitVec.ofInt 64 (b : Int)).toNat : Int) == 0

theorem rests60 {vt yv : AV} {t : List (List Int)} {ys : List Int} {den : Int} {o b : Nat} (ht : IsTab vt t) (hy : IsRow yv ys)
    (h67 : ∀ H, freeX H (callL E Y 67 [.agg [yv, vI den]] []) = some (vI (o : Int), H)) (h62 : ∀ H, freeX H (callL E Y 62 [vt, .agg [yv, vI den]] []) = some (vI (b : Int), H)) :
    freeX H (callL E Y 60 [vt, .agg [yv, vI den]] []) = some (.bool (subS o b), H) := by
  rw [call60 rfl]
  simp only [SS, insA, wantedA, Opd.ev, putA, binA, eqbA, unA, fldA, partA, reduceIte, reduceCtorEq, Nat.reduceMod, Nat.reduceDiv, Nat.reduceBEq, resultA, resA, vI, Nat.reduceMul, Nat.reduceAdd, Nat.reduceSub, Nat.reduceEqDiff, Nat.reduceLT, Nat.reducePow, Nat.reduceLeDiff, st, Option.bind_eq_bind, Option.pure_def, List.length_nil, Int.cast_ofNat_Int, List.reverse_nil] at h67 h62
  simp only [F60, F60B, SS, insA, wantedA, Opd.ev, putA, binA, eqbA, unA, fldA, partA, reduceIte, reduceCtorEq, Nat.reduceMod, Nat.reduceDiv, Nat.reduceBEq, resultA, resA, vI, Nat.reduceMul, Nat.reduceAdd, Nat.reduceSub, Nat.reduceEqDiff, Nat.reduceLT, Nat.reducePow, Nat.reduceLeDiff, st, Option.bind_eq_bind, Option.pure_def, List.length_nil, Int.cast_ofNat_Int, List.reverse_nil, UU, idxP, cellsAt, storeA, fillA, zerosA, putAll, optNat, sliceA, row, Int.reduceLT, Int.reduceLE, Int.reduceGT, Int.reduceGE, Int.reduceEq, Int.reduceNe, Int.reduceToNat, Int.reduceBEq, Int.reduceBNe, Nat.reduceLeDiff, Nat.reduceLT, Nat.reduceBNe, Nat.reduceGT, List.drop_nil, List.take_nil, Option.isSome_none, Int.ofNat_one, Int.ofNat_zero, bitsA, ht.snap, hy.snap, h67, h62, subS]
  rfl

/-! ### Gains -/
def dotX (x : Int) : List Int → List Int → Int
  | a :: r, y :: ys => x * y * a + dotX x r ys
  | _, _ => 0
def gainS : List (List Int) → List Int → List Int → Int
  | r :: t, x :: xs, ys => dotX x r ys + gainS t xs ys
  | _, _, _ => 0

theorem mulB {a b A B : Int} (ha : -A ≤ a ∧ a ≤ A) (hb : -B ≤ b ∧ b ≤ B) : -(A * B) ≤ a * b ∧ a * b ≤ A * B := by
  have h1 : (a * b).natAbs ≤ A.toNat * B.toNat := by rw [Int.natAbs_mul]; exact Nat.mul_le_mul (by omega) (by omega)
  have hA : 0 ≤ A := by omega
  have hB : 0 ≤ B := by omega
  have : ((A.toNat * B.toNat : Nat) : Int) = A * B := by simp [Int.toNat_of_nonneg hA, Int.toNat_of_nonneg hB]
  omega

def small (l : List Int) : Prop := ∀ x ∈ l, -100000 ≤ x ∧ x ≤ 100000
def tame (t : List (List Int)) : Prop := ∀ r ∈ t, inB r

/-! ### The best fashions, by the specification -/
def unit (n i : Nat) : List Int := (List.replicate n 0).set i 1

end
end Go.X
