import Derived.Test.YtmedpfjiidlidaaXO
/-! Both ways to find what lasts come to the same. -/
set_option linter.unusedSimpArgs false
set_option linter.unusedVariables false
set_option maxHeartbeats 2000000
set_option maxRecDepth 10000
namespace Go.X
open Go Go.RowKit
section
variable {Y : Run} {H : Heap}

/-- The fashions of a set. -/
def mem (s n : Nat) : List Nat := (List.range n).filter (bit s)

theorem runM_all : ((List.range 4).all fun n => (List.range 8).all fun s => runM s n 0 [] == nats (mem s n)) = true := by decide

theorem runM_mem {n s : Nat} (hn : n ≤ 3) (hs : s < 2 ^ n) : runM s n 0 [] = nats (mem s n) := by
  have h8 : 2 ^ n ≤ 8 := Nat.pow_le_pow_right (by decide) hn (n := 2)
  have := List.all_eq_true.1 (List.all_eq_true.1 runM_all n (by simp; omega)) s (by simp; omega)
  simpa using this

theorem mem_lt {n s x : Nat} (h : x ∈ mem s n) : x < n := by
  simp only [mem, List.mem_filter, List.mem_range] at h; exact h.1

/-- How the fashions lie, as the program and as the specification sees them. -/
def shapeOk (n o b : Nat) : Bool :=
  let p := partsO o b n; let a := mem b n; let q := mem o n
  match p.2, a with
  | [], [_] => true
  | [x], [c, d] => (p.1 == c && x == d) || (p.1 == d && x == c)
  | [x, y], [0, 1, 2] => n == 3 && q.headD 0 == p.1 && decide (p.1 < 3) && ((x == (p.1 + 1) % 3 && y == (p.1 + 2) % 3) || (y == (p.1 + 1) % 3 && x == (p.1 + 2) % 3)) && aloneS o == (q.length == 1) && decide (0 < q.length) && decide (q.length ≤ 3)
  | _, _ => false

theorem shape_all : ((List.range 4).all fun n => (List.range 8).all fun o => (List.range 8).all fun b => o == 0 || decide (2 ^ n ≤ o) || decide (2 ^ n ≤ b) || !subS o b || shapeOk n o b) = true := by decide

theorem shape_ok {n o b : Nat} (hn : n ≤ 3) (h0 : 0 < o) (ho : o < 2 ^ n) (hb : b < 2 ^ n) (hs : subS o b = true) : shapeOk n o b = true := by
  have h8 : 2 ^ n ≤ 8 := Nat.pow_le_pow_right (by decide) hn (n := 2)
  have := List.all_eq_true.1 (List.all_eq_true.1 (List.all_eq_true.1 shape_all n (by simp; omega)) o (by simp; omega)) b (by simp; omega)
  have c1 : (o == 0) = false := by simp; omega
  have c2 : decide (2 ^ n ≤ o) = false := by simp; omega
  have c3 : decide (2 ^ n ≤ b) = false := by simp; omega
  rw [c1, c2, c3, hs] at this
  simpa using this

/-- Whether a mixture lasts, as the specification finds it. -/
def lastsR (t : List (List Int)) (ys : List Int) : Bool :=
  subS (fashS ys) (bestS t ys) && tailR t ((mem (fashS ys) t.length).headD 0) (mem (fashS ys) t.length).length (mem (bestS t ys) t.length)

theorem lasts51 {vt yv : AV} {t : List (List Int)} {ys : List Int} {den : Int} (ht : IsTab vt t) (h : okTab t) (hy : IsRow yv ys) (hyl : ys.length = t.length) (hY : small ys) (h0 : 0 < fashS ys) :
    freeX H (callL E Y 51 [vt, .agg [yv, vI den]] []) = some (.bool (lastsR t ys), H) := by
  rw [call51 rfl]
  have hn := h.2.1
  have h36 := fun H => fash36 (Y := Y) (dv := vI den) (H := H) hy (by omega)
  have h61 := fun H => best_61 (Y := Y) (den := den) (H := H) ht h hy hyl hY
  have hld : loadA [⟨0, [yv, vI den]⟩] (some 2) (.ptr 0 0 0) = some (.agg [yv, vI den]) := rfl
  have ho : fashS ys < 2 ^ t.length := fashS_lt hyl
  have hb : bestS t ys < 2 ^ t.length := bestS_lt
  obtain ⟨R', v', w', q1, q2, q3⟩ := L51 (Y := Y) (X := ⟨0, [yv, vI den]⟩) (o := fashS ys) (b := bestS t ys) ht (by omega) t.length 0 [] [] [] .nils .nils (by omega) (by simp) (by simp) (Gro.nil _ _ _) (Gro.nil _ _ _) (fun j hj => by cases hj)
  rw [runM_mem hn hb] at q2
  rw [runM_mem hn ho] at q3
  have h36' : ∀ H, freeX H (callL E Y 36 [.agg [yv, vI den]] []) = some (vI (fashS ys : Int), H) := h36
  have hsub : (IntKind.wrap .i64 ((BitVec.ofInt IntKind.i64.bits (fashS ys : Int) &&& ~~~BitVec.ofInt IntKind.i64.bits (bestS t ys : Int)).toNat : Int) = 0) ↔ subS (fashS ys) (bestS t ys) = true := by
    unfold subS
    exact beq_iff_eq.symm
  simp only [SS, insA, wantedA, Opd.ev, putA, binA, eqbA, unA, fldA, partA, reduceIte, reduceCtorEq, Nat.reduceMod, Nat.reduceDiv, Nat.reduceBEq, resultA, resA, vI, Nat.reduceMul, Nat.reduceAdd, Nat.reduceSub, Nat.reduceEqDiff, Nat.reduceLT, Nat.reducePow, Nat.reduceLeDiff, st, Option.bind_eq_bind, Option.pure_def, List.length_nil, Int.cast_ofNat_Int, List.reverse_nil] at h61 h36' hld
  simp only [SS, insA, wantedA, Opd.ev, putA, binA, eqbA, unA, fldA, partA, reduceIte, reduceCtorEq, Nat.reduceMod, Nat.reduceDiv, Nat.reduceBEq, resultA, resA, vI, Nat.reduceMul, Nat.reduceAdd, Nat.reduceSub, Nat.reduceEqDiff, Nat.reduceLT, Nat.reducePow, Nat.reduceLeDiff, st, Option.bind_eq_bind, Option.pure_def, List.length_nil, Int.cast_ofNat_Int, List.reverse_nil, Int.ofNat_zero] at q1
  simp only [lastsR]
  cases c : subS (fashS ys) (bestS t ys)
  · rw [c] at hsub
    simp only [F51, F51B, in51_0, SS, insA, wantedA, Opd.ev, putA, binA, eqbA, unA, fldA, partA, reduceIte, reduceCtorEq, Nat.reduceMod, Nat.reduceDiv, Nat.reduceBEq, resultA, resA, vI, Nat.reduceMul, Nat.reduceAdd, Nat.reduceSub, Nat.reduceEqDiff, Nat.reduceLT, Nat.reducePow, Nat.reduceLeDiff, st, Option.bind_eq_bind, Option.pure_def, List.length_nil, Int.cast_ofNat_Int, List.reverse_nil, UU, idxP, cellsAt, storeA, fillA, zerosA, putAll, optNat, sliceA, row, Int.reduceLT, Int.reduceLE, Int.reduceGT, Int.reduceGE, Int.reduceEq, Int.reduceNe, Int.reduceToNat, Int.reduceBEq, Int.reduceBNe, Nat.reduceLeDiff, Nat.reduceLT, Nat.reduceBNe, Nat.reduceGT, List.drop_nil, List.take_nil, Option.isSome_none, Int.ofNat_one, Int.ofNat_zero, bitsA, hld, ht.snap, hy.snap, h61, h36', hsub, Bool.false_and]
  · rw [c] at hsub
    have hsh := shape_ok hn h0 ho hb c
    have htail : ∃ H', endX [.tmp 4] (codeL E Y F51T0 (st 120 [(0, vt), (7, v'), (8, w')]) (⟨0, [yv, vI den]⟩ :: R')) =
        some (.bool (tailR t ((mem (fashS ys) t.length).headD 0) (mem (fashS ys) t.length).length (mem (bestS t ys) t.length)), H') := by
      have hat : ∀ x ∈ mem (bestS t ys) t.length, x < t.length := fun x hx => mem_lt hx
      have hown : ∀ x ∈ mem (fashS ys) t.length, x < t.length := fun x hx => mem_lt hx
      unfold shapeOk at hsh
      generalize mem (bestS t ys) t.length = at' at *
      generalize mem (fashS ys) t.length = own at *
      generalize partsO (fashS ys) (bestS t ys) t.length = pp at *
      simp only at hsh
      split at hsh
      · exact T51_1 (t := t) (by simpa [nats] using q2)
      · exact T51_2 ht h (hat _ (List.mem_cons_self ..)) (hat _ (List.mem_cons_of_mem _ (List.mem_cons_self ..))) (by simpa [nats] using q2)
      · simp only [Bool.and_eq_true, beq_iff_eq, decide_eq_true_eq] at hsh
        obtain ⟨⟨⟨⟨⟨⟨s1, s2⟩, s3⟩, s4⟩, s5⟩, s6⟩, s7⟩ := hsh
        match own, s2, s6, s7, q3, hown with
        | i :: ds, s2, s6, s7, q3, hown =>
          exact T51_3 ht h s1 (by have := hown i (by simp); omega) ⟨s6, s7⟩ (by simpa [nats] using q2) (by simpa [nats] using q3) 0 1 2 []
      · cases hsh
    obtain ⟨H', q4⟩ := htail
    simp only [SS, insA, wantedA, Opd.ev, putA, binA, eqbA, unA, fldA, partA, reduceIte, reduceCtorEq, Nat.reduceMod, Nat.reduceDiv, Nat.reduceBEq, resultA, resA, vI, Nat.reduceMul, Nat.reduceAdd, Nat.reduceSub, Nat.reduceEqDiff, Nat.reduceLT, Nat.reducePow, Nat.reduceLeDiff, st, Option.bind_eq_bind, Option.pure_def, List.length_nil, Int.cast_ofNat_Int, List.reverse_nil] at q4
    simp only [F51, F51B, in51_0, SS, insA, wantedA, Opd.ev, putA, binA, eqbA, unA, fldA, partA, reduceIte, reduceCtorEq, Nat.reduceMod, Nat.reduceDiv, Nat.reduceBEq, resultA, resA, vI, Nat.reduceMul, Nat.reduceAdd, Nat.reduceSub, Nat.reduceEqDiff, Nat.reduceLT, Nat.reducePow, Nat.reduceLeDiff, st, Option.bind_eq_bind, Option.pure_def, List.length_nil, Int.cast_ofNat_Int, List.reverse_nil, UU, idxP, cellsAt, storeA, fillA, zerosA, putAll, optNat, sliceA, row, Int.reduceLT, Int.reduceLE, Int.reduceGT, Int.reduceGE, Int.reduceEq, Int.reduceNe, Int.reduceToNat, Int.reduceBEq, Int.reduceBNe, Nat.reduceLeDiff, Nat.reduceLT, Nat.reduceBNe, Nat.reduceGT, List.drop_nil, List.take_nil, Option.isSome_none, Int.ofNat_one, Int.ofNat_zero, bitsA, hld, ht.snap, hy.snap, h61, h36', hsub, q1, q4, Bool.true_and, Int.ofNat_zero]

theorem way_form (t : List (List Int)) (f x : Nat) : wayS t f x x = 2 * formS t f x x := by unfold wayS gainW formS; omega
theorem way_form2 (t : List (List Int)) (f x y : Nat) : wayS t f x y = formS t f x y + formS t f y x := by unfold wayS gainW formS; omega

/-- Both ways come to the same. -/
theorem lasts_same {t : List (List Int)} {ys : List Int} (h : okTab t) (hyl : ys.length = t.length) (h0 : 0 < fashS ys) : lastsP t ys = lastsR t ys := by
  have hn := h.2.1
  have ho : fashS ys < 2 ^ t.length := fashS_lt hyl
  have hb : bestS t ys < 2 ^ t.length := bestS_lt
  simp only [lastsP, lastsR]
  cases c : subS (fashS ys) (bestS t ys)
  · rfl
  · have hsh := shape_ok hn h0 ho hb c
    simp only [Bool.true_and]
    unfold shapeOk at hsh
    generalize mem (bestS t ys) t.length = at' at *
    generalize mem (fashS ys) t.length = own at *
    generalize partsO (fashS ys) (bestS t ys) t.length = pp at *
    obtain ⟨f, l⟩ := pp
    simp only at hsh ⊢
    split at hsh
    · rfl
    · rename_i x a c _
      simp only [Bool.or_eq_true, Bool.and_eq_true, beq_iff_eq] at hsh
      simp only [tailP, tailR, way_form]
      rcases hsh with ⟨rfl, rfl⟩ | ⟨rfl, rfl⟩
      · congr 1; apply propext; omega
      · congr 1; apply propext; unfold formS; omega
    · rename_i x y _
      simp only [Bool.and_eq_true, beq_iff_eq, decide_eq_true_eq] at hsh
      obtain ⟨⟨⟨⟨⟨⟨s1, s2⟩, s3⟩, s4⟩, s5⟩, s6⟩, s7⟩ := hsh
      rw [s2]
      simp only [tailP, tailR, way_form, way_form2, s5]
      have key : ∀ a b c : Int, (c * c < 2 * a * (2 * b)) = (4 * a * b > c * c) := by
        intro a b c
        have : 2 * a * (2 * b) = 4 * a * b := by grind
        rw [this]
      have kc : ∀ a b : Int, 4 * a * b = 4 * b * a := fun a b => by rw [Int.mul_assoc, Int.mul_comm a b, ← Int.mul_assoc]
      simp only [Bool.or_eq_true, Bool.and_eq_true, beq_iff_eq] at s4
      simp only [key]
      rcases s4 with ⟨rfl, rfl⟩ | ⟨rfl, rfl⟩
      · generalize formS t f ((f + 1) % 3) ((f + 1) % 3) = p
        generalize formS t f ((f + 2) % 3) ((f + 2) % 3) = r
        have e : (2 * p ≥ 0 ∨ 2 * r ≥ 0) = (p ≥ 0 ∨ r ≥ 0) := by apply propext; omega
        simp only [e]
      · generalize formS t f ((f + 1) % 3) ((f + 1) % 3) = p
        generalize formS t f ((f + 2) % 3) ((f + 2) % 3) = r
        generalize formS t f ((f + 1) % 3) ((f + 2) % 3) = q
        generalize formS t f ((f + 2) % 3) ((f + 1) % 3) = q'
        have e : (2 * r ≥ 0 ∨ 2 * p ≥ 0) = (p ≥ 0 ∨ r ≥ 0) := by apply propext; omega
        simp only [e, Int.add_comm q' q, kc r p]
    · cases hsh
end
end Go.X
