import Derived.Test.YtppekkocioidkaaJU
import Derived.Test.YtppekkocioidkaaJV
/-! The law TopJoined. -/
set_option linter.unusedSimpArgs false
set_option linter.unusedVariables false
set_option maxHeartbeats 4000000
set_option maxRecDepth 10000
namespace Go.X
open Go Go.RowKit

theorem yL_le {Y : Run} (hY : ∀ args H, Y 34 args H = yL 34 args H) : RLe yL (callL EJ Y) := by
  intro f args H r h
  have hf : f = 34 := by
    unfold yL at h
    split at h
    · assumption
    · cases h
  subst hf
  have : callL EJ Y 34 args H = Y 34 args H := rfl
  rw [this, hY]; exact h

set_option maxRecDepth 100000 in
theorem shown5 {Y : Run} (hY : ∀ args H, Y 34 args H = yL 34 args H) {H : Heap} : freeX H (callL EJ Y 5 [] []) = some (.bool true, H) :=
  memoFree (fun _ _ h => h) (yL_le hY) (k := 1000) (by kernel_rfl)

/-- A shop's sets as naturals. -/
theorem shop_of {l : List Int} (hf : frameB l = true) : ∃ L, l = castL L ∧ L.length = l.length ∧ Shop L ∧ ∀ x ∈ L, x < 2 ^ L.length := by
  unfold frameB at hf
  simp only [Bool.and_eq_true, decide_eq_true_eq] at hf
  obtain ⟨⟨⟨_, _⟩, ho⟩, hs⟩ := hf
  have hok : ∀ i, i < l.length → 0 ≤ l.getD i 0 ∧ l.getD i 0 < ((2 ^ l.length : Nat) : Int) ∧ sh (l.getD i 0) i % 2 ≠ 1 := fun i hi => by
    have := List.all_eq_true.1 ho i (List.mem_range.2 hi)
    simp only [okE, Bool.and_eq_true, decide_eq_true_eq, bne_iff_ne] at this
    exact ⟨this.1.1, this.1.2, this.2⟩
  have hsy : ∀ i k, i < l.length → k < l.length → sh (l.getD i 0) k % 2 = sh (l.getD k 0) i % 2 := fun i k hi hk => by
    have := List.all_eq_true.1 (List.all_eq_true.1 hs i (List.mem_range.2 hi)) k (List.mem_range.2 hk)
    simpa [symE] using this
  have e : l = castL (l.map Int.toNat) := by
    unfold castL
    rw [List.map_map]
    apply List.ext_getElem (by simp)
    intro i h1 h2
    have := (hok i h1).1
    rw [getD_get h1] at this
    simp only [List.getElem_map, Function.comp]
    omega
  have hget : ∀ i, i < l.length → l.getD i 0 = (((l.map Int.toNat).getD i 0 : Nat) : Int) := fun i hi => by
    have h1 := (hok i hi).1
    rw [getD_get hi] at h1 ⊢
    rw [getD_get (by simpa using hi), List.getElem_map]
    omega
  refine ⟨l.map Int.toNat, e, by simp, ⟨fun i k h => ?_, fun i => ?_, fun i k => ?_⟩, fun x hx => ?_⟩
  · have hi : i < l.length := by
      rcases Nat.lt_or_ge i l.length with h1 | h1
      · exact h1
      · unfold adj at h
        rw [List.getD_eq_getElem?_getD, List.getElem?_eq_none (by simpa using h1)] at h
        simp at h
    refine ⟨by simpa using hi, ?_⟩
    have h2 := (hok i hi).2.1
    rw [hget i hi] at h2
    have := bitltN (k := l.length) (by omega) h
    simpa using this
  · by_cases hi : i < l.length
    · have h2 := (hok i hi).2.2
      rw [hget i hi, sh_bit] at h2
      unfold adj
      cases hb : ((l.map Int.toNat).getD i 0).testBit i with
      | false => rfl
      | true => rw [hb] at h2; simp at h2
    · unfold adj
      rw [List.getD_eq_getElem?_getD, List.getElem?_eq_none (by simpa using hi)]
      simp
  · have out : ∀ i k, i < l.length → ¬ k < l.length → adj (l.map Int.toNat) i k = false := fun i k hi hk => by
      unfold adj
      cases hb : ((l.map Int.toNat).getD i 0).testBit k with
      | false => rfl
      | true =>
        have h2 := (hok i hi).2.1
        rw [hget i hi] at h2
        exact absurd (bitltN (k := l.length) (by omega) hb) hk
    have nul : ∀ i k, ¬ i < l.length → adj (l.map Int.toNat) i k = false := fun i k hi => by
      unfold adj
      rw [List.getD_eq_getElem?_getD, List.getElem?_eq_none (by simpa using hi)]
      simp
    have gen : ∀ p q : Bool, ((if p = true then (1 : Int) else 0) = if q = true then 1 else 0) → p = q := fun p q => by cases p <;> cases q <;> simp
    by_cases hi : i < l.length
    · by_cases hk : k < l.length
      · have := hsy i k hi hk
        rw [hget i hi, hget k hk, sh_bit, sh_bit] at this
        unfold adj
        exact gen _ _ this
      · rw [out i k hi hk, nul k i hk]
    · by_cases hk : k < l.length
      · rw [out k i hk hi, nul i k hi]
      · rw [nul i k hi, nul k i hk]
  · obtain ⟨y, hy, rfl⟩ := List.mem_map.1 hx
    obtain ⟨i, hi, rfl⟩ := List.getElem_of_mem hy
    have h2 := (hok i hi).2.1
    have h1 := (hok i hi).1
    rw [getD_get hi] at h1 h2
    simp only [List.length_map]
    omega

section
variable {Y : Run}

def inBoth (a b : Nat) (x : Int) : Bool := (sh x a % 2 == 1) && (sh x b % 2 == 1)

theorem L3_0 {H : Heap} {w v xv kv mv ev : AV} {l' : List Int} (hw : IsRow w l') (hl : l'.length ≤ 1000) (hnn : ∀ x ∈ l', 0 ≤ x) {n S a b : Nat} (ha : a < 8) (hb : b < 8) (d : Nat) : ∀ (i : Nat) (acc : Bool), i + d = l'.length →
    lp EJ Y F3L0 (sp 203 [(22, vI i), (21, .bool acc), (20, ev), (19, mv), (18, kv), (16, xv), (14, w), (13, vI b), (12, vI a), (10, vI S), (9, vI n), (0, v)]) H =
      some (.x 0, sp 203 [(21, .bool (acc || (l'.drop i).any (inBoth a b))), (20, ev), (19, mv), (18, kv), (16, xv), (13, vI b), (12, vI a), (10, vI S), (9, vI n), (0, v)], H) := by
  induction d with
  | zero =>
    intro i acc hi
    rw [un3_0, List.drop_eq_nil_of_le (by omega)]
    have : ¬ ((i : Int) < (l'.length : Int)) := by omega
    simp only [F3L0b, SS, insA, wantedA, Opd.ev, putA, binA, eqbA, unA, fldA, partA, reduceIte, reduceCtorEq, Nat.reduceMod, Nat.reduceDiv, Nat.reduceBEq, resultA, resA, vI, Nat.reduceMul, Nat.reduceAdd, Nat.reduceSub, Nat.reduceEqDiff, Nat.reduceLT, Nat.reducePow, Nat.reduceLeDiff, st, Option.bind_eq_bind, Option.pure_def, List.length_nil, Int.cast_ofNat_Int, List.reverse_nil, UU, idxP, cellsAt, storeA, fillA, zerosA, putAll, optNat, sliceA, row, Int.reduceLT, Int.reduceLE, Int.reduceGT, Int.reduceGE, Int.reduceEq, Int.reduceNe, Int.reduceToNat, Int.reduceBEq, Int.reduceBNe, Nat.reduceLeDiff, Nat.reduceLT, Nat.reduceBNe, Nat.reduceGT, List.drop_nil, List.take_nil, Option.isSome_none, Int.ofNat_one, Int.ofNat_zero, hw.len, this, List.any_nil, Bool.or_false]
  | succ d ih =>
    intro i acc hi
    have hlt : i < l'.length := by omega
    have hc : (i : Int) < (l'.length : Int) := by omega
    have hww := wrap_succ (n := i) (by omega)
    have hld := hw.load (H := H) hlt
    have hix := hw.idx hlt
    have hn0 := hnn l'[i] (List.getElem_mem hlt)
    rw [getD_get hlt] at hld
    rw [any_drop hlt, un3_0]
    unfold inBoth
    have hs1 := shr_eq (k := a) (by omega)
    have hs2 := shr_eq (k := b) (by omega)
    have hp1 : (0 : Int) ≤ (a : Int) := by omega
    have hp2 : (0 : Int) ≤ (b : Int) := by omega
    have h20 : (2 : Int) ≠ 0 := by decide
    have g1 := tmod_emod (sh_nonneg hn0 a)
    have g2 := tmod_emod (sh_nonneg hn0 b)
    generalize l'[i] = x at *
    cases acc with
    | true =>
      have r := ih (i + 1) true (by omega)
      simp only [Bool.true_or] at r
      simp only [SS, insA, wantedA, Opd.ev, putA, binA, eqbA, unA, fldA, partA, reduceIte, reduceCtorEq, Nat.reduceMod, Nat.reduceDiv, Nat.reduceBEq, resultA, resA, vI, Nat.reduceMul, Nat.reduceAdd, Nat.reduceSub, Nat.reduceEqDiff, Nat.reduceLT, Nat.reducePow, Nat.reduceLeDiff, st, Option.bind_eq_bind, Option.pure_def, List.length_nil, Int.cast_ofNat_Int, List.reverse_nil] at r
      simp only [F3L0b, SS, insA, wantedA, Opd.ev, putA, binA, eqbA, unA, fldA, partA, reduceIte, reduceCtorEq, Nat.reduceMod, Nat.reduceDiv, Nat.reduceBEq, resultA, resA, vI, Nat.reduceMul, Nat.reduceAdd, Nat.reduceSub, Nat.reduceEqDiff, Nat.reduceLT, Nat.reducePow, Nat.reduceLeDiff, st, Option.bind_eq_bind, Option.pure_def, List.length_nil, Int.cast_ofNat_Int, List.reverse_nil, UU, idxP, cellsAt, storeA, fillA, zerosA, putAll, optNat, sliceA, row, Int.reduceLT, Int.reduceLE, Int.reduceGT, Int.reduceGE, Int.reduceEq, Int.reduceNe, Int.reduceToNat, Int.reduceBEq, Int.reduceBNe, Nat.reduceLeDiff, Nat.reduceLT, Nat.reduceBNe, Nat.reduceGT, List.drop_nil, List.take_nil, Option.isSome_none, Int.ofNat_one, Int.ofNat_zero, hw.len, hc, hww, r, Bool.true_or]
    | false =>
      cases c1 : (sh x a % 2 == 1) with
      | false =>
        have r := ih (i + 1) false (by omega)
        unfold inBoth at r
        simp only [Bool.false_or] at r
        simp only [SS, insA, wantedA, Opd.ev, putA, binA, eqbA, unA, fldA, partA, reduceIte, reduceCtorEq, Nat.reduceMod, Nat.reduceDiv, Nat.reduceBEq, resultA, resA, vI, Nat.reduceMul, Nat.reduceAdd, Nat.reduceSub, Nat.reduceEqDiff, Nat.reduceLT, Nat.reducePow, Nat.reduceLeDiff, st, Option.bind_eq_bind, Option.pure_def, List.length_nil, Int.cast_ofNat_Int, List.reverse_nil] at r
        simp only [F3L0b, SS, insA, wantedA, Opd.ev, putA, binA, eqbA, unA, fldA, partA, reduceIte, reduceCtorEq, Nat.reduceMod, Nat.reduceDiv, Nat.reduceBEq, resultA, resA, vI, Nat.reduceMul, Nat.reduceAdd, Nat.reduceSub, Nat.reduceEqDiff, Nat.reduceLT, Nat.reducePow, Nat.reduceLeDiff, st, Option.bind_eq_bind, Option.pure_def, List.length_nil, Int.cast_ofNat_Int, List.reverse_nil, UU, idxP, cellsAt, storeA, fillA, zerosA, putAll, optNat, sliceA, row, Int.reduceLT, Int.reduceLE, Int.reduceGT, Int.reduceGE, Int.reduceEq, Int.reduceNe, Int.reduceToNat, Int.reduceBEq, Int.reduceBNe, Nat.reduceLeDiff, Nat.reduceLT, Nat.reduceBNe, Nat.reduceGT, List.drop_nil, List.take_nil, Option.isSome_none, Int.ofNat_one, Int.ofNat_zero, hw.len, hc, hww, hix, hld, hp1, hs1, g1, h20, c1, ne_eq, not_false_eq_true, and_self, r, Bool.false_or, Bool.false_and]
      | true =>
        cases c2 : (sh x b % 2 == 1) with
        | false =>
          have r := ih (i + 1) false (by omega)
          unfold inBoth at r
          simp only [Bool.false_or] at r
          simp only [SS, insA, wantedA, Opd.ev, putA, binA, eqbA, unA, fldA, partA, reduceIte, reduceCtorEq, Nat.reduceMod, Nat.reduceDiv, Nat.reduceBEq, resultA, resA, vI, Nat.reduceMul, Nat.reduceAdd, Nat.reduceSub, Nat.reduceEqDiff, Nat.reduceLT, Nat.reducePow, Nat.reduceLeDiff, st, Option.bind_eq_bind, Option.pure_def, List.length_nil, Int.cast_ofNat_Int, List.reverse_nil] at r
          simp only [F3L0b, SS, insA, wantedA, Opd.ev, putA, binA, eqbA, unA, fldA, partA, reduceIte, reduceCtorEq, Nat.reduceMod, Nat.reduceDiv, Nat.reduceBEq, resultA, resA, vI, Nat.reduceMul, Nat.reduceAdd, Nat.reduceSub, Nat.reduceEqDiff, Nat.reduceLT, Nat.reducePow, Nat.reduceLeDiff, st, Option.bind_eq_bind, Option.pure_def, List.length_nil, Int.cast_ofNat_Int, List.reverse_nil, UU, idxP, cellsAt, storeA, fillA, zerosA, putAll, optNat, sliceA, row, Int.reduceLT, Int.reduceLE, Int.reduceGT, Int.reduceGE, Int.reduceEq, Int.reduceNe, Int.reduceToNat, Int.reduceBEq, Int.reduceBNe, Nat.reduceLeDiff, Nat.reduceLT, Nat.reduceBNe, Nat.reduceGT, List.drop_nil, List.take_nil, Option.isSome_none, Int.ofNat_one, Int.ofNat_zero, hw.len, hc, hww, hix, hld, hp1, hp2, hs1, hs2, g1, g2, h20, c1, c2, ne_eq, not_false_eq_true, and_self, r, Bool.false_or, Bool.true_and]
        | true =>
          have r := ih (i + 1) true (by omega)
          unfold inBoth at r
          simp only [Bool.true_or] at r
          simp only [SS, insA, wantedA, Opd.ev, putA, binA, eqbA, unA, fldA, partA, reduceIte, reduceCtorEq, Nat.reduceMod, Nat.reduceDiv, Nat.reduceBEq, resultA, resA, vI, Nat.reduceMul, Nat.reduceAdd, Nat.reduceSub, Nat.reduceEqDiff, Nat.reduceLT, Nat.reducePow, Nat.reduceLeDiff, st, Option.bind_eq_bind, Option.pure_def, List.length_nil, Int.cast_ofNat_Int, List.reverse_nil] at r
          simp only [F3L0b, SS, insA, wantedA, Opd.ev, putA, binA, eqbA, unA, fldA, partA, reduceIte, reduceCtorEq, Nat.reduceMod, Nat.reduceDiv, Nat.reduceBEq, resultA, resA, vI, Nat.reduceMul, Nat.reduceAdd, Nat.reduceSub, Nat.reduceEqDiff, Nat.reduceLT, Nat.reducePow, Nat.reduceLeDiff, st, Option.bind_eq_bind, Option.pure_def, List.length_nil, Int.cast_ofNat_Int, List.reverse_nil, UU, idxP, cellsAt, storeA, fillA, zerosA, putAll, optNat, sliceA, row, Int.reduceLT, Int.reduceLE, Int.reduceGT, Int.reduceGE, Int.reduceEq, Int.reduceNe, Int.reduceToNat, Int.reduceBEq, Int.reduceBNe, Nat.reduceLeDiff, Nat.reduceLT, Nat.reduceBNe, Nat.reduceGT, List.drop_nil, List.take_nil, Option.isSome_none, Int.ofNat_one, Int.ofNat_zero, hw.len, hc, hww, hix, hld, hp1, hp2, hs1, hs2, g1, g2, h20, c1, c2, ne_eq, not_false_eq_true, and_self, r, Bool.false_or, Bool.true_and, Bool.true_or]

theorem tail3 (hY : ∀ args H, Y 34 args H = yL 34 args H) {v : AV} {L : List Nat} (hv : IsRow v (castL L)) (hl : L.length ≤ 8) (hb2 : ∀ x ∈ L, x < 256) {a b S K M : Nat} (hAlt : a < L.length) (hBlt : b < L.length) (hS : S < 256) (hne : a ≠ b)
    (q1 : 1 ≤ K) (q2 : K < L.length) (q3 : 1 ≤ M) (q4 : M ≤ pcN 13 (dlN (L.getD a 0) S)) (q5 : M ≤ pcN 13 (dlN (L.getD b 0) S)) (q6 : K = 1 ↔ adj L a b = true) :
    codeL EJ Y F3T0 (sp 203 [(21, .bool true), (20, vI 0), (19, vI M), (18, vI K), (16, .bool true), (13, vI b), (12, vI a), (10, vI S), (9, vI L.length), (0, v)]) [] = some (.r, sp 203 [(8, .bool true)], []) := by
  have hs0 : freeX [] (callL EJ Y 5 [] []) = some (.bool true, []) := shown5 hY
  have d2' : ((a : Int) == (b : Int)) = false := by simp; omega
  have la := hv.load (H := []) (show a < (castL L).length by simpa [castL] using hAlt)
  have lb := hv.load (H := []) (show b < (castL L).length by simpa [castL] using hBlt)
  have ia := hv.idx (show a < (castL L).length by simpa [castL] using hAlt)
  have ib := hv.idx (show b < (castL L).length by simpa [castL] using hBlt)
  rw [castL_get hAlt] at la
  rw [castL_get hBlt] at lb
  have ga : L.getD a 0 = L[a] := getD_get hAlt
  have gb : L.getD b 0 = L[b] := getD_get hBlt
  rw [ga] at q4
  rw [gb] at q5
  unfold adj at q6
  rw [ga] at q6
  have la8 := hb2 _ (List.getElem_mem hAlt)
  have lb8 := hb2 _ (List.getElem_mem hBlt)
  generalize L[a] = xa at *
  generalize L[b] = xb at *
  have n3 := (nat_bits (a := xa) (b := S) (by omega) (by omega)).2.2
  have n4 := (nat_bits (a := xb) (b := S) (by omega) (by omega)).2.2
  have e3 : xa &&& (xa ^^^ S) = dlN xa S := rfl
  have e4 : xb &&& (xb ^^^ S) = dlN xb S := rfl
  rw [e3] at n3
  rw [e4] at n4
  have n5 : dlN xa S ≤ xa := Nat.and_le_left
  have n6 : dlN xb S ≤ xb := Nat.and_le_left
  have z1 := size10 (Y := Y) (H := []) (s := dlN xa S) (by omega)
  have z2 := size10 (Y := Y) (H := []) (s := dlN xb S) (by omega)
  generalize pcN 13 (dlN xa S) = pa at *
  generalize pcN 13 (dlN xb S) = pb at *
  have r1 : (K : Int) ≥ 1 := by omega
  have r2 : (K : Int) < (L.length : Int) := by omega
  have r3 : (M : Int) ≥ 1 := by omega
  have r4 : (M : Int) ≤ min (pa : Int) (pb : Int) := by omega
  have hpb : (0 : Int) ≤ (b : Int) := by omega
  have k2 := shr_eq (k := b) (by omega)
  have h20 : (2 : Int) ≠ 0 := by decide
  have g1 : (sh (xa : Int) b).tmod 2 = sh (xa : Int) b % 2 := tmod_emod (sh_nonneg (by omega) b)
  have f1 := sh_beq xa b
  have r5 : (((K : Int) == 1) == xa.testBit b) = true := by
    cases hx : xa.testBit b with
    | true => have := q6.2 hx; subst this; rfl
    | false =>
      have : K ≠ 1 := fun h => by rw [q6.1 h] at hx; cases hx
      have : ((K : Int) == 1) = false := by simp; omega
      rw [this]; rfl
  have hxx : (true != true) = false := rfl
  have z00 : ((0 : Int) == 0) = true := rfl
  simp only [vI] at z1 z2
  simp only [F3T0, SS, insA, wantedA, Opd.ev, putA, binA, eqbA, unA, fldA, partA, reduceIte, reduceCtorEq, Nat.reduceMod, Nat.reduceDiv, Nat.reduceBEq, resultA, resA, vI, Nat.reduceMul, Nat.reduceAdd, Nat.reduceSub, Nat.reduceEqDiff, Nat.reduceLT, Nat.reducePow, Nat.reduceLeDiff, st, Option.bind_eq_bind, Option.pure_def, List.length_nil, Int.cast_ofNat_Int, List.reverse_nil, UU, idxP, cellsAt, storeA, fillA, zerosA, putAll, optNat, sliceA, row, Int.reduceLT, Int.reduceLE, Int.reduceGT, Int.reduceGE, Int.reduceEq, Int.reduceNe, Int.reduceToNat, Int.reduceBEq, Int.reduceBNe, Nat.reduceLeDiff, Nat.reduceLT, Nat.reduceBNe, Nat.reduceGT, List.drop_nil, List.take_nil, Option.isSome_none, Int.ofNat_one, Int.ofNat_zero, hxx, d2', z00, r1, r2, r3, r4, la, lb, ia, ib, n3, n4, z1, z2, hpb, k2, g1, f1, h20, ne_eq, not_false_eq_true, and_self, r5, hs0]

theorem land_bit (a b j : Nat) : (a &&& (a ^^^ b)).testBit j = (a.testBit j && !b.testBit j) := dlN_bit a b j

/-- The law TopJoined. -/
theorem law3 (hY : ∀ args H, Y 34 args H = yL 34 args H) {v : AV} {l : List Int} (hv : IsRow v l) {x y z : Int} (hx : 0 ≤ x ∧ x < 65536) (hy : 0 ≤ y ∧ y < 256) (hz : 0 ≤ z ∧ z < 256) :
    freeX [] (callL EJ Y 3 [v, .int .u16 x, .int .u8 y, .int .u8 z] []) = some (.bool true, []) := by
  rw [call3 rfl]
  have hshown : ∀ H : Heap, freeX H (callL EJ Y 5 [] []) = some (.bool true, H) := fun H => shown5 hY
  have hs0 := hshown []
  have hsn : List.mapM (snapA [] 6) ([] : List AV) = some [] := rfl
  by_cases c1 : l.length > 40
  · have c1' : (l.length : Int) > 40 := by omega
    simp only [F3B, SS, insA, wantedA, Opd.ev, putA, binA, eqbA, unA, fldA, partA, reduceIte, reduceCtorEq, Nat.reduceMod, Nat.reduceDiv, Nat.reduceBEq, resultA, resA, vI, Nat.reduceMul, Nat.reduceAdd, Nat.reduceSub, Nat.reduceEqDiff, Nat.reduceLT, Nat.reducePow, Nat.reduceLeDiff, st, Option.bind_eq_bind, Option.pure_def, List.length_nil, Int.cast_ofNat_Int, List.reverse_nil, UU, idxP, cellsAt, storeA, fillA, zerosA, putAll, optNat, sliceA, row, Int.reduceLT, Int.reduceLE, Int.reduceGT, Int.reduceGE, Int.reduceEq, Int.reduceNe, Int.reduceToNat, Int.reduceBEq, Int.reduceBNe, Nat.reduceLeDiff, Nat.reduceLT, Nat.reduceBNe, Nat.reduceGT, List.drop_nil, List.take_nil, Option.isSome_none, Int.ofNat_one, Int.ofNat_zero, hv.len, c1', hs0]
  have c1' : ¬ (l.length : Int) > 40 := by omega
  have hsv := hv.snap (H := []) (n := 5)
  have h4 := frame4 (Y := Y) (H := []) hv (by omega)
  cases hf : frameB l with
  | false =>
    rw [hf] at h4
    simp only [F3B, SS, insA, wantedA, Opd.ev, putA, binA, eqbA, unA, fldA, partA, reduceIte, reduceCtorEq, Nat.reduceMod, Nat.reduceDiv, Nat.reduceBEq, resultA, resA, vI, Nat.reduceMul, Nat.reduceAdd, Nat.reduceSub, Nat.reduceEqDiff, Nat.reduceLT, Nat.reducePow, Nat.reduceLeDiff, st, Option.bind_eq_bind, Option.pure_def, List.length_nil, Int.cast_ofNat_Int, List.reverse_nil, UU, idxP, cellsAt, storeA, fillA, zerosA, putAll, optNat, sliceA, row, Int.reduceLT, Int.reduceLE, Int.reduceGT, Int.reduceGE, Int.reduceEq, Int.reduceNe, Int.reduceToNat, Int.reduceBEq, Int.reduceBNe, Nat.reduceLeDiff, Nat.reduceLT, Nat.reduceBNe, Nat.reduceGT, List.drop_nil, List.take_nil, Option.isSome_none, Int.ofNat_one, Int.ofNat_zero, hv.len, c1', hsv, h4, hs0]
  | true =>
  rw [hf] at h4
  by_cases c2 : l.length < 2
  · have c2' : (l.length : Int) < 2 := by omega
    simp only [F3B, SS, insA, wantedA, Opd.ev, putA, binA, eqbA, unA, fldA, partA, reduceIte, reduceCtorEq, Nat.reduceMod, Nat.reduceDiv, Nat.reduceBEq, resultA, resA, vI, Nat.reduceMul, Nat.reduceAdd, Nat.reduceSub, Nat.reduceEqDiff, Nat.reduceLT, Nat.reducePow, Nat.reduceLeDiff, st, Option.bind_eq_bind, Option.pure_def, List.length_nil, Int.cast_ofNat_Int, List.reverse_nil, UU, idxP, cellsAt, storeA, fillA, zerosA, putAll, optNat, sliceA, row, Int.reduceLT, Int.reduceLE, Int.reduceGT, Int.reduceGE, Int.reduceEq, Int.reduceNe, Int.reduceToNat, Int.reduceBEq, Int.reduceBNe, Nat.reduceLeDiff, Nat.reduceLT, Nat.reduceBNe, Nat.reduceGT, List.drop_nil, List.take_nil, Option.isSome_none, Int.ofNat_one, Int.ofNat_zero, hv.len, c1', c2', hsv, h4, hs0]
  have c2' : ¬ (l.length : Int) < 2 := by omega
  by_cases c3 : l.length > 8
  · have c3' : (l.length : Int) > 8 := by omega
    simp only [F3B, SS, insA, wantedA, Opd.ev, putA, binA, eqbA, unA, fldA, partA, reduceIte, reduceCtorEq, Nat.reduceMod, Nat.reduceDiv, Nat.reduceBEq, resultA, resA, vI, Nat.reduceMul, Nat.reduceAdd, Nat.reduceSub, Nat.reduceEqDiff, Nat.reduceLT, Nat.reducePow, Nat.reduceLeDiff, st, Option.bind_eq_bind, Option.pure_def, List.length_nil, Int.cast_ofNat_Int, List.reverse_nil, UU, idxP, cellsAt, storeA, fillA, zerosA, putAll, optNat, sliceA, row, Int.reduceLT, Int.reduceLE, Int.reduceGT, Int.reduceGE, Int.reduceEq, Int.reduceNe, Int.reduceToNat, Int.reduceBEq, Int.reduceBNe, Nat.reduceLeDiff, Nat.reduceLT, Nat.reduceBNe, Nat.reduceGT, List.drop_nil, List.take_nil, Option.isSome_none, Int.ofNat_one, Int.ofNat_zero, hv.len, c1', c2', c3', hsv, h4, hs0]
  have c3' : ¬ (l.length : Int) > 8 := by omega
  obtain ⟨L, rfl, hlen, hs, hb⟩ := shop_of hf
  rw [← hlen] at c1' c2' c3'
  have hl8 : L.length ≤ 8 := by omega
  have hl2 : 2 ≤ L.length := by omega
  have hvl : lenA v = some L.length := by rw [hv.len, ← hlen]
  have h256 : (2 : Nat) ^ L.length ≤ 256 := Nat.le_trans (Nat.pow_le_pow_right (by decide) hl8) (by decide)
  have hpos : 0 < 2 ^ L.length := Nat.pow_pos (by decide)
  have hb2 : ∀ x ∈ L, x < 256 := fun x hx => by have := hb x hx; omega
  obtain ⟨X, rfl⟩ := Int.eq_ofNat_of_zero_le hx.1
  obtain ⟨A0, rfl⟩ := Int.eq_ofNat_of_zero_le hy.1
  obtain ⟨B0, rfl⟩ := Int.eq_ofNat_of_zero_le hz.1
  have hSlt : X % 2 ^ L.length < 2 ^ L.length := Nat.mod_lt _ hpos
  have hAlt : A0 % L.length < L.length := Nat.mod_lt _ (by omega)
  have hBlt : B0 % L.length < L.length := Nat.mod_lt _ (by omega)
  have m1 : (X : Int).tmod ((2 ^ L.length : Nat) : Int) = ((X % 2 ^ L.length : Nat) : Int) := by rw [Int.tmod_eq_emod_of_nonneg (by omega)]; exact (Int.natCast_emod _ _).symm
  have m2 : (A0 : Int).tmod (L.length : Int) = ((A0 % L.length : Nat) : Int) := by rw [Int.tmod_eq_emod_of_nonneg (by omega)]; exact (Int.natCast_emod _ _).symm
  have m3 : (B0 : Int).tmod (L.length : Int) = ((B0 % L.length : Nat) : Int) := by rw [Int.tmod_eq_emod_of_nonneg (by omega)]; exact (Int.natCast_emod _ _).symm
  have n1 : ((2 ^ L.length : Nat) : Int) ≠ 0 := by omega
  have n2 : (L.length : Int) ≠ 0 := by omega
  have w1 : IntKind.wrap .i64 (X : Int) = (X : Int) := wrap_id (by omega) (by omega)
  have w2 : IntKind.wrap .i64 (A0 : Int) = (A0 : Int) := wrap_id (by omega) (by omega)
  have w3 : IntKind.wrap .i64 (B0 : Int) = (B0 : Int) := wrap_id (by omega) (by omega)
  have hp : (0 : Int) ≤ (L.length : Int) := by omega
  have hsh := shl_eq (k := L.length) (by omega)
  generalize hS : X % 2 ^ L.length = S at *
  generalize hA : A0 % L.length = a at *
  generalize hB : B0 % L.length = b at *
  obtain ⟨tv, ht, h6⟩ := threads6 (Y := Y) hv hl8 hb2 (S := S) (by omega)
  have h6 := h6 []
  have htl : lenA tv = some (thr L S).length := by rw [ht.len, castP_len]
  have hpa : (0 : Int) ≤ (a : Int) := by omega
  have hpb : (0 : Int) ≤ (b : Int) := by omega
  have k1 := shr_eq (k := a) (by omega)
  have k2 := shr_eq (k := b) (by omega)
  have h20 : (2 : Int) ≠ 0 := by decide
  have hnn : ∀ (x : Nat) (j : Nat), (sh (x : Int) j).tmod 2 = sh (x : Int) j % 2 := fun x j => tmod_emod (sh_nonneg (by omega) j)
  have g1 := hnn S a
  have g2 := hnn S b
  have f1 := sh_beq S a
  have f2 := sh_beq S b
  simp only [vI] at h6
  by_cases c4 : (thr L S).length > 13
  · have c4' : ((thr L S).length : Int) > 13 := by omega
    simp only [F3B, SS, insA, wantedA, Opd.ev, putA, binA, eqbA, unA, fldA, partA, reduceIte, reduceCtorEq, Nat.reduceMod, Nat.reduceDiv, Nat.reduceBEq, resultA, resA, vI, Nat.reduceMul, Nat.reduceAdd, Nat.reduceSub, Nat.reduceEqDiff, Nat.reduceLT, Nat.reducePow, Nat.reduceLeDiff, st, Option.bind_eq_bind, Option.pure_def, List.length_nil, Int.cast_ofNat_Int, List.reverse_nil, UU, idxP, cellsAt, storeA, fillA, zerosA, putAll, optNat, sliceA, row, Int.reduceLT, Int.reduceLE, Int.reduceGT, Int.reduceGE, Int.reduceEq, Int.reduceNe, Int.reduceToNat, Int.reduceBEq, Int.reduceBNe, Nat.reduceLeDiff, Nat.reduceLT, Nat.reduceBNe, Nat.reduceGT, List.drop_nil, List.take_nil, Option.isSome_none, Int.ofNat_one, Int.ofNat_zero, hvl, c1', c2', c3', hsv, h4, hs0, hp, hsh, m1, m2, m3, n1, n2, w1, w2, w3, ne_eq, not_false_eq_true, and_self, h6, htl, c4']
  have c4' : ¬ ((thr L S).length : Int) > 13 := by omega
  cases c5 : S.testBit a with
  | true =>
    rw [c5] at f1
    simp only [F3B, SS, insA, wantedA, Opd.ev, putA, binA, eqbA, unA, fldA, partA, reduceIte, reduceCtorEq, Nat.reduceMod, Nat.reduceDiv, Nat.reduceBEq, resultA, resA, vI, Nat.reduceMul, Nat.reduceAdd, Nat.reduceSub, Nat.reduceEqDiff, Nat.reduceLT, Nat.reducePow, Nat.reduceLeDiff, st, Option.bind_eq_bind, Option.pure_def, List.length_nil, Int.cast_ofNat_Int, List.reverse_nil, UU, idxP, cellsAt, storeA, fillA, zerosA, putAll, optNat, sliceA, row, Int.reduceLT, Int.reduceLE, Int.reduceGT, Int.reduceGE, Int.reduceEq, Int.reduceNe, Int.reduceToNat, Int.reduceBEq, Int.reduceBNe, Nat.reduceLeDiff, Nat.reduceLT, Nat.reduceBNe, Nat.reduceGT, List.drop_nil, List.take_nil, Option.isSome_none, Int.ofNat_one, Int.ofNat_zero, hvl, c1', c2', c3', hsv, h4, hs0, hp, hsh, m1, m2, m3, n1, n2, w1, w2, w3, ne_eq, not_false_eq_true, and_self, h6, htl, c4', hpa, k1, g1, h20, f1]
  | false =>
  rw [c5] at f1
  cases c6 : S.testBit b with
  | true =>
    rw [c6] at f2
    simp only [F3B, SS, insA, wantedA, Opd.ev, putA, binA, eqbA, unA, fldA, partA, reduceIte, reduceCtorEq, Nat.reduceMod, Nat.reduceDiv, Nat.reduceBEq, resultA, resA, vI, Nat.reduceMul, Nat.reduceAdd, Nat.reduceSub, Nat.reduceEqDiff, Nat.reduceLT, Nat.reducePow, Nat.reduceLeDiff, st, Option.bind_eq_bind, Option.pure_def, List.length_nil, Int.cast_ofNat_Int, List.reverse_nil, UU, idxP, cellsAt, storeA, fillA, zerosA, putAll, optNat, sliceA, row, Int.reduceLT, Int.reduceLE, Int.reduceGT, Int.reduceGE, Int.reduceEq, Int.reduceNe, Int.reduceToNat, Int.reduceBEq, Int.reduceBNe, Nat.reduceLeDiff, Nat.reduceLT, Nat.reduceBNe, Nat.reduceGT, List.drop_nil, List.take_nil, Option.isSome_none, Int.ofNat_one, Int.ofNat_zero, hvl, c1', c2', c3', hsv, h4, hs0, hp, hsh, m1, m2, m3, n1, n2, w1, w2, w3, ne_eq, not_false_eq_true, and_self, h6, htl, c4', hpa, hpb, k1, k2, g1, g2, h20, f1, f2]
  | false =>
  rw [c6] at f2
  obtain ⟨w, l', hw, hperm, h7⟩ := parts7 (Y := Y) hY hv hl8 hf hb2 (S := S) (by omega)
  have h7 := h7 []
  have hin : Inn L.length (thr L S) := thr_inn
  have hM : Meshed (L.length : Int) (castP (thr L S)) L.length (thr L S) := ⟨rfl, by omega, rfl, by omega, hin, fun p hp => by
    obtain ⟨p, q⟩ := p
    have := mem_thr.1 hp
    simp only; omega⟩
  have hfull : full (thr L S).length < 2 ^ (thr L S).length := by
    have : 0 < 2 ^ (thr L S).length := Nat.pow_pos (by decide)
    unfold full; omega
  have hrd : readE (L.length : Int) (castP (thr L S)) [(a : Int), (b : Int)] = 0 := by
    obtain ⟨_, _, _, _, _, hne⟩ := hM
    have b1 : (castP (thr L S)).any (badT L.length) = false := by
      rw [List.any_eq_false]
      intro p hp
      obtain ⟨q, hq, rfl⟩ := List.mem_map.1 hp
      have := hin q hq
      have := hne q hq
      simp only [badT, Bool.or_eq_true, decide_eq_true_eq, beq_iff_eq]
      omega
    have b2 : [(a : Int), (b : Int)].any (badK L.length) = false := by
      simp only [List.any_cons, List.any_nil, badK, Bool.or_false, Bool.or_eq_false_iff, decide_eq_false_iff_not]
      omega
    unfold readE
    rw [if_neg (by omega), if_neg (by rw [castP_len]; omega), if_neg (by simp [b1]), if_neg (by simp [b2])]
  obtain ⟨xv, e1, h8, he1, _, hxv⟩ := joined_8 (Y := Y) (H := []) ht (by rw [castP_len]; omega) (n := L.length) (set := ((full (thr L S).length : Nat) : Int)) (a := a) (b := b)
  have hxv := hxv L.length (thr L S) a b (full (thr L S).length) hM rfl rfl rfl hAlt hBlt hfull
  have he1 : e1 = 0 := by rw [he1, hrd, if_neg (by simp), if_neg (by rw [castP_len]; omega)]
  subst he1
  obtain ⟨kk, mm, e2, h9, _, h9b⟩ := steps9 (Y := Y) (H := []) ht (by rw [castP_len]; omega) (n := L.length) (a := a) (b := b)
  have h9b := h9b L.length (thr L S) a b hM rfl rfl hAlt hBlt
  have hc := reach_con (set := full (thr L S).length) hin hAlt (v := b)
  have hnnl : ∀ x ∈ l', 0 ≤ x := fun x hx => by
    have := hperm.mem_iff.1 hx
    obtain ⟨n, _, rfl⟩ := List.mem_map.1 this
    omega
  have hL := L3_0 (Y := Y) (H := []) (v := v) (xv := .bool xv) (kv := vI kk) (mv := vI mm) (ev := vI e2) hw (by
    rw [hperm.length_eq]
    have key : ∀ k left, (partsN L k left).length ≤ k := fun k => by
      induction k with
      | zero => intro left; simp [partsN]
      | succ k ih => intro left; rw [partsN]; split; simp; simp; exact ih _
    have := key L.length (dlN (full L.length) S)
    simp [castL]; omega) hnnl (n := L.length) (S := S) (a := a) (b := b) (by omega) (by omega) l'.length 0 false (by omega)
  have htog : (l'.any (inBoth a b)) = xv := by
    rw [hperm.any_eq, hxv]
    have e : (castL (partsN L L.length (dlN (full L.length) S))).any (inBoth a b) = (partsN L L.length (dlN (full L.length) S)).any fun p => p.testBit a && p.testBit b := by
      unfold castL
      rw [List.any_map]
      congr 1
      funext p
      simp only [Function.comp, inBoth, sh_beq]
    rw [e]
    refine Bool.eq_iff_iff.2 ?_
    rw [parts_joined hs hl8 (Nat.le_refl _) hAlt c5, hc]
    rfl
  rw [List.drop_zero, htog, Bool.false_or] at hL
  have w4 : IntKind.wrap .i64 (((2 ^ (thr L S).length : Nat) : Int) - 1) = ((full (thr L S).length : Nat) : Int) := by
    have h13 : (2 : Nat) ^ (thr L S).length ≤ 2 ^ 13 := Nat.pow_le_pow_right (by decide) (by omega)
    have : 0 < 2 ^ (thr L S).length := Nat.pow_pos (by decide)
    unfold full
    rw [wrap_id (by omega) (by omega)]; omega
  have hsh2 := shl_eq (k := (thr L S).length) (by omega)
  have hp2 : (0 : Int) ≤ ((thr L S).length : Int) := by omega
  have hts := ht.snap (H := []) (n := 5)
  have hxx : (xv != xv) = false := by cases xv <;> rfl
  simp only [vI] at h7 h8 h9
  simp only [SS, insA, wantedA, Opd.ev, putA, binA, eqbA, unA, fldA, partA, reduceIte, reduceCtorEq, Nat.reduceMod, Nat.reduceDiv, Nat.reduceBEq, resultA, resA, vI, Nat.reduceMul, Nat.reduceAdd, Nat.reduceSub, Nat.reduceEqDiff, Nat.reduceLT, Nat.reducePow, Nat.reduceLeDiff, st, Option.bind_eq_bind, Option.pure_def, List.length_nil, Int.cast_ofNat_Int, List.reverse_nil, Int.ofNat_zero] at hL
  have hpre : codeL EJ Y F3B (sp 203 [(3, .int .u8 (B0 : Int)), (2, .int .u8 (A0 : Int)), (1, .int .u16 (X : Int)), (0, v)]) [] =
      codeL EJ Y F3T0 (sp 203 [(21, .bool xv), (20, .int .i64 e2), (19, .int .i64 mm), (18, .int .i64 kk), (16, .bool xv), (13, .int .i64 (b : Int)), (12, .int .i64 (a : Int)), (10, .int .i64 (S : Int)), (9, .int .i64 (L.length : Int)), (0, v)]) [] := by
    simp only [F3B, in3_0, SS, insA, wantedA, Opd.ev, putA, binA, eqbA, unA, fldA, partA, reduceIte, reduceCtorEq, Nat.reduceMod, Nat.reduceDiv, Nat.reduceBEq, resultA, resA, vI, Nat.reduceMul, Nat.reduceAdd, Nat.reduceSub, Nat.reduceEqDiff, Nat.reduceLT, Nat.reducePow, Nat.reduceLeDiff, st, Option.bind_eq_bind, Option.pure_def, List.length_nil, Int.cast_ofNat_Int, List.reverse_nil, UU, idxP, cellsAt, storeA, fillA, zerosA, putAll, optNat, sliceA, row, Int.reduceLT, Int.reduceLE, Int.reduceGT, Int.reduceGE, Int.reduceEq, Int.reduceNe, Int.reduceToNat, Int.reduceBEq, Int.reduceBNe, Nat.reduceLeDiff, Nat.reduceLT, Nat.reduceBNe, Nat.reduceGT, List.drop_nil, List.take_nil, Option.isSome_none, Int.ofNat_one, Int.ofNat_zero, hvl, c1', c2', c3', hsv, h4, hs0, hp, hsh, m1, m2, m3, n1, n2, w1, w2, w3, ne_eq, not_false_eq_true, and_self, h6, htl, c4', hpa, hpb, k1, k2, g1, g2, h20, f1, f2, h7, hts, hp2, hsh2, w4, h8, h9, hL]
  rw [hpre]
  by_cases d1 : a = b ∨ xv = false
  · rw [← hxv] at h9b
    rw [if_pos d1] at h9b
    obtain ⟨rfl, rfl, rfl⟩ := h9b
    by_cases d2 : a = b
    · have d2' : ((a : Int) == (b : Int)) = true := by rw [d2]; simp
      simp only [F3T0, SS, insA, wantedA, Opd.ev, putA, binA, eqbA, unA, fldA, partA, reduceIte, reduceCtorEq, Nat.reduceMod, Nat.reduceDiv, Nat.reduceBEq, resultA, resA, vI, Nat.reduceMul, Nat.reduceAdd, Nat.reduceSub, Nat.reduceEqDiff, Nat.reduceLT, Nat.reducePow, Nat.reduceLeDiff, st, Option.bind_eq_bind, Option.pure_def, List.length_nil, Int.cast_ofNat_Int, List.reverse_nil, UU, idxP, cellsAt, storeA, fillA, zerosA, putAll, optNat, sliceA, row, Int.reduceLT, Int.reduceLE, Int.reduceGT, Int.reduceGE, Int.reduceEq, Int.reduceNe, Int.reduceToNat, Int.reduceBEq, Int.reduceBNe, Nat.reduceLeDiff, Nat.reduceLT, Nat.reduceBNe, Nat.reduceGT, List.drop_nil, List.take_nil, Option.isSome_none, Int.ofNat_one, Int.ofNat_zero, hs0, ne_eq, not_false_eq_true, and_self, hxx, d2']
    · have d2' : ((a : Int) == (b : Int)) = false := by simp; omega
      have d3 : xv = false := d1.resolve_left d2
      subst d3
      simp only [F3T0, SS, insA, wantedA, Opd.ev, putA, binA, eqbA, unA, fldA, partA, reduceIte, reduceCtorEq, Nat.reduceMod, Nat.reduceDiv, Nat.reduceBEq, resultA, resA, vI, Nat.reduceMul, Nat.reduceAdd, Nat.reduceSub, Nat.reduceEqDiff, Nat.reduceLT, Nat.reducePow, Nat.reduceLeDiff, st, Option.bind_eq_bind, Option.pure_def, List.length_nil, Int.cast_ofNat_Int, List.reverse_nil, UU, idxP, cellsAt, storeA, fillA, zerosA, putAll, optNat, sliceA, row, Int.reduceLT, Int.reduceLE, Int.reduceGT, Int.reduceGE, Int.reduceEq, Int.reduceNe, Int.reduceToNat, Int.reduceBEq, Int.reduceBNe, Nat.reduceLeDiff, Nat.reduceLT, Nat.reduceBNe, Nat.reduceGT, List.drop_nil, List.take_nil, Option.isSome_none, Int.ofNat_one, Int.ofNat_zero, hs0, ne_eq, not_false_eq_true, and_self, hxx, d2']
  · rw [← hxv] at h9b
    rw [if_neg d1] at h9b
    obtain ⟨rfl, hkk, hmm⟩ := h9b
    have d2 : a ≠ b := fun h => d1 (.inl h)
    have d3 : xv = true := by cases xv with
      | true => rfl
      | false => exact absurd (.inr rfl) d1
    have d2' : ((a : Int) == (b : Int)) = false := by simp; omega
    have hJ : ∀ s, (reachN L.length (thr L S) s a).testBit b = true ↔ Con (thr L S) s a b := fun s => reach_con hin hAlt
    obtain ⟨q1, q2, q3, q4, q5, q6⟩ := steps_law hs hAlt hBlt hl8 (by omega) c5 c6 d2 (J := fun s => (reachN L.length (thr L S) s a).testBit b) hJ (by rw [← d3, hxv]) rfl rfl
    generalize (stepsL (fun s => (reachN L.length (thr L S) s a).testBit b) (thr L S).length (2 ^ (thr L S).length) 0 (thr L S).length (thr L S).length).1 = K at *
    generalize (stepsL (fun s => (reachN L.length (thr L S) s a).testBit b) (thr L S).length (2 ^ (thr L S).length) 0 (thr L S).length (thr L S).length).2 = M at *
    subst hkk hmm
    subst d3
    have small : ∀ c, c < L.length → pcN 13 (dlN (L.getD c 0) S) = pcN L.length (dlN (L.getD c 0) S) := fun c hc => by
      refine pcN_small (Nat.lt_of_le_of_lt Nat.and_le_left ?_) (by omega)
      rw [getD_get hc]; exact hb _ (List.getElem_mem hc)
    have ht3 := tail3 hY hv hl8 hb2 hAlt hBlt (show S < 256 by omega) d2 q1 q2 q3 (by rw [small a hAlt]; exact q4) (by rw [small b hBlt]; exact q5) q6
    simp only [vI] at ht3
    rw [ht3]
    simp only [SS, insA, wantedA, Opd.ev, putA, binA, eqbA, unA, fldA, partA, reduceIte, reduceCtorEq, Nat.reduceMod, Nat.reduceDiv, Nat.reduceBEq, resultA, resA, vI, Nat.reduceMul, Nat.reduceAdd, Nat.reduceSub, Nat.reduceEqDiff, Nat.reduceLT, Nat.reducePow, Nat.reduceLeDiff, st, Option.bind_eq_bind, Option.pure_def, List.length_nil, Int.cast_ofNat_Int, List.reverse_nil, UU, idxP, cellsAt, storeA, fillA, zerosA, putAll, optNat, sliceA, row, Int.reduceLT, Int.reduceLE, Int.reduceGT, Int.reduceGE, Int.reduceEq, Int.reduceNe, Int.reduceToNat, Int.reduceBEq, Int.reduceBNe, Nat.reduceLeDiff, Nat.reduceLT, Nat.reduceBNe, Nat.reduceGT, List.drop_nil, List.take_nil, Option.isSome_none, Int.ofNat_one, Int.ofNat_zero]
end
end Go.X
