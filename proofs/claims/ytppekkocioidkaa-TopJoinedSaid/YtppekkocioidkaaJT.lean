import Derived.Test.YtppekkocioidkaaJS
/-! Parts of a shop. -/
set_option linter.unusedSimpArgs false
set_option linter.unusedVariables false
set_option maxHeartbeats 2000000
set_option maxRecDepth 10000
namespace Go.X
open Go Go.RowKit

theorem bitltN {out v k : Nat} (h : out < 2 ^ k) (hv : out.testBit v = true) : v < k := by
  rcases Nat.lt_or_ge v k with h1 | h1
  · exact h1
  · rw [Nat.testBit_lt_two_pow (Nat.lt_of_lt_of_le h (Nat.pow_le_pow_right (by omega) h1))] at hv; cases hv
def castL (L : List Nat) : List Int := L.map fun x : Nat => (x : Int)
theorem castL_get {L : List Nat} {i : Nat} (hi : i < L.length) : (castL L).getD i 0 = ((L[i] : Nat) : Int) := by simp [castL, List.getD_eq_getElem?_getD, hi]

theorem Gro.free2 {H : Heap} {k n d : Nat} {v : AV} {l : List Int} (h : Gro k 1 H v n (l.map vI)) : ∃ w, freeA H (d + 2) v = some w ∧ IsRow w l ∧ ∀ H n, freeA H (n + 1) w = some w := by
  obtain ⟨h1, ⟨rfl, rfl⟩ | ⟨id, ver, hid, rfl, hH⟩⟩ := h
  · have : l = [] := by cases l with | nil => rfl | cons a l => simp at h1
    subst this; exact ⟨.nils, rfl, .nil, fun _ _ => rfl⟩
  · have hn : n = l.length := by simpa using h1.symm
    subst hn
    exact ⟨.imm false (l.map vI) l.length, by rw [free_sl, hH, freeS_some, if_pos (by simp), List.drop_zero, Nat.mul_one, List.take_of_length_le (by simp), mapM_free, freeB_some], .imm false l, fun _ _ => rfl⟩
theorem low_chk : ((List.range 256).all fun x => x == 0 || (IntKind.wrap .i64 ((BitVec.ofInt 64 (x : Int) &&& BitVec.ofInt 64 (IntKind.wrap .i64 (0 - (x : Int)))).toNat : Int) == ((2 ^ lowN x : Nat) : Int))) = true := by decide +kernel
theorem low_eq {x : Nat} (h0 : x ≠ 0) (hx : x < 256) : bitsA .and .i64 (x : Int) (IntKind.wrap .i64 (0 - (x : Int))) = some (vI ((2 ^ lowN x : Nat) : Int)) := by
  have h := List.all_eq_true.1 low_chk x (List.mem_range.2 hx)
  have h1 : bitsA .and .i64 (x : Int) (IntKind.wrap .i64 (0 - (x : Int))) = some (vI (IntKind.wrap .i64 ((BitVec.ofInt 64 (x : Int) &&& BitVec.ofInt 64 (IntKind.wrap .i64 (0 - (x : Int)))).toNat : Int))) := rfl
  simp only [Bool.or_eq_true, beq_iff_eq] at h
  rw [h1, h.resolve_left h0]

theorem gpass_lt {left : Nat} {n : Nat} (hl : left < 2 ^ n) : ∀ (L : List Nat) (i part : Nat), part < 2 ^ n → gpass left i L part < 2 ^ n
  | [], i, part, h => h
  | x :: L, i, part, h => by
    refine gpass_lt hl L (i + 1) _ ?_
    split
    · exact Nat.or_lt_two_pow h (Nat.lt_of_le_of_lt Nat.and_le_right hl)
    · exact h

section
variable {Y : Run} {H : Heap}

theorem L12_0 {v ov : AV} {L : List Nat} (hv : IsRow v (castL L)) (hl : L.length ≤ 8) (hb : ∀ x ∈ L, x < 256) {left r m : Nat} (hle : left < 2 ^ 8) (d : Nat) : ∀ (i part : Nat), i + d = L.length → part < 2 ^ 8 →
    lp EJ Y F12L0 (sp 53 [(25, vI i), (24, vI L.length), (21, vI r), (20, vI m), (7, vI part), (6, vI left), (5, ov), (0, v)]) H =
      some (.x 4, sp 53 [(21, vI r), (20, vI m), (7, vI (gpass left i (L.drop i) part)), (6, vI left), (5, ov), (0, v)], H) := by
  induction d with
  | zero =>
    intro i part hi hp
    rw [un12_0, List.drop_eq_nil_of_le (by omega)]
    have : ¬ ((i : Int) < (L.length : Int)) := by omega
    simp only [F12L0b, gpass, SS, insA, wantedA, Opd.ev, putA, binA, eqbA, unA, fldA, partA, reduceIte, reduceCtorEq, Nat.reduceMod, Nat.reduceDiv, Nat.reduceBEq, resultA, resA, vI, Nat.reduceMul, Nat.reduceAdd, Nat.reduceSub, Nat.reduceEqDiff, Nat.reduceLT, Nat.reducePow, Nat.reduceLeDiff, st, Option.bind_eq_bind, Option.pure_def, List.length_nil, Int.cast_ofNat_Int, List.reverse_nil, UU, idxP, cellsAt, storeA, fillA, zerosA, putAll, optNat, sliceA, row, Int.reduceLT, Int.reduceLE, Int.reduceGT, Int.reduceGE, Int.reduceEq, Int.reduceNe, Int.reduceToNat, Int.reduceBEq, Int.reduceBNe, Nat.reduceLeDiff, Nat.reduceLT, Nat.reduceBNe, Nat.reduceGT, List.drop_nil, List.take_nil, Option.isSome_none, Int.ofNat_one, Int.ofNat_zero, this]
  | succ d ih =>
    intro i part hi hp
    have hlt : i < L.length := by omega
    have hlt' : i < (castL L).length := by simpa [castL] using hlt
    have hc : (i : Int) < (L.length : Int) := by omega
    have hw := wrap_succ (n := i) (by omega)
    have hld := hv.load (H := H) hlt'
    rw [castL_get hlt] at hld
    have hx := hb _ (List.getElem_mem hlt)
    have hs1 := shr_eq (k := i) (by omega)
    have hp1 : (0 : Int) ≤ (i : Int) := by omega
    have hle' : left < 256 := hle
    have hp' : part < 256 := hp
    rw [un12_0, List.drop_eq_getElem_cons hlt]
    generalize L[i] = x at *
    have b1 := (nat_bits (a := x) (b := left) (by omega) (by omega)).1
    have k1 : x &&& left ≤ left := Nat.and_le_right
    have b2 := (nat_bits (a := part) (b := x &&& left) (by omega) (by omega)).2.1
    have q2 : part ||| (x &&& left) < 2 ^ 8 := Nat.or_lt_two_pow hp (by omega)
    simp only [gpass]
    cases c : part.testBit i with
    | true =>
      have c' : (sh (part : Int) i % 2 == 1) = true := by rw [sh_beq, c]
      have r1 := ih (i + 1) (part ||| (x &&& left)) (by omega) q2
      simp only [if_true]
      simp only [SS, insA, wantedA, Opd.ev, putA, binA, eqbA, unA, fldA, partA, reduceIte, reduceCtorEq, Nat.reduceMod, Nat.reduceDiv, Nat.reduceBEq, resultA, resA, vI, Nat.reduceMul, Nat.reduceAdd, Nat.reduceSub, Nat.reduceEqDiff, Nat.reduceLT, Nat.reducePow, Nat.reduceLeDiff, st, Option.bind_eq_bind, Option.pure_def, List.length_nil, Int.cast_ofNat_Int, List.reverse_nil] at r1
      simp only [F12L0b, SS, insA, wantedA, Opd.ev, putA, binA, eqbA, unA, fldA, partA, reduceIte, reduceCtorEq, Nat.reduceMod, Nat.reduceDiv, Nat.reduceBEq, resultA, resA, vI, Nat.reduceMul, Nat.reduceAdd, Nat.reduceSub, Nat.reduceEqDiff, Nat.reduceLT, Nat.reducePow, Nat.reduceLeDiff, st, Option.bind_eq_bind, Option.pure_def, List.length_nil, Int.cast_ofNat_Int, List.reverse_nil, UU, idxP, cellsAt, storeA, fillA, zerosA, putAll, optNat, sliceA, row, Int.reduceLT, Int.reduceLE, Int.reduceGT, Int.reduceGE, Int.reduceEq, Int.reduceNe, Int.reduceToNat, Int.reduceBEq, Int.reduceBNe, Nat.reduceLeDiff, Nat.reduceLT, Nat.reduceBNe, Nat.reduceGT, List.drop_nil, List.take_nil, Option.isSome_none, Int.ofNat_one, Int.ofNat_zero, hc, hv.idx hlt', hld, hw, hp1, hs1, and_one, c', b1, b2, r1]
    | false =>
      have c' : (sh (part : Int) i % 2 == 1) = false := by rw [sh_beq, c]
      have r1 := ih (i + 1) part (by omega) hp
      simp only [Bool.false_eq_true, if_false]
      simp only [SS, insA, wantedA, Opd.ev, putA, binA, eqbA, unA, fldA, partA, reduceIte, reduceCtorEq, Nat.reduceMod, Nat.reduceDiv, Nat.reduceBEq, resultA, resA, vI, Nat.reduceMul, Nat.reduceAdd, Nat.reduceSub, Nat.reduceEqDiff, Nat.reduceLT, Nat.reducePow, Nat.reduceLeDiff, st, Option.bind_eq_bind, Option.pure_def, List.length_nil, Int.cast_ofNat_Int, List.reverse_nil] at r1
      simp only [F12L0b, SS, insA, wantedA, Opd.ev, putA, binA, eqbA, unA, fldA, partA, reduceIte, reduceCtorEq, Nat.reduceMod, Nat.reduceDiv, Nat.reduceBEq, resultA, resA, vI, Nat.reduceMul, Nat.reduceAdd, Nat.reduceSub, Nat.reduceEqDiff, Nat.reduceLT, Nat.reducePow, Nat.reduceLeDiff, st, Option.bind_eq_bind, Option.pure_def, List.length_nil, Int.cast_ofNat_Int, List.reverse_nil, UU, idxP, cellsAt, storeA, fillA, zerosA, putAll, optNat, sliceA, row, Int.reduceLT, Int.reduceLE, Int.reduceGT, Int.reduceGE, Int.reduceEq, Int.reduceNe, Int.reduceToNat, Int.reduceBEq, Int.reduceBNe, Nat.reduceLeDiff, Nat.reduceLT, Nat.reduceBNe, Nat.reduceGT, List.drop_nil, List.take_nil, Option.isSome_none, Int.ofNat_one, Int.ofNat_zero, hc, hv.idx hlt', hld, hw, hp1, hs1, and_one, c', r1]

theorem L12_1 {v ov : AV} {L : List Nat} (hv : IsRow v (castL L)) (hl : L.length ≤ 8) (hb : ∀ x ∈ L, x < 256) {left : Nat} (hle : left < 2 ^ 8) (d : Nat) : ∀ (r part : Nat), r + d = L.length → part < 2 ^ 8 →
    lp EJ Y F12L1 (sp 53 [(21, vI r), (20, vI L.length), (7, vI part), (6, vI left), (5, ov), (0, v)]) H = some (.x 2, sp 53 [(7, vI (iter (gpass left 0 L) d part)), (6, vI left), (5, ov), (0, v)], H) := by
  induction d with
  | zero =>
    intro r part hi hp
    rw [un12_1]
    have : ¬ ((r : Int) < (L.length : Int)) := by omega
    simp only [F12L1b, iter, SS, insA, wantedA, Opd.ev, putA, binA, eqbA, unA, fldA, partA, reduceIte, reduceCtorEq, Nat.reduceMod, Nat.reduceDiv, Nat.reduceBEq, resultA, resA, vI, Nat.reduceMul, Nat.reduceAdd, Nat.reduceSub, Nat.reduceEqDiff, Nat.reduceLT, Nat.reducePow, Nat.reduceLeDiff, st, Option.bind_eq_bind, Option.pure_def, List.length_nil, Int.cast_ofNat_Int, List.reverse_nil, UU, idxP, cellsAt, storeA, fillA, zerosA, putAll, optNat, sliceA, row, Int.reduceLT, Int.reduceLE, Int.reduceGT, Int.reduceGE, Int.reduceEq, Int.reduceNe, Int.reduceToNat, Int.reduceBEq, Int.reduceBNe, Nat.reduceLeDiff, Nat.reduceLT, Nat.reduceBNe, Nat.reduceGT, List.drop_nil, List.take_nil, Option.isSome_none, Int.ofNat_one, Int.ofNat_zero, this]
  | succ d ih =>
    intro r part hi hp
    have hc : (r : Int) < (L.length : Int) := by omega
    have hw := wrap_succ (n := r) (by omega)
    have hlen : lenA v = some L.length := by rw [hv.len]; simp [castL]
    have r1 := L12_0 (Y := Y) (H := H) (ov := ov) hv hl hb (left := left) (r := r) (m := L.length) hle L.length 0 part (by omega) hp
    have r2 := ih (r + 1) (gpass left 0 L part) (by omega) (gpass_lt hle L 0 part hp)
    rw [un12_1]
    simp only [SS, insA, wantedA, Opd.ev, putA, binA, eqbA, unA, fldA, partA, reduceIte, reduceCtorEq, Nat.reduceMod, Nat.reduceDiv, Nat.reduceBEq, resultA, resA, vI, Nat.reduceMul, Nat.reduceAdd, Nat.reduceSub, Nat.reduceEqDiff, Nat.reduceLT, Nat.reducePow, Nat.reduceLeDiff, st, Option.bind_eq_bind, Option.pure_def, List.length_nil, Int.cast_ofNat_Int, List.reverse_nil, Int.ofNat_zero, List.drop_zero] at r1 r2
    simp only [F12L1b, F12T0, in12_0, iter, SS, insA, wantedA, Opd.ev, putA, binA, eqbA, unA, fldA, partA, reduceIte, reduceCtorEq, Nat.reduceMod, Nat.reduceDiv, Nat.reduceBEq, resultA, resA, vI, Nat.reduceMul, Nat.reduceAdd, Nat.reduceSub, Nat.reduceEqDiff, Nat.reduceLT, Nat.reducePow, Nat.reduceLeDiff, st, Option.bind_eq_bind, Option.pure_def, List.length_nil, Int.cast_ofNat_Int, List.reverse_nil, UU, idxP, cellsAt, storeA, fillA, zerosA, putAll, optNat, sliceA, row, Int.reduceLT, Int.reduceLE, Int.reduceGT, Int.reduceGE, Int.reduceEq, Int.reduceNe, Int.reduceToNat, Int.reduceBEq, Int.reduceBNe, Nat.reduceLeDiff, Nat.reduceLT, Nat.reduceBNe, Nat.reduceGT, List.drop_nil, List.take_nil, Option.isSome_none, Int.ofNat_one, Int.ofNat_zero, hc, hw, hlen, r1, r2]

theorem iter_lt {left : Nat} {n : Nat} (hl : left < 2 ^ n) (L : List Nat) (k : Nat) {x : Nat} (hx : x < 2 ^ n) : iter (gpass left 0 L) k x < 2 ^ n := iter_inv (Q := fun x => x < 2 ^ n) (fun x h => gpass_lt hl L 0 x h) k hx

theorem L12_2 {v : AV} {L : List Nat} (hv : IsRow v (castL L)) (hl : L.length ≤ 8) (hb : ∀ x ∈ L, x < 256) (k : Nat) : ∀ (left : Nat) (out : List Int) (ov : AV) (H : Heap), left < 2 ^ L.length → pcN L.length left ≤ k → k ≤ 8 → out.length + k ≤ 1000 → Gro 0 1 H ov out.length (out.map vI) →
    ∃ (ov' : AV) (H' : Heap), Gro 0 1 H' ov' (out ++ castL (partsN L k left)).length ((out ++ castL (partsN L k left)).map vI) ∧
      lp EJ Y F12L2 (sp 53 [(6, vI left), (5, ov), (0, v)]) H = some (.x 0, sp 53 [(5, ov')], H') := by
  have fin : ∀ (ov : AV) (H : Heap), lp EJ Y F12L2 (sp 53 [(6, vI 0), (5, ov), (0, v)]) H = some (.x 0, sp 53 [(5, ov)], H) := by
    intro ov H
    rw [un12_2]
    have : ¬ ((0 : Int) > 0) := by omega
    simp only [F12L2b, SS, insA, wantedA, Opd.ev, putA, binA, eqbA, unA, fldA, partA, reduceIte, reduceCtorEq, Nat.reduceMod, Nat.reduceDiv, Nat.reduceBEq, resultA, resA, vI, Nat.reduceMul, Nat.reduceAdd, Nat.reduceSub, Nat.reduceEqDiff, Nat.reduceLT, Nat.reducePow, Nat.reduceLeDiff, st, Option.bind_eq_bind, Option.pure_def, List.length_nil, Int.cast_ofNat_Int, List.reverse_nil, UU, idxP, cellsAt, storeA, fillA, zerosA, putAll, optNat, sliceA, row, Int.reduceLT, Int.reduceLE, Int.reduceGT, Int.reduceGE, Int.reduceEq, Int.reduceNe, Int.reduceToNat, Int.reduceBEq, Int.reduceBNe, Nat.reduceLeDiff, Nat.reduceLT, Nat.reduceBNe, Nat.reduceGT, List.drop_nil, List.take_nil, Option.isSome_none, Int.ofNat_one, Int.ofNat_zero, this]
  have bits0 : ∀ {left : Nat}, left ≠ 0 → left < 2 ^ L.length → left.testBit (lowN left) = true := fun h0 hlt => lowN_mem h0 fun v hv => by
    have := bitltN hlt hv; omega
  induction k with
  | zero =>
    intro left out ov H hlt hk _ _ hg
    have h0 : left = 0 := by
      apply Classical.byContradiction
      intro h0
      have hb := bits0 h0 hlt
      have := pcN_lt (n := L.length) (s := 0) (t := left) (fun j hj => by simp at hj) (bitltN hlt hb) (by simp) hb
      omega
    subst h0
    exact ⟨ov, H, by simpa [partsN, castL] using hg, by simpa using fin ov H⟩
  | succ k ih =>
    intro left out ov H hlt hk hk8 hlen hg
    by_cases h0 : left = 0
    · subst h0
      exact ⟨ov, H, by simpa [partsN, castL] using hg, by simpa using fin ov H⟩
    have hbit := bits0 h0 hlt
    have hlo := bitltN hlt hbit
    have h8 : (2 : Nat) ^ L.length ≤ 2 ^ 8 := Nat.pow_le_pow_right (by decide) hl
    have hle : left < 2 ^ 8 := by omega
    have hle' : left < 256 := hle
    have hlow := low_eq h0 hle'
    have hpw : 2 ^ lowN left < 2 ^ L.length := Nat.pow_lt_pow_right (by decide) hlo
    have r1 := L12_1 (Y := Y) (H := H) (ov := ov) hv hl hb hle L.length 0 (2 ^ lowN left) (by omega) (by omega)
    change lp EJ Y F12L1 _ H = some (.x 2, sp 53 [(7, vI ((partN L left (lowN left) : Nat) : Int)), (6, vI left), (5, ov), (0, v)], H) at r1
    have hpl : partN L left (lowN left) < 2 ^ L.length := iter_lt hlt L _ hpw
    have hself : (partN L left (lowN left)).testBit (lowN left) = true := iter_inv (Q := fun x => x.testBit (lowN left) = true) (fun x hx => gpass_ge L 0 x hx) _ (by simp)
    generalize hpa : partN L left (lowN left) = part at *
    have hd := (nat_bits (a := left) (b := part) (by omega) (by omega)).2.2
    obtain ⟨ov1, H1, a1, g1, _, _⟩ := hg.app (ys := [vI part]) (bytes := 8) (Nat.zero_le _) rfl rfl (by omega) (by omega)
    have hdl : dlN left part < 2 ^ L.length := Nat.lt_of_le_of_lt Nat.and_le_left hlt
    have hpc : pcN L.length (dlN left part) < pcN L.length left := pcN_lt (fun j hj => by rw [dlN_bit] at hj; simp at hj; exact hj.1) hlo (by rw [dlN_bit, hself]; simp) hbit
    obtain ⟨ov2, H2, g2, r2⟩ := ih (dlN left part) (out ++ [(part : Int)]) ov1 H1 hdl (by omega) (by omega) (by simp; omega) (by simpa using g1)
    refine ⟨ov2, H2, ?_, ?_⟩
    · have e : out ++ castL (partsN L (k + 1) left) = out ++ [(part : Int)] ++ castL (partsN L k (dlN left part)) := by
        rw [partsN, if_neg h0, hpa]; simp [castL]
      rw [e]; exact g2
    · have hc : (left : Int) > 0 := by omega
      have hlen : lenA v = some L.length := by rw [hv.len]; simp [castL]
      have e2 : left &&& (left ^^^ part) = dlN left part := rfl
      rw [e2] at hd
      rw [un12_2]
      simp only [vI] at a1 hlow
      simp only [SS, insA, wantedA, Opd.ev, putA, binA, eqbA, unA, fldA, partA, reduceIte, reduceCtorEq, Nat.reduceMod, Nat.reduceDiv, Nat.reduceBEq, resultA, resA, vI, Nat.reduceMul, Nat.reduceAdd, Nat.reduceSub, Nat.reduceEqDiff, Nat.reduceLT, Nat.reducePow, Nat.reduceLeDiff, st, Option.bind_eq_bind, Option.pure_def, List.length_nil, Int.cast_ofNat_Int, List.reverse_nil, Int.ofNat_zero] at r1 r2
      simp only [F12L2b, F12T1, in12_1, SS, insA, wantedA, Opd.ev, putA, binA, eqbA, unA, fldA, partA, reduceIte, reduceCtorEq, Nat.reduceMod, Nat.reduceDiv, Nat.reduceBEq, resultA, resA, vI, Nat.reduceMul, Nat.reduceAdd, Nat.reduceSub, Nat.reduceEqDiff, Nat.reduceLT, Nat.reducePow, Nat.reduceLeDiff, st, Option.bind_eq_bind, Option.pure_def, List.length_nil, Int.cast_ofNat_Int, List.reverse_nil, UU, idxP, cellsAt, storeA, fillA, zerosA, putAll, optNat, sliceA, row, Int.reduceLT, Int.reduceLE, Int.reduceGT, Int.reduceGE, Int.reduceEq, Int.reduceNe, Int.reduceToNat, Int.reduceBEq, Int.reduceBNe, Nat.reduceLeDiff, Nat.reduceLT, Nat.reduceBNe, Nat.reduceGT, List.drop_nil, List.take_nil, Option.isSome_none, Int.ofNat_one, Int.ofNat_zero, hc, hlow, hlen, r1, List.set_cons_zero, cellsOf, a1, hd, r2]

theorem all17 {v : AV} {L : List Nat} (hv : IsRow v (castL L)) (hl : L.length ≤ 10) : freeX H (callL EJ Y 17 [v] []) = some (vI ((full L.length : Nat) : Int), H) := by
  have hs := shl_eq (k := L.length) (by omega)
  have hp : (0 : Int) ≤ (L.length : Int) := by omega
  have hlen : lenA v = some L.length := by rw [hv.len]; simp [castL]
  have h13 : (2 : Nat) ^ L.length ≤ 2 ^ 10 := Nat.pow_le_pow_right (by decide) hl
  have h0 : 0 < 2 ^ L.length := Nat.pow_pos (by decide)
  have hsub : IntKind.wrap .i64 (((2 ^ L.length : Nat) : Int) - 1) = ((full L.length : Nat) : Int) := by
    unfold full
    rw [wrap_id (by omega) (by omega)]; omega
  rw [call17 rfl]
  simp only [F17B, SS, insA, wantedA, Opd.ev, putA, binA, eqbA, unA, fldA, partA, reduceIte, reduceCtorEq, Nat.reduceMod, Nat.reduceDiv, Nat.reduceBEq, resultA, resA, vI, Nat.reduceMul, Nat.reduceAdd, Nat.reduceSub, Nat.reduceEqDiff, Nat.reduceLT, Nat.reducePow, Nat.reduceLeDiff, st, Option.bind_eq_bind, Option.pure_def, List.length_nil, Int.cast_ofNat_Int, List.reverse_nil, UU, idxP, cellsAt, storeA, fillA, zerosA, putAll, optNat, sliceA, row, Int.reduceLT, Int.reduceLE, Int.reduceGT, Int.reduceGE, Int.reduceEq, Int.reduceNe, Int.reduceToNat, Int.reduceBEq, Int.reduceBNe, Nat.reduceLeDiff, Nat.reduceLT, Nat.reduceBNe, Nat.reduceGT, List.drop_nil, List.take_nil, Option.isSome_none, Int.ofNat_one, Int.ofNat_zero, hlen, hp, hs, hsub]

theorem parts12 {v : AV} {L : List Nat} (hY : ∀ args H, Y 34 args H = yL 34 args H) (hv : IsRow v (castL L)) (hl : L.length ≤ 8) (hb : ∀ x ∈ L, x < 256) {S : Nat} (hS : S < 2 ^ L.length) : ∃ w l', IsRow w l' ∧ l'.Perm (castL (partsN L L.length (dlN (full L.length) S))) ∧ (∀ H n, freeA H (n + 1) w = some w) ∧
    ∀ H : Heap, freeX H (callL EJ Y 12 [v, vI S] []) = some (w, H) := by
  have h8 : (2 : Nat) ^ L.length ≤ 2 ^ 8 := Nat.pow_le_pow_right (by decide) hl
  have h0 : 0 < 2 ^ L.length := Nat.pow_pos (by decide)
  have hf : full L.length < 2 ^ L.length := by unfold full; omega
  have h17 := all17 (Y := Y) (H := []) hv (by omega)
  have hd := (nat_bits (a := full L.length) (b := S) (by omega) (by omega)).2.2
  have e2 : full L.length &&& (full L.length ^^^ S) = dlN (full L.length) S := rfl
  rw [e2] at hd
  have hdl : dlN (full L.length) S < 2 ^ L.length := Nat.lt_of_le_of_lt Nat.and_le_left hf
  obtain ⟨ov, H1, g1, r1⟩ := L12_2 (Y := Y) hv hl hb L.length (dlN (full L.length) S) [] .nils [] hdl (pcN_top _ _) hl (by simp; omega) (Gro.nil 0 1 [])
  have hlen : (castL (partsN L L.length (dlN (full L.length) S))).length ≤ 8 := by
    have key : ∀ k left, (partsN L k left).length ≤ k := fun k => by
      induction k with
      | zero => intro left; simp [partsN]
      | succ k ih => intro left; rw [partsN]; split; simp; simp; exact ih _
    have := key L.length (dlN (full L.length) S)
    simp [castL]; omega
  simp only [List.nil_append] at g1
  obtain ⟨w1, H2, l2, p2, g2, r2⟩ := sort18 hY g1 hlen
  obtain ⟨w, f1, hw, hi⟩ := Gro.free2 (d := 4) g2
  refine ⟨w, l2, hw, p2, hi, fun H => ?_⟩
  · rw [call12 rfl]
    have hsn := hv.snap (H := []) (n := 5)
    simp only [vI] at h17
    simp only [SS, insA, wantedA, Opd.ev, putA, binA, eqbA, unA, fldA, partA, reduceIte, reduceCtorEq, Nat.reduceMod, Nat.reduceDiv, Nat.reduceBEq, resultA, resA, vI, Nat.reduceMul, Nat.reduceAdd, Nat.reduceSub, Nat.reduceEqDiff, Nat.reduceLT, Nat.reducePow, Nat.reduceLeDiff, st, Option.bind_eq_bind, Option.pure_def, List.length_nil, Int.cast_ofNat_Int, List.reverse_nil] at r1
    simp only [F12B, F12T2, in12_2, SS, insA, wantedA, Opd.ev, putA, binA, eqbA, unA, fldA, partA, reduceIte, reduceCtorEq, Nat.reduceMod, Nat.reduceDiv, Nat.reduceBEq, resultA, resA, vI, Nat.reduceMul, Nat.reduceAdd, Nat.reduceSub, Nat.reduceEqDiff, Nat.reduceLT, Nat.reducePow, Nat.reduceLeDiff, st, Option.bind_eq_bind, Option.pure_def, List.length_nil, Int.cast_ofNat_Int, List.reverse_nil, UU, idxP, cellsAt, storeA, fillA, zerosA, putAll, optNat, sliceA, row, Int.reduceLT, Int.reduceLE, Int.reduceGT, Int.reduceGE, Int.reduceEq, Int.reduceNe, Int.reduceToNat, Int.reduceBEq, Int.reduceBNe, Nat.reduceLeDiff, Nat.reduceLT, Nat.reduceBNe, Nat.reduceGT, List.drop_nil, List.take_nil, Option.isSome_none, Int.ofNat_one, Int.ofNat_zero, hsn, h17, hd, r1, r2, f1]
end
end Go.X
