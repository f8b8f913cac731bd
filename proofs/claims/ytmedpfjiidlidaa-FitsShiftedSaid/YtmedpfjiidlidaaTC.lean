import Derived.Test.YtmedpfjiidlidaaTE
import Derived.Test.YtmedpfjiidlidaaYB
/-! Fits: the law on tables that are shifted or renamed. -/
set_option linter.unusedSimpArgs false
set_option linter.unusedVariables false
set_option maxHeartbeats 8000000
set_option maxRecDepth 10000
namespace Go.X
open Go Go.RowKit
section
variable {Y : Run} {H : Heap}

/-! ### a mixture under other names -/
theorem hlt_of {id : Nat} {o : Ob} (h : H[id]? = some o) : id < H.length := by
  rcases Nat.lt_or_ge id H.length with h1 | h1
  · exact h1
  · rw [List.getElem?_eq_none h1] at h; cases h
theorem Gro.one {k e n : Nat} {v : AV} {cells : List AV} (h : Gro k e H v n cells) : one v = true ∧ isU v = false ∧ cellsOf v = [v] := by
  obtain ⟨h1, ⟨rfl, rfl⟩ | ⟨id, ver, hid, rfl, hH⟩⟩ := h <;> exact ⟨rfl, rfl, rfl⟩
theorem Gro.ge {k e n j : Nat} {v : AV} {cells : List AV} (h : Gro k e H v n cells) (hj : idOf v = some j) : k ≤ j := by
  obtain ⟨h1, ⟨rfl, rfl⟩ | ⟨id, ver, hid, rfl, hH⟩⟩ := h
  · cases hj
  · cases hj; exact hid
theorem Gro.free2 {k n d : Nat} {v : AV} {l : List Int} (h : Gro k 1 H v n (l.map vI)) : ∃ w, freeA H (d + 2) v = some w ∧ IsRow w l := by
  rcases Nat.eq_zero_or_pos n with h0 | h0
  · obtain ⟨h1, ⟨rfl, rfl⟩ | ⟨id, ver, hid, rfl, hH⟩⟩ := h
    · have : l = [] := by cases l with | nil => rfl | cons a l => simp at h1
      subst this; exact ⟨.nils, rfl, .nil⟩
    · have : l = [] := by cases l with | nil => rfl | cons a l => simp at h1; omega
      subst this h0
      exact ⟨_, by rw [free_sl, hH, freeS_some, if_pos (by simp)]; rfl, .imm false []⟩
  · exact ⟨_, h.free h0, .imm false l⟩

/-- A bit that no mask has. -/
theorem bit_hi {k e : Nat} (h1 : 250 ≤ e) (h2 : k / 2 ^ 250 = 0) : (k / 2 ^ e % 2 = 1) = False := by
  have a : k < 2 ^ 250 := (Nat.div_eq_zero_iff.1 h2).resolve_left (Nat.pos_iff_ne_zero.1 (Nat.two_pow_pos 250))
  have b := Nat.pow_le_pow_right (n := 2) (by decide) h1
  rw [Nat.div_eq_of_lt (by omega)]; simp

structure RS (R : Heap) (xv o : AV) (d : Int) (n : Nat) (p : List Int) : Prop where
  r0 : R[0]? = some ⟨0, [xv, vI d]⟩
  r1 : R[1]? = some ⟨0, [.nils, vI 0]⟩
  r2 : R[2]? = some ⟨0, [o, vI d]⟩
  gro : Gro 3 1 R o n (p.map vI)
theorem RS.push {R : Heap} {xv o : AV} {d : Int} {n : Nat} {p : List Int} (h : RS R xv o d n p) (hn : n ≤ 1000) (x : Int) :
    ∃ o' R' R'', appA (R ++ [⟨0, [vI x]⟩]) 1 8 o (.sl R.length 0 1 0 1 none) = some (o', R') ∧ storeA R' 1 (.ptr 2 0 0) o' = some R'' ∧ RS R'' xv o' d (n + 1) (p ++ [x]) := by
  have l2 := hlt_of h.r2
  obtain ⟨o', R', a1, a2, a3, a4, a5⟩ := h.gro.app2 (bytes := 8) (ys := [vI x]) (by omega) rfl rfl (by omega) (by omega)
  have ne : ∀ j, j < 3 → idOf o ≠ some j := fun j hj e => by have := h.gro.ge e; omega
  have z0 : R'[0]? = some ⟨0, [xv, vI d]⟩ := by rw [a3 0 (by omega) (ne 0 (by omega))]; exact h.r0
  have z1 : R'[1]? = some ⟨0, [.nils, vI 0]⟩ := by rw [a3 1 (by omega) (ne 1 (by omega))]; exact h.r1
  have z2 : R'[2]? = some ⟨0, [o, vI d]⟩ := by rw [a3 2 (by omega) (ne 2 (by omega))]; exact h.r2
  obtain ⟨x1, x2, x3⟩ := a2.one
  refine ⟨o', R', R'.set 2 ⟨0, [o', vI d]⟩, a1, ?_, ⟨by rw [List.getElem?_set_ne (by omega)]; exact z0, by rw [List.getElem?_set_ne (by omega)]; exact z1, by rw [List.getElem?_set_self (hlt_of z2)], ?_⟩⟩
  · simp only [storeA, z2, x3]
    rw [if_pos (by simp [x1])]
    rfl
  · rw [List.map_append]
    exact a2.keep fun a ha => by
      have := a2.ge ha
      rw [List.getElem?_set_ne (by omega)]

theorem L46 {v xv : AV} {l xs : List Int} {d : Int} (hv : IsRow v l) (hx : IsRow xv xs) (hl : l.length ≤ 20) (hm : ∀ i ∈ l, 0 ≤ i ∧ i < xs.length) (n : Nat) : ∀ (i : Nat) (R : Heap) (o : AV) (p : List Int), i + n = l.length → RS R xv o d i p →
    ∃ R' o', lp E2 Y F46L0 (sp 30 [(6, vI i), (5, .ptr 2 0 0), (4, .ptr 1 0 0), (2, .ptr 0 0 0), (1, v)]) R = some (.x 0, sp 30 [(5, .ptr 2 0 0), (4, .ptr 1 0 0)], R') ∧ RS R' xv o' d l.length (p ++ renX xs (l.drop i)) := by
  induction n with
  | zero =>
    intro i R o p hi h
    have : ¬ ((i : Int) < (l.length : Int)) := by omega
    refine ⟨R, o, ?_, ?_⟩
    · rw [un46_0]
      simp only [F46L0b, SS, insA, wantedA, Opd.ev, putA, binA, eqbA, unA, fldA, partA, reduceIte, reduceCtorEq, Nat.reduceMod, Nat.reduceDiv, Nat.reduceBEq, resultA, resA, vI, Nat.reduceMul, Nat.reduceAdd, Nat.reduceSub, Nat.reduceEqDiff, Nat.reduceLT, Nat.reducePow, Nat.reduceLeDiff, st, Option.bind_eq_bind, Option.pure_def, List.length_nil, Int.cast_ofNat_Int, List.reverse_nil, UU, idxP, cellsAt, storeA, fillA, zerosA, putAll, optNat, sliceA, row, Int.reduceLT, Int.reduceLE, Int.reduceGT, Int.reduceGE, Int.reduceEq, Int.reduceNe, Int.reduceToNat, Int.reduceBEq, Int.reduceBNe, Nat.reduceLeDiff, Nat.reduceLT, Nat.reduceBNe, Nat.reduceGT, List.drop_nil, List.take_nil, Option.isSome_none, Int.ofNat_one, Int.ofNat_zero, hv.len, this]
    · rw [List.drop_eq_nil_of_le (by omega), renX, List.map_nil, List.append_nil, show l.length = i by omega]; exact h
  | succ n ih =>
    intro i R o p hi h
    have hc : (i : Int) < (l.length : Int) := by omega
    have k1 : i < l.length := by omega
    have hww := wrap_succ (n := i) (by omega)
    obtain ⟨a, ha⟩ : ∃ a : Nat, l[i] = a := ⟨l[i].toNat, by have := hm _ (List.getElem_mem k1); omega⟩
    have k2 : a < xs.length := by have := hm _ (List.getElem_mem k1); omega
    have hg : l.getD i 0 = (a : Int) := by rw [List.getD_eq_getElem?_getD, List.getElem?_eq_getElem k1, Option.getD_some, ha]
    obtain ⟨o', R1, R2, s1, s2, s3⟩ := h.push (by omega) (xs.getD a 0)
    obtain ⟨R3, o3, q1, q2⟩ := ih (i + 1) R2 o' (p ++ [xs.getD a 0]) (by omega) s3
    refine ⟨R3, o3, ?_, ?_⟩
    · have r0 := h.r0
      have r2 := h.r2
      rw [un46_0]
      simp only [SS, insA, wantedA, Opd.ev, putA, binA, eqbA, unA, fldA, partA, reduceIte, reduceCtorEq, Nat.reduceMod, Nat.reduceDiv, Nat.reduceBEq, resultA, resA, vI, Nat.reduceMul, Nat.reduceAdd, Nat.reduceSub, Nat.reduceEqDiff, Nat.reduceLT, Nat.reducePow, Nat.reduceLeDiff, st, Option.bind_eq_bind, Option.pure_def, List.length_nil, Int.cast_ofNat_Int, List.reverse_nil] at q1 s1 s2 r0 r2
      simp only [F46L0b, SS, insA, wantedA, Opd.ev, putA, binA, eqbA, unA, fldA, partA, reduceIte, reduceCtorEq, Nat.reduceMod, Nat.reduceDiv, Nat.reduceBEq, resultA, resA, vI, Nat.reduceMul, Nat.reduceAdd, Nat.reduceSub, Nat.reduceEqDiff, Nat.reduceLT, Nat.reducePow, Nat.reduceLeDiff, st, Option.bind_eq_bind, Option.pure_def, List.length_nil, Int.cast_ofNat_Int, List.reverse_nil, UU, idxP, cellsAt, fillA, zerosA, putAll, row, Int.reduceLT, Int.reduceLE, Int.reduceGT, Int.reduceGE, Int.reduceEq, Int.reduceNe, Int.reduceToNat, Int.reduceBEq, Int.reduceBNe, Nat.reduceLeDiff, Nat.reduceLT, Nat.reduceBNe, Nat.reduceGT, List.drop_nil, List.take_nil, Option.isSome_none, Int.ofNat_one, Int.ofNat_zero, hv.len, hc, r0, r2, hv.idx k1, hv.load k1, hg, hx.idx k2, hx.load k2, s1, s2, hww, q1]
    · rw [List.append_assoc] at q2
      rw [List.drop_eq_getElem_cons k1]
      unfold renX at q2 ⊢
      rw [List.map_cons, ha, Int.toNat_natCast]
      exact q2
theorem ren46 {v xv : AV} {l xs : List Int} {d : Int} (hv : IsRow v l) (hx : IsRow xv xs) (hl : l.length ≤ 20) (hm : ∀ i ∈ l, 0 ≤ i ∧ i < xs.length) : ∃ w, IsRow w (renX xs l) ∧ ∀ H, freeX H (callL E2 Y 46 [.agg [xv, vI d], v] []) = some (.agg [w, vI d], H) := by
  obtain ⟨o1, o2, o3⟩ := hx.one
  have h0 : RS [⟨0, [xv, vI d]⟩, ⟨0, [.nils, vI 0]⟩, ⟨0, [.nils, vI d]⟩] xv .nils d 0 [] := ⟨rfl, rfl, rfl, Gro.nil _ _ _⟩
  obtain ⟨R, o, a1, a2⟩ := L46 (Y := Y) hv hx hl hm l.length 0 _ .nils [] (by omega) h0
  rw [List.drop_zero, List.nil_append] at a2
  have e : (renX xs l).length = l.length := by simp [renX]
  have G := a2.gro
  rw [← e] at G
  obtain ⟨x1, x2, x3⟩ := G.one
  have hst : storeA R 2 (.ptr 1 0 0) (.agg [o, vI d]) = some (R.set 1 ⟨0, [o, vI d]⟩) := by
    simp only [storeA, a2.r1, cellsOf]
    rw [if_pos (by simp [x1, show one (vI d) = true from rfl])]
    rfl
  have G2 : Gro 3 1 (R.set 1 ⟨0, [o, vI d]⟩) o (renX xs l).length ((renX xs l).map vI) := G.keep fun a ha => by
    have := G.ge ha
    rw [List.getElem?_set_ne (by omega)]
  obtain ⟨w, f1, f2⟩ := G2.free2 (d := 3)
  have f1 : freeA (R.set 1 ⟨0, [o, vI d]⟩) 5 o = some w := f1
  have g1 : (R.set 1 ⟨0, [o, vI d]⟩)[1]? = some ⟨0, [o, vI d]⟩ := List.getElem?_set_self (hlt_of a2.r1)
  have r2 := a2.r2
  have r1 := a2.r1
  refine ⟨w, f2, fun H => ?_⟩
  rw [call46 rfl]
  simp only [SS, insA, wantedA, Opd.ev, putA, binA, eqbA, unA, fldA, partA, reduceIte, reduceCtorEq, Nat.reduceMod, Nat.reduceDiv, Nat.reduceBEq, resultA, resA, vI, Nat.reduceMul, Nat.reduceAdd, Nat.reduceSub, Nat.reduceEqDiff, Nat.reduceLT, Nat.reducePow, Nat.reduceLeDiff, st, Option.bind_eq_bind, Option.pure_def, List.length_nil, Int.cast_ofNat_Int, List.reverse_nil, Int.ofNat_zero] at a1 f1 g1 r1 r2
  simp only [F46B, F46T0, in46_0, SS, insA, wantedA, Opd.ev, putA, binA, eqbA, unA, fldA, partA, reduceIte, reduceCtorEq, Nat.reduceMod, Nat.reduceDiv, Nat.reduceBEq, resultA, resA, vI, Nat.reduceMul, Nat.reduceAdd, Nat.reduceSub, Nat.reduceEqDiff, Nat.reduceLT, Nat.reducePow, Nat.reduceLeDiff, st, Option.bind_eq_bind, Option.pure_def, List.length_nil, Int.cast_ofNat_Int, List.reverse_nil, UU, idxP, cellsAt, fillA, putAll, row, Int.reduceLT, Int.reduceLE, Int.reduceGT, Int.reduceGE, Int.reduceEq, Int.reduceNe, Int.reduceToNat, Int.reduceBEq, Int.reduceBNe, Nat.reduceLeDiff, Nat.reduceLT, Nat.reduceBNe, Nat.reduceGT, List.drop_nil, List.take_nil, Option.isSome_none, Int.ofNat_one, Int.ofNat_zero, o1, o2, o3, a1, r1, r2, g1, f1, x1, x2, x3, storeA, fillA, putAll]

/-! ### the loops -/
theorem L14_0 {a0 a3 a10 a11 a13 a16 a18 a20 a21 av cv : AV} {ls : List (List Int × Int)} (ha : IsPts av ls) (hcv : IsPts cv ls) (hl : ls.length ≤ 1000) (hr : ∀ x ∈ ls, x.1.length ≤ 1000) (n : Nat) : ∀ (i : Nat), i + n = ls.length →
    lp E2 Y F14L0 (sp 336 [(31, vI i), (23, cv), (21, a21), (20, a20), (18, a18), (16, a16), (14, av), (13, a13), (11, a11), (10, a10), (3, a3), (0, a0)]) H = some (.x 0, sp 336 [(21, a21), (20, a20), (18, a18), (16, a16), (14, av), (13, a13), (11, a11), (10, a10), (3, a3), (0, a0)], H) := by
  induction n with
  | zero =>
    intro i hi
    have : ¬ ((i : Int) < (ls.length : Int)) := by omega
    rw [un14_0]
    simp only [F14L0b, ↓bit_hi, SS, insA, wantedA, Opd.ev, putA, binA, eqbA, unA, fldA, partA, reduceIte, reduceCtorEq, Nat.reduceMod, Nat.reduceDiv, Nat.reduceBEq, resultA, resA, vI, Nat.reduceMul, Nat.reduceAdd, Nat.reduceSub, Nat.reduceEqDiff, Nat.reduceLT, Nat.reducePow, Nat.reduceLeDiff, st, Option.bind_eq_bind, Option.pure_def, List.length_nil, Int.cast_ofNat_Int, List.reverse_nil, UU, idxP, cellsAt, storeA, fillA, zerosA, putAll, optNat, sliceA, row, Int.reduceLT, Int.reduceLE, Int.reduceGT, Int.reduceGE, Int.reduceEq, Int.reduceNe, Int.reduceToNat, Int.reduceBEq, Int.reduceBNe, Nat.reduceLeDiff, Nat.reduceLT, Nat.reduceBNe, Nat.reduceGT, List.drop_nil, List.take_nil, Option.isSome_none, Int.ofNat_one, Int.ofNat_zero, ha.len, this]
  | succ n ih =>
    intro i hi
    have hc : (i : Int) < (ls.length : Int) := by omega
    have k1 : i < ls.length := by omega
    have hww := wrap_succ (n := i) (by omega)
    obtain ⟨sn, w, cs, e1, r1⟩ := ha.get k1
    obtain ⟨sn2, w2, cs2, e2, r2⟩ := hcv.get k1
    have sm := fun H => freeX_up (Y := Y) E2_up (same19 (Y := noRun) (H := H) (c := ls[i].2) (d := ls[i].2) r1 r2 (hr _ (List.getElem_mem k1)))
    rw [decide_eq_true ⟨rfl, rfl⟩] at sm
    have ih := ih (i + 1) (by omega)
    rw [un14_0]
    simp only [SS, insA, wantedA, Opd.ev, putA, binA, eqbA, unA, fldA, partA, reduceIte, reduceCtorEq, Nat.reduceMod, Nat.reduceDiv, Nat.reduceBEq, resultA, resA, vI, Nat.reduceMul, Nat.reduceAdd, Nat.reduceSub, Nat.reduceEqDiff, Nat.reduceLT, Nat.reducePow, Nat.reduceLeDiff, st, Option.bind_eq_bind, Option.pure_def, List.length_nil, Int.cast_ofNat_Int, List.reverse_nil] at ih sm e1 e2
    simp only [F14L0b, ↓bit_hi, SS, insA, wantedA, Opd.ev, putA, binA, eqbA, unA, fldA, partA, reduceIte, reduceCtorEq, Nat.reduceMod, Nat.reduceDiv, Nat.reduceBEq, resultA, resA, vI, Nat.reduceMul, Nat.reduceAdd, Nat.reduceSub, Nat.reduceEqDiff, Nat.reduceLT, Nat.reducePow, Nat.reduceLeDiff, st, Option.bind_eq_bind, Option.pure_def, List.length_nil, Int.cast_ofNat_Int, List.reverse_nil, UU, idxP, cellsAt, storeA, fillA, zerosA, putAll, optNat, sliceA, row, Int.reduceLT, Int.reduceLE, Int.reduceGT, Int.reduceGE, Int.reduceEq, Int.reduceNe, Int.reduceToNat, Int.reduceBEq, Int.reduceBNe, Nat.reduceLeDiff, Nat.reduceLT, Nat.reduceBNe, Nat.reduceGT, List.drop_nil, List.take_nil, Option.isSome_none, Int.ofNat_one, Int.ofNat_zero, ha.len, hc, e1, e2, r1.snap, r2.snap, sm, hww, ih]

theorem bit_mod {s i : Nat} : s / 2 ^ i % 2 = if bit s i = true then 1 else 0 := by
  unfold bit
  rcases Nat.mod_two_eq_zero_or_one (s / 2 ^ i) with h | h <;> simp [h]
theorem tmodW {s : Nat} : Int.tmod (s : Int) 2 = ((s % 2 : Nat) : Int) := by rw [show (2 : Int) = ((2 : Nat) : Int) from rfl, ← Int.ofNat_tmod]

theorem L14_1 {av cv v : AV} {l : List Int} {m s b : Nat} (hv : IsRow v l) (hl : l.length = m) (hm : m ≤ 3) (h8 : s < 8) (hb8 : b < 8) (hmem : ∀ x ∈ l, 0 ≤ x ∧ x < m) (hb : ∀ j, j < m → bit s j = bit b (l.getD j 0).toNat) (n : Nat) : ∀ (i : Nat), i + n = m →
    lp E2 Y F14L1 (sp 336 [(40, vI i), (36, vI s), (32, cv), (18, vI b), (14, av), (13, vI m), (3, v)]) H = some (.x 2, sp 336 [(32, cv), (14, av), (13, vI m), (3, v)], H) := by
  induction n with
  | zero =>
    intro i hi
    have : ¬ ((i : Int) < (m : Int)) := by omega
    rw [un14_1]
    simp only [F14L1b, ↓bit_hi, SS, insA, wantedA, Opd.ev, putA, binA, eqbA, unA, fldA, partA, reduceIte, reduceCtorEq, Nat.reduceMod, Nat.reduceDiv, Nat.reduceBEq, resultA, resA, vI, Nat.reduceMul, Nat.reduceAdd, Nat.reduceSub, Nat.reduceEqDiff, Nat.reduceLT, Nat.reducePow, Nat.reduceLeDiff, st, Option.bind_eq_bind, Option.pure_def, List.length_nil, Int.cast_ofNat_Int, List.reverse_nil, UU, idxP, cellsAt, storeA, fillA, zerosA, putAll, optNat, sliceA, row, Int.reduceLT, Int.reduceLE, Int.reduceGT, Int.reduceGE, Int.reduceEq, Int.reduceNe, Int.reduceToNat, Int.reduceBEq, Int.reduceBNe, Nat.reduceLeDiff, Nat.reduceLT, Nat.reduceBNe, Nat.reduceGT, List.drop_nil, List.take_nil, Option.isSome_none, Int.ofNat_one, Int.ofNat_zero, this]
  | succ n ih =>
    intro i hi
    have hc : (i : Int) < (m : Int) := by omega
    have k1 : i < l.length := by omega
    have hww := wrap_succ (n := i) (by omega)
    obtain ⟨a, ha⟩ : ∃ a : Nat, l[i] = a := ⟨l[i].toNat, by have := hmem _ (List.getElem_mem k1); omega⟩
    have hg : l.getD i 0 = (a : Int) := by rw [List.getD_eq_getElem?_getD, List.getElem?_eq_getElem k1, Option.getD_some, ha]
    have a3 : a < 3 := by have := hmem _ (List.getElem_mem k1); omega
    have s1 := shrW (s := s) (i := i) (by omega)
    have s2 := shrW (s := b) (i := a) (by omega)
    have eq : ((s / 2 ^ i % 2 : Nat) : Int) = ((b / 2 ^ a % 2 : Nat) : Int) := by
      have := hb i (by omega)
      rw [hg, Int.toNat_natCast] at this
      rw [bit_mod, bit_mod, this]
    have ih := ih (i + 1) (by omega)
    have e2 : ¬ ((2 : Int) = 0) := by decide
    rw [un14_1]
    simp only [binA] at s1 s2
    simp only [SS, insA, wantedA, Opd.ev, putA, binA, eqbA, unA, fldA, partA, reduceIte, reduceCtorEq, Nat.reduceMod, Nat.reduceDiv, Nat.reduceBEq, resultA, resA, vI, Nat.reduceMul, Nat.reduceAdd, Nat.reduceSub, Nat.reduceEqDiff, Nat.reduceLT, Nat.reducePow, Nat.reduceLeDiff, st, Option.bind_eq_bind, Option.pure_def, List.length_nil, Int.cast_ofNat_Int, List.reverse_nil] at ih
    simp only [F14L1b, ↓bit_hi, SS, insA, wantedA, Opd.ev, putA, binA, eqbA, unA, fldA, partA, reduceIte, reduceCtorEq, Nat.reduceMod, Nat.reduceDiv, Nat.reduceBEq, resultA, resA, vI, Nat.reduceMul, Nat.reduceAdd, Nat.reduceSub, Nat.reduceEqDiff, Nat.reduceLT, Nat.reducePow, Nat.reduceLeDiff, st, Option.bind_eq_bind, Option.pure_def, List.length_nil, Int.cast_ofNat_Int, List.reverse_nil, UU, idxP, cellsAt, storeA, fillA, zerosA, putAll, optNat, sliceA, row, Int.reduceLT, Int.reduceLE, Int.reduceGT, Int.reduceGE, Int.reduceEq, Int.reduceNe, Int.reduceToNat, Int.reduceBEq, Int.reduceBNe, Nat.reduceLeDiff, Nat.reduceLT, Nat.reduceBNe, Nat.reduceGT, List.drop_nil, List.take_nil, Option.isSome_none, Int.ofNat_one, Int.ofNat_zero, hc, hv.idx k1, hv.load k1, hg, s1, s2, tmodW, e2, eq, bne_self_eq_false, hww, ih, and_self, ne_eq, not_false_eq_true]

def hitZ (x : List Int × Int) (q : Bool) (ls : List (List Int × Int)) : Bool := q || ls.any fun z => decide (x.2 = z.2 ∧ x.1 = z.1)
theorem L14_2 {av cv v w : AV} {l : List Int} {x : List Int × Int} {ls ks : List (List Int × Int)} {m i : Nat} (hv : IsRow v l) (hl : l.length ≤ 20) (ha : IsPts av ls) (hi : i < ls.length) (hx : ls[i] = x) (hm : x.1.length = m) (hmem : ∀ a ∈ l, 0 ≤ a ∧ a < m) (hcv : IsPts cv ks) (hk : ks.length ≤ 1000) (h20 : m ≤ 20) (n : Nat) : ∀ (j : Nat) (q : Bool), j + n = ks.length →
    lp E2 Y F14L2 (sp 336 [(43, vI j), (42, .bool q), (41, vI i), (32, cv), (14, av), (13, vI m), (3, v)]) H = some (.x 6, sp 336 [(42, .bool (hitZ (renX x.1 l, x.2) q (ks.drop j))), (41, vI i), (32, cv), (14, av), (13, vI m), (3, v)], H) := by
  induction n with
  | zero =>
    intro j q hj
    have : ¬ ((j : Int) < (ks.length : Int)) := by omega
    rw [un14_2, List.drop_eq_nil_of_le (by omega)]
    simp only [F14L2b, hitZ, List.any_nil, Bool.or_false, ↓bit_hi, SS, insA, wantedA, Opd.ev, putA, binA, eqbA, unA, fldA, partA, reduceIte, reduceCtorEq, Nat.reduceMod, Nat.reduceDiv, Nat.reduceBEq, resultA, resA, vI, Nat.reduceMul, Nat.reduceAdd, Nat.reduceSub, Nat.reduceEqDiff, Nat.reduceLT, Nat.reducePow, Nat.reduceLeDiff, st, Option.bind_eq_bind, Option.pure_def, List.length_nil, Int.cast_ofNat_Int, List.reverse_nil, UU, idxP, cellsAt, storeA, fillA, zerosA, putAll, optNat, sliceA, row, Int.reduceLT, Int.reduceLE, Int.reduceGT, Int.reduceGE, Int.reduceEq, Int.reduceNe, Int.reduceToNat, Int.reduceBEq, Int.reduceBNe, Nat.reduceLeDiff, Nat.reduceLT, Nat.reduceBNe, Nat.reduceGT, List.drop_nil, List.take_nil, Option.isSome_none, Int.ofNat_one, Int.ofNat_zero, hcv.len, this]
  | succ n ih =>
    intro j q hj
    have hc : (j : Int) < (ks.length : Int) := by omega
    have k1 : j < ks.length := by omega
    have hww := wrap_succ (n := j) (by omega)
    rw [un14_2, List.drop_eq_getElem_cons k1]
    cases q
    · obtain ⟨sn, u, cs, e1, r1⟩ := ha.get hi
      obtain ⟨sn2, u2, cs2, e2, r2⟩ := hcv.get k1
      rw [hx] at e1 r1
      obtain ⟨y, y1, y2⟩ := ren46 (Y := Y) (d := x.2) hv r1 hl (by rw [hm]; exact hmem)
      have sm := fun H => freeX_up (Y := Y) E2_up (same19 (Y := noRun) (H := H) (c := x.2) (d := ks[j].2) y1 r2 (by simp [renX]; omega))
      have ih := ih (j + 1) (decide (x.2 = ks[j].2 ∧ renX x.1 l = ks[j].1)) (by omega)
      have hlen : lenA u = some m := by rw [r1.len, hm]
      have eh : hitZ (renX x.1 l, x.2) false (ks[j] :: ks.drop (j + 1)) = hitZ (renX x.1 l, x.2) (decide (x.2 = ks[j].2 ∧ renX x.1 l = ks[j].1)) (ks.drop (j + 1)) := by
        simp only [hitZ, List.any_cons, Bool.false_or]
      rw [eh]
      simp only [SS, insA, wantedA, Opd.ev, putA, binA, eqbA, unA, fldA, partA, reduceIte, reduceCtorEq, Nat.reduceMod, Nat.reduceDiv, Nat.reduceBEq, resultA, resA, vI, Nat.reduceMul, Nat.reduceAdd, Nat.reduceSub, Nat.reduceEqDiff, Nat.reduceLT, Nat.reducePow, Nat.reduceLeDiff, st, Option.bind_eq_bind, Option.pure_def, List.length_nil, Int.cast_ofNat_Int, List.reverse_nil] at ih sm e1 e2 y2
      simp only [F14L2b, ↓bit_hi, SS, insA, wantedA, Opd.ev, putA, binA, eqbA, unA, fldA, partA, reduceIte, reduceCtorEq, Nat.reduceMod, Nat.reduceDiv, Nat.reduceBEq, resultA, resA, vI, Nat.reduceMul, Nat.reduceAdd, Nat.reduceSub, Nat.reduceEqDiff, Nat.reduceLT, Nat.reducePow, Nat.reduceLeDiff, st, Option.bind_eq_bind, Option.pure_def, List.length_nil, Int.cast_ofNat_Int, List.reverse_nil, UU, idxP, cellsAt, storeA, fillA, zerosA, putAll, optNat, sliceA, row, Int.reduceLT, Int.reduceLE, Int.reduceGT, Int.reduceGE, Int.reduceEq, Int.reduceNe, Int.reduceToNat, Int.reduceBEq, Int.reduceBNe, Nat.reduceLeDiff, Nat.reduceLT, Nat.reduceBNe, Nat.reduceGT, List.drop_nil, List.take_nil, Option.isSome_none, Int.ofNat_one, Int.ofNat_zero, hcv.len, hc, e1, e2, hlen, BEq.rfl, r1.snap, r2.snap, hv.snap, y1.snap, y2, sm, hww, ih]
    · have ih := ih (j + 1) true (by omega)
      have eh : hitZ (renX x.1 l, x.2) true (ks[j] :: ks.drop (j + 1)) = hitZ (renX x.1 l, x.2) true (ks.drop (j + 1)) := by simp only [hitZ, Bool.true_or]
      rw [eh]
      simp only [SS, insA, wantedA, Opd.ev, putA, binA, eqbA, unA, fldA, partA, reduceIte, reduceCtorEq, Nat.reduceMod, Nat.reduceDiv, Nat.reduceBEq, resultA, resA, vI, Nat.reduceMul, Nat.reduceAdd, Nat.reduceSub, Nat.reduceEqDiff, Nat.reduceLT, Nat.reducePow, Nat.reduceLeDiff, st, Option.bind_eq_bind, Option.pure_def, List.length_nil, Int.cast_ofNat_Int, List.reverse_nil] at ih
      simp only [F14L2b, ↓bit_hi, SS, insA, wantedA, Opd.ev, putA, binA, eqbA, unA, fldA, partA, reduceIte, reduceCtorEq, Nat.reduceMod, Nat.reduceDiv, Nat.reduceBEq, resultA, resA, vI, Nat.reduceMul, Nat.reduceAdd, Nat.reduceSub, Nat.reduceEqDiff, Nat.reduceLT, Nat.reducePow, Nat.reduceLeDiff, st, Option.bind_eq_bind, Option.pure_def, List.length_nil, Int.cast_ofNat_Int, List.reverse_nil, UU, idxP, cellsAt, storeA, fillA, zerosA, putAll, optNat, sliceA, row, Int.reduceLT, Int.reduceLE, Int.reduceGT, Int.reduceGE, Int.reduceEq, Int.reduceNe, Int.reduceToNat, Int.reduceBEq, Int.reduceBNe, Nat.reduceLeDiff, Nat.reduceLT, Nat.reduceBNe, Nat.reduceGT, List.drop_nil, List.take_nil, Option.isSome_none, Int.ofNat_one, Int.ofNat_zero, hcv.len, hc, hww, ih]

theorem L14_3 {av cv v : AV} {l : List Int} {ls ks : List (List Int × Int)} {m : Nat} (hv : IsRow v l) (hl : l.length ≤ 20) (ha : IsPts av ls) (hm : ∀ x ∈ ls, x.1.length = m) (hmem : ∀ a ∈ l, 0 ≤ a ∧ a < m) (hcv : IsPts cv ks) (hk : ks.length ≤ 1000) (hls : ls.length ≤ 1000) (h20 : m ≤ 20) (hin : ∀ x ∈ ls, (renX x.1 l, x.2) ∈ ks) (n : Nat) : ∀ (i : Nat), i + n = ls.length →
    lp E2 Y F14L3 (sp 336 [(41, vI i), (32, cv), (14, av), (13, vI m), (3, v)]) H = some (.x 4, sp 336 [], H) := by
  induction n with
  | zero =>
    intro i hi
    have : ¬ ((i : Int) < (ls.length : Int)) := by omega
    rw [un14_3]
    simp only [F14L3b, ↓bit_hi, SS, insA, wantedA, Opd.ev, putA, binA, eqbA, unA, fldA, partA, reduceIte, reduceCtorEq, Nat.reduceMod, Nat.reduceDiv, Nat.reduceBEq, resultA, resA, vI, Nat.reduceMul, Nat.reduceAdd, Nat.reduceSub, Nat.reduceEqDiff, Nat.reduceLT, Nat.reducePow, Nat.reduceLeDiff, st, Option.bind_eq_bind, Option.pure_def, List.length_nil, Int.cast_ofNat_Int, List.reverse_nil, UU, idxP, cellsAt, storeA, fillA, zerosA, putAll, optNat, sliceA, row, Int.reduceLT, Int.reduceLE, Int.reduceGT, Int.reduceGE, Int.reduceEq, Int.reduceNe, Int.reduceToNat, Int.reduceBEq, Int.reduceBNe, Nat.reduceLeDiff, Nat.reduceLT, Nat.reduceBNe, Nat.reduceGT, List.drop_nil, List.take_nil, Option.isSome_none, Int.ofNat_one, Int.ofNat_zero, ha.len, this]
  | succ n ih =>
    intro i hi
    have hc : (i : Int) < (ls.length : Int) := by omega
    have k1 : i < ls.length := by omega
    have hww := wrap_succ (n := i) (by omega)
    have ih := ih (i + 1) (by omega)
    have h0 := L14_2 (Y := Y) (H := H) (w := .nils) hv hl ha k1 rfl (hm _ (List.getElem_mem k1)) hmem hcv hk h20 ks.length 0 false (by omega)
    have hit : hitZ (renX ls[i].1 l, ls[i].2) false ks = true := by
      unfold hitZ
      rw [Bool.false_or, List.any_eq_true]
      exact ⟨_, hin _ (List.getElem_mem k1), by simp⟩
    rw [List.drop_zero, hit] at h0
    rw [un14_3]
    simp only [SS, insA, wantedA, Opd.ev, putA, binA, eqbA, unA, fldA, partA, reduceIte, reduceCtorEq, Nat.reduceMod, Nat.reduceDiv, Nat.reduceBEq, resultA, resA, vI, Nat.reduceMul, Nat.reduceAdd, Nat.reduceSub, Nat.reduceEqDiff, Nat.reduceLT, Nat.reducePow, Nat.reduceLeDiff, st, Option.bind_eq_bind, Option.pure_def, List.length_nil, Int.cast_ofNat_Int, List.reverse_nil, Int.ofNat_zero] at h0 ih
    simp only [F14L3b, F14T0, F14T1, in14_2, ↓bit_hi, SS, insA, wantedA, Opd.ev, putA, binA, eqbA, unA, fldA, partA, reduceIte, reduceCtorEq, Nat.reduceMod, Nat.reduceDiv, Nat.reduceBEq, resultA, resA, vI, Nat.reduceMul, Nat.reduceAdd, Nat.reduceSub, Nat.reduceEqDiff, Nat.reduceLT, Nat.reducePow, Nat.reduceLeDiff, st, Option.bind_eq_bind, Option.pure_def, List.length_nil, Int.cast_ofNat_Int, List.reverse_nil, UU, idxP, cellsAt, storeA, fillA, zerosA, putAll, optNat, sliceA, row, Int.reduceLT, Int.reduceLE, Int.reduceGT, Int.reduceGE, Int.reduceEq, Int.reduceNe, Int.reduceToNat, Int.reduceBEq, Int.reduceBNe, Nat.reduceLeDiff, Nat.reduceLT, Nat.reduceBNe, Nat.reduceGT, List.drop_nil, List.take_nil, Option.isSome_none, Int.ofNat_one, Int.ofNat_zero, ha.len, hc, h0, hww, ih]

end
end Go.X
