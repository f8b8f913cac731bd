import Derived.Test.YtchgifdkhknppaaUW
import Derived.Test.YtchgifdkhknppaaUU2
import Derived.Test.YtchgifdkhknppaaVS
/-! Veils: the laws on pairings that cross, and that go around. -/
set_option linter.unusedSimpArgs false
set_option linter.unusedVariables false
set_option maxHeartbeats 8000000
set_option maxRecDepth 10000
namespace Go.X
open Go Go.RowKit
section
variable {Y : Run}

theorem dec_len {n N : Nat} : (dec n N).length = n := by simp [dec]
theorem chkV_pair {n : Nat} {c : Nat × Nat} (h : chkV n c = true) : pairOf (dec n c.1) = some (dq n c.2) := by
  unfold chkV at h
  rw [Bool.and_eq_true] at h
  unfold pairOf
  rw [dec_len]
  exact eq_of_beq h.1
theorem cntF_list {n : Nat} {l : List Int} : ∀ (L : List (Nat × Nat)) (s : Nat), (∀ c ∈ L, chkV n c = true) → (L.map fun c => dec n c.1).foldl (cntF l) s = s + (L.filter fun c => dq n c.2 == l).length
  | [], s, _ => rfl
  | c :: L, s, h => by
    rw [List.map_cons, List.foldl_cons, cntF_list L _ fun x hx => h x (List.mem_cons_of_mem _ hx), List.filter_cons]
    unfold cntF
    rw [chkV_pair (h c List.mem_cons_self)]
    by_cases e : dq n c.2 = l
    · rw [if_pos (by rw [e]), if_pos (by rw [e]; exact BEq.rfl), List.length_cons]; omega
    · rw [if_neg (fun q => e (Option.some.inj q)), if_neg (fun q => e (eq_of_beq q))]
theorem cntL_K {n : Nat} (h1 : 1 ≤ n) (h5 : n ≤ 5) (l : List Int) : cntL n l = cntK n l := by
  unfold cntL cntK
  rw [all_pq h1 h5, cntF_list _ _ fun c hc => List.all_eq_true.1 (pq_ok h1 h5) c hc]; omega

theorem Veil.pr {t : List (List Int)} (V : Veil t) : ∃ q, Go.X.pairOf t = some q ∧ isPr q = true ∧ crossP q = false ∧ q.length = 2 * t.length ∧ 1 ≤ cntL t.length q ∧ pairP (gyr t.length (hgtT t)) t.length = some (arP q) := by
  obtain ⟨c, hc, e, h2, _⟩ := V.pair
  have k := List.all_eq_true.1 (ccs_ok V.n1 V.n5) c hc
  have g := List.all_eq_true.1 (gyrs_ok V.n1 V.n5) c hc
  unfold chkC at k
  unfold chkG at g
  rw [← e] at g
  rw [Bool.and_eq_true, Bool.not_eq_true'] at k
  refine ⟨_, h2, k.1, k.2, by simp [dq], ?_, eq_of_beq g⟩
  rw [cntL_K V.n1 V.n5]
  unfold cntK
  exact List.length_pos_of_mem (List.mem_filter.2 ⟨hc, BEq.rfl⟩)
/-- What is known of any pairing. -/
theorem pr_all {l : List Int} (hp : isPr l = true) : isPr (arP l) = true ∧ cntL (l.length / 2) (arP l) = cntL (l.length / 2) l ∧ (cntL (l.length / 2) l = 0 ↔ crossP l = true) := by
  obtain ⟨p1, p2⟩ := isPr_at hp
  have h1 : 1 ≤ l.length / 2 := by omega
  have h5 : l.length / 2 ≤ 5 := by omega
  have hm := List.all_eq_true.1 (mats_ok h1 h5) l (mats_all hp (by omega))
  unfold chkM at hm
  rw [hp, Bool.not_true, Bool.false_or, Bool.and_eq_true] at hm
  obtain ⟨m1, m2⟩ := hm
  rw [cntL_K h1 h5, cntL_K h1 h5]
  have zero : ∀ q, crossP q = true → cntK (l.length / 2) q = 0 := fun q hq => by
    unfold cntK
    rw [List.length_eq_zero_iff, List.filter_eq_nil_iff]
    intro c hc e
    have k := List.all_eq_true.1 (ccs_ok h1 h5) c hc
    unfold chkC at k
    rw [eq_of_beq e, hq] at k
    simp at k
  refine ⟨m1, ?_⟩
  cases hc : crossP l
  · rw [hc, if_neg (by decide), Bool.and_eq_true, Bool.and_eq_true] at m2
    have a := Nat.le_of_ble_eq_true m2.2.1
    have b := Nat.eq_of_beq_eq_true m2.2.2
    exact ⟨b, ⟨fun h => by omega, fun h => by cases h⟩⟩
  · rw [hc, if_pos rfl] at m2
    rw [zero _ m2, zero _ hc]
    exact ⟨rfl, ⟨fun _ => rfl, fun _ => rfl⟩⟩

theorem law8 {vt w : AV} {t : List (List Int)} {l : List Int} (ht : IsTab vt t) (hw : IsRow w l) : freeX [] (callL EV Y 8 [vt, w] []) = some (.bool true, []) := by
  obtain ⟨o1, o2, o3⟩ := ht.one
  have f := fun H => few23 (Y := Y) (H := H) (tabsC (b := true) ht) (by simp)
  have ha := fun H => alive20 (Y := Y) (H := H)
  rw [call8 rfl]
  by_cases hs : fewS [t]
  · have ts := fewC.1 hs
    rw [decide_eq_true hs] at f
    by_cases c : (l.length : Int) > 40
    · simp only [F8B, SS, insA, wantedA, Opd.ev, putA, binA, eqbA, unA, fldA, partA, reduceIte, reduceCtorEq, Nat.reduceMod, Nat.reduceDiv, Nat.reduceBEq, resultA, resA, vI, Nat.reduceMul, Nat.reduceAdd, Nat.reduceSub, Nat.reduceEqDiff, Nat.reduceLT, Nat.reducePow, Nat.reduceLeDiff, st, Option.bind_eq_bind, Option.pure_def, List.length_nil, Int.cast_ofNat_Int, List.reverse_nil, UU, idxP, cellsAt, storeA, fillA, zerosA, putAll, optNat, sliceA, row, Int.reduceLT, Int.reduceLE, Int.reduceGT, Int.reduceGE, Int.reduceEq, Int.reduceNe, Int.reduceToNat, Int.reduceBEq, Int.reduceBNe, Nat.reduceLeDiff, Nat.reduceLT, Nat.reduceBNe, Nat.reduceGT, List.drop_nil, List.take_nil, Option.isSome_none, Int.ofNat_one, Int.ofNat_zero, o1, o2, o3, ht.snap, f, hw.len, c, ha]
    · have iv := fun H => isveil26 (Y := Y) (H := H) ht ts
      rw [ref_read] at iv
      have ip := fun H => ispr38 (Y := Y) (H := H) hw (by omega)
      -- the end, for the list
      have fin : isPr l = true → ∃ k : Nat, (∀ H, freeX H (callL EV Y 22 [w] []) = some (.tup [.int .i64 k, .int .i64 0], H)) ∧ (∀ H, freeX H (callL EV Y 39 [w] []) = some (.bool ((k : Int) == 0), H)) := fun hp => by
        refine ⟨_, (count22 hw (by omega)).1 hp, fun H => ?_⟩
        rw [crosses39 hw hp]
        obtain ⟨_, _, e⟩ := pr_all hp
        cases hc : crossP l
        · have : ¬ cntL (l.length / 2) l = 0 := fun q => by rw [e.1 q] at hc; cases hc
          rw [show (((cntL (l.length / 2) l : Nat) : Int) == 0) = false by rw [beq_eq_false_iff_ne]; omega]
        · rw [show (((cntL (l.length / 2) l : Nat) : Int) == 0) = true by rw [e.2 hc]; rfl]
      have bb : ∀ b : Bool, (b == b) != false := fun b => by cases b <;> rfl
      cases hr : readOk t
      · rw [hr] at iv
        cases hp : isPr l
        · rw [hp] at ip
          simp only [F8B, SS, insA, wantedA, Opd.ev, putA, binA, eqbA, unA, fldA, partA, reduceIte, reduceCtorEq, Nat.reduceMod, Nat.reduceDiv, Nat.reduceBEq, resultA, resA, vI, Nat.reduceMul, Nat.reduceAdd, Nat.reduceSub, Nat.reduceEqDiff, Nat.reduceLT, Nat.reducePow, Nat.reduceLeDiff, st, Option.bind_eq_bind, Option.pure_def, List.length_nil, Int.cast_ofNat_Int, List.reverse_nil, UU, idxP, cellsAt, storeA, fillA, zerosA, putAll, optNat, sliceA, row, Int.reduceLT, Int.reduceLE, Int.reduceGT, Int.reduceGE, Int.reduceEq, Int.reduceNe, Int.reduceToNat, Int.reduceBEq, Int.reduceBNe, Nat.reduceLeDiff, Nat.reduceLT, Nat.reduceBNe, Nat.reduceGT, List.drop_nil, List.take_nil, Option.isSome_none, Int.ofNat_one, Int.ofNat_zero, o1, o2, o3, ht.snap, hw.snap, f, hw.len, c, iv, ip, ha]
        · rw [hp] at ip
          obtain ⟨k, k1, k2⟩ := fin hp
          have kn : (k : Int) ≥ 0 := by omega
          simp only [F8B, SS, insA, wantedA, Opd.ev, putA, binA, eqbA, unA, fldA, partA, reduceIte, reduceCtorEq, Nat.reduceMod, Nat.reduceDiv, Nat.reduceBEq, resultA, resA, vI, Nat.reduceMul, Nat.reduceAdd, Nat.reduceSub, Nat.reduceEqDiff, Nat.reduceLT, Nat.reducePow, Nat.reduceLeDiff, st, Option.bind_eq_bind, Option.pure_def, List.length_nil, Int.cast_ofNat_Int, List.reverse_nil, UU, idxP, cellsAt, storeA, fillA, zerosA, putAll, optNat, sliceA, row, Int.reduceLT, Int.reduceLE, Int.reduceGT, Int.reduceGE, Int.reduceEq, Int.reduceNe, Int.reduceToNat, Int.reduceBEq, Int.reduceBNe, Nat.reduceLeDiff, Nat.reduceLT, Nat.reduceBNe, Nat.reduceGT, List.drop_nil, List.take_nil, Option.isSome_none, Int.ofNat_one, Int.ofNat_zero, o1, o2, o3, ht.snap, hw.snap, f, hw.len, c, iv, ip, k1, k2, kn, BEq.rfl, bb, ha]
      · rw [hr] at iv
        have V := veil_iff.1 hr
        have n5 := V.n5
        obtain ⟨u, q, u1, u2, u3⟩ := (pairing34 (Y := Y) ht ts).1 hr
        obtain ⟨q', r1, r2, r3, r4, r5, _⟩ := V.pr
        rw [u1] at r1; cases r1
        have iq := fun H => ispr38 (Y := Y) (H := H) u2 (by omega)
        have cq := fun H => crosses39 (Y := Y) (H := H) u2 r2
        have nq := (count22 (Y := Y) u2 (by omega)).1 r2
        rw [r4, Nat.mul_div_cancel_left _ (by decide)] at nq
        rw [r2] at iq
        rw [r3] at cq
        have nc : ¬ (((cntL t.length q : Nat) : Int) < 1) := by omega
        have w2 : IntKind.wrap .i64 (2 * (t.length : Int)) = ((2 * t.length : Nat) : Int) := by rw [wrap_id (by omega) (by omega)]; omega
        have lu : lenA u = some (2 * t.length) := by rw [u2.len, r4]
        simp only [SS, insA, wantedA, Opd.ev, putA, binA, eqbA, unA, fldA, partA, reduceIte, reduceCtorEq, Nat.reduceMod, Nat.reduceDiv, Nat.reduceBEq, resultA, resA, vI, Nat.reduceMul, Nat.reduceAdd, Nat.reduceSub, Nat.reduceEqDiff, Nat.reduceLT, Nat.reducePow, Nat.reduceLeDiff, st, Option.bind_eq_bind, Option.pure_def, List.length_nil, Int.cast_ofNat_Int, List.reverse_nil] at nq u3
        cases hp : isPr l
        · rw [hp] at ip
          simp only [F8B, SS, insA, wantedA, Opd.ev, putA, binA, eqbA, unA, fldA, partA, reduceIte, reduceCtorEq, Nat.reduceMod, Nat.reduceDiv, Nat.reduceBEq, resultA, resA, vI, Nat.reduceMul, Nat.reduceAdd, Nat.reduceSub, Nat.reduceEqDiff, Nat.reduceLT, Nat.reducePow, Nat.reduceLeDiff, st, Option.bind_eq_bind, Option.pure_def, List.length_nil, Int.cast_ofNat_Int, List.reverse_nil, UU, idxP, cellsAt, storeA, fillA, zerosA, putAll, optNat, sliceA, row, Int.reduceLT, Int.reduceLE, Int.reduceGT, Int.reduceGE, Int.reduceEq, Int.reduceNe, Int.reduceToNat, Int.reduceBEq, Int.reduceBNe, Nat.reduceLeDiff, Nat.reduceLT, Nat.reduceBNe, Nat.reduceGT, List.drop_nil, List.take_nil, Option.isSome_none, Int.ofNat_one, Int.ofNat_zero, o1, o2, o3, ht.snap, ht.len, hw.snap, u2.snap, lu, f, hw.len, c, iv, u3, w2, bne_self_eq_false, iq, cq, nq, nc, ip, ha]
        · rw [hp] at ip
          obtain ⟨k, k1, k2⟩ := fin hp
          have kn : (k : Int) ≥ 0 := by omega
          simp only [F8B, SS, insA, wantedA, Opd.ev, putA, binA, eqbA, unA, fldA, partA, reduceIte, reduceCtorEq, Nat.reduceMod, Nat.reduceDiv, Nat.reduceBEq, resultA, resA, vI, Nat.reduceMul, Nat.reduceAdd, Nat.reduceSub, Nat.reduceEqDiff, Nat.reduceLT, Nat.reducePow, Nat.reduceLeDiff, st, Option.bind_eq_bind, Option.pure_def, List.length_nil, Int.cast_ofNat_Int, List.reverse_nil, UU, idxP, cellsAt, storeA, fillA, zerosA, putAll, optNat, sliceA, row, Int.reduceLT, Int.reduceLE, Int.reduceGT, Int.reduceGE, Int.reduceEq, Int.reduceNe, Int.reduceToNat, Int.reduceBEq, Int.reduceBNe, Nat.reduceLeDiff, Nat.reduceLT, Nat.reduceBNe, Nat.reduceGT, List.drop_nil, List.take_nil, Option.isSome_none, Int.ofNat_one, Int.ofNat_zero, o1, o2, o3, ht.snap, ht.len, hw.snap, u2.snap, lu, f, hw.len, c, iv, u3, w2, bne_self_eq_false, iq, cq, nq, nc, ip, k1, k2, kn, BEq.rfl, bb, ha]
  · rw [decide_eq_false hs] at f
    simp only [F8B, SS, insA, wantedA, Opd.ev, putA, binA, eqbA, unA, fldA, partA, reduceIte, reduceCtorEq, Nat.reduceMod, Nat.reduceDiv, Nat.reduceBEq, resultA, resA, vI, Nat.reduceMul, Nat.reduceAdd, Nat.reduceSub, Nat.reduceEqDiff, Nat.reduceLT, Nat.reducePow, Nat.reduceLeDiff, st, Option.bind_eq_bind, Option.pure_def, List.length_nil, Int.cast_ofNat_Int, List.reverse_nil, UU, idxP, cellsAt, storeA, fillA, zerosA, putAll, optNat, sliceA, row, Int.reduceLT, Int.reduceLE, Int.reduceGT, Int.reduceGE, Int.reduceEq, Int.reduceNe, Int.reduceToNat, Int.reduceBEq, Int.reduceBNe, Nat.reduceLeDiff, Nat.reduceLT, Nat.reduceBNe, Nat.reduceGT, List.drop_nil, List.take_nil, Option.isSome_none, Int.ofNat_one, Int.ofNat_zero, o1, o2, o3, ht.snap, f, ha]

theorem law14 {vt w : AV} {t : List (List Int)} {l : List Int} (ht : IsTab vt t) (hw : IsRow w l) : freeX [] (callL EV Y 14 [vt, w] []) = some (.bool true, []) := by
  obtain ⟨o1, o2, o3⟩ := ht.one
  have f := fun H => few23 (Y := Y) (H := H) (tabsC (b := true) ht) (by simp)
  have ha := fun H => alive20 (Y := Y) (H := H)
  rw [call14 rfl]
  by_cases hs : fewS [t]
  · have ts := fewC.1 hs
    rw [decide_eq_true hs] at f
    by_cases c : (l.length : Int) > 40
    · simp only [F14B, SS, insA, wantedA, Opd.ev, putA, binA, eqbA, unA, fldA, partA, reduceIte, reduceCtorEq, Nat.reduceMod, Nat.reduceDiv, Nat.reduceBEq, resultA, resA, vI, Nat.reduceMul, Nat.reduceAdd, Nat.reduceSub, Nat.reduceEqDiff, Nat.reduceLT, Nat.reducePow, Nat.reduceLeDiff, st, Option.bind_eq_bind, Option.pure_def, List.length_nil, Int.cast_ofNat_Int, List.reverse_nil, UU, idxP, cellsAt, storeA, fillA, zerosA, putAll, optNat, sliceA, row, Int.reduceLT, Int.reduceLE, Int.reduceGT, Int.reduceGE, Int.reduceEq, Int.reduceNe, Int.reduceToNat, Int.reduceBEq, Int.reduceBNe, Nat.reduceLeDiff, Nat.reduceLT, Nat.reduceBNe, Nat.reduceGT, List.drop_nil, List.take_nil, Option.isSome_none, Int.ofNat_one, Int.ofNat_zero, o1, o2, o3, ht.snap, f, hw.len, c, ha]
    · have iv := fun H => isveil26 (Y := Y) (H := H) ht ts
      rw [ref_read] at iv
      have ip := fun H => ispr38 (Y := Y) (H := H) hw (by omega)
      have fin : isPr l = true → ∃ (k : Nat) (x : AV), (∀ n H, snapA H (n + 1) x = some x) ∧ (∀ H, freeX H (callL EV Y 22 [w] []) = some (.tup [.int .i64 k, .int .i64 0], H)) ∧ (∀ H, freeX H (callL EV Y 48 [w] []) = some (x, H)) ∧ (∀ H, freeX H (callL EV Y 22 [x] []) = some (.tup [.int .i64 k, .int .i64 0], H)) := fun hp => by
        obtain ⟨x, x1, x2⟩ := around48 (Y := Y) hw hp
        obtain ⟨a1, a2, _⟩ := pr_all hp
        have := (count22 (Y := Y) x1 (by rw [arP_len]; omega)).1 a1
        rw [arP_len, a2] at this
        exact ⟨_, x, fun n H => x1.snap, (count22 hw (by omega)).1 hp, x2, this⟩
      cases hr : readOk t
      · rw [hr] at iv
        cases hp : isPr l
        · rw [hp] at ip
          simp only [F14B, SS, insA, wantedA, Opd.ev, putA, binA, eqbA, unA, fldA, partA, reduceIte, reduceCtorEq, Nat.reduceMod, Nat.reduceDiv, Nat.reduceBEq, resultA, resA, vI, Nat.reduceMul, Nat.reduceAdd, Nat.reduceSub, Nat.reduceEqDiff, Nat.reduceLT, Nat.reducePow, Nat.reduceLeDiff, st, Option.bind_eq_bind, Option.pure_def, List.length_nil, Int.cast_ofNat_Int, List.reverse_nil, UU, idxP, cellsAt, storeA, fillA, zerosA, putAll, optNat, sliceA, row, Int.reduceLT, Int.reduceLE, Int.reduceGT, Int.reduceGE, Int.reduceEq, Int.reduceNe, Int.reduceToNat, Int.reduceBEq, Int.reduceBNe, Nat.reduceLeDiff, Nat.reduceLT, Nat.reduceBNe, Nat.reduceGT, List.drop_nil, List.take_nil, Option.isSome_none, Int.ofNat_one, Int.ofNat_zero, o1, o2, o3, ht.snap, hw.snap, f, hw.len, c, iv, ip, ha]
        · rw [hp] at ip
          obtain ⟨k, x, k0, k1, k2, k3⟩ := fin hp
          simp only [F14B, SS, insA, wantedA, Opd.ev, putA, binA, eqbA, unA, fldA, partA, reduceIte, reduceCtorEq, Nat.reduceMod, Nat.reduceDiv, Nat.reduceBEq, resultA, resA, vI, Nat.reduceMul, Nat.reduceAdd, Nat.reduceSub, Nat.reduceEqDiff, Nat.reduceLT, Nat.reducePow, Nat.reduceLeDiff, st, Option.bind_eq_bind, Option.pure_def, List.length_nil, Int.cast_ofNat_Int, List.reverse_nil, UU, idxP, cellsAt, storeA, fillA, zerosA, putAll, optNat, sliceA, row, Int.reduceLT, Int.reduceLE, Int.reduceGT, Int.reduceGE, Int.reduceEq, Int.reduceNe, Int.reduceToNat, Int.reduceBEq, Int.reduceBNe, Nat.reduceLeDiff, Nat.reduceLT, Nat.reduceBNe, Nat.reduceGT, List.drop_nil, List.take_nil, Option.isSome_none, Int.ofNat_one, Int.ofNat_zero, o1, o2, o3, ht.snap, hw.snap, k0, f, hw.len, c, iv, ip, k1, k2, k3, BEq.rfl, ha]
      · rw [hr] at iv
        have V := veil_iff.1 hr
        have n5 := V.n5
        have S := V.steep
        obtain ⟨u, q, u1, u2, u3⟩ := (pairing34 (Y := Y) ht ts).1 hr
        obtain ⟨q', r1, r2, r3, r4, r5, r6⟩ := V.pr
        rw [u1] at r1; cases r1
        have iq := fun H => ispr38 (Y := Y) (H := H) u2 (by omega)
        rw [r2] at iq
        obtain ⟨g, g1, g2⟩ := (gyrate47 (Y := Y) ht ts).1 hr
        have VG := S.gyr.veil
        have gs := VG.small
        have ig := fun H => isveil26 (Y := Y) (H := H) g1 gs
        rw [ref_read, veil_iff.2 VG] at ig
        obtain ⟨z, p, z1, z2, z3⟩ := (pairing34 (Y := Y) g1 gs).1 (veil_iff.2 VG)
        unfold pairOf at z1
        rw [vOf_len, S.gyr.hgts, r6] at z1
        cases z1
        obtain ⟨y, y1, y2⟩ := around48 (Y := Y) u2 r2
        have sm := fun H => same36 (Y := Y) (H := H) z2 y1 (by rw [arP_len]; omega)
        rw [decide_eq_true rfl] at sm
        have w2 : IntKind.wrap .i64 (2 * (t.length : Int)) = ((2 * t.length : Nat) : Int) := by rw [wrap_id (by omega) (by omega)]; omega
        have lu : lenA u = some (2 * t.length) := by rw [u2.len, r4]
        simp only [SS, insA, wantedA, Opd.ev, putA, binA, eqbA, unA, fldA, partA, reduceIte, reduceCtorEq, Nat.reduceMod, Nat.reduceDiv, Nat.reduceBEq, resultA, resA, vI, Nat.reduceMul, Nat.reduceAdd, Nat.reduceSub, Nat.reduceEqDiff, Nat.reduceLT, Nat.reducePow, Nat.reduceLeDiff, st, Option.bind_eq_bind, Option.pure_def, List.length_nil, Int.cast_ofNat_Int, List.reverse_nil] at u3 g2 z3
        cases hp : isPr l
        · rw [hp] at ip
          simp only [F14B, SS, insA, wantedA, Opd.ev, putA, binA, eqbA, unA, fldA, partA, reduceIte, reduceCtorEq, Nat.reduceMod, Nat.reduceDiv, Nat.reduceBEq, resultA, resA, vI, Nat.reduceMul, Nat.reduceAdd, Nat.reduceSub, Nat.reduceEqDiff, Nat.reduceLT, Nat.reducePow, Nat.reduceLeDiff, st, Option.bind_eq_bind, Option.pure_def, List.length_nil, Int.cast_ofNat_Int, List.reverse_nil, UU, idxP, cellsAt, storeA, fillA, zerosA, putAll, optNat, sliceA, row, Int.reduceLT, Int.reduceLE, Int.reduceGT, Int.reduceGE, Int.reduceEq, Int.reduceNe, Int.reduceToNat, Int.reduceBEq, Int.reduceBNe, Nat.reduceLeDiff, Nat.reduceLT, Nat.reduceBNe, Nat.reduceGT, List.drop_nil, List.take_nil, Option.isSome_none, Int.ofNat_one, Int.ofNat_zero, o1, o2, o3, ht.snap, ht.len, hw.snap, u2.snap, g1.snap, z2.snap, y1.snap, lu, f, hw.len, c, iv, g2, u3, ig, w2, bne_self_eq_false, iq, z3, y2, sm, ip, ha]
        · rw [hp] at ip
          obtain ⟨k, x, k0, k1, k2, k3⟩ := fin hp
          simp only [F14B, SS, insA, wantedA, Opd.ev, putA, binA, eqbA, unA, fldA, partA, reduceIte, reduceCtorEq, Nat.reduceMod, Nat.reduceDiv, Nat.reduceBEq, resultA, resA, vI, Nat.reduceMul, Nat.reduceAdd, Nat.reduceSub, Nat.reduceEqDiff, Nat.reduceLT, Nat.reducePow, Nat.reduceLeDiff, st, Option.bind_eq_bind, Option.pure_def, List.length_nil, Int.cast_ofNat_Int, List.reverse_nil, UU, idxP, cellsAt, storeA, fillA, zerosA, putAll, optNat, sliceA, row, Int.reduceLT, Int.reduceLE, Int.reduceGT, Int.reduceGE, Int.reduceEq, Int.reduceNe, Int.reduceToNat, Int.reduceBEq, Int.reduceBNe, Nat.reduceLeDiff, Nat.reduceLT, Nat.reduceBNe, Nat.reduceGT, List.drop_nil, List.take_nil, Option.isSome_none, Int.ofNat_one, Int.ofNat_zero, o1, o2, o3, ht.snap, ht.len, hw.snap, u2.snap, g1.snap, z2.snap, y1.snap, lu, f, hw.len, c, iv, g2, u3, ig, w2, bne_self_eq_false, iq, z3, y2, sm, ip, k0, k1, k2, k3, BEq.rfl, ha]
  · rw [decide_eq_false hs] at f
    simp only [F14B, SS, insA, wantedA, Opd.ev, putA, binA, eqbA, unA, fldA, partA, reduceIte, reduceCtorEq, Nat.reduceMod, Nat.reduceDiv, Nat.reduceBEq, resultA, resA, vI, Nat.reduceMul, Nat.reduceAdd, Nat.reduceSub, Nat.reduceEqDiff, Nat.reduceLT, Nat.reducePow, Nat.reduceLeDiff, st, Option.bind_eq_bind, Option.pure_def, List.length_nil, Int.cast_ofNat_Int, List.reverse_nil, UU, idxP, cellsAt, storeA, fillA, zerosA, putAll, optNat, sliceA, row, Int.reduceLT, Int.reduceLE, Int.reduceGT, Int.reduceGE, Int.reduceEq, Int.reduceNe, Int.reduceToNat, Int.reduceBEq, Int.reduceBNe, Nat.reduceLeDiff, Nat.reduceLT, Nat.reduceBNe, Nat.reduceGT, List.drop_nil, List.take_nil, Option.isSome_none, Int.ofNat_one, Int.ofNat_zero, o1, o2, o3, ht.snap, f, ha]
end
end Go.X
