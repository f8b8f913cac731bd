import Derived.Test.YtchgifdkhknppaaUS
import Derived.Test.YtchgifdkhknppaaUH1
import Derived.Test.YtchgifdkhknppaaUT
import Derived.KernelRfl
/-! Veils: the law on the sum of counts. -/
set_option linter.unusedSimpArgs false
set_option linter.unusedVariables false
set_option maxHeartbeats 8000000
set_option maxRecDepth 10000
namespace Go.X
open Go Go.RowKit
section
variable {Y : Run} {H : Heap}

def prs (n : Nat) : List (List Int) := (prsP (2 * n) (2 * n + 1) (List.replicate (2 * n) (-1)) 0 []).2
def cntS (n : Nat) (l : List Int) : Nat := ((pq n).filter fun c => dq n c.2 == l).length
def sumS (n : Nat) : List (List Int) → Nat
  | [] => 0
  | l :: ls => cntS n l + sumS n ls
def chkS (n : Nat) : Bool := (prs n).all (fun l => isPr l && (Nat.beq l.length (2 * n) && Nat.ble 1 (cntS n l))) && (Nat.beq (sumS n (prs n)) (pq n).length && (Nat.ble (prs n).length 1000))
theorem chkS_1 : chkS 1 = true := by kernel_rfl
theorem chkS_2 : chkS 2 = true := by kernel_rfl
theorem chkS_3 : chkS 3 = true := by kernel_rfl
theorem chkS_4 : chkS 4 = true := by kernel_rfl
theorem chkS_all {n : Nat} (h1 : 1 ≤ n) (h4 : n ≤ 4) : chkS n = true := by
  have : n = 1 ∨ n = 2 ∨ n = 3 ∨ n = 4 := by omega
  rcases this with rfl | rfl | rfl | rfl
  · exact chkS_1
  · exact chkS_2
  · exact chkS_3
  · exact chkS_4

theorem dec_ln {n N : Nat} : (dec n N).length = n := by simp [dec]
theorem cntS_list {n : Nat} {l : List Int} : ∀ (L : List (Nat × Nat)) (s : Nat), (∀ c ∈ L, chkV n c = true) → (L.map fun c => dec n c.1).foldl (cntF l) s = s + (L.filter fun c => dq n c.2 == l).length
  | [], s, _ => rfl
  | c :: L, s, h => by
    have hp : pairOf (dec n c.1) = some (dq n c.2) := by
      have := h c List.mem_cons_self
      unfold chkV at this
      rw [Bool.and_eq_true] at this
      unfold pairOf
      rw [dec_ln]
      exact eq_of_beq this.1
    rw [List.map_cons, List.foldl_cons, cntS_list L _ fun x hx => h x (List.mem_cons_of_mem _ hx), List.filter_cons]
    unfold cntF
    rw [hp]
    by_cases e : dq n c.2 = l
    · rw [if_pos (by rw [e]), if_pos (by rw [e]; exact BEq.rfl), List.length_cons]; omega
    · rw [if_neg (fun q => e (Option.some.inj q)), if_neg (fun q => e (eq_of_beq q))]
theorem cntL_S {n : Nat} (h1 : 1 ≤ n) (h5 : n ≤ 5) (l : List Int) : cntL n l = cntS n l := by
  unfold cntL cntS
  rw [all_pq h1 h5, cntS_list _ _ fun c hc => List.all_eq_true.1 (pq_ok h1 h5) c hc]; omega

theorem L4_0 {a c : AV} {m : Nat} (hm : m ≤ 100) (d : Nat) : ∀ (i : Nat) (R : Heap), i + d = m → Work R .nils [] [] c (List.replicate i (-1) ++ List.replicate d 0) →
    ∃ R', lp EV Y F4L0 (sp 68 [(7, vI i), (6, c), (4, a)]) R = some (.x 0, sp 68 [(6, c), (4, a)], R') ∧ Work R' .nils [] [] c (List.replicate m (-1)) := by
  induction d with
  | zero =>
    intro i R hi W
    have hlen : lenA c = some m := by rw [W.row.len]; simp; omega
    have : ¬ ((i : Int) < (m : Int)) := by omega
    refine ⟨R, ?_, ?_⟩
    · rw [un4_0]
      simp only [F4L0b, SS, insA, wantedA, Opd.ev, putA, binA, eqbA, unA, fldA, partA, reduceIte, reduceCtorEq, Nat.reduceMod, Nat.reduceDiv, Nat.reduceBEq, resultA, resA, vI, Nat.reduceMul, Nat.reduceAdd, Nat.reduceSub, Nat.reduceEqDiff, Nat.reduceLT, Nat.reducePow, Nat.reduceLeDiff, st, Option.bind_eq_bind, Option.pure_def, List.length_nil, Int.cast_ofNat_Int, List.reverse_nil, UU, idxP, cellsAt, storeA, fillA, zerosA, putAll, optNat, sliceA, row, Int.reduceLT, Int.reduceLE, Int.reduceGT, Int.reduceGE, Int.reduceEq, Int.reduceNe, Int.reduceToNat, Int.reduceBEq, Int.reduceBNe, Nat.reduceLeDiff, Nat.reduceLT, Nat.reduceBNe, Nat.reduceGT, List.drop_nil, List.take_nil, Option.isSome_none, Int.ofNat_one, Int.ofNat_zero, hlen, this]
    · have : i = m := by omega
      subst this; simpa using W
  | succ d ih =>
    intro i R hi W
    have hlen : lenA c = some m := by rw [W.row.len]; simp; omega
    have hc : (i : Int) < (m : Int) := by omega
    have hww := wrap_succ (n := i) (by omega)
    have kl : i < (List.replicate i (-1 : Int) ++ List.replicate (d + 1) 0).length := by simp
    obtain ⟨R1, s1, W1⟩ := W.setRow (i := i) (x := -1) kl
    have e : (List.replicate i (-1 : Int) ++ List.replicate (d + 1) 0).set i (-1) = List.replicate (i + 1) (-1) ++ List.replicate d 0 := by
      rw [List.set_append_right _ _ (by simp), List.length_replicate, Nat.sub_self, List.replicate_succ, List.set_cons_zero, List.replicate_succ', List.append_assoc]; rfl
    rw [e] at W1
    obtain ⟨R', p1, p2⟩ := ih (i + 1) R1 (by omega) W1
    refine ⟨R', ?_, p2⟩
    rw [un4_0]
    simp only [SS, insA, wantedA, Opd.ev, putA, binA, eqbA, unA, fldA, partA, reduceIte, reduceCtorEq, Nat.reduceMod, Nat.reduceDiv, Nat.reduceBEq, resultA, resA, vI, Nat.reduceMul, Nat.reduceAdd, Nat.reduceSub, Nat.reduceEqDiff, Nat.reduceLT, Nat.reducePow, Nat.reduceLeDiff, st, Option.bind_eq_bind, Option.pure_def, List.length_nil, Int.cast_ofNat_Int, List.reverse_nil] at s1 p1
    simp only [F4L0b, SS, insA, wantedA, Opd.ev, putA, binA, eqbA, unA, fldA, partA, reduceIte, reduceCtorEq, Nat.reduceMod, Nat.reduceDiv, Nat.reduceBEq, resultA, resA, vI, Nat.reduceMul, Nat.reduceAdd, Nat.reduceSub, Nat.reduceEqDiff, Nat.reduceLT, Nat.reducePow, Nat.reduceLeDiff, st, Option.bind_eq_bind, Option.pure_def, List.length_nil, Int.cast_ofNat_Int, List.reverse_nil, UU, idxP, cellsAt, fillA, zerosA, putAll, row, Int.reduceLT, Int.reduceLE, Int.reduceGT, Int.reduceGE, Int.reduceEq, Int.reduceNe, Int.reduceToNat, Int.reduceBEq, Int.reduceBNe, Nat.reduceLeDiff, Nat.reduceLT, Nat.reduceBNe, Nat.reduceGT, List.drop_nil, List.take_nil, Option.isSome_none, Int.ofNat_one, Int.ofNat_zero, hlen, hc, W.row.idx kl, s1, hww, p1]

theorem L4_1 {n : Nat} {a o c : AV} {R : Heap} {ls : List (List Int)} {cells : List AV} {l : List Int} (h1 : 1 ≤ n) (h5 : n ≤ 5) (W : Work R o ls cells c l) (hls : ∀ l ∈ ls, isPr l = true ∧ l.length = 2 * n ∧ 1 ≤ cntS n l) (hn : ls.length ≤ 1000) (d : Nat) : ∀ (i s : Nat), i + d = ls.length → s ≤ 1000000 * i →
    lp EV Y F4L1 (sp 68 [(10, vI i), (9, vI s), (8, o), (4, a)]) R = some (.x 2, sp 68 [(9, vI (s + sumS n (ls.drop i) : Nat)), (4, a)], R) := by
  induction d with
  | zero =>
    intro i s hi hs
    have : ¬ ((i : Int) < (ls.length : Int)) := by omega
    rw [un4_1, List.drop_eq_nil_of_le (by omega)]
    simp only [F4L1b, sumS, SS, insA, wantedA, Opd.ev, putA, binA, eqbA, unA, fldA, partA, reduceIte, reduceCtorEq, Nat.reduceMod, Nat.reduceDiv, Nat.reduceBEq, resultA, resA, vI, Nat.reduceMul, Nat.reduceAdd, Nat.reduceSub, Nat.reduceEqDiff, Nat.reduceLT, Nat.reducePow, Nat.reduceLeDiff, st, Option.bind_eq_bind, Option.pure_def, List.length_nil, Int.cast_ofNat_Int, List.reverse_nil, UU, idxP, cellsAt, storeA, fillA, zerosA, putAll, optNat, sliceA, row, Int.reduceLT, Int.reduceLE, Int.reduceGT, Int.reduceGE, Int.reduceEq, Int.reduceNe, Int.reduceToNat, Int.reduceBEq, Int.reduceBNe, Nat.reduceLeDiff, Nat.reduceLT, Nat.reduceBNe, Nat.reduceGT, List.drop_nil, List.take_nil, Option.isSome_none, Int.ofNat_one, Int.ofNat_zero, W.tab.gro.len, this, Nat.add_zero]
  | succ d ih =>
    intro i s hi hs
    have hc : (i : Int) < (ls.length : Int) := by omega
    have k1 : i < ls.length := by omega
    have hww := wrap_succ (n := i) (by omega)
    obtain ⟨p1, p2, p3⟩ := hls _ (List.getElem_mem k1)
    obtain ⟨w, w1, w2⟩ := (W.tab.row i k1).snapRow (d := 4)
    have w1 : snapA R 6 (cells.getD i .undef) = some w := w1
    have ct := (count22 (Y := Y) w2 (by omega)).1 p1
    rw [p2, Nat.mul_div_cancel_left _ (by decide), cntL_S h1 h5] at ct
    have cb : cntS n ls[i] ≤ 1000000 := by rw [← cntL_S h1 h5]; exact cntL_le h1 h5 _
    have nc : ¬ (((cntS n ls[i] : Nat) : Int) < 1) := by omega
    have ws : IntKind.wrap .i64 ((s : Int) + (cntS n ls[i] : Nat)) = ((s + cntS n ls[i] : Nat) : Int) := by rw [wrap_id (by omega) (by omega)]; omega
    have ih := ih (i + 1) (s + cntS n ls[i]) (by omega) (by omega)
    rw [Nat.add_assoc] at ih
    rw [un4_1, List.drop_eq_getElem_cons k1, sumS]
    simp only [SS, insA, wantedA, Opd.ev, putA, binA, eqbA, unA, fldA, partA, reduceIte, reduceCtorEq, Nat.reduceMod, Nat.reduceDiv, Nat.reduceBEq, resultA, resA, vI, Nat.reduceMul, Nat.reduceAdd, Nat.reduceSub, Nat.reduceEqDiff, Nat.reduceLT, Nat.reducePow, Nat.reduceLeDiff, st, Option.bind_eq_bind, Option.pure_def, List.length_nil, Int.cast_ofNat_Int, List.reverse_nil] at ih ct
    simp only [F4L1b, SS, insA, wantedA, Opd.ev, putA, binA, eqbA, unA, fldA, partA, reduceIte, reduceCtorEq, Nat.reduceMod, Nat.reduceDiv, Nat.reduceBEq, resultA, resA, vI, Nat.reduceMul, Nat.reduceAdd, Nat.reduceSub, Nat.reduceEqDiff, Nat.reduceLT, Nat.reducePow, Nat.reduceLeDiff, st, Option.bind_eq_bind, Option.pure_def, List.length_nil, Int.cast_ofNat_Int, List.reverse_nil, UU, idxP, cellsAt, storeA, fillA, zerosA, putAll, optNat, sliceA, row, Int.reduceLT, Int.reduceLE, Int.reduceGT, Int.reduceGE, Int.reduceEq, Int.reduceNe, Int.reduceToNat, Int.reduceBEq, Int.reduceBNe, Nat.reduceLeDiff, Nat.reduceLT, Nat.reduceBNe, Nat.reduceGT, List.drop_nil, List.take_nil, Option.isSome_none, Int.ofNat_one, Int.ofNat_zero, W.tab.gro.len, hc, W.tab.idx k1, W.tab.load k1, w1, ct, nc, bne_self_eq_false, ws, hww, ih]

theorem law4 {a : Int} (hb : 0 ≤ a ∧ a < 256) : freeX [] (callL EV Y 4 [.int .u8 a] []) = some (.bool true, []) := by
  have ha := fun H => alive20 (Y := Y) (H := H)
  obtain ⟨m, hm, h1, h4⟩ : ∃ m : Nat, IntKind.wrap .i64 (1 + IntKind.wrap .i64 (a.tmod 4)) = m ∧ 1 ≤ m ∧ m ≤ 4 := by
    have e1 : 0 ≤ a.tmod 4 := Int.tmod_nonneg _ hb.1
    have e2 : a.tmod 4 < 4 := Int.tmod_lt_of_pos _ (by decide)
    refine ⟨(1 + a.tmod 4).toNat, ?_, by omega, by omega⟩
    have w1 : IntKind.wrap .i64 (a.tmod 4) = a.tmod 4 := wrap_id (by omega) (by omega)
    rw [w1, wrap_id (by omega) (by omega)]; omega
  have h5 : m ≤ 5 := by omega
  obtain ⟨o, H', oc, b, e, cs, q1, q2⟩ := all18_2 (Y := Y) (H := []) h1 h5 (all_len h1 h5)
  have F := chkS_all h1 h4
  unfold chkS at F
  rw [Bool.and_eq_true, Bool.and_eq_true, List.all_eq_true] at F
  obtain ⟨f1, f2, f3⟩ := F
  have hls : ∀ l ∈ prs m, isPr l = true ∧ l.length = 2 * m ∧ 1 ≤ cntS m l := fun l hl => by
    have := f1 l hl
    rw [Bool.and_eq_true, Bool.and_eq_true] at this
    exact ⟨this.1, Nat.eq_of_beq_eq_true this.2.1, Nat.le_of_ble_eq_true this.2.2⟩
  have hsum : sumS m (prs m) = (allL m).length := by rw [all_pq h1 h5, List.length_map]; exact Nat.eq_of_beq_eq_true f2
  have hpn := Nat.le_of_ble_eq_true f3
  -- the list of ends that are free
  have W0 : Work (H' ++ [⟨0, (List.replicate (2 * m) (0 : Int)).map vI⟩]) .nils [] [] (.sl H'.length 0 1 0 (2 * m) none) (List.replicate 0 (-1) ++ List.replicate (2 * m) 0) := by
    have g := Gro.made (H := H' ++ [⟨0, (List.replicate (2 * m) (0 : Int)).map vI⟩]) (k := H'.length) (ver := 0) (l := List.replicate (2 * m) (0 : Int)) (by simp) (Nat.zero_le _)
    refine ⟨HTab.nil _ _, ?_, fun i _ h => (by cases h), fun j i hj => by simp at hj⟩
    simp only [List.replicate_zero, List.nil_append]
    rw [List.length_replicate] at g ⊢
    exact g
  obtain ⟨R1, a1, W1⟩ := L4_0 (Y := Y) (a := o) (m := 2 * m) (by omega) (2 * m) 0 _ (by omega) W0
  obtain ⟨o2, R2, cells2, b1, W2, _⟩ := prs21 (Y := Y) (m := 2 * m) (by omega) (by omega) (2 * m + 1) 0 (by omega) (by omega) W1 ⟨by simp, fun i hi => by rw [getD_get (by simpa using hi)]; simp; omega⟩ hpn
  have W2 : Work R2 o2 (prs m) cells2 (.sl H'.length 0 1 0 (2 * m) none) (prsP (2 * m) (2 * m + 1) (List.replicate (2 * m) (-1)) 0 []).1 := W2
  have lo := L4_1 (Y := Y) (a := o) h1 h5 W2 hls hpn (prs m).length 0 0 (by omega) (by omega)
  rw [List.drop_zero, Nat.zero_add, hsum] at lo
  have w2 : IntKind.wrap .i64 (2 * (m : Int)) = ((2 * m : Nat) : Int) := by rw [wrap_id (by omega) (by omega)]; omega
  have hki : 0 ≤ ((2 * m : Nat) : Int) ∧ ((2 * m : Nat) : Int) * 8 ≤ 140737488355328 ∧ ((2 * m : Nat) : Int) ≤ 9223372036854775807 := by omega
  have hz : zerosA [.int .i64 0] (2 * m) = List.replicate (2 * m) (.int .i64 0) := by rw [← map_rep]; exact zeros_int
  have e4 : ¬ ((4 : Int) = 0) := by decide
  have hlen := q2.out.len
  rw [map_rep] at a1
  rw [call4 rfl]
  simp only [SS, insA, wantedA, Opd.ev, putA, binA, eqbA, unA, fldA, partA, reduceIte, reduceCtorEq, Nat.reduceMod, Nat.reduceDiv, Nat.reduceBEq, resultA, resA, vI, Nat.reduceMul, Nat.reduceAdd, Nat.reduceSub, Nat.reduceEqDiff, Nat.reduceLT, Nat.reducePow, Nat.reduceLeDiff, st, Option.bind_eq_bind, Option.pure_def, List.length_nil, Int.cast_ofNat_Int, List.reverse_nil, Int.ofNat_zero] at q1 a1 b1 lo
  simp only [F4B, F4T1, F4T0, in4_0, in4_1, SS, insA, wantedA, Opd.ev, putA, binA, eqbA, unA, fldA, partA, reduceIte, reduceCtorEq, Nat.reduceMod, Nat.reduceDiv, Nat.reduceBEq, resultA, resA, vI, Nat.reduceMul, Nat.reduceAdd, Nat.reduceSub, Nat.reduceEqDiff, Nat.reduceLT, Nat.reducePow, Nat.reduceLeDiff, st, Option.bind_eq_bind, Option.pure_def, List.length_nil, Int.cast_ofNat_Int, List.reverse_nil, UU, idxP, cellsAt, fillA, putAll, row, Int.reduceLT, Int.reduceLE, Int.reduceGT, Int.reduceGE, Int.reduceEq, Int.reduceNe, Int.reduceToNat, Int.reduceBEq, Int.reduceBNe, Nat.reduceLeDiff, Nat.reduceLT, Nat.reduceBNe, Nat.reduceGT, List.drop_nil, List.take_nil, Option.isSome_none, Int.ofNat_one, Int.ofNat_zero, hm, e4, ne_eq, not_false_eq_true, and_self, q1, w2, hki, hz, Int.toNat_natCast, Nat.mul_one, a1, b1, lo, hlen, BEq.rfl, ha]
end
end Go.X
