import Derived.Test.YtchgifdkhknppaaUM
/-! Veils: pairings, in the program. -/
set_option linter.unusedSimpArgs false
set_option linter.unusedVariables false
set_option maxHeartbeats 8000000
set_option maxRecDepth 10000
namespace Go.X
open Go Go.RowKit
section
variable {Y : Run} {H : Heap}

theorem upK_mem {h : List (List Int)} {f : Nat → Nat × Nat × Nat} {k : Nat × Nat × Nat} : ∀ (d j : Nat), k ∈ upK h f j d → ∃ i, j ≤ i ∧ i < j + d ∧ k = f i
  | 0, j, hk => by cases hk
  | d + 1, j, hk => by
    unfold upK at hk
    rw [List.mem_append] at hk
    rcases hk with hk | hk
    · unfold selK at hk
      split at hk
      · exact ⟨j, by omega, by omega, by simpa using hk⟩
      · cases hk
    · obtain ⟨i, a, b, c⟩ := upK_mem d (j + 1) hk
      exact ⟨i, by omega, by omega, c⟩
theorem dnK_mem {h : List (List Int)} {f : Nat → Nat × Nat × Nat} {k : Nat × Nat × Nat} : ∀ (j : Nat), k ∈ dnK h f j → ∃ i, 1 ≤ i ∧ i ≤ j ∧ k = f i
  | 0, hk => by cases hk
  | j + 1, hk => by
    unfold dnK at hk
    rw [List.mem_append] at hk
    rcases hk with hk | hk
    · unfold selK at hk
      split at hk
      · exact ⟨j + 1, by omega, by omega, by simpa using hk⟩
      · cases hk
    · obtain ⟨i, a, b, c⟩ := dnK_mem j hk
      exact ⟨i, by omega, by omega, c⟩
theorem endsP_mem {h : List (List Int)} {n : Nat} (h1 : 1 ≤ n) {k : Nat × Nat × Nat} (hk : k ∈ endsP h n) : (1 ≤ k.1 ∧ k.1 ≤ n) ∧ (1 ≤ k.2.1 ∧ k.2.1 ≤ n) ∧ k.2.2 < 4 := by
  unfold endsP at hk
  rw [List.mem_append, List.mem_append, List.mem_append] at hk
  rcases hk with hk | hk | hk | hk
  · obtain ⟨i, a, b, rfl⟩ := upK_mem _ _ hk; exact ⟨⟨Nat.le_refl _, h1⟩, ⟨a, by show i ≤ n; omega⟩, by simp⟩
  · obtain ⟨i, a, b, rfl⟩ := upK_mem _ _ hk; exact ⟨⟨a, by show i ≤ n; omega⟩, ⟨h1, Nat.le_refl _⟩, by simp⟩
  · obtain ⟨i, a, b, rfl⟩ := dnK_mem _ hk; exact ⟨⟨h1, Nat.le_refl _⟩, ⟨a, b⟩, by simp⟩
  · obtain ⟨i, a, b, rfl⟩ := dnK_mem _ hk; exact ⟨⟨a, b⟩, ⟨Nat.le_refl _, h1⟩, by simp⟩

/-- The pairing, if every thread comes to an end. -/
def pairK (h : List (List Int)) (n : Nat) (ks : List (Nat × Nat × Nat)) : List (Nat × Nat × Nat) → Option (List Int)
  | [] => some []
  | k :: l => match folP h n 26 k.1 k.2.1 k.2.2 with
    | some r => match pairK h n ks l with
      | some q => some (idxK r ks 0 :: q)
      | none => none
    | none => none
def pairP (h : List (List Int)) (n : Nat) : Option (List Int) := pairK h n (endsP h n) (endsP h n)

theorem pairK_s {h : List (List Int)} {n : Nat} {ks l : List (Nat × Nat × Nat)} {k : Nat × Nat × Nat} {q : List Int} (hq : pairK h n ks (k :: l) = some q) : ∃ r q', folP h n 26 k.1 k.2.1 k.2.2 = some r ∧ pairK h n ks l = some q' ∧ q = idxK r ks 0 :: q' := by
  unfold pairK at hq
  cases h1 : folP h n 26 k.1 k.2.1 k.2.2 with
  | none => rw [h1] at hq; cases hq
  | some r =>
    cases h2 : pairK h n ks l with
    | none => rw [h1, h2] at hq; cases hq
    | some q' => rw [h1, h2] at hq; cases hq; exact ⟨r, q', rfl, rfl, rfl⟩

theorem L63_0 {hv w : AV} {h : List (List Int)} {n : Nat} (ht : IsTab hv h) (S : Steep n h) (hw : IsKn w (endsP h n)) (d : Nat) : ∀ (i : Nat) (R : Heap) (o : AV) (p q : List Int), i + d = (endsP h n).length → p.length = i →
    pairK h n (endsP h n) ((endsP h n).drop i) = some q → Gro 0 1 R o p.length (p.map vI) →
    ∃ o' R', lp EV Y F63L0 (sp 25 [(11, vI i), (10, vI (endsP h n).length), (9, w), (4, o), (3, w), (0, hv)]) R = some (.x 0, sp 25 [(4, o')], R') ∧ Gro 0 1 R' o' (p ++ q).length ((p ++ q).map vI) := by
  have h1 := S.n1
  have h5 := S.n5
  have hl := endsP_len (h := h) (n := n)
  have hm := fun k hk => endsP_mem (h := h) (k := k) h1 hk
  generalize hks : endsP h n = ks at *
  induction d with
  | zero =>
    intro i R o p q hi hp hq G
    have : ¬ ((i : Int) < (ks.length : Int)) := by omega
    rw [List.drop_eq_nil_of_le (by omega)] at hq
    cases hq
    refine ⟨o, R, ?_, by rw [List.append_nil]; exact G⟩
    rw [un63_0]
    simp only [F63L0b, SS, insA, wantedA, Opd.ev, putA, binA, eqbA, unA, fldA, partA, reduceIte, reduceCtorEq, Nat.reduceMod, Nat.reduceDiv, Nat.reduceBEq, resultA, resA, vI, Nat.reduceMul, Nat.reduceAdd, Nat.reduceSub, Nat.reduceEqDiff, Nat.reduceLT, Nat.reducePow, Nat.reduceLeDiff, st, Option.bind_eq_bind, Option.pure_def, List.length_nil, Int.cast_ofNat_Int, List.reverse_nil, UU, idxP, cellsAt, storeA, fillA, zerosA, putAll, optNat, sliceA, row, Int.reduceLT, Int.reduceLE, Int.reduceGT, Int.reduceGE, Int.reduceEq, Int.reduceNe, Int.reduceToNat, Int.reduceBEq, Int.reduceBNe, Nat.reduceLeDiff, Nat.reduceLT, Nat.reduceBNe, Nat.reduceGT, List.drop_nil, List.take_nil, Option.isSome_none, Int.ofNat_one, Int.ofNat_zero, this]
  | succ d ih =>
    intro i R o p q hi hp hq G
    have hc : (i : Int) < (ks.length : Int) := by omega
    have k1 : i < ks.length := by omega
    have hww := wrap_succ (n := i) (by omega)
    rw [List.drop_eq_getElem_cons k1] at hq
    obtain ⟨r, q', f1, f2, rfl⟩ := pairK_s hq
    obtain ⟨b1, b2, b3⟩ := hm _ (List.getElem_mem k1)
    obtain ⟨s, rest, e1⟩ := hw.idx k1
    have fo := fun H => (follow84 (Y := Y) (H := H) ht S b1 b2 b3 f1).1
    have ix := fun H => index83 (Y := Y) (H := H) hw (by omega) (k := r)
    have G2 := G.mores [⟨0, [vI ks[i].1, vI ks[i].2.1, vI ks[i].2.2]⟩]
    obtain ⟨o', R', a1, a2, _⟩ := G2.app2 (bytes := 8) (ys := [vI (idxK r ks 0)]) (Nat.zero_le _) rfl rfl (by omega) (by omega)
    have e : p.map vI ++ [vI (idxK r ks 0)] = (p ++ [idxK r ks 0]).map vI := by rw [List.map_append]; rfl
    rw [e] at a2
    obtain ⟨o2, R2, c1, c2⟩ := ih (i + 1) R' o' (p ++ [idxK r ks 0]) q' (by omega) (by simp; omega) f2 (by rw [List.length_append]; exact a2)
    rw [List.append_assoc, List.singleton_append] at c2
    refine ⟨o2, R2, ?_, c2⟩
    have hlen : (R ++ [(⟨0, [vI ks[i].1, vI ks[i].2.1, vI ks[i].2.2]⟩ : Ob)]).length = R.length + 1 := by simp
    rw [hlen, List.append_assoc] at a1
    have st0 : storeA (R ++ [⟨0, [vI 0, vI 0, vI 0]⟩]) 3 (.ptr R.length 0 0) (.agg [vI ks[i].1, vI ks[i].2.1, vI ks[i].2.2]) = some (R ++ [⟨0, [vI ks[i].1, vI ks[i].2.1, vI ks[i].2.2]⟩]) := by
      simp only [storeA, get_last, cellsOf]
      rw [if_pos ⟨trivial, rfl, Nat.le_refl _, rfl⟩, set_last]; rfl
    rw [un63_0]
    simp only [kn, SS, insA, wantedA, Opd.ev, putA, binA, eqbA, unA, fldA, partA, reduceIte, reduceCtorEq, Nat.reduceMod, Nat.reduceDiv, Nat.reduceBEq, resultA, resA, vI, Nat.reduceMul, Nat.reduceAdd, Nat.reduceSub, Nat.reduceEqDiff, Nat.reduceLT, Nat.reducePow, Nat.reduceLeDiff, st, Option.bind_eq_bind, Option.pure_def, List.length_nil, Int.cast_ofNat_Int, List.reverse_nil] at a1 st0 fo ix c1
    simp only [F63L0b, kn, SS, insA, wantedA, Opd.ev, putA, binA, eqbA, unA, fldA, partA, reduceIte, reduceCtorEq, Nat.reduceMod, Nat.reduceDiv, Nat.reduceBEq, resultA, resA, vI, Nat.reduceMul, Nat.reduceAdd, Nat.reduceSub, Nat.reduceEqDiff, Nat.reduceLT, Nat.reducePow, Nat.reduceLeDiff, st, Option.bind_eq_bind, Option.pure_def, List.length_nil, Int.cast_ofNat_Int, List.reverse_nil, UU, idxP, cellsAt, fillA, zerosA, putAll, row, Int.reduceLT, Int.reduceLE, Int.reduceGT, Int.reduceGE, Int.reduceEq, Int.reduceNe, Int.reduceToNat, Int.reduceBEq, Int.reduceBNe, Nat.reduceLeDiff, Nat.reduceLT, Nat.reduceBNe, Nat.reduceGT, List.drop_nil, List.take_nil, Option.isSome_none, Int.ofNat_one, Int.ofNat_zero, hc, e1, st0, get_last, ht.snap, hw.snap, fo, ix, a1, hww, c1]

theorem pairing63 {hv : AV} {h : List (List Int)} {n : Nat} {q : List Int} (ht : IsTab hv h) (S : Steep n h) (hq : pairP h n = some q) : ∃ w, IsRow w q ∧ (∀ H, freeX H (callL EV Y 63 [hv] []) = some (w, H)) ∧ ∀ H m, freeA H (m + 1) w = some w := by
  obtain ⟨w, w1, w2⟩ := ends82 (Y := Y) ht S
  obtain ⟨o, R, a1, a2⟩ := L63_0 (Y := Y) ht S w1 (endsP h n).length 0 [] .nils [] q (by omega) rfl hq (Gro.nil _ _ _)
  rw [List.nil_append] at a2
  obtain ⟨x, f1, f2⟩ := a2.free (d := 4)
  have f1 : freeA R 6 o = some x := f1
  refine ⟨x, f2, fun H => ?_, fun H m => ?_⟩
  · rw [call63 rfl]
    simp only [SS, insA, wantedA, Opd.ev, putA, binA, eqbA, unA, fldA, partA, reduceIte, reduceCtorEq, Nat.reduceMod, Nat.reduceDiv, Nat.reduceBEq, resultA, resA, vI, Nat.reduceMul, Nat.reduceAdd, Nat.reduceSub, Nat.reduceEqDiff, Nat.reduceLT, Nat.reducePow, Nat.reduceLeDiff, st, Option.bind_eq_bind, Option.pure_def, List.length_nil, Int.cast_ofNat_Int, List.reverse_nil, Int.ofNat_zero] at a1
    simp only [F63B, F63T0, in63_0, SS, insA, wantedA, Opd.ev, putA, binA, eqbA, unA, fldA, partA, reduceIte, reduceCtorEq, Nat.reduceMod, Nat.reduceDiv, Nat.reduceBEq, resultA, resA, vI, Nat.reduceMul, Nat.reduceAdd, Nat.reduceSub, Nat.reduceEqDiff, Nat.reduceLT, Nat.reducePow, Nat.reduceLeDiff, st, Option.bind_eq_bind, Option.pure_def, List.length_nil, Int.cast_ofNat_Int, List.reverse_nil, UU, idxP, cellsAt, storeA, fillA, zerosA, putAll, optNat, sliceA, row, Int.reduceLT, Int.reduceLE, Int.reduceGT, Int.reduceGE, Int.reduceEq, Int.reduceNe, Int.reduceToNat, Int.reduceBEq, Int.reduceBNe, Nat.reduceLeDiff, Nat.reduceLT, Nat.reduceBNe, Nat.reduceGT, List.drop_nil, List.take_nil, Option.isSome_none, Int.ofNat_one, Int.ofNat_zero, ht.snap, w1.len, w2, a1, f1]
  · obtain ⟨h1, ⟨h0, rfl⟩ | ⟨id, ver, _, rfl, hH⟩⟩ := a2
    · cases f1; rfl
    · rw [show (6 : Nat) = 5 + 1 from rfl, free_sl, hH, freeS_some] at f1
      split at f1
      · simp only [freeB, Option.map_eq_some_iff] at f1
        obtain ⟨cs2, _, rfl⟩ := f1
        rfl
      · cases f1
end
end Go.X
