import Derived.Test.YtppekkocioidkaaJQ
import Derived.Test.YtppekkocioidkaaJO
import Derived.Test.YtppekkocioidkaaJB
/-! Meshes: Steps. -/
set_option linter.unusedSimpArgs false
set_option linter.unusedVariables false
set_option maxHeartbeats 2000000
set_option maxRecDepth 10000
namespace Go.X
open Go Go.RowKit

/-- The fewest threads that join, and the fewest that part. -/
def stepsL (J : Nat → Bool) (t : Nat) : Nat → Nat → Nat → Nat → Nat × Nat
  | 0, _, f, c => (f, c)
  | d + 1, s, f, c => if J s = true then stepsL J t d (s + 1) (min f (pcN 13 s)) c else stepsL J t d (s + 1) f (min c (t - pcN 13 s))

theorem pcN_small {t s : Nat} (h : s < 2 ^ t) (ht : t ≤ 13) : pcN 13 s = pcN t s := by
  have key : ∀ d, pcN (t + d) s = pcN t s := fun d => by
    induction d with
    | zero => rfl
    | succ d ih =>
      rw [← Nat.add_assoc, pcN_succ, ih, Nat.testBit_lt_two_pow (Nat.lt_of_lt_of_le h (Nat.pow_le_pow_right (by decide) (by omega)))]
      simp
  have := key (13 - t)
  rwa [show t + (13 - t) = 13 by omega] at this

section
variable {Y : Run} {H : Heap}

theorem L9_0 {tv : AV} {T : List (Nat × Nat)} (ht : IsPairs tv (castP T)) (hl : T.length ≤ 13) {N A B q : Nat} (hn : N ≤ 8) (hin : Inn N T) (hA : A < N) (hB : B < N) (hld : loadA H (some 2) (.ptr q 0 0) = some (.agg [vI N, tv])) (d : Nat) : ∀ (s f c : Nat), s + d = 2 ^ T.length → f ≤ 13 → c ≤ 13 →
    lp EJ Y F9L0 (sp 75 [(52, vI s), (51, vI ((2 ^ T.length : Nat) : Int)), (14, vI c), (13, vI f), (11, .ptr q 0 0), (3, vI B), (2, vI A), (1, tv)]) H =
      some (.x 1, sp 75 [(14, vI ((stepsL (fun s => (reachN N T s A).testBit B) T.length d s f c).2 : Nat)), (13, vI ((stepsL (fun s => (reachN N T s A).testBit B) T.length d s f c).1 : Nat))], H) := by
  have h13 : (2 : Nat) ^ T.length ≤ 8192 := Nat.le_trans (Nat.pow_le_pow_right (by decide) hl) (by decide)
  induction d with
  | zero =>
    intro s f c hs hf hc
    rw [un9_0]
    have : ¬ ((s : Int) < ((2 ^ T.length : Nat) : Int)) := by omega
    simp only [F9L0b, stepsL, SS, insA, wantedA, Opd.ev, putA, binA, eqbA, unA, fldA, partA, reduceIte, reduceCtorEq, Nat.reduceMod, Nat.reduceDiv, Nat.reduceBEq, resultA, resA, vI, Nat.reduceMul, Nat.reduceAdd, Nat.reduceSub, Nat.reduceEqDiff, Nat.reduceLT, Nat.reducePow, Nat.reduceLeDiff, st, Option.bind_eq_bind, Option.pure_def, List.length_nil, Int.cast_ofNat_Int, List.reverse_nil, UU, idxP, cellsAt, storeA, fillA, zerosA, putAll, optNat, sliceA, row, Int.reduceLT, Int.reduceLE, Int.reduceGT, Int.reduceGE, Int.reduceEq, Int.reduceNe, Int.reduceToNat, Int.reduceBEq, Int.reduceBNe, Nat.reduceLeDiff, Nat.reduceLT, Nat.reduceBNe, Nat.reduceGT, List.drop_nil, List.take_nil, Option.isSome_none, Int.ofNat_one, Int.ofNat_zero, this]
  | succ d ih =>
    intro s f c hs hf hc
    have hlt : (s : Int) < ((2 ^ T.length : Nat) : Int) := by omega
    have hw := wrap_succ (n := s) (by omega)
    have hu := u64_wrap (a := s) (by omega)
    have ho := ones15 (Y := Y) (H := H) (x := s) (by omega)
    have hj := joined14 (Y := Y) (H := H) ht (by omega) (set := s) (n := N) hin (by omega) (by omega) hA hB
    have hsn := snap_mesh (H := H) (n := N) (a := s) (b := A) (c := B) ht
    have hlen : lenA tv = some T.length := by rw [ht.len]; simp [castP]
    have hp := pcN_small (s := s) (t := T.length) (by omega) hl
    have hp2 := pcN_top T.length s
    have hm1 : min (f : Int) ((pcN 13 s : Nat) : Int) = ((min f (pcN 13 s) : Nat) : Int) := by omega
    have hsub : IntKind.wrap .i64 ((T.length : Int) - ((pcN 13 s : Nat) : Int)) = ((T.length - pcN 13 s : Nat) : Int) := by
      rw [wrap_id (by omega) (by omega)]; omega
    have hm2 : min (c : Int) ((T.length - pcN 13 s : Nat) : Int) = ((min c (T.length - pcN 13 s) : Nat) : Int) := by omega
    rw [un9_0]
    simp only [vI] at hld ho hj hsn
    cases hb : (reachN N T s A).testBit B with
    | true =>
      have r := ih (s + 1) (min f (pcN 13 s)) c (by omega) (by omega) hc
      rw [hb] at hj
      simp only [stepsL, hb, if_true]
      simp only [SS, insA, wantedA, Opd.ev, putA, binA, eqbA, unA, fldA, partA, reduceIte, reduceCtorEq, Nat.reduceMod, Nat.reduceDiv, Nat.reduceBEq, resultA, resA, vI, Nat.reduceMul, Nat.reduceAdd, Nat.reduceSub, Nat.reduceEqDiff, Nat.reduceLT, Nat.reducePow, Nat.reduceLeDiff, st, Option.bind_eq_bind, Option.pure_def, List.length_nil, Int.cast_ofNat_Int, List.reverse_nil] at r
      simp only [F9L0b, SS, insA, wantedA, Opd.ev, putA, binA, eqbA, unA, fldA, partA, reduceIte, reduceCtorEq, Nat.reduceMod, Nat.reduceDiv, Nat.reduceBEq, resultA, resA, vI, Nat.reduceMul, Nat.reduceAdd, Nat.reduceSub, Nat.reduceEqDiff, Nat.reduceLT, Nat.reducePow, Nat.reduceLeDiff, st, Option.bind_eq_bind, Option.pure_def, List.length_nil, Int.cast_ofNat_Int, List.reverse_nil, UU, idxP, cellsAt, storeA, fillA, zerosA, putAll, optNat, sliceA, row, Int.reduceLT, Int.reduceLE, Int.reduceGT, Int.reduceGE, Int.reduceEq, Int.reduceNe, Int.reduceToNat, Int.reduceBEq, Int.reduceBNe, Nat.reduceLeDiff, Nat.reduceLT, Nat.reduceBNe, Nat.reduceGT, List.drop_nil, List.take_nil, Option.isSome_none, Int.ofNat_one, Int.ofNat_zero, hlt, hw, hu, ho, hld, hsn, hj, hm1, r]
    | false =>
      have r := ih (s + 1) f (min c (T.length - pcN 13 s)) (by omega) hf (by omega)
      rw [hb] at hj
      simp only [stepsL, hb, Bool.false_eq_true, if_false]
      simp only [SS, insA, wantedA, Opd.ev, putA, binA, eqbA, unA, fldA, partA, reduceIte, reduceCtorEq, Nat.reduceMod, Nat.reduceDiv, Nat.reduceBEq, resultA, resA, vI, Nat.reduceMul, Nat.reduceAdd, Nat.reduceSub, Nat.reduceEqDiff, Nat.reduceLT, Nat.reducePow, Nat.reduceLeDiff, st, Option.bind_eq_bind, Option.pure_def, List.length_nil, Int.cast_ofNat_Int, List.reverse_nil] at r
      simp only [F9L0b, SS, insA, wantedA, Opd.ev, putA, binA, eqbA, unA, fldA, partA, reduceIte, reduceCtorEq, Nat.reduceMod, Nat.reduceDiv, Nat.reduceBEq, resultA, resA, vI, Nat.reduceMul, Nat.reduceAdd, Nat.reduceSub, Nat.reduceEqDiff, Nat.reduceLT, Nat.reducePow, Nat.reduceLeDiff, st, Option.bind_eq_bind, Option.pure_def, List.length_nil, Int.cast_ofNat_Int, List.reverse_nil, UU, idxP, cellsAt, storeA, fillA, zerosA, putAll, optNat, sliceA, row, Int.reduceLT, Int.reduceLE, Int.reduceGT, Int.reduceGE, Int.reduceEq, Int.reduceNe, Int.reduceToNat, Int.reduceBEq, Int.reduceBNe, Nat.reduceLeDiff, Nat.reduceLT, Nat.reduceBNe, Nat.reduceGT, List.drop_nil, List.take_nil, Option.isSome_none, Int.ofNat_one, Int.ofNat_zero, hlt, hw, hu, ho, hld, hsn, hj, hlen, hsub, hm2, r]

/-- What Steps returns. -/
theorem steps9 {tv : AV} {l : List (Int × Int)} (ht : IsPairs tv l) (hl : l.length ≤ 1000) {n a b : Int} : ∃ k m e, freeX H (callL EJ Y 9 [vI n, tv, vI a, vI b] []) = some (.tup [vI k, vI m, vI e], H) ∧
    (readE n l [a, b] ≠ 0 → e = readE n l [a, b] ∧ k = 0 ∧ m = 0) ∧
    ∀ N T A B, Meshed n l N T → a = ((A : Nat) : Int) → b = ((B : Nat) : Int) → A < N → B < N →
      if A = B ∨ (reachN N T (full T.length) A).testBit B = false then e = 10 ∧ k = 0 ∧ m = 0 else e = 0 ∧ k = ((stepsL (fun s => (reachN N T s A).testBit B) T.length (2 ^ T.length) 0 T.length T.length).1 : Nat) ∧ m = ((stepsL (fun s => (reachN N T s A).testBit B) T.length (2 ^ T.length) 0 T.length T.length).2 : Nat) := by
  have hg : Gro 0 1 [⟨0, [vI a, vI b]⟩] (.sl 0 0 1 0 2 none) [a, b].length ([a, b].map vI) := ⟨by simp, .inr ⟨0, 0, Nat.le_refl _, rfl, rfl⟩⟩
  obtain ⟨H1, _, _, h1⟩ := read13 (Y := Y) (n := n) ht hl (by simp) hg
  have s1 : ∀ (m : Int) (w : AV), one w = true → _ := fun m w hw => store_mesh (H := H1) (n := m) hw
  rw [call9 rfl]
  by_cases c1 : readE n l [a, b] = 0
  · rw [if_pos c1] at h1
    rw [c1] at h1
    obtain ⟨N, T, hM, hk⟩ := readE_ok c1
    obtain ⟨A, rfl, hA⟩ := hk a (by simp)
    obtain ⟨B, rfl, hB⟩ := hk b (by simp)
    have hM0 := hM
    obtain ⟨rfl, hn, rfl, htl, hin, hne⟩ := hM
    have htl' : (castP T).length = T.length := by simp [castP]
    have s2 := s1 N tv ht.one.1
    have l2 := load_mesh (H := H1) (lv := tv) (n := N)
    simp only [vI] at s2 l2 h1
    have hs := shl_eq (k := T.length) (by omega)
    have hp : (0 : Int) ≤ (T.length : Int) := by omega
    have h13 : (2 : Nat) ^ T.length ≤ 8192 := Nat.le_trans (Nat.pow_le_pow_right (by decide) htl) (by decide)
    have h0 : 0 < 2 ^ T.length := Nat.pow_pos (by decide)
    have hsub : IntKind.wrap .i64 (((2 ^ T.length : Nat) : Int) - 1) = ((full T.length : Nat) : Int) := by
      unfold full
      rw [wrap_id (by omega) (by omega)]; omega
    have hfull : full T.length < 2147483648 := by unfold full; omega
    have hj := joined14 (Y := Y) (H := H1 ++ [⟨0, [vI N, tv]⟩]) ht (by omega) (set := full T.length) (n := N) hin (by omega) hfull hA hB
    have hsn := snap_mesh (H := H1 ++ [⟨0, [vI N, tv]⟩]) (n := N) (a := full T.length) (b := A) (c := B) ht
    have huniq : ∀ N' T' A' B', Meshed (N : Int) (castP T) N' T' → (A : Int) = ((A' : Nat) : Int) → (B : Int) = ((B' : Nat) : Int) → N' = N ∧ T' = T ∧ A' = A ∧ B' = B := fun N' T' A' B' hM' h2 h3 => by
      have e1 : N' = N := by have := hM'.n; omega
      refine ⟨e1, ?_, by omega, by omega⟩
      have := hM'.l
      unfold castP at this
      refine (List.map_inj_right ?_).1 this.symm
      rintro ⟨x, y⟩ ⟨z, w⟩ h
      have h1 := congrArg Prod.fst h; have h2 := congrArg Prod.snd h
      simp only at h1 h2
      have e6 : x = z := by omega
      have e7 : y = w := by omega
      rw [e6, e7]
    by_cases c2 : A = B
    · have c2' : ((A : Int) == (B : Int)) = true := by rw [c2]; simp
      refine ⟨0, 0, 10, ?_, fun h => absurd c1 h, fun N' T' A' B' hM' h2 h3 _ _ => ?_⟩
      · simp only [F9B, SS, insA, wantedA, Opd.ev, putA, binA, eqbA, unA, fldA, partA, reduceIte, reduceCtorEq, Nat.reduceMod, Nat.reduceDiv, Nat.reduceBEq, resultA, resA, vI, Nat.reduceMul, Nat.reduceAdd, Nat.reduceSub, Nat.reduceEqDiff, Nat.reduceLT, Nat.reducePow, Nat.reduceLeDiff, st, Option.bind_eq_bind, Option.pure_def, List.length_nil, Int.cast_ofNat_Int, List.reverse_nil, UU, idxP, cellsAt, fillA, zerosA, putAll, row, Int.reduceLT, Int.reduceLE, Int.reduceGT, Int.reduceGE, Int.reduceEq, Int.reduceNe, Int.reduceToNat, Int.reduceBEq, Int.reduceBNe, Nat.reduceLeDiff, Nat.reduceLT, Nat.reduceBNe, Nat.reduceGT, List.drop_nil, List.take_nil, Option.isSome_none, Int.ofNat_one, Int.ofNat_zero, h1, s2, c2']
      · obtain ⟨rfl, rfl, rfl, rfl⟩ := huniq N' T' A' B' hM' h2 h3
        rw [if_pos (.inl c2)]; exact ⟨rfl, rfl, rfl⟩
    · have c2' : ((A : Int) == (B : Int)) = false := by simp; omega
      cases hb : (reachN N T (full T.length) A).testBit B with
      | false =>
        rw [hb] at hj
        refine ⟨0, 0, 10, ?_, fun h => absurd c1 h, fun N' T' A' B' hM' h2 h3 _ _ => ?_⟩
        · simp only [vI] at hj hsn
          simp only [F9B, SS, insA, wantedA, Opd.ev, putA, binA, eqbA, unA, fldA, partA, reduceIte, reduceCtorEq, Nat.reduceMod, Nat.reduceDiv, Nat.reduceBEq, resultA, resA, vI, Nat.reduceMul, Nat.reduceAdd, Nat.reduceSub, Nat.reduceEqDiff, Nat.reduceLT, Nat.reducePow, Nat.reduceLeDiff, st, Option.bind_eq_bind, Option.pure_def, List.length_nil, Int.cast_ofNat_Int, List.reverse_nil, UU, idxP, cellsAt, fillA, zerosA, putAll, row, Int.reduceLT, Int.reduceLE, Int.reduceGT, Int.reduceGE, Int.reduceEq, Int.reduceNe, Int.reduceToNat, Int.reduceBEq, Int.reduceBNe, Nat.reduceLeDiff, Nat.reduceLT, Nat.reduceBNe, Nat.reduceGT, List.drop_nil, List.take_nil, Option.isSome_none, Int.ofNat_one, Int.ofNat_zero, h1, s2, c2', ht.len, htl', hp, hs, hsub, l2, hsn, hj]
        · obtain ⟨rfl, rfl, rfl, rfl⟩ := huniq N' T' A' B' hM' h2 h3
          rw [if_pos (.inr hb)]; exact ⟨rfl, rfl, rfl⟩
      | true =>
        rw [hb] at hj
        have hL := L9_0 (Y := Y) (H := H1 ++ [⟨0, [vI N, tv]⟩]) ht htl (by omega) hin hA hB (q := H1.length) l2 (2 ^ T.length) 0 T.length T.length (by omega) htl htl
        refine ⟨(((stepsL (fun s => (reachN N T s A).testBit B) T.length (2 ^ T.length) 0 T.length T.length).1 : Nat) : Int), (((stepsL (fun s => (reachN N T s A).testBit B) T.length (2 ^ T.length) 0 T.length T.length).2 : Nat) : Int), 0, ?_, fun h => absurd c1 h, fun N' T' A' B' hM' h2 h3 _ _ => ?_⟩
        · simp only [vI] at hj hsn
          simp only [SS, insA, wantedA, Opd.ev, putA, binA, eqbA, unA, fldA, partA, reduceIte, reduceCtorEq, Nat.reduceMod, Nat.reduceDiv, Nat.reduceBEq, resultA, resA, vI, Nat.reduceMul, Nat.reduceAdd, Nat.reduceSub, Nat.reduceEqDiff, Nat.reduceLT, Nat.reducePow, Nat.reduceLeDiff, st, Option.bind_eq_bind, Option.pure_def, List.length_nil, Int.cast_ofNat_Int, List.reverse_nil, Int.ofNat_zero] at hL
          simp only [F9B, F9T0, in9_0, SS, insA, wantedA, Opd.ev, putA, binA, eqbA, unA, fldA, partA, reduceIte, reduceCtorEq, Nat.reduceMod, Nat.reduceDiv, Nat.reduceBEq, resultA, resA, vI, Nat.reduceMul, Nat.reduceAdd, Nat.reduceSub, Nat.reduceEqDiff, Nat.reduceLT, Nat.reducePow, Nat.reduceLeDiff, st, Option.bind_eq_bind, Option.pure_def, List.length_nil, Int.cast_ofNat_Int, List.reverse_nil, UU, idxP, cellsAt, fillA, zerosA, putAll, row, Int.reduceLT, Int.reduceLE, Int.reduceGT, Int.reduceGE, Int.reduceEq, Int.reduceNe, Int.reduceToNat, Int.reduceBEq, Int.reduceBNe, Nat.reduceLeDiff, Nat.reduceLT, Nat.reduceBNe, Nat.reduceGT, List.drop_nil, List.take_nil, Option.isSome_none, Int.ofNat_one, Int.ofNat_zero, h1, s2, c2', ht.len, htl', hp, hs, hsub, l2, hsn, hj, hL]
        · obtain ⟨rfl, rfl, rfl, rfl⟩ := huniq N' T' A' B' hM' h2 h3
          rw [if_neg (by rintro (h | h); exact c2 h; rw [hb] at h; cases h)]
          exact ⟨rfl, rfl, rfl⟩
  · rw [if_neg c1] at h1
    have s2 := s1 0 .nils rfl
    simp only [vI] at s2 h1
    have c1' : (readE n l [a, b] != 0) = true := bne_iff_ne.2 c1
    refine ⟨0, 0, readE n l [a, b], ?_, fun _ => ⟨rfl, rfl, rfl⟩, fun N T A B hM h2 h3 h4 h5 => ?_⟩
    · simp only [F9B, SS, insA, wantedA, Opd.ev, putA, binA, eqbA, unA, fldA, partA, reduceIte, reduceCtorEq, Nat.reduceMod, Nat.reduceDiv, Nat.reduceBEq, resultA, resA, vI, Nat.reduceMul, Nat.reduceAdd, Nat.reduceSub, Nat.reduceEqDiff, Nat.reduceLT, Nat.reducePow, Nat.reduceLeDiff, st, Option.bind_eq_bind, Option.pure_def, List.length_nil, Int.cast_ofNat_Int, List.reverse_nil, UU, idxP, cellsAt, fillA, zerosA, putAll, row, Int.reduceLT, Int.reduceLE, Int.reduceGT, Int.reduceGE, Int.reduceEq, Int.reduceNe, Int.reduceToNat, Int.reduceBEq, Int.reduceBNe, Nat.reduceLeDiff, Nat.reduceLT, Nat.reduceBNe, Nat.reduceGT, List.drop_nil, List.take_nil, Option.isSome_none, Int.ofNat_one, Int.ofNat_zero, h1, s2, c1']
    · exact absurd (by
        obtain ⟨rfl, hn, rfl, htl, hin, hne⟩ := hM
        have b1 : (castP T).any (badT N) = false := by
          rw [List.any_eq_false]
          intro p hp
          obtain ⟨q, hq, rfl⟩ := List.mem_map.1 hp
          have := hin q hq
          have := hne q hq
          simp only [badT, Bool.or_eq_true, decide_eq_true_eq, beq_iff_eq]
          omega
        have b2 : [a, b].any (badK N) = false := by
          simp only [List.any_cons, List.any_nil, badK, Bool.or_false, Bool.or_eq_false_iff, decide_eq_false_iff_not]
          omega
        unfold readE
        rw [if_neg (by omega), if_neg (by simp [castP]; omega), if_neg (by simp [b1]), if_neg (by simp [b2])]) c1
end
end Go.X
