import Derived.Test.YtppekkocioidkaaJP
/-! Meshes: Joined. -/
set_option linter.unusedSimpArgs false
set_option linter.unusedVariables false
set_option maxHeartbeats 2000000
set_option maxRecDepth 10000
namespace Go.X
open Go Go.RowKit

/-- A mesh that is read without an error. -/
structure Meshed (n : Int) (l : List (Int × Int)) (N : Nat) (T : List (Nat × Nat)) : Prop where
  n : n = (N : Int)
  n2 : 2 ≤ N ∧ N ≤ 8
  l : l = castP T
  t : T.length ≤ 13
  inn : Inn N T
  ne : ∀ p ∈ T, p.1 ≠ p.2

theorem cast_of {n : Int} : ∀ {l : List (Int × Int)}, l.any (badT n) = false → ∃ T : List (Nat × Nat), l = castP T ∧ (∀ p ∈ T, (p.1 : Int) < n ∧ (p.2 : Int) < n ∧ p.1 ≠ p.2)
  | [], _ => ⟨[], rfl, fun p hp => by simp at hp⟩
  | (a, b) :: l, h => by
    simp only [List.any_cons, Bool.or_eq_false_iff] at h
    obtain ⟨T, rfl, hT⟩ := cast_of h.2
    have h1 := h.1
    simp only [badT, Bool.or_eq_false_iff, decide_eq_false_iff_not, beq_eq_false_iff_ne] at h1
    obtain ⟨⟨h1, h2⟩, h3⟩ := h1
    obtain ⟨a', rfl⟩ := Int.eq_ofNat_of_zero_le (show 0 ≤ a by omega)
    obtain ⟨b', rfl⟩ := Int.eq_ofNat_of_zero_le (show 0 ≤ b by omega)
    refine ⟨(a', b') :: T, rfl, fun p hp => ?_⟩
    rcases List.mem_cons.1 hp with rfl | hp
    · exact ⟨by simp only; omega, by simp only; omega, fun e => h3 (by simp only at e; rw [e])⟩
    · exact hT p hp
theorem readE_ok {n : Int} {l : List (Int × Int)} {ks : List Int} (h : readE n l ks = 0) : ∃ N T, Meshed n l N T ∧ ∀ k ∈ ks, ∃ K : Nat, k = (K : Int) ∧ K < N := by
  unfold readE at h
  by_cases c1 : n < 2 ∨ n > 8
  · rw [if_pos c1] at h; omega
  rw [if_neg c1] at h
  by_cases c2 : l.length > 13
  · rw [if_pos c2] at h; omega
  rw [if_neg c2] at h
  cases c3 : l.any (badT n) with
  | true => rw [c3, if_pos rfl] at h; omega
  | false =>
  rw [c3, if_neg (by simp)] at h
  cases c4 : ks.any (badK n) with
  | true => rw [c4, if_pos rfl] at h; omega
  | false =>
  obtain ⟨N, rfl⟩ := Int.eq_ofNat_of_zero_le (show 0 ≤ n by omega)
  obtain ⟨T, rfl, hT⟩ := cast_of c3
  refine ⟨N, T, ⟨rfl, by omega, rfl, by simpa [castP] using c2, fun p hp => by have := hT p hp; omega, fun p hp => (hT p hp).2.2⟩, fun k hk => ?_⟩
  have h5 := List.any_eq_false.1 c4 k hk
  simp only [badK, Bool.or_eq_true, decide_eq_true_eq, not_or] at h5
  obtain ⟨K, rfl⟩ := Int.eq_ofNat_of_zero_le (show 0 ≤ k by omega)
  exact ⟨K, rfl, by omega⟩

section
variable {Y : Run} {H : Heap}

theorem store_mesh {H : Heap} {lv : AV} {n : Int} (h : one lv = true) : storeA (H ++ [(⟨0, [vI 0, .nils]⟩ : Ob)]) 2 (.ptr H.length 0 0) (.agg [vI n, lv]) = some (H ++ [⟨0, [vI n, lv]⟩]) := by
  have ov : one (vI n) = true := rfl
  simp [storeA, cellsOf, putAll, h, ov]
theorem load_mesh {H : Heap} {lv : AV} {n : Int} : loadA (H ++ [(⟨0, [vI n, lv]⟩ : Ob)]) (some 2) (.ptr H.length 0 0) = some (.agg [vI n, lv]) := by simp [loadA, cellsAt]
theorem snap_mesh {H : Heap} {lv : AV} {l : List (Int × Int)} {n a b c : Int} (ht : IsPairs lv l) : List.mapM (snapA H 6) [.agg [vI n, lv], vI a, vI b, vI c] = some [.agg [vI n, lv], vI a, vI b, vI c] := by
  have h1 := ht.snapM (H := H) (n := 4) (x := n)
  have h2 : snapA H 6 (.agg [vI n, lv]) = some (.agg [vI n, lv]) := by
    show (List.mapM (snapA H 5) [vI n, lv]).map AV.agg = _
    rw [h1]; rfl
  simp only [List.mapM_cons, h2, List.mapM_nil]; rfl

/-- What Joined returns. -/
theorem joined_8 {tv : AV} {l : List (Int × Int)} (ht : IsPairs tv l) (hl : l.length ≤ 1000) {n set a b : Int} : ∃ x e, freeX H (callL EJ Y 8 [vI n, tv, vI set, vI a, vI b] []) = some (.tup [.bool x, vI e], H) ∧
    e = (if readE n l [a, b] ≠ 0 then readE n l [a, b] else if set < 0 ∨ set ≥ ((2 ^ l.length : Nat) : Int) then 2 else 0) ∧ (e ≠ 0 → x = false) ∧
    ∀ N T A B S, Meshed n l N T → a = ((A : Nat) : Int) → b = ((B : Nat) : Int) → set = ((S : Nat) : Int) → A < N → B < N → S < 2 ^ T.length → x = (reachN N T S A).testBit B := by
  have hg : Gro 0 1 [⟨0, [vI a, vI b]⟩] (.sl 0 0 1 0 2 none) [a, b].length ([a, b].map vI) := ⟨by simp, .inr ⟨0, 0, Nat.le_refl _, rfl, rfl⟩⟩
  obtain ⟨H1, _, _, h1⟩ := read13 (Y := Y) (n := n) ht hl (by simp) hg
  have s1 : ∀ (m : Int) (w : AV), one w = true → _ := fun m w hw => store_mesh (H := H1) (n := m) hw
  rw [call8 rfl]
  by_cases c1 : readE n l [a, b] = 0
  · rw [if_pos c1] at h1
    rw [c1] at h1
    obtain ⟨N, T, hM, hk⟩ := readE_ok c1
    obtain ⟨A, rfl, hA⟩ := hk a (by simp)
    obtain ⟨B, rfl, hB⟩ := hk b (by simp)
    obtain ⟨rfl, hn, rfl, htl, hin, hne⟩ := hM
    have htl' : (castP T).length = T.length := by simp [castP]
    rw [htl']
    have s2 := s1 N tv ht.one.1
    have l2 := load_mesh (H := H1) (lv := tv) (n := N)
    simp only [vI] at s2 l2 h1
    have hs := shl_eq (k := T.length) (by omega)
    have hp : (0 : Int) ≤ (T.length : Int) := by omega
    by_cases c2 : set < 0
    · refine ⟨false, 2, ?_, by rw [c1, if_neg (by simp), if_pos (.inl c2)], fun _ => rfl, fun N' T' A' B' S' h1 h2 h3 h4 _ _ _ => by omega⟩
      simp only [F8B, SS, insA, wantedA, Opd.ev, putA, binA, eqbA, unA, fldA, partA, reduceIte, reduceCtorEq, Nat.reduceMod, Nat.reduceDiv, Nat.reduceBEq, resultA, resA, vI, Nat.reduceMul, Nat.reduceAdd, Nat.reduceSub, Nat.reduceEqDiff, Nat.reduceLT, Nat.reducePow, Nat.reduceLeDiff, st, Option.bind_eq_bind, Option.pure_def, List.length_nil, Int.cast_ofNat_Int, List.reverse_nil, UU, idxP, cellsAt, fillA, zerosA, putAll, row, Int.reduceLT, Int.reduceLE, Int.reduceGT, Int.reduceGE, Int.reduceEq, Int.reduceNe, Int.reduceToNat, Int.reduceBEq, Int.reduceBNe, Nat.reduceLeDiff, Nat.reduceLT, Nat.reduceBNe, Nat.reduceGT, List.drop_nil, List.take_nil, Option.isSome_none, Int.ofNat_one, Int.ofNat_zero, h1, s2, c2]
    · by_cases c3 : set ≥ ((2 ^ T.length : Nat) : Int)
      · refine ⟨false, 2, ?_, by rw [c1, if_neg (by simp), if_pos (.inr c3)], fun _ => rfl, fun N' T' A' B' S' hM' h2 h3 h4 _ _ h7 => ?_⟩
        · simp only [F8B, SS, insA, wantedA, Opd.ev, putA, binA, eqbA, unA, fldA, partA, reduceIte, reduceCtorEq, Nat.reduceMod, Nat.reduceDiv, Nat.reduceBEq, resultA, resA, vI, Nat.reduceMul, Nat.reduceAdd, Nat.reduceSub, Nat.reduceEqDiff, Nat.reduceLT, Nat.reducePow, Nat.reduceLeDiff, st, Option.bind_eq_bind, Option.pure_def, List.length_nil, Int.cast_ofNat_Int, List.reverse_nil, UU, idxP, cellsAt, fillA, zerosA, putAll, row, Int.reduceLT, Int.reduceLE, Int.reduceGT, Int.reduceGE, Int.reduceEq, Int.reduceNe, Int.reduceToNat, Int.reduceBEq, Int.reduceBNe, Nat.reduceLeDiff, Nat.reduceLT, Nat.reduceBNe, Nat.reduceGT, List.drop_nil, List.take_nil, Option.isSome_none, Int.ofNat_one, Int.ofNat_zero, h1, s2, c2, ht.len, htl', hp, hs, c3]
        · have : T'.length = T.length := by have := congrArg List.length hM'.l; simpa [castP] using this.symm
          rw [this] at h7
          omega
      · obtain ⟨S, rfl⟩ := Int.eq_ofNat_of_zero_le (show 0 ≤ set by omega)
        have hS : S < 2 ^ T.length := by omega
        have hS2 : S < 2147483648 := Nat.lt_of_lt_of_le hS (Nat.le_trans (Nat.pow_le_pow_right (by decide) htl) (by decide))
        have hj := joined14 (Y := Y) (H := H1 ++ [⟨0, [vI N, tv]⟩]) ht (by omega) (set := S) (n := N) hin (by omega) hS2 hA hB
        have hsn := snap_mesh (H := H1 ++ [⟨0, [vI N, tv]⟩]) (n := N) (a := S) (b := A) (c := B) ht
        refine ⟨(reachN N T S A).testBit B, 0, ?_, by rw [c1, if_neg (by simp), if_neg (by omega)], fun h => absurd rfl h, fun N' T' A' B' S' hM' h2 h3 h4 _ _ h7 => ?_⟩
        · simp only [vI] at hj hsn
          simp only [F8B, SS, insA, wantedA, Opd.ev, putA, binA, eqbA, unA, fldA, partA, reduceIte, reduceCtorEq, Nat.reduceMod, Nat.reduceDiv, Nat.reduceBEq, resultA, resA, vI, Nat.reduceMul, Nat.reduceAdd, Nat.reduceSub, Nat.reduceEqDiff, Nat.reduceLT, Nat.reducePow, Nat.reduceLeDiff, st, Option.bind_eq_bind, Option.pure_def, List.length_nil, Int.cast_ofNat_Int, List.reverse_nil, UU, idxP, cellsAt, fillA, zerosA, putAll, row, Int.reduceLT, Int.reduceLE, Int.reduceGT, Int.reduceGE, Int.reduceEq, Int.reduceNe, Int.reduceToNat, Int.reduceBEq, Int.reduceBNe, Nat.reduceLeDiff, Nat.reduceLT, Nat.reduceBNe, Nat.reduceGT, List.drop_nil, List.take_nil, Option.isSome_none, Int.ofNat_one, Int.ofNat_zero, h1, s2, c2, ht.len, htl', hp, hs, c3, l2, hsn, hj]
        · have e1 : N' = N := by have := hM'.n; omega
          have e2 : A' = A := by omega
          have e3 : B' = B := by omega
          have e4 : S' = S := by omega
          have e5 : T' = T := by
            have := hM'.l
            unfold castP at this
            refine (List.map_inj_right ?_).1 this.symm
            rintro ⟨x, y⟩ ⟨z, w⟩ h
            have h1 := congrArg Prod.fst h; have h2 := congrArg Prod.snd h
            simp only at h1 h2
            have e6 : x = z := by omega
            have e7 : y = w := by omega
            rw [e6, e7]
          subst e1 e2 e3 e4 e5; rfl
  · rw [if_neg c1] at h1
    have s2 := s1 0 .nils rfl
    simp only [vI] at s2 h1
    refine ⟨false, readE n l [a, b], ?_, by rw [if_pos c1], fun _ => rfl, fun N T A B S hM h2 h3 h4 h5 h6 _ => ?_⟩
    · have c1' : (readE n l [a, b] != 0) = true := bne_iff_ne.2 c1
      simp only [F8B, SS, insA, wantedA, Opd.ev, putA, binA, eqbA, unA, fldA, partA, reduceIte, reduceCtorEq, Nat.reduceMod, Nat.reduceDiv, Nat.reduceBEq, resultA, resA, vI, Nat.reduceMul, Nat.reduceAdd, Nat.reduceSub, Nat.reduceEqDiff, Nat.reduceLT, Nat.reducePow, Nat.reduceLeDiff, st, Option.bind_eq_bind, Option.pure_def, List.length_nil, Int.cast_ofNat_Int, List.reverse_nil, UU, idxP, cellsAt, fillA, zerosA, putAll, row, Int.reduceLT, Int.reduceLE, Int.reduceGT, Int.reduceGE, Int.reduceEq, Int.reduceNe, Int.reduceToNat, Int.reduceBEq, Int.reduceBNe, Nat.reduceLeDiff, Nat.reduceLT, Nat.reduceBNe, Nat.reduceGT, List.drop_nil, List.take_nil, Option.isSome_none, Int.ofNat_one, Int.ofNat_zero, h1, s2, c1']
    · exact absurd (by
        obtain ⟨rfl, hn, rfl, htl, hin, hne⟩ := hM
        have b1 : (castP T).any (badT N) = false := by
          rw [List.any_eq_false]
          intro p hp
          obtain ⟨q, hq, rfl⟩ := List.mem_map.1 hp
          have := hin q hq
          have := hne q hq
          simp only [badT, Bool.or_eq_true, decide_eq_true_eq, beq_iff_eq]
          omega
        have b2 : [a, b].any (badK N) = false := by
          simp only [List.any_cons, List.any_nil, badK, Bool.or_false, Bool.or_eq_false_iff, decide_eq_false_iff_not]
          omega
        unfold readE
        rw [if_neg (by omega), if_neg (by simp [castP]; omega), if_neg (by simp [b1]), if_neg (by simp [b2])]) c1
end
end Go.X
