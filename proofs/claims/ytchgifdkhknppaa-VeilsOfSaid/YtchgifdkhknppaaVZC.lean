import Derived.Test.YtchgifdkhknppaaVZB
import Derived.Test.YtchgifdkhknppaaVA
/-! Veils: the law on Of and From. -/
set_option linter.unusedSimpArgs false
set_option linter.unusedVariables false
set_option maxHeartbeats 8000000
set_option maxRecDepth 10000
namespace Go.X
open Go Go.RowKit
section
variable {Y : Run}

/-- Two functions that answer alike. -/
structure Like (Y : Run) (f g : Nat) (u v : AV) (a b : AV) (p : List (List Int)) (e : Int) : Prop where
  ta : IsTab a p
  tb : IsTab b p
  sm : Small p
  ra : ∀ H, freeX H (callL EV Y f [u] []) = some (.tup [a, vI e], H)
  rb : ∀ H, freeX H (callL EV Y g [v] []) = some (.tup [b, vI e], H)

theorem like_nil {f g : Nat} {u v : AV} (h1 : ∀ H, freeX H (callL EV Y f [u] []) = some (.tup [.nils, vI 2], H)) (h2 : ∀ H, freeX H (callL EV Y g [v] []) = some (.tup [.nils, vI 2], H)) : ∃ a b p e, Like Y f g u v a b p e :=
  ⟨.nils, .nils, [], 2, .nil, .nil, ⟨by simp, by simp⟩, h1, h2⟩

theorem like_of {u v : AV} {h : List (List Int)} (hu : IsTab u h) (hv : IsTab v h) (hs : Small h) : ∃ a b p e, Like Y 43 49 u v a b p e := by
  have hb := hs.1
  obtain ⟨k1, k2⟩ := of49 (Y := Y) hv (by omega)
  cases ho : ofOk h
  · exact like_nil (fun H => of43_no hu (by omega) ho) (k2 ho)
  · obtain ⟨m, hm⟩ : ∃ m, h.length = m + 1 := by
      unfold ofOk at ho
      rw [Bool.and_eq_true, decide_eq_true_eq] at ho
      exact ⟨h.length - 1, by omega⟩
    have S := (ofOk_iff hm).1 ho
    obtain ⟨a, a1, a2⟩ := of43_ok (Y := Y) hu S
    obtain ⟨b, b1, b2⟩ := k1 ho
    rw [hm, Nat.add_sub_cancel] at b1
    refine ⟨a, b, _, 0, a1, b1, ⟨by rw [vOf_len]; have := S.n5; omega, fun r hr => ?_⟩, a2, b2⟩
    have := tabF_mem r hr
    have := S.n5; omega
theorem like_from {u v : AV} {l : List (List Int)} (hu : IsTab u l) (hv : IsTab v l) (hs : Small l) : ∃ a b p e, Like Y 45 50 u v a b p e := by
  obtain ⟨k1, k2⟩ := from45 (Y := Y) hu hs
  obtain ⟨k3, k4⟩ := from50 (Y := Y) hv hs
  cases ho : fromOk l
  · exact like_nil (k2 ho) (k4 ho)
  · obtain ⟨a, a1, a2⟩ := k1 ho
    obtain ⟨b, b1, b2⟩ := k3 ho
    have hb := hs.1
    refine ⟨a, b, _, 0, a1, b1, ⟨by rw [triV_len]; omega, fun r hr => ?_⟩, a2, b2⟩
    have := tabF_mem r hr
    omega

theorem law15 {ut vt : AV} {s t : List (List Int)} (hu : IsTab ut s) (ht : IsTab vt t) : freeX [] (callL EV Y 15 [ut, vt] []) = some (.bool true, []) := by
  obtain ⟨o1, o2, o3⟩ := ht.one
  obtain ⟨p1, p2, p3⟩ := hu.one
  have f := fun H => few23 (Y := Y) (H := H) (tabsB (b := true) hu ht) (by simp)
  have ha := fun H => alive20 (Y := Y) (H := H)
  rw [call15 rfl]
  by_cases hs : fewS [s, t]
  · obtain ⟨us, ts⟩ := fewB.1 hs
    rw [decide_eq_true hs] at f
    obtain ⟨w, w1, w2⟩ := copy24 (Y := Y) hu us
    obtain ⟨z, z1, z2⟩ := copy24 (Y := Y) ht ts
    obtain ⟨a, b, p, e, L1⟩ := like_of (Y := Y) w1 hu us
    obtain ⟨c, d, q, e', L2⟩ := like_from (Y := Y) z1 ht ts
    have sm : ∀ {x : List (List Int)}, Small x → x.length ≤ 1000 ∧ ∀ r ∈ x, r.length ≤ 1000 := fun h => ⟨by have := h.1; omega, fun r hr => by have := h.2 r hr; omega⟩
    have s1 := fun H => same19 (Y := Y) (H := H) L1.ta L1.tb (sm L1.sm).1 (sm L1.sm).2
    have s2 := fun H => same19 (Y := Y) (H := H) L2.ta L2.tb (sm L2.sm).1 (sm L2.sm).2
    have s3 := fun H => same19 (Y := Y) (H := H) w1 hu (sm us).1 (sm us).2
    have s4 := fun H => same19 (Y := Y) (H := H) z1 ht (sm ts).1 (sm ts).2
    rw [decide_eq_true rfl] at s1 s2 s3 s4
    have ra := L1.ra; have rb := L1.rb; have rc := L2.ra; have rd := L2.rb
    have ta := L1.ta; have tb := L1.tb; have tc := L2.ta; have td := L2.tb
    simp only [SS, insA, wantedA, Opd.ev, putA, binA, eqbA, unA, fldA, partA, reduceIte, reduceCtorEq, Nat.reduceMod, Nat.reduceDiv, Nat.reduceBEq, resultA, resA, vI, Nat.reduceMul, Nat.reduceAdd, Nat.reduceSub, Nat.reduceEqDiff, Nat.reduceLT, Nat.reducePow, Nat.reduceLeDiff, st, Option.bind_eq_bind, Option.pure_def, List.length_nil, Int.cast_ofNat_Int, List.reverse_nil] at ra rb rc rd
    simp only [F15B, SS, insA, wantedA, Opd.ev, putA, binA, eqbA, unA, fldA, partA, reduceIte, reduceCtorEq, Nat.reduceMod, Nat.reduceDiv, Nat.reduceBEq, resultA, resA, vI, Nat.reduceMul, Nat.reduceAdd, Nat.reduceSub, Nat.reduceEqDiff, Nat.reduceLT, Nat.reducePow, Nat.reduceLeDiff, st, Option.bind_eq_bind, Option.pure_def, List.length_nil, Int.cast_ofNat_Int, List.reverse_nil, UU, idxP, cellsAt, storeA, fillA, zerosA, putAll, optNat, sliceA, row, Int.reduceLT, Int.reduceLE, Int.reduceGT, Int.reduceGE, Int.reduceEq, Int.reduceNe, Int.reduceToNat, Int.reduceBEq, Int.reduceBNe, Nat.reduceLeDiff, Nat.reduceLT, Nat.reduceBNe, Nat.reduceGT, List.drop_nil, List.take_nil, Option.isSome_none, Int.ofNat_one, Int.ofNat_zero, o1, o2, o3, p1, p2, p3, ht.snap, hu.snap, w1.snap, z1.snap, ta.snap, tb.snap, tc.snap, td.snap, f, w2, z2, ra, rb, rc, rd, s1, s2, s3, s4, ha, BEq.rfl, bne_self_eq_false]
  · rw [decide_eq_false hs] at f
    simp only [F15B, SS, insA, wantedA, Opd.ev, putA, binA, eqbA, unA, fldA, partA, reduceIte, reduceCtorEq, Nat.reduceMod, Nat.reduceDiv, Nat.reduceBEq, resultA, resA, vI, Nat.reduceMul, Nat.reduceAdd, Nat.reduceSub, Nat.reduceEqDiff, Nat.reduceLT, Nat.reducePow, Nat.reduceLeDiff, st, Option.bind_eq_bind, Option.pure_def, List.length_nil, Int.cast_ofNat_Int, List.reverse_nil, UU, idxP, cellsAt, storeA, fillA, zerosA, putAll, optNat, sliceA, row, Int.reduceLT, Int.reduceLE, Int.reduceGT, Int.reduceGE, Int.reduceEq, Int.reduceNe, Int.reduceToNat, Int.reduceBEq, Int.reduceBNe, Nat.reduceLeDiff, Nat.reduceLT, Nat.reduceBNe, Nat.reduceGT, List.drop_nil, List.take_nil, Option.isSome_none, Int.ofNat_one, Int.ofNat_zero, o1, o2, o3, p1, p2, p3, ht.snap, hu.snap, f, ha]
end
end Go.X
