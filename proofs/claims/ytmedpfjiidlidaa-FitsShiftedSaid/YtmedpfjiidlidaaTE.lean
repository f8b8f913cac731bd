import Derived.Test.YtmedpfjiidlidaaTD
/-! Fits: all orders of names (plain laws). Printed in part by a program of our own (gente.py). -/
set_option linter.unusedSimpArgs false
set_option linter.unusedVariables false
set_option maxHeartbeats 4000000
set_option maxRecDepth 10000
namespace Go.X
open Go Go.RowKit

theorem ord_mem {n : Nat} {l : List Int} (h : isOrd n l = true) (h1 : 1 ≤ n) (hn : n ≤ 3) : l.length = n ∧ ∀ x ∈ l, 0 ≤ x ∧ x < n := by
  rcases orders h h1 hn with ⟨rfl, rfl⟩ | ⟨rfl, rfl | rfl⟩ | ⟨rfl, rfl | rfl | rfl | rfl | rfl | rfl⟩ <;> exact ⟨rfl, by decide⟩
theorem renT_ok {t : List (List Int)} {l : List Int} (hok : okTab t) (h : isOrd t.length l = true) : okTab (renT t l) := by
  obtain ⟨hl, hm⟩ := ord_mem h hok.1 hok.2.1
  have e : (renT t l).length = t.length := by unfold renT; rw [List.length_map]; exact hl
  refine ⟨by rw [e]; exact hok.1, by rw [e]; exact hok.2.1, fun r hr => ?_⟩
  rw [e]
  obtain ⟨i, hi, rfl⟩ := List.mem_map.1 hr
  refine ⟨by rw [List.length_map]; exact hl, fun x hx => ?_⟩
  obtain ⟨k, hk, rfl⟩ := List.mem_map.1 hx
  have a := hm i hi
  have b := hm k hk
  exact tat_bound hok (by omega) (by omega)

theorem fash2 {x y : Int} : fashS [x, y] = (if x > 0 then 1 else 0) + if y > 0 then 2 else 0 := by
  simp only [fashS, setS, decide_eq_true_eq, Nat.zero_add, Nat.reduceAdd, Nat.reducePow, Nat.pow_zero, Nat.add_zero]
theorem best2 {r0 r1 ys : List Int} : bestS [r0, r1] ys = (if dotS r0 ys = max (dotS r0 ys) (dotS r1 ys) then 1 else 0) + if dotS r1 ys = max (dotS r0 ys) (dotS r1 ys) then 2 else 0 := by
  simp only [bestS, List.map_cons, List.map_nil, setS, maxI, List.foldl_cons, List.foldl_nil, beq_iff_eq, Nat.zero_add, Nat.reduceAdd, Nat.reducePow, Nat.pow_zero, Nat.add_zero]
theorem gcd2 {d x y : Int} : gcdL d [x, y] = ((Nat.gcd (Nat.gcd d.natAbs x.natAbs) y.natAbs : Nat) : Int) := rfl
theorem ren_10 {a b c d x y : Int} (hok : okTab [[a, b], [c, d]]) : Ren [[a, b], [c, d]] [[d, c], [b, a]] [1, 0] [x, y] [y, x] := by
  have w1 : wayS [[d, c], [b, a]] 1 0 0 = wayS [[a, b], [c, d]] 0 1 1 := by simp [wayS, gainW, tat] <;> omega
  have w2 : wayS [[d, c], [b, a]] 0 1 1 = wayS [[a, b], [c, d]] 1 0 0 := by simp [wayS, gainW, tat] <;> omega
  have w3 : wayS [[d, c], [b, a]] 0 1 1 = wayS [[a, b], [c, d]] 0 1 1 := by simp [wayS, gainW, tat] <;> omega
  have d0 : dotS [d, c] [y, x] = dotS [c, d] [x, y] := by simp only [dotS]; omega
  have d1 : dotS [b, a] [y, x] = dotS [a, b] [x, y] := by simp only [dotS]; omega
  have f1 := fash2 (x := x) (y := y)
  have f2 := fash2 (x := y) (y := x)
  have b1 := best2 (r0 := [a, b]) (r1 := [c, d]) (ys := [x, y])
  have b2 := best2 (r0 := [d, c]) (r1 := [b, a]) (ys := [y, x])
  rw [d0, d1] at b2
  generalize dotS [a, b] [x, y] = p at *
  generalize dotS [c, d] [x, y] = q at *
  have key : (0 < fashS [x, y] → lastsP [[d, c], [b, a]] [y, x] = lastsP [[a, b], [c, d]] [x, y]) ∧ (∀ j, j < 2 → bit (bestS [[d, c], [b, a]] [y, x]) j = bit (bestS [[a, b], [c, d]] [x, y]) (([1, 0] : List Int).getD j 0).toNat) ∧ subS (fashS [y, x]) (bestS [[d, c], [b, a]] [y, x]) = subS (fashS [x, y]) (bestS [[a, b], [c, d]] [x, y]) := by
    unfold lastsP
    rw [f1, f2, b1, b2, tailP_W, tailP_W]
    generalize wayS [[d, c], [b, a]] = V' at *
    generalize wayS [[a, b], [c, d]] = V at *
    have hj : ∀ {P : Nat → Prop}, P 0 → P 1 → ∀ j, j < 2 → P j := fun h0 h1 j hj => by
      have : j = 0 ∨ j = 1 := by omega
      rcases this with rfl | rfl
      · exact h0
      · exact h1
    have hs : max q p = max p q := by omega
    rw [hs]
    have hM : p = max p q ∨ q = max p q := by omega
    generalize max p q = M at *
    by_cases hx : x > 0 <;> by_cases hy : y > 0 <;> by_cases m1 : p = M <;> by_cases m2 : q = M <;> first
      | exact (hM.elim m1 m2).elim
      | (simp only [hx, hy, m1, m2, if_true, if_false, Nat.add_zero, Nat.zero_add]
         refine ⟨fun h0 => ?_, hj ?_ ?_, ?_⟩ <;> first | rfl | trivial | (exact absurd h0 (by decide)) | (show (_ && decide (V' 1 0 0 < 0)) = (_ && decide (V 0 1 1 < 0)); rw [w1] <;> rfl) | (show (_ && decide (V' 0 1 1 < 0)) = (_ && decide (V 1 0 0 < 0)); rw [w2] <;> rfl) | (show (_ && decide (V' 0 1 1 < 0)) = (_ && decide (V 0 1 1 < 0)); rw [w3] <;> rfl))
  refine ⟨key.1, key.2.1, key.2.2, fun dd => ?_⟩
  have hg : gcdL dd [y, x] = gcdL dd [x, y] := by rw [gcd2, gcd2]; congr 1; ac_rfl
  have hs : sumL [y, x] = sumL [x, y] := by simp only [sumL, List.foldr_cons, List.foldr_nil]; omega
  unfold mixS
  rw [decide_eq_decide]
  unfold mixP
  rw [hg, hs]
  simp only [fit, List.mem_cons, List.not_mem_nil, or_false, forall_eq_or_imp, forall_eq, List.length_cons, List.length_nil]
  constructor <;> rintro ⟨h1, h2, h3, h4, h5, h6, h7⟩ <;> exact ⟨h1, h2, h3, h4, h5, by omega, h7⟩

theorem ren_all {t : List (List Int)} {l : List Int} (hok : okTab t) (h : isOrd t.length l = true) : ∃ m, RenA t l m := by
  have hok' := renT_ok hok h
  rcases shapes hok with ⟨a, rfl⟩ | ⟨a, b, c, d, rfl⟩ | ⟨a, b, c, d, e, f, g, h', i, rfl⟩
  · rcases orders h (by simp) (by simp) with ⟨_, rfl⟩ | ⟨h0, _⟩ | ⟨h0, _⟩
    · refine ⟨[0], ⟨hok', rfl, fun X hX => rfl, fun X hX => ?_, fun X Z hX hZ => ?_, rfl, rfl, fun X hX => ?_, fun X hX => ?_⟩⟩
      · match X, hX with
        | [x], _ => exact Ren.refl' (by intro j hj; simp only [List.length_cons, List.length_nil] at hj; rcases (show j = 0 ∨ j = 1 ∨ j = 2 by omega) with rfl | rfl | rfl <;> first | rfl | omega)
      · match X, hX, Z, hZ with
        | [x], _, [u], _ => rfl
      · match X, hX with
        | [x], _ => rfl
      · match X, hX with
        | [x], _ => rfl
    · exact absurd h0 (by simp)
    · exact absurd h0 (by simp)
  · rcases orders h (by simp) (by simp) with ⟨h0, _⟩ | ⟨_, rfl | rfl⟩ | ⟨h0, _⟩
    · exact absurd h0 (by simp)
    · refine ⟨[0, 1], ⟨hok', rfl, fun X hX => rfl, fun X hX => ?_, fun X Z hX hZ => ?_, rfl, rfl, fun X hX => ?_, fun X hX => ?_⟩⟩
      · match X, hX with
        | [x, y], _ => exact Ren.refl' (by intro j hj; simp only [List.length_cons, List.length_nil] at hj; rcases (show j = 0 ∨ j = 1 ∨ j = 2 by omega) with rfl | rfl | rfl <;> first | rfl | omega)
      · match X, hX, Z, hZ with
        | [x, y], _, [u, v], _ => rfl
      · match X, hX with
        | [x, y], _ => rfl
      · match X, hX with
        | [x, y], _ => rfl
    · refine ⟨[1, 0], ⟨hok', rfl, fun X hX => rfl, fun X hX => ?_, fun X Z hX hZ => ?_, rfl, rfl, fun X hX => ?_, fun X hX => ?_⟩⟩
      · match X, hX with
        | [x, y], _ => exact ren_10 hok
      · match X, hX, Z, hZ with
        | [x, y], _, [u, v], _ =>
          show gainS _ [y, x] [v, u] = gainS _ [x, y] [u, v]
          simp only [renT, tat, List.map_cons, List.map_nil, gainS, dotX, List.getD_cons_zero, List.getD_cons_succ, Int.toNat_zero, Int.reduceToNat, Int.toNat_one]
          omega
      · match X, hX with
        | [x, y], _ => rfl
      · match X, hX with
        | [x, y], _ => rfl
    · exact absurd h0 (by simp)
  · rcases orders h (by simp) (by simp) with ⟨h0, _⟩ | ⟨h0, _⟩ | ⟨_, rfl | rfl | rfl | rfl | rfl | rfl⟩
    · exact absurd h0 (by simp)
    · exact absurd h0 (by simp)
    · refine ⟨[0, 1, 2], ⟨hok', rfl, fun X hX => rfl, fun X hX => ?_, fun X Z hX hZ => ?_, rfl, rfl, fun X hX => ?_, fun X hX => ?_⟩⟩
      · match X, hX with
        | [x, y, z], _ => exact Ren.refl' (by intro j hj; simp only [List.length_cons, List.length_nil] at hj; rcases (show j = 0 ∨ j = 1 ∨ j = 2 by omega) with rfl | rfl | rfl <;> first | rfl | omega)
      · match X, hX, Z, hZ with
        | [x, y, z], _, [u, v, w], _ => rfl
      · match X, hX with
        | [x, y, z], _ => rfl
      · match X, hX with
        | [x, y, z], _ => rfl
    · refine ⟨[0, 2, 1], ⟨hok', rfl, fun X hX => rfl, fun X hX => ?_, fun X Z hX hZ => ?_, rfl, rfl, fun X hX => ?_, fun X hX => ?_⟩⟩
      · match X, hX with
        | [x, y, z], _ => exact ren_021 hok
      · match X, hX, Z, hZ with
        | [x, y, z], _, [u, v, w], _ =>
          show gainS _ [x, z, y] [u, w, v] = gainS _ [x, y, z] [u, v, w]
          simp only [renT, tat, List.map_cons, List.map_nil, gainS, dotX, List.getD_cons_zero, List.getD_cons_succ, Int.toNat_zero, Int.reduceToNat, Int.toNat_one]
          omega
      · match X, hX with
        | [x, y, z], _ => rfl
      · match X, hX with
        | [x, y, z], _ => rfl
    · refine ⟨[1, 0, 2], ⟨hok', rfl, fun X hX => rfl, fun X hX => ?_, fun X Z hX hZ => ?_, rfl, rfl, fun X hX => ?_, fun X hX => ?_⟩⟩
      · match X, hX with
        | [x, y, z], _ => exact ren_102 hok
      · match X, hX, Z, hZ with
        | [x, y, z], _, [u, v, w], _ =>
          show gainS _ [y, x, z] [v, u, w] = gainS _ [x, y, z] [u, v, w]
          simp only [renT, tat, List.map_cons, List.map_nil, gainS, dotX, List.getD_cons_zero, List.getD_cons_succ, Int.toNat_zero, Int.reduceToNat, Int.toNat_one]
          omega
      · match X, hX with
        | [x, y, z], _ => rfl
      · match X, hX with
        | [x, y, z], _ => rfl
    · refine ⟨[2, 0, 1], ⟨hok', rfl, fun X hX => rfl, fun X hX => ?_, fun X Z hX hZ => ?_, rfl, rfl, fun X hX => ?_, fun X hX => ?_⟩⟩
      · match X, hX with
        | [x, y, z], _ => exact ren_120 hok
      · match X, hX, Z, hZ with
        | [x, y, z], _, [u, v, w], _ =>
          show gainS _ [y, z, x] [v, w, u] = gainS _ [x, y, z] [u, v, w]
          simp only [renT, tat, List.map_cons, List.map_nil, gainS, dotX, List.getD_cons_zero, List.getD_cons_succ, Int.toNat_zero, Int.reduceToNat, Int.toNat_one]
          omega
      · match X, hX with
        | [x, y, z], _ => rfl
      · match X, hX with
        | [x, y, z], _ => rfl
    · refine ⟨[1, 2, 0], ⟨hok', rfl, fun X hX => rfl, fun X hX => ?_, fun X Z hX hZ => ?_, rfl, rfl, fun X hX => ?_, fun X hX => ?_⟩⟩
      · match X, hX with
        | [x, y, z], _ => exact ren_201 hok
      · match X, hX, Z, hZ with
        | [x, y, z], _, [u, v, w], _ =>
          show gainS _ [z, x, y] [w, u, v] = gainS _ [x, y, z] [u, v, w]
          simp only [renT, tat, List.map_cons, List.map_nil, gainS, dotX, List.getD_cons_zero, List.getD_cons_succ, Int.toNat_zero, Int.reduceToNat, Int.toNat_one]
          omega
      · match X, hX with
        | [x, y, z], _ => rfl
      · match X, hX with
        | [x, y, z], _ => rfl
    · refine ⟨[2, 1, 0], ⟨hok', rfl, fun X hX => rfl, fun X hX => ?_, fun X Z hX hZ => ?_, rfl, rfl, fun X hX => ?_, fun X hX => ?_⟩⟩
      · match X, hX with
        | [x, y, z], _ => exact ren_210 hok
      · match X, hX, Z, hZ with
        | [x, y, z], _, [u, v, w], _ =>
          show gainS _ [z, y, x] [w, v, u] = gainS _ [x, y, z] [u, v, w]
          simp only [renT, tat, List.map_cons, List.map_nil, gainS, dotX, List.getD_cons_zero, List.getD_cons_succ, Int.toNat_zero, Int.reduceToNat, Int.toNat_one]
          omega
      · match X, hX with
        | [x, y, z], _ => rfl
      · match X, hX with
        | [x, y, z], _ => rfl

section
variable {t : List (List Int)} {l m : List Int} (hok : okTab t) (A : RenA t l m)
include hok A
theorem RenA.ask (x : List Int × Int) (hx : x.1.length = t.length) : askS (renT t l) [(renX x.1 l, x.2)] = askS t [x] := by
  unfold askS
  rw [decide_eq_true A.ok, decide_eq_true hok, A.len]
  simp only [List.all_cons, List.all_nil, Bool.and_true, Bool.true_and]
  exact (A.ren _ hx).mix _
theorem RenA.ask2 (x y : List Int × Int) (hx : x.1.length = t.length) (hy : y.1.length = t.length) : askS (renT t l) [(renX x.1 l, x.2), (renX y.1 l, y.2)] = askS t [x, y] := by
  unfold askS
  rw [decide_eq_true A.ok, decide_eq_true hok, A.len]
  simp only [List.all_cons, List.all_nil, Bool.and_true, Bool.true_and]
  rw [(A.ren _ hx).mix, (A.ren _ hy).mix]
theorem RenA.limit {x y : List Int × Int} (hx : x.1.length = t.length) (hy : y.1.length = t.length) : limR (renT t l) (renX x.1 l, x.2) (renX y.1 l, y.2) = limR t x y := by
  unfold limR
  rw [A.ask2 hok x y hx hy]
  have e : renX x.1 l = renX y.1 l ↔ x.1 = y.1 := ⟨fun h => by rw [← A.xback _ hx, ← A.xback _ hy, h], fun h => by rw [h]⟩
  have p : pS (renT t l) (renX x.1 l, x.2) (renX y.1 l, y.2) = pS t x y := by
    unfold pS; simp only; rw [A.gain _ _ hx hx, A.gain _ _ hy hx]
  have q : qS (renT t l) (renX x.1 l, x.2) (renX y.1 l, y.2) = qS t x y := by
    unfold qS; simp only; rw [A.gain _ _ hx hy, A.gain _ _ hy hy]
  rw [p, q]
  simp only [e]
theorem RenA.mem {x : List Int × Int} (h : x ∈ lastingS t) : (renX x.1 l, x.2) ∈ lastingS (renT t l) := by
  rw [lasting_mem hok] at h
  obtain ⟨h1, h2⟩ := h
  obtain ⟨_, mx⟩ := ask1 h1
  have lx := (mix_ok mx).1
  rw [lasting_mem A.ok, A.ask hok x lx]
  exact ⟨h1, by rw [(A.ren _ lx).lasts (mix_fash mx)]; exact h2⟩
end
theorem lasting_nodup {t : List (List Int)} (hok : okTab t) : (lastingS t).Nodup :=
  (lasting_order hok).imp fun h e => by rw [e] at h; omega
theorem nodup_map {α β : Type} {f : α → β} : ∀ {l : List α}, l.Nodup → (∀ x ∈ l, ∀ y ∈ l, f x = f y → x = y) → (l.map f).Nodup
  | [], _, _ => List.Pairwise.nil
  | x :: l, h, hi => by
    rw [List.nodup_cons] at h
    rw [List.map_cons, List.nodup_cons]
    refine ⟨fun hm => ?_, nodup_map h.2 fun a ha b hb => hi a (List.mem_cons_of_mem _ ha) b (List.mem_cons_of_mem _ hb)⟩
    obtain ⟨y, hy, e⟩ := List.mem_map.1 hm
    have := hi y (List.mem_cons_of_mem _ hy) x List.mem_cons_self e
    rw [this] at hy
    exact h.1 hy
theorem RenA.count {t : List (List Int)} {l m : List Int} (hok : okTab t) (A : RenA t l m) : (lastingS (renT t l)).length = (lastingS t).length := by
  obtain ⟨m2, B⟩ := ren_all A.ok (l := m) (by rw [A.len]; exact A.ord)
  have len1 : ∀ {t : List (List Int)}, okTab t → ∀ x ∈ lastingS t, x.1.length = t.length := fun hok x hx => by
    rw [lasting_mem hok] at hx
    exact (mix_ok (ask1 hx.1).2).1
  have p : ((lastingS t).map fun x => (renX x.1 l, x.2)).Perm (lastingS (renT t l)) := by
    rw [List.perm_ext_iff_of_nodup (nodup_map (lasting_nodup hok) fun x hx y hy e => ?_) (lasting_nodup A.ok)]
    · intro z
      rw [List.mem_map]
      constructor
      · rintro ⟨x, hx, rfl⟩; exact A.mem hok hx
      · intro hz
        have lz := len1 A.ok z hz
        have hb := B.mem A.ok hz
        rw [A.back] at hb
        refine ⟨_, hb, ?_⟩
        simp only
        rw [A.xback2 _ (by rw [lz, A.len])]
    · have e1 := congrArg Prod.fst e
      have e2 := congrArg Prod.snd e
      simp only at e1 e2
      have := A.xback _ (len1 hok x hx)
      rw [e1, A.xback _ (len1 hok y hy)] at this
      exact Prod.ext this.symm e2
  have := p.length_eq
  rw [List.length_map] at this
  exact this.symm
end Go.X
