import Derived.Test.YtmedpfjiidlidaaTA
/-! Fits: what does not change when a table is renamed or shifted (plain laws). -/
set_option linter.unusedSimpArgs false
set_option linter.unusedVariables false
set_option maxHeartbeats 4000000
set_option maxRecDepth 10000
namespace Go.X
open Go Go.RowKit

theorem tailP_W {t : List (List Int)} {o f : Nat} : ∀ (l : List Nat), tailP t o f l = tailW (wayS t) o f l
  | [] => rfl
  | [_] => rfl
  | _ :: _ :: _ => rfl
theorem tailW_congr {W W' : Nat → Nat → Nat → Int} {o f : Nat} : ∀ (l : List Nat), (∀ i ∈ l, ∀ k ∈ l, W f i k = W' f i k) → tailW W o f l = tailW W' o f l
  | [], _ => rfl
  | [i], h => by show decide (W f i i < 0) = decide (W' f i i < 0); rw [h i (by simp) i (by simp)]
  | i :: k :: l, h => by show t2 (aloneS o) (W f i i) (W f i k) (W f k k) = t2 (aloneS o) (W' f i i) (W' f i k) (W' f k k); rw [h i (by simp) i (by simp), h i (by simp) k (by simp), h k (by simp) k (by simp)]
theorem parts3_all : ((List.range 8).all fun o => (List.range 8).all fun b => o == 0 || (decide ((partsO o b 3).1 < 3) && (partsO o b 3).2.all fun i => decide (i < 3) && decide (i ≠ (partsO o b 3).1))) = true := by decide
theorem parts3 {o b : Nat} (ho : 0 < o ∧ o < 8) (hb : b < 8) : (partsO o b 3).1 < 3 ∧ ∀ i ∈ (partsO o b 3).2, i < 3 ∧ i ≠ (partsO o b 3).1 := by
  have h := List.all_eq_true.1 (List.all_eq_true.1 parts3_all o (by simp; omega)) b (by simp; omega)
  have h0 : (o == 0) = false := by rw [beq_eq_false_iff_ne]; omega
  rw [h0, Bool.false_or, Bool.and_eq_true, decide_eq_true_eq, List.all_eq_true] at h
  exact ⟨h.1, fun i hi => by have := h.2 i hi; rw [Bool.and_eq_true, decide_eq_true_eq, decide_eq_true_eq] at this; exact this⟩

theorem way_W3 {t : List (List Int)} {f i k : Nat} (hf : f < 3) (hi : i < 3) (hk : k < 3) (h1 : i ≠ f) (h2 : k ≠ f) : W3 (wayS t 0 1 1) (wayS t 0 1 2) (wayS t 0 2 2) f i k = wayS t f i k := by
  have c1 : f = 0 ∨ f = 1 ∨ f = 2 := by omega
  have c2 : i = 0 ∨ i = 1 ∨ i = 2 := by omega
  have c3 : k = 0 ∨ k = 1 ∨ k = 2 := by omega
  rcases c1 with rfl | rfl | rfl <;> rcases c2 with rfl | rfl | rfl <;> rcases c3 with rfl | rfl | rfl <;> first | (exact absurd rfl h1) | (exact absurd rfl h2) | (simp only [W3, wayS, gainW] <;> omega)

theorem pm_lt {p : Nat → Nat} {s : Nat} : pm p s < 8 := by unfold pm; split <;> split <;> split <;> omega
theorem fash3 {x y z : Int} : fashS [x, y, z] = (if x > 0 then 1 else 0) + ((if y > 0 then 2 else 0) + if z > 0 then 4 else 0) := by
  simp only [fashS, setS, decide_eq_true_eq, Nat.zero_add, Nat.reduceAdd, Nat.reducePow, Nat.pow_zero, Nat.add_zero]
theorem bits3 {a b c : Prop} [Decidable a] [Decidable b] [Decidable c] {s : Nat} (hs : s = (if a then 1 else 0) + ((if b then 2 else 0) + if c then 4 else 0)) : bit s 0 = decide a ∧ bit s 1 = decide b ∧ bit s 2 = decide c := by
  by_cases ha : a <;> by_cases hb : b <;> by_cases hc : c <;> simp only [ha, hb, hc, if_true, if_false] at hs <;> subst hs <;> simp only [ha, hb, hc, decide_true, decide_false] <;> decide
/-- A set under another order of names. -/
theorem pm_set {p0 p1 p2 : Nat} {s : Nat} {P : Nat → Prop} [∀ i, Decidable (P i)] (h0 : p0 < 3) (h1 : p1 < 3) (h2 : p2 < 3) (hs : s = (if P 0 then 1 else 0) + ((if P 1 then 2 else 0) + if P 2 then 4 else 0)) :
    pm (perm p0 p1 p2) s = (if P p0 then 1 else 0) + ((if P p1 then 2 else 0) + if P p2 then 4 else 0) := by
  obtain ⟨b0, b1, b2⟩ := bits3 hs
  have hb : ∀ i, i < 3 → bit s i = decide (P i) := fun i hi => by
    have : i = 0 ∨ i = 1 ∨ i = 2 := by omega
    rcases this with rfl | rfl | rfl
    · exact b0
    · exact b1
    · exact b2
  unfold pm
  simp only [perm, hb _ h0, hb _ h1, hb _ h2, decide_eq_true_eq]

theorem subS_pm : ((List.range 3).all fun a => (List.range 3).all fun b => (List.range 3).all fun c => a == b || a == c || b == c || (List.range 8).all fun o => (List.range 8).all fun s => subS (pm (perm a b c) o) (pm (perm a b c) s) == subS o s) = true := by decide +kernel
-- printed from here on
theorem pm_facts : ((List.range 3).all fun a => (List.range 3).all fun b => (List.range 3).all fun c => a == b || a == c || b == c || (List.range 8).all fun o => (o == 0 || pm (perm a b c) o != 0) && ((List.range 3).all fun j => bit (pm (perm a b c) o) j == bit o (perm a b c j))) = true := by decide +kernel
structure Prm (a b c : Nat) : Prop where
  a3 : a < 3
  b3 : b < 3
  c3 : c < 3
  ab : a ≠ b
  ac : a ≠ c
  bc : b ≠ c
section
variable {a b c : Nat} (P : Prm a b c)
include P
theorem Prm.lt {i : Nat} (hi : i < 3) : perm a b c i < 3 := by
  have := P.a3; have := P.b3; have := P.c3
  have : i = 0 ∨ i = 1 ∨ i = 2 := by omega
  rcases this with rfl | rfl | rfl <;> simp only [perm] <;> assumption
theorem Prm.inj {i k : Nat} (hi : i < 3) (hk : k < 3) (h : i ≠ k) : perm a b c i ≠ perm a b c k := by
  have := P.ab; have := P.ac; have := P.bc
  have : i = 0 ∨ i = 1 ∨ i = 2 := by omega
  have : k = 0 ∨ k = 1 ∨ k = 2 := by omega
  rcases ‹i = 0 ∨ i = 1 ∨ i = 2› with rfl | rfl | rfl <;> rcases ‹k = 0 ∨ k = 1 ∨ k = 2› with rfl | rfl | rfl <;> simp only [perm] <;> omega
theorem Prm.all {f : Nat → Nat → Nat → Bool} (h : ((List.range 3).all fun a => (List.range 3).all fun b => (List.range 3).all fun c => a == b || a == c || b == c || f a b c) = true) : f a b c = true := by
  have h1 := List.all_eq_true.1 (List.all_eq_true.1 (List.all_eq_true.1 h a (by simpa using P.a3)) b (by simpa using P.b3)) c (by simpa using P.c3)
  have e1 : (a == b) = false := by rw [beq_eq_false_iff_ne]; exact P.ab
  have e2 : (a == c) = false := by rw [beq_eq_false_iff_ne]; exact P.ac
  have e3 : (b == c) = false := by rw [beq_eq_false_iff_ne]; exact P.bc
  rw [e1, e2, e3] at h1
  exact h1
theorem Prm.sub {o s : Nat} (ho : o < 8) (hs : s < 8) : subS (pm (perm a b c) o) (pm (perm a b c) s) = subS o s :=
  eq_of_beq (List.all_eq_true.1 (List.all_eq_true.1 (P.all (f := fun a b c => (List.range 8).all fun o => (List.range 8).all fun s => subS (pm (perm a b c) o) (pm (perm a b c) s) == subS o s) subS_pm) o (by simpa using ho)) s (by simpa using hs))
theorem Prm.facts {o : Nat} (ho : o < 8) : (0 < o → 0 < pm (perm a b c) o) ∧ ∀ j, j < 3 → bit (pm (perm a b c) o) j = bit o (perm a b c j) := by
  have h := List.all_eq_true.1 (P.all (f := fun a b c => (List.range 8).all fun o => (o == 0 || pm (perm a b c) o != 0) && ((List.range 3).all fun j => bit (pm (perm a b c) o) j == bit o (perm a b c j))) pm_facts) o (by simpa using ho)
  rw [Bool.and_eq_true, Bool.or_eq_true, beq_iff_eq, bne_iff_ne] at h
  exact ⟨fun h0 => by omega, fun j hj => eq_of_beq (List.all_eq_true.1 h.2 j (by simpa using hj))⟩
theorem Prm.lasts {t t' : List (List Int)} {ys ys' : List Int} (l : t.length = 3) (l' : t'.length = 3)
    (hT : ∀ {A B C : Int} {o s : Nat}, 0 < o ∧ o < 8 → 0 < s ∧ s < 8 → subS o s = true → tailW (fun f i k => W3 A B C (perm a b c f) (perm a b c i) (perm a b c k)) (pm (perm a b c) o) (partsO (pm (perm a b c) o) (pm (perm a b c) s) 3).1 (partsO (pm (perm a b c) o) (pm (perm a b c) s) 3).2 = tailW (W3 A B C) o (partsO o s 3).1 (partsO o s 3).2)
    (hW : ∀ f i k, f < 3 → i < 3 → k < 3 → wayS t' f i k = wayS t (perm a b c f) (perm a b c i) (perm a b c k))
    (ho : fashS ys' = pm (perm a b c) (fashS ys)) (hb : bestS t' ys' = pm (perm a b c) (bestS t ys)) (o8 : 0 < fashS ys ∧ fashS ys < 8) (b8 : 0 < bestS t ys ∧ bestS t ys < 8) : lastsP t' ys' = lastsP t ys := by
  unfold lastsP
  rw [l, l', ho, hb, P.sub o8.2 b8.2]
  cases hs : subS (fashS ys) (bestS t ys)
  · rfl
  · rw [Bool.true_and, Bool.true_and, tailP_W, tailP_W]
    obtain ⟨p1, p2⟩ := parts3 (o := pm (perm a b c) (fashS ys)) (b := pm (perm a b c) (bestS t ys)) ⟨(P.facts o8.2).1 o8.1, pm_lt⟩ pm_lt
    obtain ⟨q1, q2⟩ := parts3 (b := bestS t ys) o8 b8.2
    have e1 := tailW_congr (W := wayS t') (W' := fun f i k => W3 (wayS t 0 1 1) (wayS t 0 1 2) (wayS t 0 2 2) (perm a b c f) (perm a b c i) (perm a b c k)) (o := pm (perm a b c) (fashS ys)) (f := (partsO (pm (perm a b c) (fashS ys)) (pm (perm a b c) (bestS t ys)) 3).1) _ fun i hi k hk => by
      have hi := p2 i hi
      have hk := p2 k hk
      rw [hW _ _ _ p1 hi.1 hk.1, way_W3 (P.lt p1) (P.lt hi.1) (P.lt hk.1) (P.inj hi.1 p1 hi.2) (P.inj hk.1 p1 hk.2)]
    have e2 := tailW_congr (W := wayS t) (W' := W3 (wayS t 0 1 1) (wayS t 0 1 2) (wayS t 0 2 2)) (o := fashS ys) (f := (partsO (fashS ys) (bestS t ys) 3).1) _ fun i hi k hk => by
      have hi := q2 i hi
      have hk := q2 k hk
      rw [way_W3 q1 hi.1 hk.1 hi.2 hk.2]
    rw [e1, e2]
    exact hT o8 b8 hs
end

theorem best3 {r0 r1 r2 ys : List Int} : bestS [r0, r1, r2] ys = (if dotS r0 ys = max (max (dotS r0 ys) (dotS r1 ys)) (dotS r2 ys) then 1 else 0) + ((if dotS r1 ys = max (max (dotS r0 ys) (dotS r1 ys)) (dotS r2 ys) then 2 else 0) + if dotS r2 ys = max (max (dotS r0 ys) (dotS r1 ys)) (dotS r2 ys) then 4 else 0) := by
  simp only [bestS, List.map_cons, List.map_nil, setS, maxI, List.foldl_cons, List.foldl_nil, beq_iff_eq, Nat.zero_add, Nat.reduceAdd, Nat.reducePow, Nat.pow_zero, Nat.add_zero]
theorem gcd3 {d x y z : Int} : gcdL d [x, y, z] = ((Nat.gcd (Nat.gcd (Nat.gcd d.natAbs x.natAbs) y.natAbs) z.natAbs : Nat) : Int) := rfl
/-- What a new order of names leaves. -/
structure Ren (t t' : List (List Int)) (l : List Int) (X X' : List Int) : Prop where
  lasts : 0 < fashS X → lastsP t' X' = lastsP t X
  best : ∀ j, j < t.length → bit (bestS t' X') j = bit (bestS t X) (l.getD j 0).toNat
  sub : subS (fashS X') (bestS t' X') = subS (fashS X) (bestS t X)
  mix : ∀ d, mixS t.length X' d = mixS t.length X d
theorem ren_021 {a b c d e f g h i x y z : Int} (hok : okTab [[a, b, c], [d, e, f], [g, h, i]]) : Ren [[a, b, c], [d, e, f], [g, h, i]] [[a, c, b], [g, i, h], [d, f, e]] [0, 2, 1] [x, y, z] [x, z, y] := by
  have P : Prm 0 2 1 := ⟨by decide, by decide, by decide, by decide, by decide, by decide⟩
  have ho : fashS [x, z, y] = pm (perm 0 2 1) (fashS [x, y, z]) := by
    exact fash3.trans (pm_set (s := fashS [x, y, z]) (P := fun i => [x, y, z].getD i 0 > 0) (p0 := 0) (p1 := 2) (p2 := 1) (by decide) (by decide) (by decide) fash3).symm
  have o8 : fashS [x, y, z] < 8 := fashS_lt (n := 3) rfl
  have b8 : bestS [[a, b, c], [d, e, f], [g, h, i]] [x, y, z] < 8 := bestS_lt
  have d0 : dotS [a, c, b] [x, z, y] = dotS [a, b, c] [x, y, z] := by simp only [dotS]; omega
  have d1 : dotS [g, i, h] [x, z, y] = dotS [g, h, i] [x, y, z] := by simp only [dotS]; omega
  have d2 : dotS [d, f, e] [x, z, y] = dotS [d, e, f] [x, y, z] := by simp only [dotS]; omega
  have hb : bestS [[a, c, b], [g, i, h], [d, f, e]] [x, z, y] = pm (perm 0 2 1) (bestS [[a, b, c], [d, e, f], [g, h, i]] [x, y, z]) := by
    have hM : max (max (dotS [a, b, c] [x, y, z]) (dotS [g, h, i] [x, y, z])) (dotS [d, e, f] [x, y, z]) = max (max (dotS [a, b, c] [x, y, z]) (dotS [d, e, f] [x, y, z])) (dotS [g, h, i] [x, y, z]) := by omega
    refine best3.trans ?_
    rw [d0, d1, d2, hM]
    exact (pm_set (s := bestS [[a, b, c], [d, e, f], [g, h, i]] [x, y, z]) (P := fun j => dotS ([[a, b, c], [d, e, f], [g, h, i]].getD j []) [x, y, z] = max (max (dotS [a, b, c] [x, y, z]) (dotS [d, e, f] [x, y, z])) (dotS [g, h, i] [x, y, z])) (p0 := 0) (p1 := 2) (p2 := 1) (by decide) (by decide) (by decide) best3).symm
  refine ⟨fun h0 => P.lasts rfl rfl (fun h1 h2 h3 => tail_021 h1 h2 h3) (fun f i k hf hi hk => ?_) ho hb ⟨h0, o8⟩ ⟨best_pos hok, b8⟩, fun j hj => ?_, by rw [ho, hb, P.sub o8 b8], fun dd => ?_⟩
  · have c1 : f = 0 ∨ f = 1 ∨ f = 2 := by omega
    have c2 : i = 0 ∨ i = 1 ∨ i = 2 := by omega
    have c3 : k = 0 ∨ k = 1 ∨ k = 2 := by omega
    rcases c1 with rfl | rfl | rfl <;> rcases c2 with rfl | rfl | rfl <;> rcases c3 with rfl | rfl | rfl <;> rfl
  · rw [hb, (P.facts b8).2 j hj]
    have hj : j < 3 := hj
    have c1 : j = 0 ∨ j = 1 ∨ j = 2 := by omega
    rcases c1 with rfl | rfl | rfl <;> rfl
  · have hg : gcdL dd [x, z, y] = gcdL dd [x, y, z] := by rw [gcd3, gcd3]; congr 1; ac_rfl
    have hs : sumL [x, z, y] = sumL [x, y, z] := by simp only [sumL, List.foldr_cons, List.foldr_nil]; omega
    unfold mixS
    rw [decide_eq_decide]
    unfold mixP
    rw [hg, hs]
    simp only [fit, List.mem_cons, List.not_mem_nil, or_false, forall_eq_or_imp, forall_eq, List.length_cons, List.length_nil]
    constructor <;> rintro ⟨h1, h2, h3, h4, h5, h6, h7⟩ <;> exact ⟨h1, h2, h3, h4, h5, by omega, h7⟩
theorem ren_102 {a b c d e f g h i x y z : Int} (hok : okTab [[a, b, c], [d, e, f], [g, h, i]]) : Ren [[a, b, c], [d, e, f], [g, h, i]] [[e, d, f], [b, a, c], [h, g, i]] [1, 0, 2] [x, y, z] [y, x, z] := by
  have P : Prm 1 0 2 := ⟨by decide, by decide, by decide, by decide, by decide, by decide⟩
  have ho : fashS [y, x, z] = pm (perm 1 0 2) (fashS [x, y, z]) := by
    exact fash3.trans (pm_set (s := fashS [x, y, z]) (P := fun i => [x, y, z].getD i 0 > 0) (p0 := 1) (p1 := 0) (p2 := 2) (by decide) (by decide) (by decide) fash3).symm
  have o8 : fashS [x, y, z] < 8 := fashS_lt (n := 3) rfl
  have b8 : bestS [[a, b, c], [d, e, f], [g, h, i]] [x, y, z] < 8 := bestS_lt
  have d0 : dotS [e, d, f] [y, x, z] = dotS [d, e, f] [x, y, z] := by simp only [dotS]; omega
  have d1 : dotS [b, a, c] [y, x, z] = dotS [a, b, c] [x, y, z] := by simp only [dotS]; omega
  have d2 : dotS [h, g, i] [y, x, z] = dotS [g, h, i] [x, y, z] := by simp only [dotS]; omega
  have hb : bestS [[e, d, f], [b, a, c], [h, g, i]] [y, x, z] = pm (perm 1 0 2) (bestS [[a, b, c], [d, e, f], [g, h, i]] [x, y, z]) := by
    have hM : max (max (dotS [d, e, f] [x, y, z]) (dotS [a, b, c] [x, y, z])) (dotS [g, h, i] [x, y, z]) = max (max (dotS [a, b, c] [x, y, z]) (dotS [d, e, f] [x, y, z])) (dotS [g, h, i] [x, y, z]) := by omega
    refine best3.trans ?_
    rw [d0, d1, d2, hM]
    exact (pm_set (s := bestS [[a, b, c], [d, e, f], [g, h, i]] [x, y, z]) (P := fun j => dotS ([[a, b, c], [d, e, f], [g, h, i]].getD j []) [x, y, z] = max (max (dotS [a, b, c] [x, y, z]) (dotS [d, e, f] [x, y, z])) (dotS [g, h, i] [x, y, z])) (p0 := 1) (p1 := 0) (p2 := 2) (by decide) (by decide) (by decide) best3).symm
  refine ⟨fun h0 => P.lasts rfl rfl (fun h1 h2 h3 => tail_102 h1 h2 h3) (fun f i k hf hi hk => ?_) ho hb ⟨h0, o8⟩ ⟨best_pos hok, b8⟩, fun j hj => ?_, by rw [ho, hb, P.sub o8 b8], fun dd => ?_⟩
  · have c1 : f = 0 ∨ f = 1 ∨ f = 2 := by omega
    have c2 : i = 0 ∨ i = 1 ∨ i = 2 := by omega
    have c3 : k = 0 ∨ k = 1 ∨ k = 2 := by omega
    rcases c1 with rfl | rfl | rfl <;> rcases c2 with rfl | rfl | rfl <;> rcases c3 with rfl | rfl | rfl <;> rfl
  · rw [hb, (P.facts b8).2 j hj]
    have hj : j < 3 := hj
    have c1 : j = 0 ∨ j = 1 ∨ j = 2 := by omega
    rcases c1 with rfl | rfl | rfl <;> rfl
  · have hg : gcdL dd [y, x, z] = gcdL dd [x, y, z] := by rw [gcd3, gcd3]; congr 1; ac_rfl
    have hs : sumL [y, x, z] = sumL [x, y, z] := by simp only [sumL, List.foldr_cons, List.foldr_nil]; omega
    unfold mixS
    rw [decide_eq_decide]
    unfold mixP
    rw [hg, hs]
    simp only [fit, List.mem_cons, List.not_mem_nil, or_false, forall_eq_or_imp, forall_eq, List.length_cons, List.length_nil]
    constructor <;> rintro ⟨h1, h2, h3, h4, h5, h6, h7⟩ <;> exact ⟨h1, h2, h3, h4, h5, by omega, h7⟩
theorem ren_120 {a b c d e f g h i x y z : Int} (hok : okTab [[a, b, c], [d, e, f], [g, h, i]]) : Ren [[a, b, c], [d, e, f], [g, h, i]] [[e, f, d], [h, i, g], [b, c, a]] [1, 2, 0] [x, y, z] [y, z, x] := by
  have P : Prm 1 2 0 := ⟨by decide, by decide, by decide, by decide, by decide, by decide⟩
  have ho : fashS [y, z, x] = pm (perm 1 2 0) (fashS [x, y, z]) := by
    exact fash3.trans (pm_set (s := fashS [x, y, z]) (P := fun i => [x, y, z].getD i 0 > 0) (p0 := 1) (p1 := 2) (p2 := 0) (by decide) (by decide) (by decide) fash3).symm
  have o8 : fashS [x, y, z] < 8 := fashS_lt (n := 3) rfl
  have b8 : bestS [[a, b, c], [d, e, f], [g, h, i]] [x, y, z] < 8 := bestS_lt
  have d0 : dotS [e, f, d] [y, z, x] = dotS [d, e, f] [x, y, z] := by simp only [dotS]; omega
  have d1 : dotS [h, i, g] [y, z, x] = dotS [g, h, i] [x, y, z] := by simp only [dotS]; omega
  have d2 : dotS [b, c, a] [y, z, x] = dotS [a, b, c] [x, y, z] := by simp only [dotS]; omega
  have hb : bestS [[e, f, d], [h, i, g], [b, c, a]] [y, z, x] = pm (perm 1 2 0) (bestS [[a, b, c], [d, e, f], [g, h, i]] [x, y, z]) := by
    have hM : max (max (dotS [d, e, f] [x, y, z]) (dotS [g, h, i] [x, y, z])) (dotS [a, b, c] [x, y, z]) = max (max (dotS [a, b, c] [x, y, z]) (dotS [d, e, f] [x, y, z])) (dotS [g, h, i] [x, y, z]) := by omega
    refine best3.trans ?_
    rw [d0, d1, d2, hM]
    exact (pm_set (s := bestS [[a, b, c], [d, e, f], [g, h, i]] [x, y, z]) (P := fun j => dotS ([[a, b, c], [d, e, f], [g, h, i]].getD j []) [x, y, z] = max (max (dotS [a, b, c] [x, y, z]) (dotS [d, e, f] [x, y, z])) (dotS [g, h, i] [x, y, z])) (p0 := 1) (p1 := 2) (p2 := 0) (by decide) (by decide) (by decide) best3).symm
  refine ⟨fun h0 => P.lasts rfl rfl (fun h1 h2 h3 => tail_120 h1 h2 h3) (fun f i k hf hi hk => ?_) ho hb ⟨h0, o8⟩ ⟨best_pos hok, b8⟩, fun j hj => ?_, by rw [ho, hb, P.sub o8 b8], fun dd => ?_⟩
  · have c1 : f = 0 ∨ f = 1 ∨ f = 2 := by omega
    have c2 : i = 0 ∨ i = 1 ∨ i = 2 := by omega
    have c3 : k = 0 ∨ k = 1 ∨ k = 2 := by omega
    rcases c1 with rfl | rfl | rfl <;> rcases c2 with rfl | rfl | rfl <;> rcases c3 with rfl | rfl | rfl <;> rfl
  · rw [hb, (P.facts b8).2 j hj]
    have hj : j < 3 := hj
    have c1 : j = 0 ∨ j = 1 ∨ j = 2 := by omega
    rcases c1 with rfl | rfl | rfl <;> rfl
  · have hg : gcdL dd [y, z, x] = gcdL dd [x, y, z] := by rw [gcd3, gcd3]; congr 1; ac_rfl
    have hs : sumL [y, z, x] = sumL [x, y, z] := by simp only [sumL, List.foldr_cons, List.foldr_nil]; omega
    unfold mixS
    rw [decide_eq_decide]
    unfold mixP
    rw [hg, hs]
    simp only [fit, List.mem_cons, List.not_mem_nil, or_false, forall_eq_or_imp, forall_eq, List.length_cons, List.length_nil]
    constructor <;> rintro ⟨h1, h2, h3, h4, h5, h6, h7⟩ <;> exact ⟨h1, h2, h3, h4, h5, by omega, h7⟩
theorem ren_201 {a b c d e f g h i x y z : Int} (hok : okTab [[a, b, c], [d, e, f], [g, h, i]]) : Ren [[a, b, c], [d, e, f], [g, h, i]] [[i, g, h], [c, a, b], [f, d, e]] [2, 0, 1] [x, y, z] [z, x, y] := by
  have P : Prm 2 0 1 := ⟨by decide, by decide, by decide, by decide, by decide, by decide⟩
  have ho : fashS [z, x, y] = pm (perm 2 0 1) (fashS [x, y, z]) := by
    exact fash3.trans (pm_set (s := fashS [x, y, z]) (P := fun i => [x, y, z].getD i 0 > 0) (p0 := 2) (p1 := 0) (p2 := 1) (by decide) (by decide) (by decide) fash3).symm
  have o8 : fashS [x, y, z] < 8 := fashS_lt (n := 3) rfl
  have b8 : bestS [[a, b, c], [d, e, f], [g, h, i]] [x, y, z] < 8 := bestS_lt
  have d0 : dotS [i, g, h] [z, x, y] = dotS [g, h, i] [x, y, z] := by simp only [dotS]; omega
  have d1 : dotS [c, a, b] [z, x, y] = dotS [a, b, c] [x, y, z] := by simp only [dotS]; omega
  have d2 : dotS [f, d, e] [z, x, y] = dotS [d, e, f] [x, y, z] := by simp only [dotS]; omega
  have hb : bestS [[i, g, h], [c, a, b], [f, d, e]] [z, x, y] = pm (perm 2 0 1) (bestS [[a, b, c], [d, e, f], [g, h, i]] [x, y, z]) := by
    have hM : max (max (dotS [g, h, i] [x, y, z]) (dotS [a, b, c] [x, y, z])) (dotS [d, e, f] [x, y, z]) = max (max (dotS [a, b, c] [x, y, z]) (dotS [d, e, f] [x, y, z])) (dotS [g, h, i] [x, y, z]) := by omega
    refine best3.trans ?_
    rw [d0, d1, d2, hM]
    exact (pm_set (s := bestS [[a, b, c], [d, e, f], [g, h, i]] [x, y, z]) (P := fun j => dotS ([[a, b, c], [d, e, f], [g, h, i]].getD j []) [x, y, z] = max (max (dotS [a, b, c] [x, y, z]) (dotS [d, e, f] [x, y, z])) (dotS [g, h, i] [x, y, z])) (p0 := 2) (p1 := 0) (p2 := 1) (by decide) (by decide) (by decide) best3).symm
  refine ⟨fun h0 => P.lasts rfl rfl (fun h1 h2 h3 => tail_201 h1 h2 h3) (fun f i k hf hi hk => ?_) ho hb ⟨h0, o8⟩ ⟨best_pos hok, b8⟩, fun j hj => ?_, by rw [ho, hb, P.sub o8 b8], fun dd => ?_⟩
  · have c1 : f = 0 ∨ f = 1 ∨ f = 2 := by omega
    have c2 : i = 0 ∨ i = 1 ∨ i = 2 := by omega
    have c3 : k = 0 ∨ k = 1 ∨ k = 2 := by omega
    rcases c1 with rfl | rfl | rfl <;> rcases c2 with rfl | rfl | rfl <;> rcases c3 with rfl | rfl | rfl <;> rfl
  · rw [hb, (P.facts b8).2 j hj]
    have hj : j < 3 := hj
    have c1 : j = 0 ∨ j = 1 ∨ j = 2 := by omega
    rcases c1 with rfl | rfl | rfl <;> rfl
  · have hg : gcdL dd [z, x, y] = gcdL dd [x, y, z] := by rw [gcd3, gcd3]; congr 1; ac_rfl
    have hs : sumL [z, x, y] = sumL [x, y, z] := by simp only [sumL, List.foldr_cons, List.foldr_nil]; omega
    unfold mixS
    rw [decide_eq_decide]
    unfold mixP
    rw [hg, hs]
    simp only [fit, List.mem_cons, List.not_mem_nil, or_false, forall_eq_or_imp, forall_eq, List.length_cons, List.length_nil]
    constructor <;> rintro ⟨h1, h2, h3, h4, h5, h6, h7⟩ <;> exact ⟨h1, h2, h3, h4, h5, by omega, h7⟩
theorem ren_210 {a b c d e f g h i x y z : Int} (hok : okTab [[a, b, c], [d, e, f], [g, h, i]]) : Ren [[a, b, c], [d, e, f], [g, h, i]] [[i, h, g], [f, e, d], [c, b, a]] [2, 1, 0] [x, y, z] [z, y, x] := by
  have P : Prm 2 1 0 := ⟨by decide, by decide, by decide, by decide, by decide, by decide⟩
  have ho : fashS [z, y, x] = pm (perm 2 1 0) (fashS [x, y, z]) := by
    exact fash3.trans (pm_set (s := fashS [x, y, z]) (P := fun i => [x, y, z].getD i 0 > 0) (p0 := 2) (p1 := 1) (p2 := 0) (by decide) (by decide) (by decide) fash3).symm
  have o8 : fashS [x, y, z] < 8 := fashS_lt (n := 3) rfl
  have b8 : bestS [[a, b, c], [d, e, f], [g, h, i]] [x, y, z] < 8 := bestS_lt
  have d0 : dotS [i, h, g] [z, y, x] = dotS [g, h, i] [x, y, z] := by simp only [dotS]; omega
  have d1 : dotS [f, e, d] [z, y, x] = dotS [d, e, f] [x, y, z] := by simp only [dotS]; omega
  have d2 : dotS [c, b, a] [z, y, x] = dotS [a, b, c] [x, y, z] := by simp only [dotS]; omega
  have hb : bestS [[i, h, g], [f, e, d], [c, b, a]] [z, y, x] = pm (perm 2 1 0) (bestS [[a, b, c], [d, e, f], [g, h, i]] [x, y, z]) := by
    have hM : max (max (dotS [g, h, i] [x, y, z]) (dotS [d, e, f] [x, y, z])) (dotS [a, b, c] [x, y, z]) = max (max (dotS [a, b, c] [x, y, z]) (dotS [d, e, f] [x, y, z])) (dotS [g, h, i] [x, y, z]) := by omega
    refine best3.trans ?_
    rw [d0, d1, d2, hM]
    exact (pm_set (s := bestS [[a, b, c], [d, e, f], [g, h, i]] [x, y, z]) (P := fun j => dotS ([[a, b, c], [d, e, f], [g, h, i]].getD j []) [x, y, z] = max (max (dotS [a, b, c] [x, y, z]) (dotS [d, e, f] [x, y, z])) (dotS [g, h, i] [x, y, z])) (p0 := 2) (p1 := 1) (p2 := 0) (by decide) (by decide) (by decide) best3).symm
  refine ⟨fun h0 => P.lasts rfl rfl (fun h1 h2 h3 => tail_210 h1 h2 h3) (fun f i k hf hi hk => ?_) ho hb ⟨h0, o8⟩ ⟨best_pos hok, b8⟩, fun j hj => ?_, by rw [ho, hb, P.sub o8 b8], fun dd => ?_⟩
  · have c1 : f = 0 ∨ f = 1 ∨ f = 2 := by omega
    have c2 : i = 0 ∨ i = 1 ∨ i = 2 := by omega
    have c3 : k = 0 ∨ k = 1 ∨ k = 2 := by omega
    rcases c1 with rfl | rfl | rfl <;> rcases c2 with rfl | rfl | rfl <;> rcases c3 with rfl | rfl | rfl <;> rfl
  · rw [hb, (P.facts b8).2 j hj]
    have hj : j < 3 := hj
    have c1 : j = 0 ∨ j = 1 ∨ j = 2 := by omega
    rcases c1 with rfl | rfl | rfl <;> rfl
  · have hg : gcdL dd [z, y, x] = gcdL dd [x, y, z] := by rw [gcd3, gcd3]; congr 1; ac_rfl
    have hs : sumL [z, y, x] = sumL [x, y, z] := by simp only [sumL, List.foldr_cons, List.foldr_nil]; omega
    unfold mixS
    rw [decide_eq_decide]
    unfold mixP
    rw [hg, hs]
    simp only [fit, List.mem_cons, List.not_mem_nil, or_false, forall_eq_or_imp, forall_eq, List.length_cons, List.length_nil]
    constructor <;> rintro ⟨h1, h2, h3, h4, h5, h6, h7⟩ <;> exact ⟨h1, h2, h3, h4, h5, by omega, h7⟩
end Go.X
