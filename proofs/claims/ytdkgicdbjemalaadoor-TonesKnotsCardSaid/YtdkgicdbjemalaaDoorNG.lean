import Derived.Test.YtdkgicdbjemalaaDoorNA
/-! Tones: sums over figures as lists of sets of wires. -/
set_option linter.unusedSimpArgs false
set_option linter.unusedVariables false
set_option maxRecDepth 10000
namespace Go.X

/-- A set of wires, how many knots it has, and what it counts. -/
abbrev Ent := Nat × Nat × Int

/-- The bit of a wire. -/
def ix (i k : Nat) : Nat := if i < k then k * (k - 1) / 2 + i else i * (i - 1) / 2 + k
def eb (i k : Nat) : Nat := 2 ^ ix i k
def prs : List (Nat × Nat) := (List.range 7).flatMap fun k => (List.range k).map fun i => (i, k)
/-- Has a frame all these wires? -/
def hs (f : List Nat) (m : Nat) : Bool := prs.all fun p => !m.testBit (ix p.1 p.2) || (f.getD p.1 0).testBit p.2

theorem hs_zero (f : List Nat) : hs f 0 = true := by
  unfold hs; rw [List.all_eq_true]; intro p _; simp
theorem hs_or (f : List Nat) (a b : Nat) : hs f (a ||| b) = (hs f a && hs f b) := by
  unfold hs
  rw [Bool.eq_iff_iff, Bool.and_eq_true, List.all_eq_true, List.all_eq_true, List.all_eq_true]
  constructor
  · intro h
    refine ⟨fun p hp => ?_, fun p hp => ?_⟩
    · have := h p hp
      rw [Nat.testBit_or] at this
      cases h1 : a.testBit (ix p.1 p.2) <;> simp_all
    · have := h p hp
      rw [Nat.testBit_or] at this
      cases h1 : b.testBit (ix p.1 p.2) <;> simp_all
  · rintro ⟨h1, h2⟩ p hp
    have a1 := h1 p hp
    have a2 := h2 p hp
    rw [Nat.testBit_or]
    cases h3 : a.testBit (ix p.1 p.2) <;> cases h4 : b.testBit (ix p.1 p.2) <;> simp_all

theorem ix_all : (prs.all fun p => prs.all fun q => (ix p.1 p.2 == ix q.1 q.2) == (p == q)) = true := by decide
theorem mem_prs {i k : Nat} (h : i < k) (hk : k < 7) : (i, k) ∈ prs := by
  unfold prs
  rw [List.mem_flatMap]
  exact ⟨k, List.mem_range.2 hk, List.mem_map.2 ⟨i, List.mem_range.2 h, rfl⟩⟩

theorem hs_lt {f : List Nat} {i k : Nat} (h : i < k) (hk : k < 7) : hs f (2 ^ ix i k) = (f.getD i 0).testBit k := by
  have hm := mem_prs h hk
  have hq : ∀ p ∈ prs, (2 ^ ix i k).testBit (ix p.1 p.2) = ((i, k) == p) := fun p hp => by
    have := List.all_eq_true.1 (List.all_eq_true.1 ix_all (i, k) hm) p hp
    rw [Nat.testBit_two_pow]
    have h2 : (ix i k == ix p.1 p.2) = ((i, k) == p) := by simpa using this
    rw [← h2]
    by_cases e : ix i k = ix p.1 p.2 <;> simp [e]
  unfold hs
  cases hb : (f.getD i 0).testBit k with
  | true =>
    rw [List.all_eq_true]
    intro p hp
    rw [hq p hp]
    by_cases e : (i, k) = p
    · subst e; show (_ || (f.getD i 0).testBit k) = true; rw [hb, Bool.or_true]
    · have : ((i, k) == p) = false := by simpa using e
      rw [this]; rfl
  | false =>
    apply Bool.eq_false_iff.2
    intro hall
    have := List.all_eq_true.1 hall (i, k) hm
    rw [hq _ hm] at this
    have e : ((i, k) == (i, k)) = true := by simp
    rw [e] at this
    change (false || (f.getD i 0).testBit k) = true at this
    rw [hb] at this; cases this

theorem hs_eb {f : List Nat} (hS : Sy f) {i k : Nat} (hi : i < f.length) (hk : k < f.length) (h7 : f.length ≤ 7) (hne : i ≠ k) : hs f (eb i k) = (f.getD i 0).testBit k := by
  unfold eb
  rcases Nat.lt_or_gt_of_ne hne with h | h
  · exact hs_lt h (by omega)
  · rw [hS i k hi hk, ← hs_lt h (by omega)]
    congr 2
    unfold ix; rw [if_neg (by omega), if_pos h]

/-- What a list of figures adds up to in a frame. -/
def evE (f : List Nat) : List Ent → Nat → Int
  | [], _ => 0
  | x :: L, j => (if x.2.1 = j ∧ hs f x.1 = true then x.2.2 else 0) + evE f L j

theorem evE_app (f : List Nat) (j : Nat) : ∀ (a b : List Ent), evE f (a ++ b) j = evE f a j + evE f b j
  | [], b => by simp [evE]
  | x :: a, b => by simp only [List.cons_append, evE]; rw [evE_app f j a b]; omega
theorem evE_flat (f : List Nat) (j : Nat) (g : Nat → List Ent) : ∀ (l : List Nat), evE f (l.flatMap g) j = sumZ l (fun k => evE f (g k) j)
  | [] => rfl
  | k :: l => by rw [List.flatMap_cons, evE_app, evE_flat f j g l]; rfl

def mulE (m q : Nat) (c : Int) (L : List Ent) : List Ent := L.map fun x => (x.1 ||| m, x.2.1 + q, c * x.2.2)
theorem evE_mul (f : List Nat) (m q : Nat) (c : Int) (j : Nat) : ∀ (L : List Ent), evE f (mulE m q c L) j = if hs f m = true then c * sft q (evE f L) j else 0
  | [] => by simp [mulE, evE, sft]
  | x :: L => by
    have ih := evE_mul f m q c j L
    unfold mulE at ih ⊢
    simp only [List.map_cons, evE]
    rw [ih, hs_or]
    cases hm : hs f m with
    | false => simp
    | true =>
      simp only [Bool.and_true, if_true]
      unfold sft
      by_cases hq : q ≤ j
      · have e : (x.2.1 + q = j) ↔ (x.2.1 = j - q) := by omega
        simp only [if_pos hq, e, evE]
        rw [Int.mul_add]
        congr 1
        split <;> simp
      · simp only [if_neg hq, Int.mul_zero, Int.add_zero]
        rw [if_neg (by omega)]

/-! ### Our sums -/
def onY (ov : Nat → List Ent) (n i S : Nat) (c : Int) : Nat → Nat → Nat → Nat → Nat → List Ent
  | 0, _, _, _, _ => []
  | e + 1, p, sec, met, cur => (List.range n).flatMap fun k => if (dl S met).testBit k then
      (if 0 < met ∧ sec < k then mulE (cur ||| eb p k ||| eb k i) (pc met + 2) c (ov (dl (dl S met) (2 ^ k))) else [])
        ++ onY ov n i S c e k (if met = 0 then k else sec) (met ||| 2 ^ k) (cur ||| eb p k) else []

def ovY (n : Nat) (w r : Int) : Nat → Nat → List Ent
  | 0, _ => [(0, 0, 1)]
  | d + 1, left => if left = 0 then [(0, 0, 1)] else
    ovY n w r d (dl left (2 ^ ctz left))
      ++ (List.range n).flatMap (fun k => if (dl left (2 ^ ctz left)).testBit k then mulE (eb (ctz left) k) 2 w (ovY n w r d (dl (dl left (2 ^ ctz left)) (2 ^ k))) else [])
      ++ onY (ovY n w r d) n (ctz left) (dl left (2 ^ ctz left)) r 8 (ctz left) 0 0 0

theorem on_off {ov : Nat → List Ent} {f : List Nat} {n i S : Nat} {c : Int} {j : Nat} : ∀ (e p sec met cur : Nat), hs f cur = false → evE f (onY ov n i S c e p sec met cur) j = 0
  | 0, _, _, _, _, _ => rfl
  | e + 1, p, sec, met, cur, h => by
    simp only [onY]
    rw [evE_flat, sumZ_congr (h := fun _ => 0) fun k _ => ?_, sumZ_zero]
    split
    · rw [evE_app, on_off e _ _ _ _ (by rw [hs_or, h]; rfl)]
      split
      · rw [evE_mul, hs_or, hs_or, h]; simp
      · rfl
    · rfl

theorem on_sym {ov : Nat → List Ent} {os : Nat → Nat → Int} {f : List Nat} {i S : Nat} {c : Int} (hS : Sy f) (h7 : f.length ≤ 7) (hi : i < f.length) (hiS : S.testBit i = false)
    (hov : ∀ T, Sub T S → ∀ j, evE f (ov T) j = os T j) : ∀ (e p sec met cur j : Nat), p < f.length → (dl S met).testBit p = false → hs f cur = true →
    evE f (onY ov f.length i S c e p sec met cur) j = onS os f f.length i S c e p sec met j
  | 0, _, _, _, _, _, _, _, _ => rfl
  | e + 1, p, sec, met, cur, j, hp, hpS, hcur => by
    simp only [onY, onS]
    rw [evE_flat]
    refine sumZ_congr fun k hk => ?_
    have hk' := List.mem_range.1 hk
    have hb : (dl (f.getD p 0 &&& S) met).testBit k = ((f.getD p 0).testBit k && (dl S met).testBit k) := by
      rw [dl_bit, dl_bit, Nat.testBit_and, Bool.and_assoc]
    rw [hb]
    cases hd : (dl S met).testBit k with
    | false => simp [evE]
    | true =>
      have hpk : p ≠ k := fun e => by rw [e, hd] at hpS; cases hpS
      have hki : k ≠ i := fun e => by rw [dl_bit, e, hiS] at hd; cases hd
      have e1 := hs_eb hS hp hk' h7 hpk
      have e2 := hs_eb hS hk' hi h7 hki
      rw [if_pos rfl, evE_app]
      cases hf : (f.getD p 0).testBit k with
      | false =>
        rw [on_off _ _ _ _ _ (by rw [hs_or, e1, hf, Bool.and_false])]
        simp only [Bool.false_and, Bool.false_eq_true, if_false, Int.add_zero]
        split
        · rw [evE_mul, hs_or, hs_or, e1, hf]; simp
        · rfl
      | true =>
        simp only [Bool.true_and, if_true]
        have hc2 : hs f (cur ||| eb p k) = true := by rw [hs_or, e1, hf, hcur]; rfl
        rw [on_sym hS h7 hi hiS hov e k _ (met ||| 2 ^ k) (cur ||| eb p k) j hk' (by rw [dl_or, dl_bit, Nat.testBit_two_pow_self]; simp) hc2]
        congr 1
        unfold clS
        by_cases c1 : 0 < met ∧ sec < k
        · rw [if_pos c1, evE_mul, hs_or, hc2, e2, Bool.true_and]
          cases hx : (f.getD k 0).testBit i with
          | false => rw [if_neg (by simp), if_neg (by simp)]
          | true =>
            rw [if_pos rfl, if_pos ⟨c1.1, c1.2, rfl⟩]
            congr 1
            exact sft_congr (fun j => hov _ ((sub_dl _ _).trans (sub_dl _ _)) j) j
        · rw [if_neg c1, if_neg (fun h => c1 ⟨h.1, h.2.1⟩)]
          rfl

theorem ov_sym {f : List Nat} {w r : Int} (hS : Sy f) (h7 : f.length ≤ 7) : ∀ (d left j : Nat), left < 2 ^ f.length → evE f (ovY f.length w r d left) j = ovS f w r d left j
  | 0, left, j, _ => by simp [ovY, ovS, evE, hs_zero, eq_comm]
  | d + 1, left, j, hl => by
    simp only [ovY, ovS]
    by_cases h0 : left = 0
    · rw [if_pos h0, if_pos h0]; simp [evE, hs_zero, eq_comm]
    · rw [if_neg h0, if_neg h0]
      have h128 : 2 ^ f.length ≤ 128 := by
        have : (2 : Nat) ^ f.length ≤ 2 ^ 7 := Nat.pow_le_pow_right (by decide) h7
        omega
      have hb := ctz_ok (m := left) (by omega) h0
      have hin : ctz left < f.length := by
        rcases Nat.lt_or_ge (ctz left) f.length with e | e
        · exact e
        · rw [Nat.testBit_lt_two_pow (Nat.lt_of_lt_of_le hl (Nat.pow_le_pow_right (by decide) e))] at hb; cases hb
      have hSl : dl left (2 ^ ctz left) < 2 ^ f.length := Nat.lt_of_le_of_lt (dl_le _ _) hl
      have hiS : (dl left (2 ^ ctz left)).testBit (ctz left) = false := by rw [dl_bit, Nat.testBit_two_pow_self]; simp
      generalize ctz left = i at *
      generalize dl left (2 ^ i) = S at *
      rw [evE_app, evE_app, ov_sym hS h7 d S j hSl, evE_flat]
      have hov : ∀ T, Sub T S → ∀ j, evE f (ovY f.length w r d T) j = ovS f w r d T j := fun T hT j => ov_sym hS h7 d T j (Nat.lt_of_le_of_lt hT.le hSl)
      congr 1
      · congr 1
        refine sumZ_congr fun k hk => ?_
        have hk' := List.mem_range.1 hk
        rw [Nat.testBit_and]
        cases hd : S.testBit k with
        | false => simp [evE]
        | true =>
          have hik : i ≠ k := fun e => by rw [← e, hiS] at hd; cases hd
          rw [if_pos rfl, evE_mul, hs_eb hS hin hk' h7 hik, Bool.and_true]
          split
          · congr 1
            exact sft_congr (fun j => hov _ (sub_dl _ _) j) j
          · rfl
      · refine on_sym hS h7 hin hiS hov 8 i 0 0 0 j hin ?_ (hs_zero f)
        rw [dl_bit, hiS]; rfl
end Go.X
