import Derived.Test.YtdkgicdbjemalaaDoorNI
/-! Tones: matchings as lists of sets of wires; renumbered sets of wires; frames as lists of natural numbers. -/
set_option linter.unusedSimpArgs false
set_option linter.unusedVariables false
set_option maxHeartbeats 1000000
set_option maxRecDepth 10000
namespace Go.X
open Go Go.RowKit

/-- Matchings of some knots. -/
def maY (n : Nat) : Nat → Nat → List Ent
  | 0, _ => [(0, 0, 1)]
  | d + 1, left => if left = 0 then [(0, 0, 1)] else
    maY n d (dl left (2 ^ ctz left))
      ++ (List.range n).flatMap (fun k => if (dl left (2 ^ ctz left)).testBit k then mulE (eb (ctz left) k) 2 (-1) (maY n d (dl (dl left (2 ^ ctz left)) (2 ^ k))) else [])

theorem ma_sym {f : List Nat} (hS : Sy f) (h7 : f.length ≤ 7) : ∀ (d left j : Nat), left < 2 ^ f.length → evE f (maY f.length d left) j = ovS f (-1) 0 d left j
  | 0, left, j, _ => by simp [maY, ovS, evE, hs_zero, eq_comm]
  | d + 1, left, j, hl => by
    simp only [maY, ovS]
    by_cases h0 : left = 0
    · rw [if_pos h0, if_pos h0]; simp [evE, hs_zero, eq_comm]
    · rw [if_neg h0, if_neg h0, onS_zero, Int.add_zero]
      have h128 : 2 ^ f.length ≤ 128 := by
        have : (2 : Nat) ^ f.length ≤ 2 ^ 7 := Nat.pow_le_pow_right (by decide) h7
        omega
      have hb := ctz_ok (m := left) (by omega) h0
      have hin : ctz left < f.length := by
        rcases Nat.lt_or_ge (ctz left) f.length with e | e
        · exact e
        · rw [Nat.testBit_lt_two_pow (Nat.lt_of_lt_of_le hl (Nat.pow_le_pow_right (by decide) e))] at hb; cases hb
      have hSl : dl left (2 ^ ctz left) < 2 ^ f.length := Nat.lt_of_le_of_lt (dl_le _ _) hl
      have hiS : (dl left (2 ^ ctz left)).testBit (ctz left) = false := by rw [dl_bit, Nat.testBit_two_pow_self]; simp
      generalize ctz left = i at *
      generalize dl left (2 ^ i) = S at *
      rw [evE_app, ma_sym hS h7 d S j hSl, evE_flat]
      congr 1
      refine sumZ_congr fun k hk => ?_
      have hk' := List.mem_range.1 hk
      rw [Nat.testBit_and]
      cases hd : S.testBit k with
      | false => simp [evE]
      | true =>
        have hik : i ≠ k := fun e => by rw [← e, hiS] at hd; cases hd
        rw [if_pos rfl, evE_mul, hs_eb hS hin hk' h7 hik, Bool.and_true]
        split
        · congr 1
          exact sft_congr (fun j => ma_sym hS h7 d _ j (Nat.lt_of_le_of_lt (dl_le _ _) hSl)) j
        · rfl

/-- All knots. -/
def full (n : Nat) : Nat := 2 ^ n - 1
def ren (K : List Nat) (m : Nat) : Nat := prs.foldl (fun acc p => if m.testBit (ix p.1 p.2) then acc ||| eb (K.getD p.1 0) (K.getD p.2 0) else acc) 0
theorem hs_fold (f : List Nat) (c : Nat × Nat → Bool) (e : Nat × Nat → Nat) : ∀ (l : List (Nat × Nat)) (a : Nat), hs f (l.foldl (fun acc p => if c p then acc ||| e p else acc) a) = (hs f a && l.all fun p => !c p || hs f (e p))
  | [], a => by simp
  | p :: l, a => by
    rw [List.foldl_cons, hs_fold f c e l, List.all_cons]
    cases hc : c p with
    | false => simp
    | true => simp [hs_or, Bool.and_assoc]

theorem all_congr' {α : Type} {p q : α → Bool} : ∀ {l : List α}, (∀ x ∈ l, p x = q x) → l.all p = l.all q
  | [], _ => rfl
  | x :: l, h => by rw [List.all_cons, List.all_cons, h x List.mem_cons_self, all_congr' fun y hy => h y (List.mem_cons_of_mem _ hy)]

theorem ix_big : (List.range 8).all (fun n => prs.all fun p => decide (p.2 < n) || decide (n * (n - 1) / 2 ≤ ix p.1 p.2)) = true := by decide
theorem evE_ren {f g : List Nat} {r : Nat → Nat} {j : Nat} : ∀ {L : List Ent}, (∀ x ∈ L, hs g x.1 = hs f (r x.1)) → evE g L j = evE f (L.map fun x => (r x.1, x.2.1, x.2.2)) j
  | [], _ => rfl
  | x :: L, h => by
    simp only [List.map_cons, evE]
    rw [evE_ren fun y hy => h y (List.mem_cons_of_mem _ hy), h x List.mem_cons_self]

theorem frame_iff {f : List Nat} : frameB (f.map fun n : Nat => (n : Int)) = true ↔ 1 ≤ f.length ∧ f.length ≤ 7 ∧ (∀ i, i < f.length → f.getD i 0 < 2 ^ f.length ∧ (f.getD i 0).testBit i = false) ∧ Sy f := by
  have hg : ∀ j, j < f.length → (f.map fun n : Nat => (n : Int)).getD j 0 = ((f.getD j 0 : Nat) : Int) := fun j hj => getD_nat hj
  unfold frameB okL symL
  simp only [Bool.and_eq_true, decide_eq_true_eq, List.length_map, List.all_eq_true, List.mem_range]
  constructor
  · rintro ⟨⟨⟨h1, h2⟩, h3⟩, h4⟩
    refine ⟨h1, h2, fun i hi => ?_, fun i k hi hk => ?_⟩
    · have := h3 i hi
      rw [hg i hi] at this
      simp only [okE, Bool.and_eq_true, decide_eq_true_eq] at this
      refine ⟨by omega, ?_⟩
      have h := this.2
      rw [sh_bit] at h
      cases hb : (f.getD i 0).testBit i with
      | false => rfl
      | true => rw [hb] at h; exact absurd h (by decide)
    · have := h4 i hi k hk
      unfold symE at this
      rw [hg i hi, hg k hk, sh_bit, sh_bit] at this
      generalize (f.getD i 0).testBit k = x at *
      generalize (f.getD k 0).testBit i = y at *
      cases x <;> cases y <;> first | rfl | (exact absurd this (by decide))
  · rintro ⟨h1, h2, h3, h4⟩
    refine ⟨⟨⟨h1, h2⟩, fun i hi => ?_⟩, fun i hi k hk => ?_⟩
    · rw [hg i hi]
      simp only [okE, Bool.and_eq_true, decide_eq_true_eq]
      refine ⟨⟨by omega, by have := (h3 i hi).1; omega⟩, ?_⟩
      rw [sh_bit, (h3 i hi).2]; decide
    · unfold symE
      rw [hg i hi, hg k hk, sh_bit, sh_bit, h4 i k hi hk]
      simp

end Go.X
