import Derived.Test.YtdkgicdbjemalaaDoorNG
/-! Tones: the determinant as a list of sets of wires; lists in order. -/
set_option linter.unusedSimpArgs false
set_option linter.unusedVariables false
set_option maxRecDepth 10000
namespace Go.X

def detY (n : Nat) : Nat → Nat → Nat → Nat → Int → Nat → List Ent
  | 0, _, _, own, sign, cur => [(cur, n - own, sign)]
  | d + 1, rr, used, own, sign, cur => (List.range n).flatMap fun c =>
      if used.testBit c then [] else if c = rr then detY n d (rr + 1) (used ||| 2 ^ c) (own + 1) (sgn used (List.range' (c + 1) (n - (c + 1))) sign) cur
      else detY n d (rr + 1) (used ||| 2 ^ c) own (-(sgn used (List.range' (c + 1) (n - (c + 1))) sign)) (cur ||| eb rr c)

theorem det_off {f : List Nat} {n j : Nat} : ∀ (d rr used own : Nat) (sign : Int) (cur : Nat), hs f cur = false → evE f (detY n d rr used own sign cur) j = 0
  | 0, _, _, _, _, cur, h => by simp [detY, evE, h]
  | d + 1, rr, used, own, sign, cur, h => by
    simp only [detY]
    rw [evE_flat, sumZ_congr (h := fun _ => 0) fun c _ => ?_, sumZ_zero]
    split
    · rfl
    · split
      · exact det_off d _ _ _ _ _ h
      · exact det_off d _ _ _ _ _ (by rw [hs_or, h]; rfl)

theorem det_sym {f : List Nat} (hS : Sy f) (h7 : f.length ≤ 7) : ∀ (d rr used own : Nat) (sign : Int) (cur : Nat) (out : List Int) (j : Nat), rr + d = f.length → own ≤ rr → hs f cur = true → j ≤ f.length → out.length = f.length + 1 →
    (detP f f.length d rr used own sign out).getD j 0 = out.getD j 0 + evE f (detY f.length d rr used own sign cur) (f.length - j)
  | 0, rr, used, own, sign, cur, out, j, hr, ho, hc, hj, hl => by
    simp only [detP, detY, evE, hc]
    rw [addP_get hl (by omega), Int.add_zero]
    congr 1
    have : (f.length - own = f.length - j) ↔ (j = own) := by omega
    simp only [this, and_true]
  | d + 1, rr, used, own, sign, cur, out, j, hr, ho, hc, hj, hl => by
    simp only [detP, detY]
    rw [evE_flat]
    refine foldl_get2 (m := f.length + 1) (fun out c => ?_) _ _ hl (fun out c hm hk => ?_)
    · split
      · rfl
      · split
        · exact detP_len _ _ _ _ _ _ _ _
        · split
          · exact detP_len _ _ _ _ _ _ _ _
          · rfl
    · have hk' := List.mem_range.1 hk
      cases hu : used.testBit c with
      | true => simp [evE]
      | false =>
        simp only [Bool.false_eq_true, if_false]
        by_cases e : c = rr
        · rw [if_pos e, if_pos e]
          exact det_sym hS h7 d _ _ _ _ cur out j (by omega) (by omega) hc hj hm
        · rw [if_neg e, if_neg e]
          have e1 := hs_eb hS (i := rr) (k := c) (by omega) hk' h7 (fun h => e h.symm)
          cases hb : (f.getD rr 0).testBit c with
          | true =>
            rw [if_pos rfl]
            exact det_sym hS h7 d _ _ _ _ _ out j (by omega) (by omega) (by rw [hs_or, hc, e1, hb]; rfl) hj hm
          | false =>
            rw [if_neg (by simp), det_off _ _ _ _ _ _ (by rw [hs_or, e1, hb, Bool.and_false])]
            omega

/-! ### Lists in order -/
def mrg : Nat → List Ent → List Ent → List Ent
  | 0, a, b => a ++ b
  | n + 1, a, b => match a, b with
    | [], b => b
    | a, [] => a
    | x :: a, y :: b => bif Nat.blt x.1 y.1 then x :: mrg n a (y :: b) else bif Nat.blt y.1 x.1 then y :: mrg n (x :: a) b else
        bif Nat.beq x.2.1 y.2.1 then (bif x.2.2 + y.2.2 == 0 then mrg n a b else (x.1, x.2.1, x.2.2 + y.2.2) :: mrg n a b) else x :: y :: mrg n a b

theorem evE_mrg (f : List Nat) (j : Nat) : ∀ (n : Nat) (a b : List Ent), evE f (mrg n a b) j = evE f a j + evE f b j
  | 0, a, b => evE_app f j a b
  | n + 1, [], b => by simp [mrg, evE]
  | n + 1, x :: a, [] => by simp [mrg, evE]
  | n + 1, x :: a, y :: b => by
    simp only [mrg]
    cases h1 : Nat.blt x.1 y.1 with
    | true =>
      simp only [cond_true, evE]
      rw [evE_mrg f j n a (y :: b)]
      simp only [evE]; omega
    | false =>
      simp only [cond_false]
      cases h2 : Nat.blt y.1 x.1 with
      | true =>
        simp only [cond_true, evE]
        rw [evE_mrg f j n (x :: a) b]
        simp only [evE]; omega
      | false =>
        have e : x.1 = y.1 := by
          simp only [Nat.blt] at h1 h2
          have a1 : ¬ (x.1 + 1 ≤ y.1) := fun h => by rw [Nat.ble_eq_true_of_le h] at h1; cases h1
          have a2 : ¬ (y.1 + 1 ≤ x.1) := fun h => by rw [Nat.ble_eq_true_of_le h] at h2; cases h2
          omega
        simp only [cond_false]
        cases h3 : Nat.beq x.2.1 y.2.1 with
        | true =>
          have e2 : x.2.1 = y.2.1 := Nat.eq_of_beq_eq_true h3
          simp only [cond_true]
          cases h4 : (x.2.2 + y.2.2 == 0) with
          | true =>
            have e3 : x.2.2 + y.2.2 = 0 := by simpa using h4
            simp only [cond_true, evE]
            rw [evE_mrg f j n a b, e, e2]
            split <;> omega
          | false =>
            simp only [cond_false, evE]
            rw [evE_mrg f j n a b, e, e2]
            split <;> omega
        | false =>
          simp only [cond_false, evE]
          rw [evE_mrg f j n a b]
          omega

def halves : List Ent → List Ent × List Ent
  | [] => ([], [])
  | x :: l => match halves l with | (a, b) => (x :: b, a)
theorem evE_halves (f : List Nat) (j : Nat) : ∀ (l : List Ent), evE f (halves l).1 j + evE f (halves l).2 j = evE f l j
  | [] => rfl
  | x :: l => by
    have := evE_halves f j l
    simp only [halves, evE]
    omega
def srt : Nat → List Ent → List Ent
  | 0, l => l
  | n + 1, l => match l with
    | [] => []
    | [x] => [x]
    | x :: y :: l => match halves (x :: y :: l) with | (a, b) => mrg 10000 (srt n a) (srt n b)
theorem evE_srt (f : List Nat) (j : Nat) : ∀ (n : Nat) (l : List Ent), evE f (srt n l) j = evE f l j
  | 0, l => rfl
  | n + 1, [] => rfl
  | n + 1, [x] => rfl
  | n + 1, x :: y :: l => by
    have h : srt (n + 1) (x :: y :: l) = mrg 10000 (srt n (halves (x :: y :: l)).1) (srt n (halves (x :: y :: l)).2) := rfl
    rw [h, evE_mrg, evE_srt f j n, evE_srt f j n, evE_halves]

def eqE : List Ent → List Ent → Bool
  | [], [] => true
  | x :: a, y :: b => Nat.beq x.1 y.1 && (Nat.beq x.2.1 y.2.1 && (x.2.2 == y.2.2 && eqE a b))
  | _, _ => false
theorem eqE_eq : ∀ {a b : List Ent}, eqE a b = true → a = b
  | [], [], _ => rfl
  | x :: a, y :: b, h => by
    simp only [eqE, Bool.and_eq_true] at h
    obtain ⟨h1, h2, h3, h4⟩ := h
    have e1 := Nat.eq_of_beq_eq_true h1
    have e2 := Nat.eq_of_beq_eq_true h2
    have e3 : x.2.2 = y.2.2 := by simpa using h3
    rw [eqE_eq h4]
    congr 1
    exact Prod.ext e1 (Prod.ext e2 e3)
  | [], _ :: _, h => by cases h
  | _ :: _, [], h => by cases h

/-- Two lists say the same. -/
def sameE (a b : List Ent) : Bool := eqE (srt 14 a) (srt 14 b)
theorem sameE_ev {a b : List Ent} (h : sameE a b = true) (f : List Nat) (j : Nat) : evE f a j = evE f b j := by
  rw [← evE_srt f j 14 a, eqE_eq h, evE_srt]
end Go.X
