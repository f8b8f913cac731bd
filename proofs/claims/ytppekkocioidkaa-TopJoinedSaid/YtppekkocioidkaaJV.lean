import Derived.Test.YtppekkocioidkaaJR
import Derived.Test.YtppekkocioidkaaJT
/-! Few and cut: the plain law of Steps in the mesh of a shop. -/
set_option linter.unusedSimpArgs false
set_option linter.unusedVariables false
namespace Go.X

theorem stepsL_spec {J : Nat → Bool} {t : Nat} : ∀ (d s f c : Nat),
    ((stepsL J t d s f c).1 ≤ f ∧ (∀ x, s ≤ x → x < s + d → J x = true → (stepsL J t d s f c).1 ≤ pcN 13 x) ∧ ((stepsL J t d s f c).1 = f ∨ ∃ x, s ≤ x ∧ x < s + d ∧ J x = true ∧ (stepsL J t d s f c).1 = pcN 13 x)) ∧
    ((stepsL J t d s f c).2 ≤ c ∧ (∀ x, s ≤ x → x < s + d → J x = false → (stepsL J t d s f c).2 ≤ t - pcN 13 x) ∧ ((stepsL J t d s f c).2 = c ∨ ∃ x, s ≤ x ∧ x < s + d ∧ J x = false ∧ (stepsL J t d s f c).2 = t - pcN 13 x))
  | 0, s, f, c => ⟨⟨Nat.le_refl _, fun x h1 h2 => by omega, .inl rfl⟩, ⟨Nat.le_refl _, fun x h1 h2 => by omega, .inl rfl⟩⟩
  | d + 1, s, f, c => by
    have hh : ∀ x, s + 1 ≤ x → x < s + 1 + d → s ≤ x ∧ x < s + (d + 1) := fun x _ _ => by omega
    have hk : ∀ x, s ≤ x → x < s + (d + 1) → x ≠ s → s + 1 ≤ x ∧ x < s + 1 + d := fun x _ _ _ => by omega
    have hs : s < s + (d + 1) := by omega
    cases hj : J s with
    | true =>
      have e : stepsL J t (d + 1) s f c = stepsL J t d (s + 1) (min f (pcN 13 s)) c := by simp [stepsL, hj]
      rw [e]
      obtain ⟨⟨a1, a2, a3⟩, ⟨b1, b2, b3⟩⟩ := stepsL_spec (J := J) (t := t) d (s + 1) (min f (pcN 13 s)) c
      refine ⟨⟨Nat.le_trans a1 (Nat.min_le_left _ _), fun x h1 h2 h3 => ?_, ?_⟩, ⟨b1, fun x h1 h2 h3 => ?_, ?_⟩⟩
      · by_cases e : x = s
        · subst e; exact Nat.le_trans a1 (Nat.min_le_right _ _)
        · exact a2 x (hk x h1 h2 e).1 (hk x h1 h2 e).2 h3
      · rcases a3 with a3 | ⟨x, h1, h2, h3, h4⟩
        · rcases Nat.le_total f (pcN 13 s) with h | h
          · exact .inl (a3.trans (Nat.min_eq_left h))
          · exact .inr ⟨s, Nat.le_refl _, hs, hj, a3.trans (Nat.min_eq_right h)⟩
        · exact .inr ⟨x, (hh x h1 h2).1, (hh x h1 h2).2, h3, h4⟩
      · by_cases e : x = s
        · subst e; rw [hj] at h3; cases h3
        · exact b2 x (hk x h1 h2 e).1 (hk x h1 h2 e).2 h3
      · rcases b3 with b3 | ⟨x, h1, h2, h3, h4⟩
        · exact .inl b3
        · exact .inr ⟨x, (hh x h1 h2).1, (hh x h1 h2).2, h3, h4⟩
    | false =>
      have e : stepsL J t (d + 1) s f c = stepsL J t d (s + 1) f (min c (t - pcN 13 s)) := by simp [stepsL, hj]
      rw [e]
      obtain ⟨⟨a1, a2, a3⟩, ⟨b1, b2, b3⟩⟩ := stepsL_spec (J := J) (t := t) d (s + 1) f (min c (t - pcN 13 s))
      refine ⟨⟨a1, fun x h1 h2 h3 => ?_, ?_⟩, ⟨Nat.le_trans b1 (Nat.min_le_left _ _), fun x h1 h2 h3 => ?_, ?_⟩⟩
      · by_cases e : x = s
        · subst e; rw [hj] at h3; cases h3
        · exact a2 x (hk x h1 h2 e).1 (hk x h1 h2 e).2 h3
      · rcases a3 with a3 | ⟨x, h1, h2, h3, h4⟩
        · exact .inl a3
        · exact .inr ⟨x, (hh x h1 h2).1, (hh x h1 h2).2, h3, h4⟩
      · by_cases e : x = s
        · subst e; exact Nat.le_trans b1 (Nat.min_le_right _ _)
        · exact b2 x (hk x h1 h2 e).1 (hk x h1 h2 e).2 h3
      · rcases b3 with b3 | ⟨x, h1, h2, h3, h4⟩
        · rcases Nat.le_total c (t - pcN 13 s) with h | h
          · exact .inl (b3.trans (Nat.min_eq_left h))
          · exact .inr ⟨s, Nat.le_refl _, hs, hj, b3.trans (Nat.min_eq_right h)⟩
        · exact .inr ⟨x, (hh x h1 h2).1, (hh x h1 h2).2, h3, h4⟩

/-! ### As few threads as one less than the knots join -/
section
variable {T : List (Nat × Nat)} {n a set : Nat}

theorem tree_pass (hT : Inn n T) (t : Nat) : ∀ (L : List (Nat × Nat)) (i out u : Nat), (∀ j p, L[j]? = some p → T[i + j]? = some p) → (∀ v, out.testBit v = true → v < n) → (∀ j, u.testBit j = true → set.testBit j = true) → pcN t u + 1 ≤ pcN n out → (∀ v, out.testBit v = true → Con T u a v) →
    ∃ u', (∀ j, u'.testBit j = true → set.testBit j = true) ∧ pcN t u' + 1 ≤ pcN n (pass set i L out) ∧ ∀ v, (pass set i L out).testBit v = true → Con T u' a v
  | [], i, out, u, _, _, h1, h2, h3 => ⟨u, h1, h2, h3⟩
  | p :: L, i, out, u, hL, hlt, h1, h2, h3 => by
    have hL' : ∀ j q, L[j]? = some q → T[i + 1 + j]? = some q := fun j q hq => by
      have := hL (j + 1) q (by simpa using hq)
      rwa [show i + (j + 1) = i + 1 + j by omega] at this
    rw [pass_cons]
    split
    · next hc =>
      have hp := hT p (List.mem_of_getElem? (by simpa using hL 0 p rfl))
      have hbit : (u ||| 2 ^ i).testBit i = true := by simp
      have hge : ∀ j, u.testBit j = true → (u ||| 2 ^ i).testBit j = true := fun j hj => by simp [hj]
      have hmono : ∀ v, out.testBit v = true → Con T (u ||| 2 ^ i) a v := fun v hv => con_mono hge (h3 v hv)
      have hT0 : T[i]? = some (p.1, p.2) := by simpa using hL 0 p rfl
      have hboth : Con T (u ||| 2 ^ i) a p.1 ∧ Con T (u ||| 2 ^ i) a p.2 := by
        refine con_closed i p.1 p.2 hT0 hbit ?_
        rcases hc.2 with h | h
        · exact .inl (hmono _ h)
        · exact .inr (hmono _ h)
      have hlt' : ∀ v, (out ||| (2 ^ p.1 ||| 2 ^ p.2)).testBit v = true → v < n := fun v hv => by
        rcases or2_bit.1 hv with h | h | h
        · exact hlt v h
        · omega
        · omega
      by_cases hb : out.testBit p.1 = true ∧ out.testBit p.2 = true
      · have e : out ||| (2 ^ p.1 ||| 2 ^ p.2) = out := by
          apply Nat.eq_of_testBit_eq
          intro v
          refine Bool.eq_iff_iff.2 ⟨fun hv => ?_, fun hv => or2_bit.2 (.inl hv)⟩
          rcases or2_bit.1 hv with h | rfl | rfl
          · exact h
          · exact hb.1
          · exact hb.2
        rw [e]
        exact tree_pass hT t L (i + 1) out u hL' hlt h1 h2 h3
      · refine tree_pass hT t L (i + 1) _ (u ||| 2 ^ i) hL' hlt' (fun j hj => ?_) ?_ (fun v hv => ?_)
        · simp only [Nat.testBit_or, Nat.testBit_two_pow, Bool.or_eq_true, decide_eq_true_eq] at hj
          rcases hj with hj | rfl
          · exact h1 j hj
          · exact hc.1
        · have k1 := pcN_or_one t u i
          have k2 : pcN n out < pcN n (out ||| (2 ^ p.1 ||| 2 ^ p.2)) := by
            by_cases h : out.testBit p.1 = true
            · have h' : out.testBit p.2 = false := by
                cases hx : out.testBit p.2 with
                | false => rfl
                | true => exact absurd ⟨h, hx⟩ hb
              exact pcN_lt (fun j hj => or2_bit.2 (.inl hj)) hp.2 h' (or2_bit.2 (.inr (.inr rfl)))
            · have h' : out.testBit p.1 = false := by simpa using h
              exact pcN_lt (fun j hj => or2_bit.2 (.inl hj)) hp.1 h' (or2_bit.2 (.inr (.inl rfl)))
          omega
        · rcases or2_bit.1 hv with h | rfl | rfl
          · exact hmono v h
          · exact hboth.1
          · exact hboth.2
    · exact tree_pass hT t L (i + 1) out u hL' hlt h1 h2 h3

theorem tree_passes (hT : Inn n T) (t : Nat) (k : Nat) : ∀ (out u : Nat), (∀ v, out.testBit v = true → v < n) → (∀ j, u.testBit j = true → set.testBit j = true) → pcN t u + 1 ≤ pcN n out → (∀ v, out.testBit v = true → Con T u a v) →
    ∃ u', (∀ j, u'.testBit j = true → set.testBit j = true) ∧ pcN t u' + 1 ≤ pcN n (passes set T k out) ∧ ∀ v, (passes set T k out).testBit v = true → Con T u' a v := by
  induction k with
  | zero => exact fun out u _ h1 h2 h3 => ⟨u, h1, h2, h3⟩
  | succ k ih =>
    intro out u hlt h1 h2 h3
    obtain ⟨u1, a1, a2, a3⟩ := tree_pass hT t T 0 out u (fun j p h => by simpa using h) hlt h1 h2 h3
    exact ih _ u1 (pass_lt hT hlt) a1 a2 a3

/-- A set that joins holds a set of at most n - 1 threads that joins. -/
theorem tree (hT : Inn n T) (t : Nat) (ha : a < n) {b : Nat} (h : Con T set a b) : ∃ u, (∀ j, u.testBit j = true → set.testBit j = true) ∧ pcN t u + 1 ≤ n ∧ Con T u a b := by
  obtain ⟨u, h1, h2, h3⟩ := tree_passes hT t n (2 ^ a) 0 (fun v => one_lt ha) (fun j hj => by simp at hj) (by rw [pcN_zero]; exact pcN_one ha) (fun v hv => by simp only [Nat.testBit_two_pow, decide_eq_true_eq] at hv; subst hv; exact .base)
  exact ⟨u, h1, Nat.le_trans h2 (pcN_top _ _), h3 b ((reach_con hT ha).2 h)⟩
end

/-! ### The threads at a knot -/
theorem count_range {α : Type} (d : α) (f : α → Bool) : ∀ (T : List α) , ((List.range T.length).filter fun j => f (T.getD j d)).length = (T.filter f).length
  | [] => rfl
  | x :: T => by
    have ih := count_range d f T
    rw [List.length_cons, List.range_succ_eq_map, List.filter_cons, List.filter_cons]
    have e : (List.filter (fun j => f ((x :: T).getD j d)) (List.map Nat.succ (List.range T.length))).length = (T.filter f).length := by
      rw [List.filter_map, List.length_map, ← ih]
      rfl
    have e0 : f ((x :: T).getD 0 d) = f x := rfl
    rw [e0]
    split
    · rw [List.length_cons, List.length_cons, e]
    · exact e
theorem count_list {α : Type} (d : α) (f : α → Bool) (T : List α) (s : Nat) (h : ∀ j, j < T.length → s.testBit j = f (T.getD j d)) : pcN T.length s = (T.filter f).length := by
  rw [← count_range d f T]
  unfold pcN
  congr 1
  exact List.filter_congr fun j hj => h j (List.mem_range.1 hj)

def touch (a : Nat) (p : Nat × Nat) : Bool := p.1 == a || p.2 == a

section
variable {l : List Nat} {S : Nat}
theorem row_touch (a i : Nat) : ((thr1 l S i).filter (touch a)).length = if i = a then ((List.range i).filter fun k => Ed l S i k).length else if a < i ∧ Ed l S i a = true then 1 else 0 := by
  unfold thr1
  rw [List.filter_map, List.length_map]
  by_cases e : i = a
  · subst e
    rw [if_pos rfl]
    congr 1
    rw [List.filter_eq_self]
    intro k hk
    simp [touch]
  · rw [if_neg e]
    have e1 : (List.filter (touch a ∘ fun k => (k, i)) (List.filter (fun k => Ed l S i k) (List.range i))) = List.filter (fun k => k == a && Ed l S i k) (List.range i) := by
      rw [List.filter_filter]
      apply List.filter_congr
      intro k hk
      have : (i == a) = false := by simpa using e
      simp [touch, this]
    rw [e1]
    have key : ∀ m, (List.filter (fun k => k == a && Ed l S i k) (List.range m)).length = if a < m ∧ Ed l S i a = true then 1 else 0 := fun m => by
      induction m with
      | zero => simp
      | succ m ih =>
        rw [List.range_succ, List.filter_append, List.length_append, ih]
        by_cases e2 : m = a
        · subst e2
          cases hE : Ed l S i m <;> simp [hE]
        · have : (m == a) = false := by simpa using e2
          simp only [List.filter_cons, this, Bool.false_and, Bool.false_eq_true, if_false, List.filter_nil, List.length_nil, Nat.add_zero]
          by_cases h : a < m
          · simp [h, show a < m + 1 by omega]
          · simp [h, show ¬ a < m + 1 by omega]
    exact key i

theorem deg_upto (hs : Shop l) (a : Nat) (haS : S.testBit a = false) : ∀ m, (((List.range m).flatMap (thr1 l S)).filter (touch a)).length = if m ≤ a then 0 else ((List.range m).filter fun k => Ed l S a k).length
  | 0 => by simp
  | m + 1 => by
    have ih := deg_upto hs a haS m
    rw [List.range_succ, List.flatMap_append, List.filter_append, List.length_append, ih]
    have e1 : ([m].flatMap (thr1 l S)) = thr1 l S m := by simp
    rw [e1, row_touch, List.filter_append, List.length_append]
    have e2 : ((List.filter (fun k => Ed l S a k) [m]).length) = if Ed l S a m = true then 1 else 0 := by
      cases h : Ed l S a m <;> simp [h]
    rw [e2]
    rcases Nat.lt_trichotomy m a with h | rfl | h
    · simp only [show m ≤ a by omega, show ¬ m = a by omega, show ¬ a < m by omega, show m + 1 ≤ a by omega, if_true, if_false, false_and]
    · have : Ed l S m m = false := by unfold Ed; rw [hs.ir]; rfl
      simp only [Nat.le_refl, if_true, show ¬ m + 1 ≤ m by omega, if_false, this, Bool.false_eq_true, Nat.zero_add, Nat.add_zero]
    · simp only [show ¬ m ≤ a by omega, show ¬ m = a by omega, h, show ¬ m + 1 ≤ a by omega, if_false, true_and, Ed_sy hs m a]

/-- How many threads lie at a knot. -/
theorem deg (hs : Shop l) {a : Nat} (ha : a < l.length) (haS : S.testBit a = false) : ((thr l S).filter (touch a)).length = pcN l.length (dlN (l.getD a 0) S) := by
  unfold thr
  rw [deg_upto hs a haS, if_neg (by omega)]
  unfold pcN
  congr 1
  apply List.filter_congr
  intro k hk
  rw [dlN_bit]
  unfold Ed adj
  rw [haS]
  simp

/-- What is to be shown of Steps. -/
theorem steps_law (hs : Shop l) {a b : Nat} (ha : a < l.length) (hb : b < l.length) (hl : l.length ≤ 8) (ht : (thr l S).length ≤ 13) (haS : S.testBit a = false) (hbS : S.testBit b = false) (hne : a ≠ b) {J : Nat → Bool} (hJ : ∀ s, J s = true ↔ Con (thr l S) s a b) (hx : J (full (thr l S).length) = true)
    {k m : Nat} (hk : k = (stepsL J (thr l S).length (2 ^ (thr l S).length) 0 (thr l S).length (thr l S).length).1) (hm : m = (stepsL J (thr l S).length (2 ^ (thr l S).length) 0 (thr l S).length (thr l S).length).2) :
    1 ≤ k ∧ k < l.length ∧ 1 ≤ m ∧ m ≤ pcN l.length (dlN (l.getD a 0) S) ∧ m ≤ pcN l.length (dlN (l.getD b 0) S) ∧ (k = 1 ↔ adj l a b = true) := by
  have hd1 := deg (S := S) hs ha haS
  have hd2 := deg (S := S) hs hb hbS
  have hinn : Inn l.length (thr l S) := thr_inn
  have hmem : ∀ p q, (p, q) ∈ thr l S → Ed l S q p = true := fun p q h => (mem_thr.1 h).2.2
  have hedge : ∀ p q, p < q → q < l.length → Ed l S q p = true → (p, q) ∈ thr l S := fun p q h1 h2 h3 => mem_thr.2 ⟨h1, h2, h3⟩
  generalize thr l S = T at *
  have h0 : 0 < 2 ^ T.length := Nat.pow_pos (by decide)
  have hfl : full T.length < 2 ^ T.length := by unfold full; omega
  obtain ⟨⟨a1, a2, a3⟩, ⟨b1, b2, b3⟩⟩ := stepsL_spec (J := J) (t := T.length) (2 ^ T.length) 0 T.length T.length
  rw [← hk] at a1 a2 a3
  rw [← hm] at b1 b2 b3
  have sm : ∀ {s}, s < 2 ^ T.length → pcN 13 s = pcN T.length s := fun h => pcN_small h ht
  have a2' : ∀ s, s < 2 ^ T.length → J s = true → k ≤ pcN T.length s := fun s h1 h2 => by rw [← sm h1]; exact a2 s (Nat.zero_le _) (by simpa using h1) h2
  have b2' : ∀ s, s < 2 ^ T.length → J s = false → m ≤ T.length - pcN T.length s := fun s h1 h2 => by rw [← sm h1]; exact b2 s (Nat.zero_le _) (by simpa using h1) h2
  have hfp : pcN T.length (full T.length) = T.length := pcN_full fun j hj => by rw [full_bit]; simpa using hj
  have a3' : ∃ s, s < 2 ^ T.length ∧ J s = true ∧ k = pcN T.length s := by
    rcases a3 with a3 | ⟨s, _, h2, h3, h4⟩
    · exact ⟨full T.length, hfl, hx, by rw [hfp]; exact a3⟩
    · have h2 : s < 2 ^ T.length := by simpa using h2
      exact ⟨s, h2, h3, by rw [h4, sm h2]⟩
  clear a3
  -- a set without threads does not join
  have nojoin : ∀ s, (∀ j, j < T.length → s.testBit j = false) → ¬ Con T s a b := fun s hs0 hc => by
    have := con_least (S := fun v => v = a) (fun i p q hi hs1 _ => by
      have hlt : i < T.length := (List.getElem?_eq_some_iff.1 hi).1
      rw [hs0 i hlt] at hs1; cases hs1) rfl hc
    exact hne this.symm
  have zero_bits : ∀ s, pcN T.length s = 0 → ∀ j, j < T.length → s.testBit j = false := fun s h j hj => by
    cases hbj : s.testBit j with
    | false => rfl
    | true =>
      have := pcN_lt (n := T.length) (s := 0) (t := s) (fun j hj => by simp at hj) hj (by simp) hbj
      omega
  have hk1 : 1 ≤ k := by
    obtain ⟨s, h1, h2, h3⟩ := a3'
    rcases Nat.eq_zero_or_pos k with h | h
    · exact absurd ((hJ s).1 h2) (nojoin s (zero_bits s (by omega)))
    · exact h
  have hkn : k < l.length := by
    obtain ⟨u, h1, h2, h3⟩ := tree hinn T.length ha ((hJ _).1 hx)
    obtain ⟨u', g1, g2⟩ := mask (fun j => u.testBit j) T.length
    have hp : pcN T.length u' = pcN T.length u := pcN_congr fun j hj => by rw [g2]; simp [hj]
    have hc : Con T u' a b := con_mono (fun j hj => by
      have := h1 j hj
      rw [full_bit] at this
      rw [g2, this, hj]; rfl) h3
    have := a2' u' g1 ((hJ _).2 hc)
    omega
  have hm1 : 1 ≤ m := by
    have ht1 : 1 ≤ T.length := Nat.le_trans hk1 a1
    rcases b3 with b3 | ⟨s, _, h2, h3, h4⟩
    · omega
    · have h2 : s < 2 ^ T.length := by simpa using h2
      rw [sm h2] at h4
      have hne2 : pcN T.length s ≠ T.length := fun e => by
        have hall := pcN_all e
        have : Con T s a b := con_mono (fun j hj => by
          rw [full_bit] at hj
          exact hall j (by simpa using hj)) ((hJ _).1 hx)
        rw [(hJ s).2 this] at h3; cases h3
      have := pcN_top T.length s
      omega
  clear b3
  have hcut : ∀ c, (c = a ∨ c = b) → m ≤ (T.filter (touch c)).length := fun c hc => by
    obtain ⟨s, g1, g2⟩ := mask (fun j => !touch c (T.getD j (0, 0))) T.length
    have hcnt : pcN T.length s + (T.filter (touch c)).length = T.length := by
      rw [count_list (0, 0) (fun p => !touch c p) T s (fun j hj => by rw [g2]; simp [hj])]
      have key : ∀ (T : List (Nat × Nat)), (T.filter fun p => !touch c p).length + (T.filter (touch c)).length = T.length := fun T => by
        induction T with
        | nil => rfl
        | cons x T ih => cases hx : touch c x <;> simp [List.filter_cons, hx] <;> omega
      exact key T
    have hno : J s = false := by
      cases hJs : J s with
      | false => rfl
      | true =>
        have hc2 := (hJ s).1 hJs
        have away : ∀ i p q, T[i]? = some (p, q) → s.testBit i = true → p ≠ c ∧ q ≠ c := fun i p q hi hsi => by
          rw [g2] at hsi
          simp only [Bool.and_eq_true, decide_eq_true_eq, List.getD_eq_getElem?_getD, hi, Option.getD_some, touch, Bool.not_eq_true', Bool.or_eq_false_iff, beq_eq_false_iff_ne] at hsi
          exact hsi.2
        rcases hc with rfl | rfl
        · have := con_least (S := fun v => v = c) (fun i p q hi hsi h => by have := away i p q hi hsi; omega) rfl hc2
          exact absurd this.symm hne
        · have := con_least (S := fun v => v ≠ c) (fun i p q hi hsi h => away i p q hi hsi) hne hc2
          exact absurd rfl this
    have := b2' s g1 hno
    omega
  refine ⟨hk1, hkn, hm1, by rw [← hd1]; exact hcut a (.inl rfl), by rw [← hd2]; exact hcut b (.inr rfl), ?_⟩
  constructor
  · intro hk2
    obtain ⟨s, h1, h2, h3⟩ := a3'
    have hc := (hJ s).1 h2
    -- the one thread
    have hone : ∃ i, i < T.length ∧ ∀ j, j < T.length → s.testBit j = true → j = i := by
      apply Classical.byContradiction
      intro hno
      have hex : ∃ i, i < T.length ∧ s.testBit i = true := by
        apply Classical.byContradiction
        intro hno2
        exact nojoin s (fun j hj => by
          cases hbj : s.testBit j with
          | false => rfl
          | true => exact absurd ⟨j, hj, hbj⟩ hno2) hc
      obtain ⟨i, hi, hbi⟩ := hex
      have hex2 : ∃ j, j < T.length ∧ s.testBit j = true ∧ j ≠ i := by
        apply Classical.byContradiction
        intro hno2
        exact hno ⟨i, hi, fun j hj hbj => Classical.byContradiction fun hji => hno2 ⟨j, hj, hbj, hji⟩⟩
      obtain ⟨j, hj, hbj, hji⟩ := hex2
      have e1 := pcN_lt (n := T.length) (s := 0) (t := 2 ^ i) (fun j hj => by simp at hj) hi (by simp) (by simp)
      have e2 := pcN_lt (n := T.length) (s := 2 ^ i) (t := s) (fun x hx => by
        simp only [Nat.testBit_two_pow, decide_eq_true_eq] at hx; subst hx; exact hbi) hj (by simp [Nat.testBit_two_pow]; omega) hbj
      omega
    obtain ⟨i, hi, hall⟩ := hone
    obtain ⟨⟨p, q⟩, hT⟩ : ∃ x, T[i]? = some x := ⟨T[i], List.getElem?_eq_getElem hi⟩
    have hE := hmem p q (List.mem_of_getElem? hT)
    have hEa : adj l q p = true := by unfold Ed at hE; simp at hE; exact hE.1.1
    -- a is p or q, and b is the other one
    have hab : (a = p ∨ a = q) := by
      apply Classical.byContradiction
      intro hno
      have := con_least (S := fun v => v = a) (fun i' p' q' hi' hsi h => by
        have hlt : i' < T.length := (List.getElem?_eq_some_iff.1 hi').1
        have e := hall i' hlt hsi
        subst e
        rw [hT] at hi'; cases hi'
        omega) rfl hc
      exact hne this.symm
    have hba : (b = p ∨ b = q) := by
      have := con_least (S := fun v => v = p ∨ v = q) (fun i' p' q' hi' hsi h => by
        have hlt : i' < T.length := (List.getElem?_eq_some_iff.1 hi').1
        have e := hall i' hlt hsi
        subst e
        rw [hT] at hi'; cases hi'
        exact ⟨.inl rfl, .inr rfl⟩) hab hc
      exact this
    rcases hab with rfl | rfl <;> rcases hba with rfl | rfl
    · exact absurd rfl hne
    · rw [hs.sy]; exact hEa
    · exact hEa
    · exact absurd rfl hne
  · intro hadj
    have hE : Ed l S a b = true := by unfold Ed; simp [hadj, haS, hbS]
    have hex : ∃ (i p q : Nat), T[i]? = some (p, q) ∧ ((a = p ∧ b = q) ∨ (a = q ∧ b = p)) := by
      rcases Nat.lt_trichotomy a b with h | h | h
      · obtain ⟨i, hi, hg⟩ := List.getElem_of_mem (hedge a b h hb (by rw [Ed_sy hs]; exact hE))
        exact ⟨i, a, b, by rw [List.getElem?_eq_getElem hi, hg], .inl ⟨rfl, rfl⟩⟩
      · exact absurd h hne
      · obtain ⟨i, hi, hg⟩ := List.getElem_of_mem (hedge b a h ha hE)
        exact ⟨i, b, a, by rw [List.getElem?_eq_getElem hi, hg], .inr ⟨rfl, rfl⟩⟩
    obtain ⟨i, p, q, hT, hpq⟩ := hex
    have hi : i < T.length := (List.getElem?_eq_some_iff.1 hT).1
    have hc : Con T (2 ^ i) a b := by
      rcases hpq with ⟨rfl, rfl⟩ | ⟨rfl, rfl⟩
      · exact .step .base hT (by simp) (.inl rfl) (.inr rfl)
      · exact .step .base hT (by simp) (.inr rfl) (.inl rfl)
    have h1 := a2' (2 ^ i) (Nat.pow_lt_pow_right (by decide) hi) ((hJ _).2 hc)
    have h2 := pcN_or_one T.length 0 i
    rw [pcN_zero] at h2
    simp only [Nat.zero_or] at h2
    omega
end
end Go.X
