/-! Sets of threads: who is joined. Plain. -/
set_option linter.unusedSimpArgs false
set_option linter.unusedVariables false
namespace Go.X

/-- How many of the first n are in a set. -/
def pcN (n s : Nat) : Nat := ((List.range n).filter fun j => s.testBit j).length

theorem filtN_le {p q : Nat → Bool} (h : ∀ j, p j = true → q j = true) : ∀ (l : List Nat), (l.filter p).length ≤ (l.filter q).length
  | [] => Nat.le_refl _
  | a :: l => by
    have ih := filtN_le h l
    cases hp : p a with
    | false =>
      cases hq : q a with
      | false => simpa [List.filter_cons, hp, hq] using ih
      | true => simp only [List.filter_cons, hp, hq, Bool.false_eq_true, if_false, if_true, List.length_cons]; omega
    | true => simp only [List.filter_cons, hp, h a hp, if_true, List.length_cons]; omega
theorem filtN_lt {p q : Nat → Bool} (h : ∀ j, p j = true → q j = true) {k : Nat} (hk : p k = false ∧ q k = true) : ∀ (l : List Nat), k ∈ l → (l.filter p).length < (l.filter q).length
  | [], hm => by cases hm
  | a :: l, hm => by
    have hle := filtN_le h l
    by_cases e : a = k
    · subst e
      simp only [List.filter_cons, hk.1, hk.2, Bool.false_eq_true, if_false, if_true, List.length_cons]; omega
    · have ih := filtN_lt h hk l (by rcases List.mem_cons.1 hm with hm | hm; exact absurd hm.symm e; exact hm)
      cases hp : p a with
      | false =>
        cases hq : q a with
        | false => simpa [List.filter_cons, hp, hq] using ih
        | true => simp only [List.filter_cons, hp, hq, Bool.false_eq_true, if_false, if_true, List.length_cons]; omega
      | true => simp only [List.filter_cons, hp, h a hp, if_true, List.length_cons]; omega
theorem pcN_le {n s t : Nat} (h : ∀ j, s.testBit j = true → t.testBit j = true) : pcN n s ≤ pcN n t := filtN_le h _
theorem pcN_lt {n s t k : Nat} (h : ∀ j, s.testBit j = true → t.testBit j = true) (hk : k < n) (h1 : s.testBit k = false) (h2 : t.testBit k = true) : pcN n s < pcN n t := filtN_lt h ⟨h1, h2⟩ _ (List.mem_range.2 hk)
theorem pcN_top (n s : Nat) : pcN n s ≤ n := by
  have := List.length_filter_le (fun j => s.testBit j) (List.range n)
  simpa [pcN] using this

/-- One pass over the threads of a set. -/
def pass (set : Nat) : Nat → List (Nat × Nat) → Nat → Nat
  | _, [], out => out
  | i, p :: T, out => pass set (i + 1) T (if set.testBit i = true ∧ (out.testBit p.1 = true ∨ out.testBit p.2 = true) then out ||| (2 ^ p.1 ||| 2 ^ p.2) else out)
def passes (set : Nat) (T : List (Nat × Nat)) : Nat → Nat → Nat
  | 0, out => out
  | k + 1, out => passes set T k (pass set 0 T out)
def reachN (n : Nat) (T : List (Nat × Nat)) (set a : Nat) : Nat := passes set T n (2 ^ a)

inductive Con (T : List (Nat × Nat)) (set a : Nat) : Nat → Prop
  | base : Con T set a a
  | step {i p q v w : Nat} : Con T set a v → T[i]? = some (p, q) → set.testBit i = true → (v = p ∨ v = q) → (w = p ∨ w = q) → Con T set a w

def Closed (T : List (Nat × Nat)) (set : Nat) (S : Nat → Prop) : Prop := ∀ i p q, T[i]? = some (p, q) → set.testBit i = true → (S p ∨ S q) → S p ∧ S q

section
variable {T : List (Nat × Nat)} {set a b c n : Nat}
theorem con_closed : Closed T set (Con T set a) := fun i p q h hs h2 => by
  rcases h2 with h2 | h2
  · exact ⟨h2, .step h2 h hs (.inl rfl) (.inr rfl)⟩
  · exact ⟨.step h2 h hs (.inr rfl) (.inl rfl), h2⟩
theorem con_least {S : Nat → Prop} (hS : Closed T set S) (ha : S a) {v : Nat} (h : Con T set a v) : S v := by
  induction h with
  | base => exact ha
  | step h1 h2 h3 h4 h5 ih =>
    have := hS _ _ _ h2 h3 (by rcases h4 with rfl | rfl; exact .inl ih; exact .inr ih)
    rcases h5 with rfl | rfl
    · exact this.1
    · exact this.2
theorem con_mono {s' : Nat} (h : ∀ j, set.testBit j = true → s'.testBit j = true) {v : Nat} (hc : Con T set a v) : Con T s' a v := by
  induction hc with
  | base => exact .base
  | step h1 h2 h3 h4 h5 ih => exact .step ih h2 (h _ h3) h4 h5
theorem con_trans (h : Con T set a b) (k : Con T set b c) : Con T set a c := con_least con_closed h k
theorem con_symm (h : Con T set a b) : Con T set b a :=
  con_least (S := fun v => Con T set v a) (fun i p q h1 h2 h3 => by
    have e1 : Con T set p q := .step .base h1 h2 (.inl rfl) (.inr rfl)
    have e2 : Con T set q p := .step .base h1 h2 (.inr rfl) (.inl rfl)
    rcases h3 with h3 | h3
    · exact ⟨h3, con_trans e2 h3⟩
    · exact ⟨con_trans e1 h3, h3⟩) .base h

theorem or2_bit {out p q v : Nat} : (out ||| (2 ^ p ||| 2 ^ q)).testBit v = true ↔ out.testBit v = true ∨ v = p ∨ v = q := by
  simp only [Nat.testBit_or, Bool.or_eq_true, Nat.testBit_two_pow, decide_eq_true_eq]
  constructor
  · rintro (h | h | h)
    · exact .inl h
    · exact .inr (.inl h.symm)
    · exact .inr (.inr h.symm)
  · rintro (h | h | h)
    · exact .inl h
    · exact .inr (.inl h.symm)
    · exact .inr (.inr h.symm)

theorem pass_ge : ∀ (L : List (Nat × Nat)) (i out : Nat) {v : Nat}, out.testBit v = true → (pass set i L out).testBit v = true
  | [], i, out, v, h => h
  | p :: L, i, out, v, h => by
    refine pass_ge L (i + 1) _ ?_
    split
    · exact or2_bit.2 (.inl h)
    · exact h
theorem pass_sound {S : Nat → Prop} (hS : Closed T set S) : ∀ (L : List (Nat × Nat)) (i out : Nat), (∀ j p, L[j]? = some p → T[i + j]? = some p) → (∀ v, out.testBit v = true → S v) → ∀ v, (pass set i L out).testBit v = true → S v
  | [], i, out, hL, ho => ho
  | p :: L, i, out, hL, ho => by
    refine pass_sound hS L (i + 1) _ (fun j q hq => ?_) ?_
    · have := hL (j + 1) q (by simpa using hq)
      rwa [show i + (j + 1) = i + 1 + j by omega] at this
    · split
      · next hc =>
        intro v hv
        rcases or2_bit.1 hv with hv | hv
        · exact ho v hv
        · have := hS i p.1 p.2 (by simpa using hL 0 p rfl) hc.1 (by rcases hc.2 with h | h; exact .inl (ho _ h); exact .inr (ho _ h))
          rcases hv with rfl | rfl
          · exact this.1
          · exact this.2
      · exact ho
theorem pass_fix : ∀ (L : List (Nat × Nat)) (i out : Nat), (∀ v, (pass set i L out).testBit v = true → out.testBit v = true) → ∀ j p q, L[j]? = some (p, q) → set.testBit (i + j) = true → (out.testBit p = true ∨ out.testBit q = true) → out.testBit p = true ∧ out.testBit q = true
  | [], i, out, h, j, p, q, hj, _, _ => by simp at hj
  | x :: L, i, out, h, j, p, q, hj, hs, hv => by
    have hge : ∀ v, out.testBit v = true → (if set.testBit i = true ∧ (out.testBit x.1 = true ∨ out.testBit x.2 = true) then out ||| (2 ^ x.1 ||| 2 ^ x.2) else out).testBit v = true := fun v hv => by
      split
      · exact or2_bit.2 (.inl hv)
      · exact hv
    have hle : ∀ v, (if set.testBit i = true ∧ (out.testBit x.1 = true ∨ out.testBit x.2 = true) then out ||| (2 ^ x.1 ||| 2 ^ x.2) else out).testBit v = true → out.testBit v = true := fun v hv => h v (pass_ge L (i + 1) _ hv)
    have e : (if set.testBit i = true ∧ (out.testBit x.1 = true ∨ out.testBit x.2 = true) then out ||| (2 ^ x.1 ||| 2 ^ x.2) else out) = out := by
      apply Nat.eq_of_testBit_eq
      intro v
      exact Bool.eq_iff_iff.2 ⟨hle v, hge v⟩
    match j, hj with
    | 0, hj =>
      simp at hj
      subst hj
      have hc : set.testBit i = true ∧ (out.testBit p = true ∨ out.testBit q = true) := ⟨by simpa using hs, hv⟩
      simp only [hc, and_self, if_true] at hle
      exact ⟨hle p (or2_bit.2 (.inr (.inl rfl))), hle q (or2_bit.2 (.inr (.inr rfl)))⟩
    | j + 1, hj =>
      refine pass_fix L (i + 1) out (fun v hv => h v ?_) j p q (by simpa using hj) (by rw [show i + 1 + j = i + (j + 1) by omega]; exact hs) hv
      show (pass set (i + 1) L _).testBit v = true
      rw [e]; exact hv

def Inn (n : Nat) (T : List (Nat × Nat)) : Prop := ∀ p ∈ T, p.1 < n ∧ p.2 < n
theorem pass_lt (hT : Inn n T) {out : Nat} (ho : ∀ v, out.testBit v = true → v < n) : ∀ v, (pass set 0 T out).testBit v = true → v < n :=
  pass_sound (T := T) (S := fun v => v < n) (fun i p q h _ _ => hT _ (List.mem_of_getElem? h)) T 0 out (fun j p h => by simpa using h) ho

theorem passes_ge (k : Nat) : ∀ {out v : Nat}, out.testBit v = true → (passes set T k out).testBit v = true := by
  induction k with
  | zero => exact id
  | succ k ih => exact fun h => ih (pass_ge T 0 _ h)
theorem passes_sound {S : Nat → Prop} (hS : Closed T set S) (k : Nat) : ∀ {out : Nat}, (∀ v, out.testBit v = true → S v) → ∀ v, (passes set T k out).testBit v = true → S v := by
  induction k with
  | zero => exact fun h => h
  | succ k ih => exact fun h => ih (pass_sound hS T 0 _ (fun j p h => by simpa using h) h)
theorem fix_passes (k : Nat) {out : Nat} (h : pass set 0 T out = out) : passes set T k out = out := by
  induction k with
  | zero => rfl
  | succ k ih => show passes set T k (pass set 0 T out) = out; rw [h, ih]
theorem passes_fix (hT : Inn n T) (k : Nat) : ∀ {out : Nat}, (∀ v, out.testBit v = true → v < n) → n ≤ pcN n out + k → pass set 0 T (passes set T k out) = passes set T k out := by
  induction k with
  | zero =>
    intro out ho hn
    apply Nat.eq_of_testBit_eq
    intro v
    refine Bool.eq_iff_iff.2 ⟨fun hv => ?_, fun hv => pass_ge T 0 out hv⟩
    have hlt := pass_lt hT ho v hv
    cases hb : out.testBit v with
    | true => exact hb
    | false =>
      have := pcN_lt (n := n) (s := out) (t := pass set 0 T out) (fun j hj => pass_ge T 0 out hj) hlt hb hv
      have := pcN_top n (pass set 0 T out)
      omega
  | succ k ih =>
    intro out ho hn
    by_cases e : pass set 0 T out = out
    · show pass set 0 T (passes set T k (pass set 0 T out)) = passes set T k (pass set 0 T out)
      rw [e, fix_passes k e, e]
    · have hex : ∃ v, (pass set 0 T out).testBit v = true ∧ out.testBit v = false := by
        apply Classical.byContradiction
        intro hno
        refine e (Nat.eq_of_testBit_eq fun v => Bool.eq_iff_iff.2 ⟨fun hv => ?_, fun hv => pass_ge T 0 out hv⟩)
        cases hb : out.testBit v with
        | true => rfl
        | false => exact absurd ⟨v, hv, hb⟩ hno
      obtain ⟨v, h1, h2⟩ := hex
      have := pcN_lt (n := n) (s := out) (t := pass set 0 T out) (fun j hj => pass_ge T 0 out hj) (pass_lt hT ho v h1) h2 h1
      exact ih (pass_lt hT ho) (by omega)
theorem closed_of_fix {out : Nat} (h : pass set 0 T out = out) : Closed T set fun v => out.testBit v = true := fun i p q hi hs hv =>
  pass_fix T 0 out (fun v hv => by rwa [h] at hv) i p q hi (by simpa using hs) hv

theorem one_lt {a v : Nat} (ha : a < n) (h : (2 ^ a).testBit v = true) : v < n := by
  simp only [Nat.testBit_two_pow, decide_eq_true_eq] at h; omega
theorem pcN_one {a : Nat} (ha : a < n) : 1 ≤ pcN n (2 ^ a) := by
  have h0 : pcN n 0 < pcN n (2 ^ a) := pcN_lt (k := a) (fun j hj => by simp at hj) ha (by simp) (by simp)
  omega

theorem reach_fix (hT : Inn n T) (ha : a < n) : pass set 0 T (reachN n T set a) = reachN n T set a :=
  passes_fix hT n (fun v => one_lt ha) (by omega)

/-- Who is reached. -/
theorem reach_con (hT : Inn n T) (ha : a < n) {v : Nat} : (reachN n T set a).testBit v = true ↔ Con T set a v := by
  constructor
  · exact passes_sound con_closed n (fun v hv => by simp only [Nat.testBit_two_pow, decide_eq_true_eq] at hv; subst hv; exact .base) v
  · intro h
    exact con_least (closed_of_fix (reach_fix hT ha)) (passes_ge n (by simp)) h
theorem reach_lt (hT : Inn n T) (ha : a < n) : reachN n T set a < 2 ^ n := by
  refine Nat.lt_pow_two_of_testBit _ fun v hv => ?_
  cases hb : (reachN n T set a).testBit v with
  | false => rfl
  | true =>
    have := passes_sound (T := T) (set := set) (S := fun v => v < n) (fun i p q h _ _ => hT _ (List.mem_of_getElem? h)) n (out := 2 ^ a) (fun v => one_lt ha) v hb
    omega
end
end Go.X
