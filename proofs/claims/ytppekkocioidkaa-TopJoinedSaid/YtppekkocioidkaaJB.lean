import Derived.Test.YtppekkocioidkaaJA
/-! Parts of a shop, threads of hats, few and cut. Plain. -/
set_option linter.unusedSimpArgs false
set_option linter.unusedVariables false
namespace Go.X

theorem pcN_succ (n s : Nat) : pcN (n + 1) s = pcN n s + if s.testBit n = true then 1 else 0 := by
  unfold pcN
  rw [List.range_succ, List.filter_append, List.length_append]
  by_cases h : s.testBit n = true
  · simp [h]
  · simp [h]
theorem pcN_zero (n : Nat) : pcN n 0 = 0 := by induction n with
  | zero => rfl
  | succ n ih => rw [pcN_succ, ih]; simp
theorem pcN_congr {n s t : Nat} (h : ∀ j, j < n → s.testBit j = t.testBit j) : pcN n s = pcN n t := by
  unfold pcN
  congr 1
  exact List.filter_congr fun j hj => h j (List.mem_range.1 hj)
theorem pcN_or_one (n s i : Nat) : pcN n (s ||| 2 ^ i) ≤ pcN n s + 1 := by
  have key : ∀ n, n ≤ i → pcN n (s ||| 2 ^ i) = pcN n s := fun n hn => pcN_congr fun j hj => by
    simp [Nat.testBit_or, Nat.testBit_two_pow, show ¬ i = j by omega]
  induction n with
  | zero => simp [pcN]
  | succ n ih =>
    by_cases e : n = i
    · subst e
      rw [pcN_succ, pcN_succ, key n (Nat.le_refl _)]
      simp
    · rw [pcN_succ, pcN_succ]
      have : (s ||| 2 ^ i).testBit n = s.testBit n := by simp [Nat.testBit_or, Nat.testBit_two_pow, show ¬ i = n from fun h => e h.symm]
      rw [this]; omega
theorem pcN_full {n s : Nat} (h : ∀ j, j < n → s.testBit j = true) : pcN n s = n := by
  induction n with
  | zero => rfl
  | succ n ih => rw [pcN_succ, ih (fun j hj => h j (by omega)), if_pos (h n (by omega))]
theorem pcN_all {n s : Nat} (h : pcN n s = n) : ∀ j, j < n → s.testBit j = true := by
  induction n with
  | zero => intro j hj; omega
  | succ n ih =>
    rw [pcN_succ] at h
    have := pcN_top n s
    by_cases hb : s.testBit n = true
    · rw [if_pos hb] at h
      intro j hj
      by_cases e : j = n
      · subst e; exact hb
      · exact ih (by omega) j (by omega)
    · rw [if_neg hb] at h; omega

theorem mask (f : Nat → Bool) : ∀ t, ∃ s, s < 2 ^ t ∧ ∀ j, s.testBit j = (decide (j < t) && f j)
  | 0 => ⟨0, by simp, fun j => by simp⟩
  | t + 1 => by
    obtain ⟨s, h1, h2⟩ := mask f t
    cases hf : f t with
    | false =>
      refine ⟨s, by rw [Nat.pow_succ]; omega, fun j => ?_⟩
      rw [h2]
      by_cases e : j = t
      · subst e; simp [hf]
      · simp [show (j < t + 1 ↔ j < t) by omega]
    | true =>
      refine ⟨s ||| 2 ^ t, Nat.or_lt_two_pow (by rw [Nat.pow_succ]; omega) (by rw [Nat.pow_succ]; have := Nat.pow_pos (n := t) (show 0 < 2 by omega); omega), fun j => ?_⟩
      rw [Nat.testBit_or, h2, Nat.testBit_two_pow]
      by_cases e : j = t
      · subst e; simp [hf]
      · simp [show (j < t + 1 ↔ j < t) by omega, show ¬ t = j from fun h => e h.symm]

/-! ### A map that makes sets larger, again and again -/
def iter (f : Nat → Nat) : Nat → Nat → Nat
  | 0, x => x
  | k + 1, x => iter f k (f x)
theorem iter_id {f : Nat → Nat} (k : Nat) {x : Nat} (h : f x = x) : iter f k x = x := by
  induction k with
  | zero => rfl
  | succ k ih => show iter f k (f x) = x; rw [h, ih]
theorem iter_inv {f : Nat → Nat} {Q : Nat → Prop} (hf : ∀ x, Q x → Q (f x)) (k : Nat) : ∀ {x : Nat}, Q x → Q (iter f k x) := by
  induction k with
  | zero => exact fun h => h
  | succ k ih => exact fun h => ih (hf _ h)
theorem iter_fix {f : Nat → Nat} {n : Nat} {B : Nat → Prop} (hB : ∀ v, B v → v < n) (hge : ∀ x v, x.testBit v = true → (f x).testBit v = true) (hin : ∀ x, (∀ v, x.testBit v = true → B v) → ∀ v, (f x).testBit v = true → B v) (k : Nat) :
    ∀ {x : Nat}, (∀ v, x.testBit v = true → B v) → n ≤ pcN n x + k → f (iter f k x) = iter f k x := by
  induction k with
  | zero =>
    intro x ho hn
    apply Nat.eq_of_testBit_eq
    intro v
    refine Bool.eq_iff_iff.2 ⟨fun hv => ?_, fun hv => hge x v hv⟩
    have hlt := hB v (hin x ho v hv)
    cases hb : x.testBit v with
    | true => exact hb
    | false =>
      have := pcN_lt (n := n) (s := x) (t := f x) (fun j hj => hge x j hj) hlt hb hv
      have := pcN_top n (f x)
      omega
  | succ k ih =>
    intro x ho hn
    by_cases e : f x = x
    · show f (iter f k (f x)) = iter f k (f x)
      rw [e, iter_id k e, e]
    · have hex : ∃ v, (f x).testBit v = true ∧ x.testBit v = false := by
        apply Classical.byContradiction
        intro hno
        refine e (Nat.eq_of_testBit_eq fun v => Bool.eq_iff_iff.2 ⟨fun hv => ?_, fun hv => hge x v hv⟩)
        cases hb : x.testBit v with
        | true => rfl
        | false => exact absurd ⟨v, hv, hb⟩ hno
      obtain ⟨v, h1, h2⟩ := hex
      have := pcN_lt (n := n) (s := x) (t := f x) (fun j hj => hge x j hj) (hB v (hin x ho v h1)) h2 h1
      exact ih (hin x ho) (by omega)

/-! ### Hats that go with each other -/
def adj (l : List Nat) (i k : Nat) : Bool := (l.getD i 0).testBit k
def Ed (l : List Nat) (S i k : Nat) : Bool := adj l i k && !S.testBit i && !S.testBit k
/-- Threads of hats that go with each other, without some of them. -/
def thr1 (l : List Nat) (S i : Nat) : List (Nat × Nat) := ((List.range i).filter fun k => Ed l S i k).map fun k => (k, i)
def thr (l : List Nat) (S : Nat) : List (Nat × Nat) := (List.range l.length).flatMap (thr1 l S)

structure Shop (l : List Nat) : Prop where
  lt : ∀ i k, adj l i k = true → i < l.length ∧ k < l.length
  ir : ∀ i, adj l i i = false
  sy : ∀ i k, adj l i k = adj l k i

section
variable {l : List Nat} {S : Nat}
theorem Ed_sy (h : Shop l) (i k : Nat) : Ed l S i k = Ed l S k i := by
  unfold Ed
  rw [h.sy i k]
  cases adj l k i <;> cases S.testBit i <;> cases S.testBit k <;> rfl
theorem mem_thr {p q : Nat} : (p, q) ∈ thr l S ↔ p < q ∧ q < l.length ∧ Ed l S q p = true := by
  simp only [thr, thr1, List.mem_flatMap, List.mem_range, List.mem_map, List.mem_filter, Prod.mk.injEq]
  constructor
  · rintro ⟨i, hi, k, ⟨hk, he⟩, rfl, rfl⟩; exact ⟨hk, hi, he⟩
  · rintro ⟨h1, h2, h3⟩; exact ⟨q, h2, p, ⟨h1, h3⟩, rfl, rfl⟩
theorem thr_inn : Inn l.length (thr l S) := fun p hp => by
  obtain ⟨p, q⟩ := p
  have := mem_thr.1 hp
  simp only; omega

def full (t : Nat) : Nat := 2 ^ t - 1
theorem full_bit (t j : Nat) : (full t).testBit j = decide (j < t) := by
  unfold full; rw [Nat.testBit_two_pow_sub_one]

/-- Joined when all threads hold. -/
def Conn (l : List Nat) (S a : Nat) : Nat → Prop := Con (thr l S) (full (thr l S).length) a

theorem closed_full {X : Nat → Prop} (hs : Shop l) : Closed (thr l S) (full (thr l S).length) X ↔ ∀ p q, Ed l S p q = true → X p → X q := by
  constructor
  · intro h p q he hp
    have hlt := hs.lt p q (by unfold Ed at he; simp at he; exact he.1.1)
    rcases Nat.lt_trichotomy p q with hpq | rfl | hpq
    · have hm : (p, q) ∈ thr l S := mem_thr.2 ⟨hpq, hlt.2, by rw [Ed_sy hs]; exact he⟩
      obtain ⟨i, hi, hg⟩ := List.getElem_of_mem hm
      exact (h i p q (by rw [List.getElem?_eq_getElem hi, hg]) (by rw [full_bit]; simpa using hi) (.inl hp)).2
    · exact hp
    · have hm : (q, p) ∈ thr l S := mem_thr.2 ⟨hpq, hlt.1, he⟩
      obtain ⟨i, hi, hg⟩ := List.getElem_of_mem hm
      exact (h i q p (by rw [List.getElem?_eq_getElem hi, hg]) (by rw [full_bit]; simpa using hi) (.inr hp)).1
  · intro h i p q hi _ hv
    have hm := mem_thr.1 (List.mem_of_getElem? hi)
    rcases hv with hv | hv
    · exact ⟨hv, h p q (by rw [Ed_sy hs]; exact hm.2.2) hv⟩
    · exact ⟨h q p hm.2.2 hv, hv⟩
theorem conn_ed (hs : Shop l) {a p q : Nat} (h : Conn l S a p) (he : Ed l S p q = true) : Conn l S a q := (closed_full hs).1 con_closed p q he h
theorem conn_least (hs : Shop l) {X : Nat → Prop} {a v : Nat} (hX : ∀ p q, Ed l S p q = true → X p → X q) (ha : X a) (h : Conn l S a v) : X v := con_least ((closed_full hs).2 hX) ha h

/-! ### Parts -/
def gpass (left : Nat) : Nat → List Nat → Nat → Nat
  | _, [], part => part
  | i, x :: L, part => gpass left (i + 1) L (if part.testBit i = true then part ||| (x &&& left) else part)
theorem gpass_ge {left : Nat} : ∀ (L : List Nat) (i part : Nat) {v : Nat}, part.testBit v = true → (gpass left i L part).testBit v = true
  | [], i, part, v, h => h
  | x :: L, i, part, v, h => by
    refine gpass_ge L (i + 1) _ ?_
    split
    · simp [h]
    · exact h
theorem gpass_sound {left : Nat} {X : Nat → Prop} (hX : ∀ i v, X i → adj l i v = true → left.testBit v = true → X v) : ∀ (L : List Nat) (i part : Nat), (∀ j, j < L.length → L.getD j 0 = l.getD (i + j) 0) → (∀ v, part.testBit v = true → X v) → ∀ v, (gpass left i L part).testBit v = true → X v
  | [], i, part, hL, ho => ho
  | x :: L, i, part, hL, ho => by
    refine gpass_sound hX L (i + 1) _ (fun j hj => ?_) ?_
    · have := hL (j + 1) (by simpa using hj)
      rw [show i + (j + 1) = i + 1 + j by omega] at this
      simpa using this
    · split
      · next hc =>
        intro v hv
        simp only [Nat.testBit_or, Nat.testBit_and, Bool.or_eq_true, Bool.and_eq_true] at hv
        rcases hv with hv | ⟨h1, h2⟩
        · exact ho v hv
        · have e : x = l.getD i 0 := by simpa using hL 0 (by simp)
          exact hX i v (ho i hc) (by unfold adj; rw [← e]; exact h1) h2
      · exact ho
theorem gpass_fix {left : Nat} : ∀ (L : List Nat) (i part : Nat), (∀ v, (gpass left i L part).testBit v = true → part.testBit v = true) → ∀ j v, j < L.length → part.testBit (i + j) = true → (L.getD j 0).testBit v = true → left.testBit v = true → part.testBit v = true
  | [], i, part, h, j, v, hj, _, _, _ => by simp at hj
  | x :: L, i, part, h, j, v, hj, hp, hx, hl => by
    have hge : ∀ v, part.testBit v = true → (if part.testBit i = true then part ||| (x &&& left) else part).testBit v = true := fun v hv => by
      split
      · simp [hv]
      · exact hv
    have hle : ∀ v, (if part.testBit i = true then part ||| (x &&& left) else part).testBit v = true → part.testBit v = true := fun v hv => h v (gpass_ge L (i + 1) _ hv)
    have e : (if part.testBit i = true then part ||| (x &&& left) else part) = part := by
      apply Nat.eq_of_testBit_eq
      intro v
      exact Bool.eq_iff_iff.2 ⟨hle v, hge v⟩
    match j, hj with
    | 0, hj =>
      simp only [Nat.add_zero] at hp
      simp only [hp, if_true] at hle
      exact hle v (by simp at hx; simp [hx, hl])
    | j + 1, hj =>
      refine gpass_fix L (i + 1) part (fun v hv => h v ?_) j v (by simpa using hj) (by rw [show i + 1 + j = i + (j + 1) by omega]; exact hp) (by simpa using hx) hl
      show (gpass left (i + 1) L _).testBit v = true
      rw [e]; exact hv

/-- The part of b. -/
def partN (l : List Nat) (left b : Nat) : Nat := iter (gpass left 0 l) l.length (2 ^ b)

/-- What is left is made of whole parts. -/
structure Left (l : List Nat) (S left : Nat) : Prop where
  lt : ∀ v, left.testBit v = true → v < l.length ∧ S.testBit v = false
  cl : ∀ v w, left.testBit v = true → Conn l S v w → left.testBit w = true

theorem part_conn (hs : Shop l) {left b : Nat} (hL : Left l S left) (hb : left.testBit b = true) {v : Nat} : (partN l left b).testBit v = true ↔ Conn l S b v := by
  have hone : ∀ v, (2 ^ b).testBit v = true → v = b := fun v hv => by simp only [Nat.testBit_two_pow, decide_eq_true_eq] at hv; omega
  have hin : ∀ x, (∀ v, x.testBit v = true → left.testBit v = true) → ∀ v, (gpass left 0 l x).testBit v = true → left.testBit v = true := fun x hx => gpass_sound (l := l) (fun i v _ _ h => h) l 0 x (fun j _ => by simp) hx
  constructor
  · refine iter_inv (Q := fun x => ∀ v, x.testBit v = true → Conn l S b v) (fun x hx => gpass_sound (l := l) (fun i v hi ha hv => ?_) l 0 x (fun j _ => by simp) hx) _ (fun v hv => by rw [hone v hv]; exact .base) v
    have hi' := hL.cl b i hb hi
    exact conn_ed hs hi (by unfold Ed; simp [ha, (hL.lt i hi').2, (hL.lt v hv).2])
  · intro h
    have hfix : gpass left 0 l (partN l left b) = partN l left b :=
      iter_fix (n := l.length) (B := fun v => left.testBit v = true) (fun v hv => (hL.lt v hv).1) (fun x v hv => gpass_ge l 0 x hv) hin l.length (fun v hv => by rw [hone v hv]; exact hb) (by omega)
    have hsub : ∀ v, (partN l left b).testBit v = true → left.testBit v = true := iter_inv (Q := fun x => ∀ v, x.testBit v = true → left.testBit v = true) hin _ (fun v hv => by rw [hone v hv]; exact hb)
    refine conn_least hs (X := fun v => (partN l left b).testBit v = true) (fun p q he hp => ?_) ?_ h
    · have ha : adj l p q = true := by unfold Ed at he; simp at he; exact he.1.1
      have hq : left.testBit q = true := hL.cl p q (hsub p hp) (conn_ed hs .base he)
      exact gpass_fix l 0 _ (fun v hv => by rwa [hfix] at hv) p q (hs.lt p q ha).1 (by simpa using hp) ha hq
    · exact iter_inv (Q := fun x => x.testBit b = true) (fun x hx => gpass_ge l 0 x hx) _ (by simp)

/-- left without a part. -/
def dlN (a b : Nat) : Nat := a &&& (a ^^^ b)
theorem dlN_bit (a b j : Nat) : (dlN a b).testBit j = (a.testBit j && !b.testBit j) := by
  simp only [dlN, Nat.testBit_and, Nat.testBit_xor]
  cases a.testBit j <;> cases b.testBit j <;> rfl

/-- The least number of a set. -/
def lowN (x : Nat) : Nat := ((List.range 12).find? fun j => x.testBit j).getD 0
theorem lowN_mem {x : Nat} (h0 : x ≠ 0) (h : ∀ v, x.testBit v = true → v < 12) : x.testBit (lowN x) = true := by
  have : ∃ v, x.testBit v = true := by
    apply Classical.byContradiction
    intro hn
    exact h0 (Nat.eq_of_testBit_eq fun v => by
      cases hb : x.testBit v with
      | false => simp
      | true => exact absurd ⟨v, hb⟩ hn)
  obtain ⟨v, hv⟩ := this
  unfold lowN
  cases hf : (List.range 12).find? fun j => x.testBit j with
  | none =>
    rw [List.find?_eq_none] at hf
    exact absurd hv (hf v (List.mem_range.2 (h v hv)))
  | some j => exact List.find?_some hf

def partsN (l : List Nat) : Nat → Nat → List Nat
  | 0, _ => []
  | k + 1, left => if left = 0 then [] else partN l left (lowN left) :: partsN l k (dlN left (partN l left (lowN left)))

theorem Left.next (hs : Shop l) {left b : Nat} (hL : Left l S left) (hb : left.testBit b = true) : Left l S (dlN left (partN l left b)) where
  lt v hv := by rw [dlN_bit] at hv; simp at hv; exact hL.lt v hv.1
  cl v w hv hc := by
    rw [dlN_bit] at hv ⊢
    simp only [Bool.and_eq_true, Bool.not_eq_true'] at hv ⊢
    refine ⟨hL.cl v w hv.1 hc, ?_⟩
    cases hw : (partN l left b).testBit w with
    | false => rfl
    | true =>
      have h1 := (part_conn hs hL hb).1 hw
      have h2 : (partN l left b).testBit v = true := (part_conn hs hL hb).2 (con_trans h1 (con_symm hc))
      rw [h2] at hv; cases hv.2

/-- The parts: each is a whole one, and all that is left is met. -/
theorem parts_all (hs : Shop l) (hl : l.length ≤ 8) : ∀ (k left : Nat), Left l S left → pcN l.length left ≤ k →
    (∀ p ∈ partsN l k left, ∃ b, left.testBit b = true ∧ ∀ v, p.testBit v = true ↔ Conn l S b v) ∧ (∀ v, left.testBit v = true → ∃ p ∈ partsN l k left, p.testBit v = true)
  | 0, left, hL, hk => by
    refine ⟨fun p hp => by simp [partsN] at hp, fun v hv => ?_⟩
    have := pcN_lt (n := l.length) (s := 0) (t := left) (fun j hj => by simp at hj) (hL.lt v hv).1 (by simp) hv
    omega
  | k + 1, left, hL, hk => by
    unfold partsN
    by_cases h0 : left = 0
    · subst h0
      simp
    · rw [if_neg h0]
      have hb : left.testBit (lowN left) = true := lowN_mem h0 fun v hv => by have := (hL.lt v hv).1; omega
      have hself : (partN l left (lowN left)).testBit (lowN left) = true := (part_conn hs hL hb).2 .base
      have hlt : pcN l.length (dlN left (partN l left (lowN left))) < pcN l.length left := pcN_lt (fun j hj => by rw [dlN_bit] at hj; simp at hj; exact hj.1) (hL.lt _ hb).1 (by rw [dlN_bit, hself]; simp) hb
      obtain ⟨h1, h2⟩ := parts_all hs hl k _ (hL.next hs hb) (by omega)
      refine ⟨fun p hp => ?_, fun v hv => ?_⟩
      · rcases List.mem_cons.1 hp with rfl | hp
        · exact ⟨_, hb, fun v => part_conn hs hL hb⟩
        · obtain ⟨b, hb2, hb3⟩ := h1 p hp
          rw [dlN_bit] at hb2
          simp at hb2
          exact ⟨b, hb2.1, hb3⟩
      · cases hv2 : (partN l left (lowN left)).testBit v with
        | true => exact ⟨_, List.mem_cons_self, hv2⟩
        | false =>
          obtain ⟨p, hp, hpv⟩ := h2 v (by rw [dlN_bit, hv, hv2]; rfl)
          exact ⟨p, List.mem_cons_of_mem _ hp, hpv⟩

/-- In one part exactly if joined. -/
theorem parts_joined (hs : Shop l) (hl : l.length ≤ 8) {k a b : Nat} (hk : l.length ≤ k) (ha : a < l.length) (haS : S.testBit a = false) :
    ((partsN l k (dlN (full l.length) S)).any fun p => p.testBit a && p.testBit b) = true ↔ Conn l S a b := by
  have hL : Left l S (dlN (full l.length) S) := by
    refine ⟨fun v hv => ?_, fun v w hv hc => ?_⟩
    · rw [dlN_bit, full_bit] at hv; simp at hv; exact hv
    · refine conn_least hs (X := fun v => (dlN (full l.length) S).testBit v = true) (fun p q he hp => ?_) hv hc
      unfold Ed at he
      simp at he
      have := hs.lt p q he.1.1
      rw [dlN_bit, full_bit]
      simp [this.2, he.2]
  obtain ⟨h1, h2⟩ := parts_all (S := S) hs hl k _ hL (Nat.le_trans (pcN_top _ _) hk)
  simp only [List.any_eq_true, Bool.and_eq_true]
  constructor
  · rintro ⟨p, hp, hpa, hpb⟩
    obtain ⟨c, _, hc⟩ := h1 p hp
    exact con_trans (con_symm ((hc a).1 hpa)) ((hc b).1 hpb)
  · intro h
    obtain ⟨p, hp, hpa⟩ := h2 a (by rw [dlN_bit, full_bit]; simp [ha, haS])
    obtain ⟨c, _, hc⟩ := h1 p hp
    exact ⟨p, hp, hpa, (hc b).2 (con_trans ((hc a).1 hpa) h)⟩
end
end Go.X
