import Derived.Test.YtchgifdkhknppaaUD
import Derived.Test.YtchgifdkhknppaaUB
/-! Veils: both lists are the squares of -1, 0 and 1 that are veils, in order. -/
set_option linter.unusedSimpArgs false
set_option linter.unusedVariables false
namespace Go.X
open Go Go.RowKit

/-- All squares that go on from a place. -/
def E (n : Nat) : Nat → Nat → List (List Int) → List (List (List Int))
  | 0, _, t => [t]
  | d + 1, a, t => E n d (a + 1) (setAt t (a / n) (a % n) (-1)) ++ (E n d (a + 1) (setAt t (a / n) (a % n) 0) ++ E n d (a + 1) (setAt t (a / n) (a % n) 1))

theorem E_s {n d a : Nat} {t : List (List Int)} : E n (d + 1) a t = E n d (a + 1) (setAt t (a / n) (a % n) (-1)) ++ (E n d (a + 1) (setAt t (a / n) (a % n) 0) ++ E n d (a + 1) (setAt t (a / n) (a % n) 1)) := rfl
def Agr (n a : Nat) (t u : List (List Int)) : Prop := ∀ i k, i < n → k < n → i * n + k < a → at2 u i k = at2 t i k

theorem place {n i k a : Nat} (hk : k < n) (h : i * n + k = a) : a / n = i ∧ a % n = k := by
  have hn : 0 < n := by omega
  subst h
  rw [Nat.mul_comm i n]
  exact ⟨by rw [Nat.mul_add_div hn, Nat.div_eq_of_lt hk, Nat.add_zero], by rw [Nat.mul_add_mod, Nat.mod_eq_of_lt hk]⟩
theorem place' {n a : Nat} : a / n * n + a % n = a := by rw [Nat.mul_comm]; exact Nat.div_add_mod a n

theorem at2_setAt {n i k a b : Nat} {t : List (List Int)} {x : Int} (q : Sq n t) (hi : i < n) (hk : k < n) : at2 (setAt t i k x) a b = if a = i ∧ b = k then x else at2 t a b := by
  have h1 : i < t.length := by rw [q.len]; exact hi
  rw [setAt_eq h1]
  exact at2_set h1 (by rw [q.rl h1]; exact hk)
theorem Sq.setAt {n i k : Nat} {t : List (List Int)} {x : Int} (q : Sq n t) (hi : i < n) (hx : -1 ≤ x ∧ x ≤ 1) : Sq n (setAt t i k x) := by
  have h1 : i < t.length := by rw [q.len]; exact hi
  rw [setAt_eq h1]; exact q.set h1 hx

section
variable {n : Nat}

theorem in_div {a : Nat} (h : a < n * n) : a / n < n ∧ a % n < n := by
  have hn : 0 < n := Nat.pos_of_ne_zero fun e => by subst e; omega
  exact ⟨Nat.div_lt_of_lt_mul h, Nat.mod_lt _ hn⟩

theorem Agr.set {a : Nat} {t u : List (List Int)} {x : Int} (h : Agr n a t u) (qt : Sq n t) (qu : Sq n u) (ha : a < n * n) : Agr n (a + 1) (setAt t (a / n) (a % n) x) (setAt u (a / n) (a % n) x) := fun i k hi hk hp => by
  obtain ⟨h1, h2⟩ := in_div ha
  rw [at2_setAt qu h1 h2, at2_setAt qt h1 h2]
  by_cases c : i = a / n ∧ k = a % n
  · rw [if_pos c, if_pos c]
  · rw [if_neg c, if_neg c]
    refine h i k hi hk ?_
    have : i * n + k ≠ a := fun e => by have := place hk e; omega
    omega
theorem Agr.up {a : Nat} {t u : List (List Int)} {x : Int} (h : Agr n (a + 1) (setAt t (a / n) (a % n) x) u) (qt : Sq n t) (ha : a < n * n) : Agr n a t u := fun i k hi hk hp => by
  obtain ⟨h1, h2⟩ := in_div ha
  rw [h i k hi hk (by omega), at2_setAt qt h1 h2, if_neg]
  rintro ⟨rfl, rfl⟩
  have := place' (n := n) (a := a)
  omega
theorem Agr.trans {a : Nat} {t u v : List (List Int)} (h : Agr n a t u) (h' : Agr n a u v) : Agr n a t v := fun i k hi hk hp => (h' i k hi hk hp).trans (h i k hi hk hp)
theorem Agr.rfl' {a : Nat} {t : List (List Int)} : Agr n a t t := fun _ _ _ _ _ => rfl

theorem E_congr : ∀ (d a : Nat) {t u : List (List Int)}, a + d = n * n → Sq n t → Sq n u → Agr n a t u → E n d a t = E n d a u
  | 0, a, t, u, ha, qt, qu, h => by
    have : t = u := sq_ext qt.len qt.row qu.len qu.row fun i j hi hj => (h i j hi hj (by
      have : (i + 1) * n ≤ n * n := Nat.mul_le_mul_right n hi
      rw [Nat.add_mul] at this; omega)).symm
    rw [this]
  | d + 1, a, t, u, ha, qt, qu, h => by
    have hlt : a < n * n := by omega
    have hi := (in_div hlt).1
    unfold E
    rw [E_congr d (a + 1) (by omega) (qt.setAt hi (by omega)) (qu.setAt hi (by omega)) (h.set qt qu hlt (x := -1)),
      E_congr d (a + 1) (by omega) (qt.setAt hi (by omega)) (qu.setAt hi (by omega)) (h.set qt qu hlt (x := 0)),
      E_congr d (a + 1) (by omega) (qt.setAt hi (by omega)) (qu.setAt hi (by omega)) (h.set qt qu hlt (x := 1))]

theorem E_mem : ∀ (d a : Nat) {t u : List (List Int)}, a + d = n * n → Sq n t → u ∈ E n d a t → Sq n u ∧ Agr n a t u
  | 0, a, t, u, ha, qt, h => by
    obtain rfl : u = t := by simpa [E] using h
    exact ⟨qt, Agr.rfl'⟩
  | d + 1, a, t, u, ha, qt, h => by
    have hlt : a < n * n := by omega
    have hi := (in_div hlt).1
    unfold E at h
    rw [List.mem_append, List.mem_append] at h
    rcases h with h | h | h
    all_goals
      obtain ⟨q, g⟩ := E_mem d (a + 1) (by omega) (qt.setAt hi (by omega)) h
      exact ⟨q, g.up qt hlt⟩
/-- Every square of such numbers is among them. -/
theorem E_all : ∀ (d a : Nat) {t u : List (List Int)}, a + d = n * n → Sq n t → Sq n u → Agr n a t u → u ∈ E n d a t
  | 0, a, t, u, ha, qt, qu, h => by
    have : t = u := sq_ext qt.len qt.row qu.len qu.row fun i j hi hj => (h i j hi hj (by
      have : (i + 1) * n ≤ n * n := Nat.mul_le_mul_right n hi
      rw [Nat.add_mul] at this; omega)).symm
    rw [this]; simp [E]
  | d + 1, a, t, u, ha, qt, qu, h => by
    have hlt : a < n * n := by omega
    obtain ⟨hi, hk⟩ := in_div hlt
    have hb := at2_bound qu.unit (a / n) (a % n)
    have go : ∀ x, at2 u (a / n) (a % n) = x → -1 ≤ x ∧ x ≤ 1 → u ∈ E n d (a + 1) (setAt t (a / n) (a % n) x) := fun x hx hb => by
      refine E_all d (a + 1) (by omega) (qt.setAt hi hb) qu fun i k h1 h2 hp => ?_
      rw [at2_setAt qt hi hk]
      by_cases c : i = a / n ∧ k = a % n
      · rw [if_pos c, c.1, c.2]; exact hx
      · rw [if_neg c]
        refine h i k h1 h2 ?_
        have : i * n + k ≠ a := fun e => by have := place h2 e; omega
        omega
    unfold E
    rw [List.mem_append, List.mem_append]
    have : at2 u (a / n) (a % n) = -1 ∨ at2 u (a / n) (a % n) = 0 ∨ at2 u (a / n) (a % n) = 1 := by omega
    rcases this with e | e | e
    · exact .inl (go _ e (by omega))
    · exact .inr (.inl (go _ e (by omega)))
    · exact .inr (.inr (go _ e (by omega)))

/-! ### sums up to a place -/
def rowX (n p : Nat) (t : List (List Int)) (i : Nat) : Int := sumF (fun k => if i * n + k < p then at2 t i k else 0) 0 n
def colX (n p : Nat) (t : List (List Int)) (k : Nat) : Int := sumF (fun i => if i * n + k < p then at2 t i k else 0) 0 n

theorem sumF_zero {f : Nat → Int} : ∀ (d a : Nat), (∀ i, a ≤ i → i < a + d → f i = 0) → sumF f a d = 0
  | 0, a, _ => rfl
  | d + 1, a, h => by rw [sumF_s, h a (by omega) (by omega), sumF_zero d (a + 1) fun i h1 h2 => h i (by omega) (by omega)]; rfl
theorem sumF_one {f : Nat → Int} {m : Nat} {x : Int} : ∀ (d a : Nat), a ≤ m → m < a + d → f m = x → (∀ i, a ≤ i → i < a + d → i ≠ m → f i = 0) → sumF f a d = x
  | 0, a, h1, h2, _, _ => by omega
  | d + 1, a, h1, h2, hx, h => by
    rw [sumF_s]
    by_cases c : a = m
    · subst c
      rw [hx, sumF_zero d (a + 1) fun i h1 h2 => h i (by omega) (by omega) (by omega)]; omega
    · rw [h a (by omega) (by omega) c, sumF_one d (a + 1) (by omega) (by omega) hx fun i h1 h2 => h i (by omega) (by omega)]; omega

theorem rowX_m {i m p : Nat} {t : List (List Int)} (hm : m ≤ n) (hp : ∀ k, k < n → (i * n + k < p ↔ k < m)) : rowX n p t i = rowP t i m := by
  unfold rowX rowP
  have e : n = m + (n - m) := by omega
  have : sumF (fun k => if i * n + k < p then at2 t i k else 0) 0 n = sumF (fun k => if i * n + k < p then at2 t i k else 0) 0 (m + (n - m)) := by rw [← e]
  rw [this, sumF_add, sumF_zero (n - m) (0 + m) (fun k h1 h2 => by rw [if_neg]; rw [hp k (by omega)]; omega), Int.add_zero]
  exact sumF_congr m 0 fun k h1 h2 => by rw [if_pos]; rw [hp k (by omega)]; omega
theorem colX_m {k m p : Nat} {t : List (List Int)} (hm : m ≤ n) (hp : ∀ i, i < n → (i * n + k < p ↔ i < m)) : colX n p t k = colP t m k := by
  unfold colX colP
  have e : n = m + (n - m) := by omega
  have : sumF (fun i => if i * n + k < p then at2 t i k else 0) 0 n = sumF (fun i => if i * n + k < p then at2 t i k else 0) 0 (m + (n - m)) := by rw [← e]
  rw [this, sumF_add, sumF_zero (n - m) (0 + m) (fun i h1 h2 => by rw [if_neg]; rw [hp i (by omega)]; omega), Int.add_zero]
  exact sumF_congr m 0 fun i h1 h2 => by rw [if_pos]; rw [hp i (by omega)]; omega
theorem rowX_any (p : Nat) (t : List (List Int)) (i : Nat) : ∃ m, m ≤ n ∧ rowX n p t i = rowP t i m ∧ ((i + 1) * n ≤ p → m = n) :=
  ⟨min n (p - i * n), Nat.min_le_left _ _, rowX_m (Nat.min_le_left _ _) fun k hk => by omega, fun h => by rw [Nat.add_mul] at h; omega⟩
theorem place_lt {i k p : Nat} (hk : k < n) : i * n + k < p ↔ i < p / n ∨ i = p / n ∧ k < p % n := by
  have h0 := place' (n := n) (a := p)
  have hr : p % n < n := Nat.mod_lt _ (by omega)
  rcases Nat.lt_trichotomy i (p / n) with h | h | h
  · have : (i + 1) * n ≤ p / n * n := Nat.mul_le_mul_right n h
    rw [Nat.add_mul] at this
    exact ⟨fun _ => .inl h, fun _ => by omega⟩
  · rw [h]
    exact ⟨fun q => .inr ⟨rfl, by omega⟩, fun q => by rcases q with q | q <;> omega⟩
  · have : (p / n + 1) * n ≤ i * n := Nat.mul_le_mul_right n h
    rw [Nat.add_mul] at this
    exact ⟨fun q => by omega, fun q => by rcases q with q | q <;> omega⟩
theorem colX_any {p k : Nat} (hk : k < n) (t : List (List Int)) : ∃ m, m ≤ n ∧ colX n p t k = colP t m k ∧ ((n - 1) * n + k < p → m = n) := by
  refine ⟨min n (if k < p % n then p / n + 1 else p / n), Nat.min_le_left _ _, colX_m (Nat.min_le_left _ _) fun i hi => ?_, fun h => ?_⟩
  · rw [place_lt hk]
    split <;> omega
  · rw [place_lt hk] at h
    split <;> omega

theorem Agr.mono {a p : Nat} {t u : List (List Int)} (h : Agr n a t u) (hp : p ≤ a) : Agr n p t u := fun i k hi hk hq => h i k hi hk (by omega)
theorem Agr.row {p i : Nat} {t u : List (List Int)} (h : Agr n p t u) (hi : i < n) : rowX n p u i = rowX n p t i :=
  sumF_congr n 0 fun k _ hk => by
    by_cases c : i * n + k < p
    · rw [if_pos c, if_pos c]; exact h i k hi (by omega) c
    · rw [if_neg c, if_neg c]
theorem Agr.col {p k : Nat} {t u : List (List Int)} (h : Agr n p t u) (hk : k < n) : colX n p u k = colX n p t k :=
  sumF_congr n 0 fun i _ hi => by
    by_cases c : i * n + k < p
    · rw [if_pos c, if_pos c]; exact h i k (by omega) hk c
    · rw [if_neg c, if_neg c]

structure Gd (n p : Nat) (t : List (List Int)) : Prop where
  row : ∀ i, i < n → 0 ≤ rowX n p t i ∧ rowX n p t i ≤ 1
  col : ∀ k, k < n → 0 ≤ colX n p t k ∧ colX n p t k ≤ 1
  full : ∀ i, i < n → (i + 1) * n ≤ p → rowX n p t i = 1
def Last (n p : Nat) (t : List (List Int)) : Prop := ∀ k, k < n → (n - 1) * n + k < p → colX n p t k = 1

theorem Agr.gd {p : Nat} {t u : List (List Int)} (h : Agr n p t u) (g : Gd n p u) : Gd n p t :=
  ⟨fun i hi => by rw [← h.row hi]; exact g.row i hi, fun k hk => by rw [← h.col hk]; exact g.col k hk, fun i hi hp => by rw [← h.row hi]; exact g.full i hi hp⟩
theorem Agr.gd' {p : Nat} {t u : List (List Int)} (h : Agr n p t u) (g : Gd n p t) : Gd n p u :=
  ⟨fun i hi => by rw [h.row hi]; exact g.row i hi, fun k hk => by rw [h.col hk]; exact g.col k hk, fun i hi hp => by rw [h.row hi]; exact g.full i hi hp⟩
theorem Agr.last {p : Nat} {t u : List (List Int)} (h : Agr n p t u) (g : Last n p u) : Last n p t := fun k hk hp => by rw [← h.col hk]; exact g k hk hp

theorem rowP_S {t : List (List Int)} (q : Sq n t) {i : Nat} (hi : i < n) : ∀ m, m ≤ n → rowP t i m = rowS t i m
  | 0, _ => by rw [rowS_0]; rfl
  | m + 1, hm => by
    have h1 : i < t.length := by rw [q.len]; exact hi
    rw [rowS_s h1 (by rw [q.rl h1]; exact hm), ← rowP_S q hi m (by omega)]
    unfold rowP
    rw [sumF_add m 0 1, Nat.zero_add, sumF_s, sumF_0, Int.add_zero]

theorem Veil.sq {u : List (List Int)} (V : Veil u) : Sq u.length u := ⟨rfl, V.row, V.unit⟩
theorem Veil.gd {u : List (List Int)} (V : Veil u) (p : Nat) : Gd u.length p u ∧ Last u.length p u := by
  refine ⟨⟨fun i hi => ?_, fun k hk => ?_, fun i hi hp => ?_⟩, fun k hk hp => ?_⟩
  · obtain ⟨m, h1, h2, _⟩ := rowX_any (n := u.length) p u i
    rw [h2, rowP_S V.sq hi m h1]; exact V.rowb hi
  · obtain ⟨m, h1, h2, _⟩ := colX_any (p := p) hk u
    rw [h2]; exact V.colb hk h1
  · obtain ⟨m, h1, h2, h3⟩ := rowX_any (n := u.length) p u i
    rw [h2, h3 hp, rowP_S V.sq hi _ (Nat.le_refl _)]; exact V.rowt hi
  · obtain ⟨m, h1, h2, h3⟩ := colX_any (p := p) hk u
    rw [h2, h3 hp]; exact V.colt hk
theorem Veil.of_gd {t : List (List Int)} (h1 : 1 ≤ n) (h5 : n ≤ 5) (q : Sq n t) (g : ∀ p, p ≤ n * n → Gd n p t) (hl : ∀ k, k < n → colX n (n * n) t k = 1) : Veil t := by
  have hn := q.len
  have rp : ∀ i m, i < n → m ≤ n → rowX n (i * n + m) t i = rowS t i m := fun i m hi hm => by
    rw [rowX_m hm fun k hk => by omega, rowP_S q hi m hm]
  have cp : ∀ k m, k < n → m ≤ n → colX n (m * n) t k = colP t m k := fun k m hk hm => colX_m hm fun i hi => by
    rw [place_lt hk, Nat.mul_div_cancel _ (by omega), Nat.mul_mod_left]; omega
  have le : ∀ i m, i < n → m ≤ n → i * n + m ≤ n * n := fun i m hi hm => by
    have : (i + 1) * n ≤ n * n := Nat.mul_le_mul_right n hi
    rw [Nat.add_mul] at this; omega
  refine ⟨by omega, by omega, fun r hr => by rw [hn]; exact q.row r hr, fun r hr => ?_, fun j hj => ?_⟩
  · obtain ⟨i, hi, rfl⟩ := List.getElem_of_mem hr
    have hin : i < n := by omega
    have hrl := q.rl hi
    refine altB_of (fun m hm => ?_) ?_
    · rw [← rowS_full hi, ← rp i m hin (by omega)]
      exact (g _ (le i m hin (by omega))).row i hin
    · have := (g _ (le i n hin (Nat.le_refl _))).full i hin (by rw [Nat.add_mul]; omega)
      rw [rp i n hin (Nat.le_refl _), rowS_full hi, List.take_of_length_le (by omega)] at this
      exact this
  · have hjn : j < n := by omega
    have hcl : (colD t j).length = n := by simp [colD, hn]
    refine altB_of (fun m hm => ?_) ?_
    · rw [← col_F (by omega)]
      have := (g (m * n) (Nat.mul_le_mul_right n (by omega))).col j hjn
      rw [cp j m hjn (by omega)] at this
      exact this
    · have := hl j hjn
      rw [cp j n hjn (Nat.le_refl _)] at this
      unfold colP at this
      rw [col_F (by omega), List.take_of_length_le (by omega)] at this
      exact this

theorem rowX_set {a i : Nat} {t : List (List Int)} {x : Int} (q : Sq n t) (ha : a < n * n) (hi : i < n) : rowX n (a + 1) (setAt t (a / n) (a % n) x) i = rowX n a t i + if i = a / n then x else 0 := by
  obtain ⟨h1, h2⟩ := in_div ha
  have e : rowX n (a + 1) (setAt t (a / n) (a % n) x) i = sumF (fun k => (if i * n + k < a then at2 t i k else 0) + (if i = a / n ∧ k = a % n then x else 0)) 0 n := by
    refine sumF_congr n 0 fun k _ hk => ?_
    rw [at2_setAt q h1 h2]
    have hk : k < n := by omega
    have p' := place' (n := n) (a := a)
    by_cases c : i = a / n ∧ k = a % n
    · rw [if_pos c, if_pos c, c.1, c.2, if_pos (by omega), if_neg (by omega)]; omega
    · have : i * n + k ≠ a := fun e => by have := place hk e; omega
      rw [if_neg c, if_neg c]
      by_cases c2 : i * n + k < a
      · rw [if_pos (by omega), if_pos c2]; omega
      · rw [if_neg (by omega), if_neg c2]; omega
  rw [e, sumF_plus]
  congr 1
  by_cases c : i = a / n
  · rw [if_pos c]
    exact sumF_one (m := a % n) n 0 (Nat.zero_le _) (by omega) (by rw [if_pos ⟨c, rfl⟩]) fun k _ _ hne => by rw [if_neg (by omega)]
  · rw [if_neg c]
    exact sumF_zero n 0 fun k _ _ => by rw [if_neg (by omega)]
theorem colX_set {a k : Nat} {t : List (List Int)} {x : Int} (q : Sq n t) (ha : a < n * n) (hk : k < n) : colX n (a + 1) (setAt t (a / n) (a % n) x) k = colX n a t k + if k = a % n then x else 0 := by
  obtain ⟨h1, h2⟩ := in_div ha
  have e : colX n (a + 1) (setAt t (a / n) (a % n) x) k = sumF (fun i => (if i * n + k < a then at2 t i k else 0) + (if i = a / n ∧ k = a % n then x else 0)) 0 n := by
    refine sumF_congr n 0 fun i _ hi => ?_
    rw [at2_setAt q h1 h2]
    have p' := place' (n := n) (a := a)
    by_cases c : i = a / n ∧ k = a % n
    · rw [if_pos c, if_pos c, c.1, c.2, if_pos (by omega), if_neg (by omega)]; omega
    · have : i * n + k ≠ a := fun e => by have := place hk e; omega
      rw [if_neg c, if_neg c]
      by_cases c2 : i * n + k < a
      · rw [if_pos (by omega), if_pos c2]; omega
      · rw [if_neg (by omega), if_neg c2]; omega
  rw [e, sumF_plus]
  congr 1
  by_cases c : k = a % n
  · rw [if_pos c]
    exact sumF_one (m := a / n) n 0 (Nat.zero_le _) (by omega) (by rw [if_pos ⟨rfl, c⟩]) fun i _ _ hne => by rw [if_neg (by omega)]
  · rw [if_neg c]
    exact sumF_zero n 0 fun i _ _ => by rw [if_neg (by omega)]

theorem okW_iff {k : Nat} {r c : Int} : okW n k r c = true ↔ (0 ≤ r ∧ r ≤ 1) ∧ (0 ≤ c ∧ c ≤ 1) ∧ (k + 1 = n → r = 1) := by
  unfold okW
  simp only [Bool.and_eq_true, decide_eq_true_eq]
  exact ⟨fun ⟨a, b, c, d, e⟩ => ⟨⟨a, b⟩, ⟨c, d⟩, e⟩, fun ⟨⟨a, b⟩, ⟨c, d⟩, e⟩ => ⟨a, b, c, d, e⟩⟩
theorem okV_iff {i k : Nat} {r c x : Int} : okV n i k r c x = true ↔ okW n k (r + x) (c + x) = true ∧ (i + 1 = n → c + x = 1) := by
  rw [okW_iff]
  unfold okV
  simp only [Bool.and_eq_true, decide_eq_true_eq]
  exact ⟨fun ⟨a, b, c, d, e, f⟩ => ⟨⟨⟨a, b⟩, ⟨c, d⟩, e⟩, f⟩, fun ⟨⟨⟨a, b⟩, ⟨c, d⟩, e⟩, f⟩ => ⟨a, b, c, d, e, f⟩⟩

theorem end_iff {a i : Nat} (ha : a < n * n) (hi : i < n) : (i + 1) * n ≤ a + 1 ↔ (i + 1) * n ≤ a ∨ i = a / n ∧ a % n + 1 = n := by
  have p' := place' (n := n) (a := a)
  obtain ⟨h1, h2⟩ := in_div ha
  rw [Nat.add_mul, Nat.one_mul]
  constructor
  · intro h
    by_cases c : i * n + n ≤ a
    · exact .inl c
    · have e : i * n + (n - 1) = a := by omega
      have := place (by omega) e
      exact .inr ⟨this.1.symm, by omega⟩
  · rintro (h | ⟨rfl, h⟩)
    · omega
    · omega

theorem gd_step {a : Nat} {t : List (List Int)} {x : Int} (q : Sq n t) (ha : a < n * n) (g : Gd n a t) :
    okW n (a % n) (rowX n a t (a / n) + x) (colX n a t (a % n) + x) = true ↔ Gd n (a + 1) (setAt t (a / n) (a % n) x) := by
  obtain ⟨h1, h2⟩ := in_div ha
  rw [okW_iff]
  constructor
  · rintro ⟨a1, a2, a3⟩
    refine ⟨fun i hi => ?_, fun k hk => ?_, fun i hi hp => ?_⟩
    · rw [rowX_set q ha hi]
      by_cases c : i = a / n
      · rw [if_pos c, c]; exact a1
      · rw [if_neg c, Int.add_zero]; exact g.row i hi
    · rw [colX_set q ha hk]
      by_cases c : k = a % n
      · rw [if_pos c, c]; exact a2
      · rw [if_neg c, Int.add_zero]; exact g.col k hk
    · rw [rowX_set q ha hi]
      rcases (end_iff ha hi).1 hp with h | ⟨rfl, h⟩
      · by_cases c : i = a / n
        · subst c
          have := place' (n := n) (a := a)
          rw [Nat.add_mul] at h; omega
        · rw [if_neg c, Int.add_zero]; exact g.full i hi h
      · rw [if_pos rfl]; exact a3 h
  · intro G
    have b1 := G.row _ h1
    have b2 := G.col _ h2
    have b3 := G.full _ h1
    rw [rowX_set q ha h1, if_pos rfl] at b1 b3
    rw [colX_set q ha h2, if_pos rfl] at b2
    exact ⟨b1, b2, fun h => b3 ((end_iff ha h1).2 (.inr ⟨rfl, h⟩))⟩
theorem last_step {a : Nat} {t : List (List Int)} {x : Int} (q : Sq n t) (ha : a < n * n) (g : Last n a t) :
    (a / n + 1 = n → colX n a t (a % n) + x = 1) ↔ Last n (a + 1) (setAt t (a / n) (a % n) x) := by
  obtain ⟨h1, h2⟩ := in_div ha
  have p' := place' (n := n) (a := a)
  constructor
  · intro f k hk hp
    rw [colX_set q ha hk]
    by_cases c : k = a % n
    · rw [if_pos c, c]
      refine f ?_
      rw [place_lt hk] at hp
      refine Decidable.byContradiction fun hc => ?_
      have h3 : a / n + 1 ≤ n - 1 := by omega
      have : (a / n + 1) * n ≤ (n - 1) * n := Nat.mul_le_mul_right n h3
      rw [← place_lt hk] at hp
      rw [Nat.add_mul] at this
      omega
    · rw [if_neg c, Int.add_zero]
      refine g k hk ?_
      have : (n - 1) * n + k ≠ a := fun e => by have := place hk e; omega
      omega
  · intro G h
    have := G (a % n) h2 (by rw [show n - 1 = a / n by omega]; omega)
    rwa [colX_set q ha h2, if_pos rfl] at this

theorem E_none {d a : Nat} {t : List (List Int)} (hd : a + d = n * n) (q : Sq n t) (h : ¬ (Gd n a t ∧ Last n a t)) : (E n d a t).filter readOk = [] := by
  rw [List.filter_eq_nil_iff]
  intro u hu hr
  obtain ⟨qu, g⟩ := E_mem d a hd q hu
  have V := veil_iff.1 hr
  have := V.gd a
  rw [qu.len] at this
  exact h ⟨g.gd this.1, g.last this.2⟩
theorem E_gd {d a : Nat} {t : List (List Int)} (hd : a + d = n * n) (q : Sq n t) (h : ¬ Gd n a t) : (E n d a t).filter readOk = [] := E_none hd q fun c => h c.1

theorem gd_low {a : Nat} {t : List (List Int)} {x : Int} (q : Sq n t) (ha : a < n * n) (g : ∀ p, p ≤ a → Gd n p t) (h : Gd n (a + 1) (setAt t (a / n) (a % n) x)) : ∀ p, p ≤ a + 1 → Gd n p (setAt t (a / n) (a % n) x) := fun p hp => by
  by_cases c : p = a + 1
  · rw [c]; exact h
  · have : Agr n a t (setAt t (a / n) (a % n) x) := (Agr.rfl' (n := n) (a := a + 1) (t := setAt t (a / n) (a % n) x)).up q ha
    exact (this.mono (by omega)).gd' (g p (by omega))

theorem rowX_at {a : Nat} {t : List (List Int)} (ha : a < n * n) : rowX n a t (a / n) = rowP t (a / n) (a % n) := by
  have p' := place' (n := n) (a := a)
  have h2 := (in_div ha).2
  exact rowX_m (by omega) fun k hk => by omega
theorem colX_at {a : Nat} {t : List (List Int)} (ha : a < n * n) : colX n a t (a % n) = colP t (a / n) (a % n) := by
  obtain ⟨h1, h2⟩ := in_div ha
  exact colX_m (by omega) fun i hi => by rw [place_lt h2]; omega

/-! ### the specification's list -/
theorem fill_E (h1 : 1 ≤ n) (h5 : n ≤ 5) : ∀ (d a : Nat) {t : List (List Int)} {ts : List (List (List Int))}, a + d = n * n → Sq n t → (∀ p, p ≤ a → Gd n p t) → Last n a t →
    (fillP n d a t ts).2 = ts ++ (E n d a t).filter readOk ∧ Agr n a t (fillP n d a t ts).1 ∧ Sq n (fillP n d a t ts).1
  | 0, a, t, ts, ha, q, g, hl => by
    have V : Veil t := by
      obtain rfl : a = n * n := by omega
      refine Veil.of_gd h1 h5 q g fun k hk => hl k hk ?_
      have : (n - 1) * n + n = n * n := by rw [← Nat.succ_mul, Nat.succ_eq_add_one, Nat.sub_add_cancel h1]
      omega
    refine ⟨?_, Agr.rfl', q⟩
    simp [fillP, E, veil_iff.2 V]
  | d + 1, a, t, ts, ha, q, g, hl => by
    have hlt : a < n * n := by omega
    obtain ⟨hi, hk⟩ := in_div hlt
    have step : ∀ (x : Int), -1 ≤ x ∧ x ≤ 1 → ∀ (s : List (List Int) × List (List (List Int))), Agr n a t s.1 → Sq n s.1 →
        (tryP n d a (a / n) (a % n) (rowP t (a / n) (a % n)) (colP t (a / n) (a % n)) x s).2 = s.2 ++ (E n d (a + 1) (setAt t (a / n) (a % n) x)).filter readOk ∧
        Agr n a t (tryP n d a (a / n) (a % n) (rowP t (a / n) (a % n)) (colP t (a / n) (a % n)) x s).1 ∧ Sq n (tryP n d a (a / n) (a % n) (rowP t (a / n) (a % n)) (colP t (a / n) (a % n)) x s).1 := fun x hx s hs qs => by
      have eE : E n d (a + 1) (setAt s.1 (a / n) (a % n) x) = E n d (a + 1) (setAt t (a / n) (a % n) x) :=
        (E_congr d (a + 1) (by omega) (q.setAt hi hx) (qs.setAt hi hx) (hs.set q qs hlt)).symm
      have gs : ∀ p, p ≤ a → Gd n p s.1 := fun p hp => (hs.mono hp).gd' (g p hp)
      have ls : Last n a s.1 := fun k hk hp => by rw [hs.col hk]; exact hl k hk hp
      unfold tryP
      have er : rowX n a s.1 (a / n) = rowP t (a / n) (a % n) := by rw [hs.row hi, rowX_at hlt]
      have ec : colX n a s.1 (a % n) = colP t (a / n) (a % n) := by rw [hs.col hk, colX_at hlt]
      by_cases c : okV n (a / n) (a % n) (rowP t (a / n) (a % n)) (colP t (a / n) (a % n)) x = true
      · rw [if_pos c]
        rw [okV_iff, ← er, ← ec] at c
        have G := (gd_step qs hlt (gs a (Nat.le_refl _))).1 c.1
        have L := (last_step qs hlt ls).1 c.2
        obtain ⟨i1, i2, i3⟩ := fill_E h1 h5 d (a + 1) (ts := s.2) (by omega) (qs.setAt hi hx) (gd_low qs hlt gs G) L
        refine ⟨by rw [i1, eE], ?_, i3⟩
        exact hs.trans (i2.up qs hlt)
      · rw [if_neg c]
        refine ⟨?_, hs, qs⟩
        rw [← eE, E_none (by omega) (qs.setAt hi hx), List.append_nil]
        rintro ⟨G, L⟩
        refine c ?_
        rw [okV_iff, ← er, ← ec]
        exact ⟨(gd_step qs hlt (gs a (Nat.le_refl _))).2 G, (last_step qs hlt ls).2 L⟩
    obtain ⟨a1, a2, a3⟩ := step (-1) (by omega) (t, ts) Agr.rfl' q
    obtain ⟨b1, b2, b3⟩ := step 0 (by omega) _ a2 a3
    obtain ⟨c1, c2, c3⟩ := step 1 (by omega) _ b2 b3
    rw [fillP_try]
    refine ⟨?_, c2.trans ?_, c3.setAt hi (by omega)⟩
    · unfold tryAll
      rw [c1, b1, a1, E_s]
      rw [List.filter_append, List.filter_append, List.append_assoc, List.append_assoc]
    · exact (Agr.rfl' (n := n) (a := a + 1)).up c3 hlt

/-! ### the program's list -/
theorem minI_one : ∀ (l : List Int) (m : Int), (0 ≤ m ∧ m ≤ 1) → (∀ x ∈ l, 0 ≤ x ∧ x ≤ 1) → (minI m l = 1 ↔ m = 1 ∧ ∀ x ∈ l, x = 1)
  | [], m, hm, _ => by simp [minI]
  | x :: l, m, hm, h => by
    have hx := h x List.mem_cons_self
    unfold minI
    rw [minI_one l (min m x) (by omega) fun y hy => h y (List.mem_cons_of_mem _ hy)]
    constructor
    · rintro ⟨a, b⟩
      exact ⟨by omega, fun y hy => by rcases List.mem_cons.1 hy with rfl | hy; omega; exact b y hy⟩
    · rintro ⟨a, b⟩
      have := b x List.mem_cons_self
      exact ⟨by omega, fun y hy => b y (List.mem_cons_of_mem _ hy)⟩

theorem on_E (h1 : 1 ≤ n) (h5 : n ≤ 5) : ∀ (d a : Nat) {t : List (List Int)} {rs cs : List Int}, a + d = n * n → Sq n t → (∀ p, p ≤ a → Gd n p t) → rs.length = n → cs.length = n → (∀ i, i < n → rs.getD i 0 = rowX n a t i) → (∀ k, k < n → cs.getD k 0 = colX n a t k) →
    (onP n d a t rs cs).2 = (E n d a t).filter readOk ∧ Agr n a t (onP n d a t rs cs).1 ∧ Sq n (onP n d a t rs cs).1
  | 0, a, t, rs, cs, ha, q, g, lr, lc, hr, hc => by
    refine ⟨?_, Agr.rfl', q⟩
    obtain rfl : a = n * n := by omega
    have e : readOk t = true ↔ minOf cs = 1 := by
      have hb : ∀ x ∈ cs, 0 ≤ x ∧ x ≤ 1 := fun x hx => by
        obtain ⟨k, hk, rfl⟩ := List.getElem_of_mem hx
        have := (g _ (Nat.le_refl _)).col k (by omega)
        rwa [← hc k (by omega), getD_get hk] at this
      have e1 : minOf cs = 1 ↔ ∀ x ∈ cs, x = 1 := by
        cases cs with
        | nil => simp at lc; omega
        | cons x l =>
          have := minI_one l x (hb x List.mem_cons_self) fun y hy => hb y (List.mem_cons_of_mem _ hy)
          unfold minOf
          rw [this]
          constructor
          · rintro ⟨a, b⟩ y hy
            rcases List.mem_cons.1 hy with rfl | hy
            · exact a
            · exact b y hy
          · intro h
            exact ⟨h x List.mem_cons_self, fun y hy => h y (List.mem_cons_of_mem _ hy)⟩
      rw [e1, veil_iff]
      constructor
      · intro V x hx
        obtain ⟨k, hk, rfl⟩ := List.getElem_of_mem hx
        have := (V.gd (n * n)).2
        rw [q.len] at this
        have := this k (by omega) (by
          have : (n - 1) * n + n = n * n := by rw [← Nat.succ_mul, Nat.succ_eq_add_one, Nat.sub_add_cancel h1]
          omega)
        rw [← hc k (by omega), getD_get hk] at this
        exact this
      · intro h
        refine Veil.of_gd h1 h5 q g fun k hk => ?_
        rw [← hc k hk, getD_get (by omega)]
        exact h _ (List.getElem_mem _)
    have eo : (onP n 0 (n * n) t rs cs).2 = if minOf cs = 1 then [t] else [] := rfl
    rw [eo]
    unfold E
    by_cases c : minOf cs = 1
    · rw [if_pos c]; simp [e.2 c]
    · rw [if_neg c]
      have : ¬ readOk t = true := fun h => c (e.1 h)
      simp [this]
  | d + 1, a, t, rs, cs, ha, q, g, lr, lc, hr, hc => by
    have hlt : a < n * n := by omega
    obtain ⟨hi, hk⟩ := in_div hlt
    have step : ∀ (x : Int), -1 ≤ x ∧ x ≤ 1 → ∀ (s : List (List Int) × List (List (List Int))), Agr n a t s.1 → Sq n s.1 →
        (onTry n d a rs cs x s).2 = s.2 ++ (E n d (a + 1) (setAt t (a / n) (a % n) x)).filter readOk ∧ Agr n a t (onTry n d a rs cs x s).1 ∧ Sq n (onTry n d a rs cs x s).1 := fun x hx s hs qs => by
      have eE : E n d (a + 1) (setAt s.1 (a / n) (a % n) x) = E n d (a + 1) (setAt t (a / n) (a % n) x) :=
        (E_congr d (a + 1) (by omega) (q.setAt hi hx) (qs.setAt hi hx) (hs.set q qs hlt)).symm
      have gs : ∀ p, p ≤ a → Gd n p s.1 := fun p hp => (hs.mono hp).gd' (g p hp)
      have er : rs.getD (a / n) 0 = rowX n a s.1 (a / n) := by rw [hr _ hi, hs.row hi]
      have ec : cs.getD (a % n) 0 = colX n a s.1 (a % n) := by rw [hc _ hk, hs.col hk]
      unfold onTry
      by_cases c : okW n (a % n) (rs.getD (a / n) 0 + x) (cs.getD (a % n) 0 + x) = true
      · rw [if_pos c]
        rw [er, ec] at c
        have G := (gd_step qs hlt (gs a (Nat.le_refl _))).1 c
        obtain ⟨i1, i2, i3⟩ := on_E h1 h5 d (a + 1) (t := setAt s.1 (a / n) (a % n) x) (rs := rs.set (a / n) (rs.getD (a / n) 0 + x)) (cs := cs.set (a % n) (cs.getD (a % n) 0 + x)) (by omega) (qs.setAt hi hx) (gd_low qs hlt gs G) (by simpa using lr) (by simpa using lc)
          (fun i h => by
            rw [rowX_set qs hlt h, List.getD_eq_getElem?_getD, List.getElem?_set]
            by_cases c : a / n = i
            · subst c
              rw [if_pos rfl, if_pos (by omega), if_pos rfl, Option.getD_some, er]
            · rw [if_neg c, if_neg (Ne.symm c), Int.add_zero, ← List.getD_eq_getElem?_getD, hr i h, hs.row h])
          (fun k h => by
            rw [colX_set qs hlt h, List.getD_eq_getElem?_getD, List.getElem?_set]
            by_cases c : a % n = k
            · subst c
              rw [if_pos rfl, if_pos (by omega), if_pos rfl, Option.getD_some, ec]
            · rw [if_neg c, if_neg (Ne.symm c), Int.add_zero, ← List.getD_eq_getElem?_getD, hc k h, hs.col h])
        refine ⟨by rw [i1, eE], hs.trans (i2.up qs hlt), i3⟩
      · rw [if_neg c]
        refine ⟨?_, hs, qs⟩
        rw [← eE, E_gd (by omega) (qs.setAt hi hx), List.append_nil]
        intro G
        refine c ?_
        rw [er, ec]
        exact (gd_step qs hlt (gs a (Nat.le_refl _))).2 G
    obtain ⟨a1, a2, a3⟩ := step (-1) (by omega) (t, []) Agr.rfl' q
    obtain ⟨b1, b2, b3⟩ := step 0 (by omega) _ a2 a3
    obtain ⟨c1, c2, c3⟩ := step 1 (by omega) _ b2 b3
    rw [onP_try]
    refine ⟨?_, c2, c3⟩
    rw [c1, b1, a1, E_s]
    rw [List.filter_append, List.filter_append, List.append_assoc, List.append_assoc]
    rfl

theorem gd_zero : ∀ p, p ≤ 0 → Gd n p (zeroT n) := fun p hp => by
  obtain rfl : p = 0 := by omega
  have r : ∀ i, rowX n 0 (zeroT n) i = 0 := fun i => sumF_zero n 0 fun k _ _ => by rw [if_neg (by omega)]
  have c : ∀ i, colX n 0 (zeroT n) i = 0 := fun i => sumF_zero n 0 fun k _ _ => by rw [if_neg (by omega)]
  refine ⟨fun i hi => by rw [r]; omega, fun k hk => by rw [c]; omega, fun i hi h => ?_⟩
  rw [Nat.add_mul] at h; omega
theorem fillL_E (h1 : 1 ≤ n) (h5 : n ≤ 5) : fillL n = (E n (n * n) 0 (zeroT n)).filter readOk := by
  have := (fill_E h1 h5 (n * n) 0 (ts := []) (by omega) Sq.zero gd_zero (fun k hk h => by omega)).1
  rwa [List.nil_append] at this
theorem allL_E (h1 : 1 ≤ n) (h5 : n ≤ 5) : allL n = (E n (n * n) 0 (zeroT n)).filter readOk := by
  refine (on_E h1 h5 (n * n) 0 (by omega) Sq.zero gd_zero (by simp) (by simp) (fun i hi => ?_) fun k hk => ?_).1
  · rw [show rowX n 0 (zeroT n) i = 0 from sumF_zero n 0 fun k _ _ => by rw [if_neg (by omega)], getD_get (by simpa using hi)]; simp
  · rw [show colX n 0 (zeroT n) k = 0 from sumF_zero n 0 fun k _ _ => by rw [if_neg (by omega)], getD_get (by simpa using hk)]; simp
theorem all_fill (h1 : 1 ≤ n) (h5 : n ≤ 5) : allL n = fillL n := (allL_E h1 h5).trans (fillL_E h1 h5).symm
theorem allL_veil (h1 : 1 ≤ n) (h5 : n ≤ 5) {u : List (List Int)} (h : u ∈ allL n) : Veil u ∧ u.length = n := by
  rw [allL_E h1 h5, List.mem_filter] at h
  exact ⟨veil_iff.1 h.2, (E_mem (n * n) 0 (by omega) Sq.zero h.1).1.len⟩
theorem Veil.in_all {u : List (List Int)} (V : Veil u) : u ∈ allL u.length := by
  rw [allL_E V.n1 V.n5, List.mem_filter]
  exact ⟨E_all _ 0 (by omega) Sq.zero V.sq fun i k _ _ h => by omega, veil_iff.2 V⟩
end
end Go.X
