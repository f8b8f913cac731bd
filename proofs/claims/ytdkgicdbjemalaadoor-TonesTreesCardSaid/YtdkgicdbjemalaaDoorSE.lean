import Derived.Test.YtdkgicdbjemalaaDoorSD1
import Derived.Test.YtdkgicdbjemalaaDoorSD2
import Derived.Test.YtdkgicdbjemalaaDoorSD3
import Derived.Test.YtdkgicdbjemalaaDoorSD4
import Derived.Test.YtdkgicdbjemalaaDoorSD5
import Derived.Test.YtdkgicdbjemalaaDoorSD6
import Derived.Test.YtdkgicdbjemalaaDoorRC
import Derived.Test.YtdkgicdbjemalaaDoorNO
/-! Tones: rings, parts and wires of a frame; tones and matchings are the same exactly if there are no rings. -/
set_option linter.unusedSimpArgs false
set_option linter.unusedVariables false
set_option maxRecDepth 10000
namespace Go.X

/-! ### Tones less matchings -/
theorem hs_and {f : List Nat} {a b : Nat} (h : a &&& b = b) (ha : hs f a = true) : hs f b = true := by
  unfold hs at *
  rw [List.all_eq_true] at *
  intro p hp
  have h1 := ha p hp
  have h2 : b.testBit (ix p.1 p.2) = (a &&& b).testBit (ix p.1 p.2) := by rw [h]
  rw [Nat.testBit_and] at h2
  cases hb : b.testBit (ix p.1 p.2) with
  | false => rfl
  | true =>
    rw [hb] at h2
    cases hx : a.testBit (ix p.1 p.2) with
    | false => rw [hx] at h2; cases h2
    | true => rw [hx] at h1; simpa using h1

structure DrOk (n : Nat) (x : Rng) : Prop where
  sub : x.1.1 &&& x.2.1 = x.2.1
  le : x.2.2 ≤ x.1.2.1
  one : x.2.2 = x.1.2.1 → x.1.1 = x.2.1 ∧ x.1.2.2 = -2
  more : x.2.2 ≠ x.1.2.1 → ∃ y ∈ DR n, y.2.2 = y.1.2.1 ∧ y.2.2 = x.2.2 ∧ y.2.1 = x.2.1
theorem dr_ok {n : Nat} (h7 : n ≤ 7) {x : Rng} (hx : x ∈ DR n) : DrOk n x := by
  have h := List.all_eq_true.1 (List.all_eq_true.1 dr_all n (List.mem_range.2 (by omega))) x hx
  rw [Bool.and_eq_true, Bool.and_eq_true, Bool.and_eq_true] at h
  obtain ⟨h1, h2, h8, h3⟩ := h
  have h8 : x.2.2 < 8 := by simpa [Nat.blt, Nat.lt_iff_add_one_le] using h8
  refine ⟨Nat.eq_of_beq_eq_true h1, Nat.le_of_ble_eq_true h2, fun e => ?_, fun e => ?_⟩
  · have hs : single x = true := by unfold single; rw [e]; exact Nat.beq_refl _
    rw [if_pos hs, Bool.and_eq_true] at h3
    exact ⟨Nat.eq_of_beq_eq_true h3.1, by simpa using h3.2⟩
  · have hs : ¬ single x = true := fun c => e (Nat.eq_of_beq_eq_true c)
    rw [if_neg hs] at h3
    obtain ⟨y, hy, e1⟩ := List.mem_map.1 (treeN_mem h3)
    rw [List.mem_filter] at hy
    have hy8 : y.2.2 < 8 := by
      have h := List.all_eq_true.1 (List.all_eq_true.1 dr_all n (List.mem_range.2 (by omega))) y hy.1
      rw [Bool.and_eq_true, Bool.and_eq_true, Bool.and_eq_true] at h
      have := h.2.2.1
      simpa [Nat.blt, Nat.lt_iff_add_one_le] using this
    exact ⟨y, hy.1, Nat.eq_of_beq_eq_true hy.2, by omega, by omega⟩

/-- A frame has a ring. -/
def Cyc (f : List Nat) : Prop := ∃ r ∈ RG f.length, hs f r = true

theorem ev_zero {f : List Nat} {j : Nat} : ∀ {L : List Ent}, (∀ x ∈ L, hs f x.1 = false) → evE f L j = 0
  | [], _ => rfl
  | x :: L, h => by
    simp only [evE]
    rw [h x List.mem_cons_self, ev_zero fun y hy => h y (List.mem_cons_of_mem _ hy)]; simp
theorem ev_neg {f : List Nat} {j : Nat} : ∀ {L : List Ent}, (∀ x ∈ L, x.2.1 = j → hs f x.1 = true → x.2.2 = -2) → evE f L j ≤ 0 ∧ -2 * (L.length : Int) ≤ evE f L j ∧ ((∃ x ∈ L, x.2.1 = j ∧ hs f x.1 = true) → evE f L j < 0)
  | [], _ => ⟨by simp [evE], by simp [evE], fun ⟨x, hx, _⟩ => by cases hx⟩
  | x :: L, h => by
    obtain ⟨a1, a2, a3⟩ := ev_neg (L := L) (j := j) fun y hy => h y (List.mem_cons_of_mem _ hy)
    simp only [evE, List.length_cons]
    by_cases c : x.2.1 = j ∧ hs f x.1 = true
    · rw [if_pos c, h x List.mem_cons_self c.1 c.2]
      exact ⟨by omega, by omega, fun _ => by omega⟩
    · rw [if_neg c]
      refine ⟨by omega, by omega, fun ⟨y, hy, h1⟩ => ?_⟩
      rcases List.mem_cons.1 hy with rfl | hy
      · exact absurd h1 c
      · have := a3 ⟨y, hy, h1⟩; omega

theorem ds_all {n : Nat} (h7 : n ≤ 7) : dsB n = true := by
  rcases Nat.lt_or_ge n 7 with h | h
  · exact List.all_eq_true.1 ds_6 n (List.mem_range.2 (by omega))
  · have : n = 7 := by omega
    subst this; exact ds_7
theorem getD_wr' {l : List Int} {i : Nat} (h : i < l.length) : (l.map wr).getD i 0 = wr (l.getD i 0) := by
  simp only [List.getD_eq_getElem?_getD, List.getElem?_map, List.getElem?_eq_getElem h, Option.map_some, Option.getD_some]

theorem diff_ev {f : List Nat} (h7 : f.length ≤ 7) (j : Nat) : evE f (tnL f.length) j = evE f (maY f.length 7 (full f.length)) j + evE f ((DR f.length).map fun x => x.1) j := by
  rw [← evE_app]
  exact sameE_ev (ds_all h7) f j

theorem no_ring {f : List Nat} (h7 : f.length ≤ 7) (h : ¬ Cyc f) (j : Nat) : evE f ((DR f.length).map fun x => x.1) j = 0 := by
  refine ev_zero fun x hx => ?_
  obtain ⟨y, hy, rfl⟩ := List.mem_map.1 hx
  have ok := dr_ok h7 hy
  refine Bool.eq_false_iff.2 fun e => h ?_
  have h1 := hs_and ok.sub e
  by_cases c : y.2.2 = y.1.2.1
  · exact ⟨y.2.1, List.mem_map.2 ⟨y, List.mem_filter.2 ⟨hy, by unfold single; rw [c]; exact Nat.beq_refl _⟩, rfl⟩, h1⟩
  · obtain ⟨z, hz, e1, e2, e3⟩ := ok.more c
    exact ⟨z.2.1, List.mem_map.2 ⟨z, List.mem_filter.2 ⟨hz, by unfold single; rw [e1]; exact Nat.beq_refl _⟩, rfl⟩, by rw [e3]; exact h1⟩
theorem least {P : Nat → Prop} : ∀ (n : Nat), P n → ∃ m, P m ∧ ∀ k, k < m → ¬ P k := by
  intro n
  induction n using Nat.strongRecOn with
  | _ n ih =>
    intro h
    by_cases c : ∃ k, k < n ∧ P k
    · obtain ⟨k, hk, hp⟩ := c
      exact ih k hk hp
    · exact ⟨n, h, fun k hk hp => c ⟨k, hk, hp⟩⟩
theorem some_ring {f : List Nat} (h7 : f.length ≤ 7) (h : Cyc f) : ∃ g, evE f ((DR f.length).map fun x => x.1) g < 0 ∧ -200000 ≤ evE f ((DR f.length).map fun x => x.1) g := by
  obtain ⟨r, hr, hrf⟩ := h
  obtain ⟨y0, hy0, rfl⟩ := List.mem_map.1 hr
  rw [List.mem_filter] at hy0
  have e0 : y0.2.2 = y0.1.2.1 := Nat.eq_of_beq_eq_true hy0.2
  obtain ⟨g, ⟨y, hy, e1, e2, e3⟩, hmin⟩ := least (P := fun g => ∃ y ∈ DR f.length, y.2.2 = y.1.2.1 ∧ y.2.2 = g ∧ hs f y.2.1 = true) y0.2.2 ⟨y0, hy0.1, e0, rfl, hrf⟩
  have hk := ev_neg (f := f) (j := g) (L := (DR f.length).map fun x => x.1) fun x hx hj hf => by
    obtain ⟨z, hz, rfl⟩ := List.mem_map.1 hx
    have ok := dr_ok h7 hz
    have h1 := hs_and ok.sub hf
    by_cases c : z.2.2 = z.1.2.1
    · exact (ok.one c).2
    · obtain ⟨w, hw, w1, w2, w3⟩ := ok.more c
      refine absurd ⟨w, hw, w1, rfl, by rw [w3]; exact h1⟩ (hmin w.2.2 ?_)
      have := ok.le
      omega
  refine ⟨g, hk.2.2 ⟨y.1, List.mem_map.2 ⟨y, hy, rfl⟩, by omega, ?_⟩, ?_⟩
  · rw [((dr_ok h7 hy).one e1).1]; exact e3
  · have := hk.2.1
    rw [List.length_map] at this
    have h2 := Nat.le_of_ble_eq_true (List.all_eq_true.1 dr_len f.length (List.mem_range.2 (by omega)))
    omega

theorem wr_eq {a b : Int} (h : wr a = wr b) (h1 : a - b < 1000000000) (h2 : -1000000000 < a - b) : a = b := by
  simp only [wr, IntKind.wrap_i64] at h
  omega

/-- Tones and matchings are the same exactly if there are no rings. -/
theorem same_iff {f : List Nat} (hS : Sy f) (h7 : f.length ≤ 7) : (polyL f (-1) (-2)).map wr = (polyL f (-1) 0).map wr ↔ ¬ Cyc f := by
  constructor
  · intro h hc
    obtain ⟨g, g1, g2⟩ := some_ring h7 hc
    have hd := diff_ev h7 g
    by_cases hg : g ≤ f.length
    · have e1 : ((polyL f (-1) (-2)).map wr).getD (f.length - g) 0 = ((polyL f (-1) 0).map wr).getD (f.length - g) 0 := by rw [h]
      rw [getD_wr' (by rw [polyL_len]; omega), getD_wr' (by rw [polyL_len]; omega), tones_ev hS h7 (by omega), match_ev hS h7 (by omega)] at e1
      have e2 : f.length - (f.length - g) = g := by omega
      rw [e2] at e1
      have := wr_eq e1 (by omega) (by omega)
      omega
    · have hz : evE f ((DR f.length).map fun x => x.1) g = 0 := by
        have t0 : ∀ L : List Ent, (∀ x ∈ L, x.2.1 ≤ f.length) → evE f L g = 0 := fun L => by
          induction L with
          | nil => intro _; rfl
          | cons x L ih =>
            intro hx
            simp only [evE]
            have := hx x List.mem_cons_self
            rw [if_neg (by omega), ih fun y hy => hx y (List.mem_cons_of_mem _ hy), Int.add_zero]
        exact t0 _ fun x hx => by
          obtain ⟨y, hy, rfl⟩ := List.mem_map.1 hx
          exact Nat.le_of_ble_eq_true (List.all_eq_true.1 (List.all_eq_true.1 dr_top f.length (List.mem_range.2 (by omega))) y hy)
      omega
  · intro h
    have : polyL f (-1) (-2) = polyL f (-1) 0 := by
      refine ext_getD (by rw [polyL_len, polyL_len]) fun j hj => ?_
      rw [polyL_len] at hj
      rw [tones_ev hS h7 (by omega), match_ev hS h7 (by omega), diff_ev h7, no_ring h7 h, Int.add_zero]
    rw [this]

/-! ### Walks -/
def adj (f : List Nat) (i k : Nat) : Bool := (f.getD i 0).testBit k
def Wk (f : List Nat) (n : Nat) : Nat → Nat → Nat → Bool
  | 0, p, u => p == u
  | d + 1, p, u => p == u || (List.range n).any fun k => adj f p k && Wk f n d k u
theorem Wk_step {f : List Nat} {n d p u : Nat} : Wk f n (d + 1) p u = true ↔ p = u ∨ ∃ k, k < n ∧ adj f p k = true ∧ Wk f n d k u = true := by
  simp only [Wk, Bool.or_eq_true, beq_iff_eq, List.any_eq_true, List.mem_range, Bool.and_eq_true]
theorem Wk_refl {f : List Nat} {n p : Nat} : ∀ (d : Nat), Wk f n d p p = true
  | 0 => by simp [Wk]
  | d + 1 => Wk_step.2 (.inl rfl)
theorem Wk_more {f : List Nat} {n : Nat} : ∀ {d p u : Nat}, Wk f n d p u = true → Wk f n (d + 1) p u = true
  | 0, p, u, h => by
    have : p = u := by simpa [Wk] using h
    exact Wk_step.2 (.inl this)
  | d + 1, p, u, h => by
    rcases Wk_step.1 h with h | ⟨k, h1, h2, h3⟩
    · exact Wk_step.2 (.inl h)
    · exact Wk_step.2 (.inr ⟨k, h1, h2, Wk_more h3⟩)
theorem Wk_le {f : List Nat} {n d p u : Nat} (h : Wk f n d p u = true) : ∀ {e : Nat}, d ≤ e → Wk f n e p u = true := by
  intro e he
  induction he with
  | refl => exact h
  | step _ ih => exact Wk_more ih
theorem Wk_trans {f : List Nat} {n e q u : Nat} (h2 : Wk f n e q u = true) : ∀ {d p : Nat}, Wk f n d p q = true → Wk f n (d + e) p u = true
  | 0, p, h => by
    have : p = q := by simpa [Wk] using h
    subst this
    rw [Nat.zero_add]; exact h2
  | d + 1, p, h => by
    rcases Wk_step.1 h with h | ⟨k, h1, h3, h4⟩
    · subst h
      exact Wk_le h2 (by omega)
    · have := Wk_trans h2 h4
      have e : d + 1 + e = (d + e) + 1 := by omega
      rw [e]
      exact Wk_step.2 (.inr ⟨k, h1, h3, this⟩)
theorem Wk_symm {f : List Nat} {n : Nat} (hA : ∀ i k, adj f i k = adj f k i) (hn : ∀ i k, adj f i k = true → i < n) : ∀ {d p u : Nat}, Wk f n d p u = true → Wk f n d u p = true
  | 0, p, u, h => by
    have : p = u := by simpa [Wk] using h
    subst this; exact h
  | d + 1, p, u, h => by
    rcases Wk_step.1 h with h | ⟨k, h1, h2, h3⟩
    · subst h; exact Wk_refl _
    · exact Wk_trans (Wk_step (d := 0) (p := k) (u := p) |>.2 (.inr ⟨p, hn p k h2, by rw [hA]; exact h2, Wk_refl _⟩)) (Wk_symm hA hn h3)

/-- A way that meets no knot twice. -/
def pth (f : List Nat) (n u : Nat) : Nat → Nat → Nat → Bool
  | 0, _, _ => false
  | d + 1, p, left => p == u || (List.range n).any fun k => left.testBit k && (adj f p k && pth f n u d k (dl left (2 ^ k)))
theorem pth_of {f : List Nat} {n u : Nat} (h7 : n ≤ 7) : ∀ (e p left d : Nat), Wk f n e p u = true → (∀ e', e' < e → Wk f n e' p u = false) → (∀ x e', x < n → e' < e → Wk f n e' x u = true → left.testBit x = true) → pc left < d → pth f n u d p left = true
  | 0, p, left, d, h, _, _, hd => by
    have : p = u := by simpa [Wk] using h
    subst this
    obtain ⟨d, rfl⟩ : ∃ c, d = c + 1 := ⟨d - 1, by omega⟩
    simp [pth]
  | e + 1, p, left, d, h, hmin, hleft, hd => by
    obtain ⟨d, rfl⟩ : ∃ c, d = c + 1 := ⟨d - 1, by omega⟩
    rcases Wk_step.1 h with h | ⟨k, h1, h2, h3⟩
    · subst h; simp [pth]
    · have hk : ∀ e', e' < e → Wk f n e' k u = false := fun e' he' => by
        refine Bool.eq_false_iff.2 fun c => ?_
        have := hmin (e' + 1) (by omega)
        rw [Wk_step.2 (.inr ⟨k, h1, h2, c⟩)] at this
        cases this
      have hlk := hleft k e h1 (by omega) h3
      simp only [pth]
      rw [Bool.or_eq_true, List.any_eq_true]
      refine .inr ⟨k, List.mem_range.2 h1, ?_⟩
      rw [hlk, h2, Bool.true_and, Bool.true_and]
      have hpc : pc (dl left (2 ^ k)) < pc left := pc_lt (k := k) (fun j hj => by rw [dl_bit] at hj; simp at hj; exact hj.1) (by omega) (by rw [dl_bit, Nat.testBit_two_pow_self]; simp) hlk
      refine pth_of h7 e k _ d h3 hk (fun x e' hx he' hw => ?_) (by omega)
      have hxk : x ≠ k := fun c => by
        subst c
        rw [hk e' he'] at hw; cases hw
      rw [dl_bit, hleft x e' hx (by omega) hw, Nat.testBit_two_pow]
      simp [Ne.symm hxk]
theorem pth_walk {f : List Nat} {n i u d : Nat} (h7 : n ≤ 7) (hi : i < n) (h : Wk f n d i u = true) : pth f n u 7 i (dl (full n) (2 ^ i)) = true := by
  obtain ⟨e, he, hmin⟩ := least (P := fun d => Wk f n d i u = true) d h
  have hm : ∀ e', e' < e → Wk f n e' i u = false := fun e' h' => Bool.eq_false_iff.2 (hmin e' h')
  refine pth_of h7 e i _ 7 he hm (fun x e' hx he' hw => ?_) ?_
  · have hxi : x ≠ i := fun c => by
      subst c
      rw [hm e' he'] at hw; cases hw
    rw [dl_bit, Nat.testBit_two_pow]
    unfold full
    rw [Nat.testBit_two_pow_sub_one]
    simp [hx, Ne.symm hxi]
  · have h1 : pc (dl (full n) (2 ^ i)) < pc (full n) := pc_lt (k := i) (fun j hj => by rw [dl_bit] at hj; simp at hj; exact hj.1) (by omega) (by rw [dl_bit, Nat.testBit_two_pow_self]; simp) (by unfold full; rw [Nat.testBit_two_pow_sub_one]; simpa using hi)
    have h2 := pc_full h7
    unfold full at *
    omega

/-- .. as a set of wires. -/
theorem wayM_of {f : List Nat} (hS : Sy f) (h7 : f.length ≤ 7) (hno : ∀ i, i < f.length → (f.getD i 0).testBit i = false) {u : Nat} : ∀ (d p left cur : Nat), p < f.length → pth f f.length u d p left = true → hs f cur = true → ∃ m ∈ wayM f.length u d p left cur, hs f m = true
  | 0, p, left, cur, _, h, _ => by cases h
  | d + 1, p, left, cur, hp, h, hc => by
    simp only [wayM]
    by_cases e : p = u
    · rw [if_pos e]; exact ⟨cur, List.mem_singleton.2 rfl, hc⟩
    · rw [if_neg e]
      simp only [pth, Bool.or_eq_true, beq_iff_eq, e, false_or, List.any_eq_true, Bool.and_eq_true, List.mem_range] at h
      obtain ⟨k, hk, hl, ha, hr⟩ := h
      have hne : p ≠ k := fun c => by
        subst c
        unfold adj at ha
        rw [hno p hp] at ha; cases ha
      obtain ⟨m, hm, hf⟩ := wayM_of hS h7 hno d k (dl left (2 ^ k)) (cur ||| eb p k) hk hr (by rw [hs_or, hc, hs_eb hS hp hk h7 hne]; exact ha)
      exact ⟨m, List.mem_flatMap.2 ⟨k, List.mem_range.2 hk, by rw [if_pos hl]; exact hm⟩, hf⟩
theorem wayM_sub {n u : Nat} : ∀ (d p left cur m : Nat), m ∈ wayM n u d p left cur → ∀ j, cur.testBit j = true → m.testBit j = true
  | 0, p, left, cur, m, h, _, _ => by cases h
  | d + 1, p, left, cur, m, h, j, hj => by
    simp only [wayM] at h
    split at h
    · rw [List.mem_singleton.1 h]; exact hj
    · obtain ⟨k, _, hk⟩ := List.mem_flatMap.1 h
      split at hk
      · exact wayM_sub d k _ _ m hk j (by rw [Nat.testBit_or, hj, Bool.true_or])
      · cases hk
/-- Labels that are the same along the wires of a way are the same at its ends. -/
theorem wayM_lab {n u : Nat} (lab : Nat → Nat) : ∀ (d p left cur m : Nat), p < n → m ∈ wayM n u d p left cur → (∀ a b, a < n → b < n → a ≠ b → m.testBit (ix a b) = true → lab a = lab b) → left.testBit p = false → lab p = lab u
  | 0, p, left, cur, m, _, h, _, _ => by cases h
  | d + 1, p, left, cur, m, hp, h, hl, hpl => by
    simp only [wayM] at h
    split at h
    · rename_i e; rw [e]
    · obtain ⟨k, hk0, hk⟩ := List.mem_flatMap.1 h
      have hk1 := List.mem_range.1 hk0
      split at hk
      · rename_i hb
        have hne : p ≠ k := fun c => by subst c; rw [hpl] at hb; cases hb
        have h1 := wayM_sub d k _ _ m hk (ix p k) (by rw [Nat.testBit_or]; unfold eb; rw [Nat.testBit_two_pow_self, Bool.or_true])
        rw [hl p k hp hk1 hne h1]
        exact wayM_lab lab d k _ _ m hk1 hk hl (by rw [dl_bit, Nat.testBit_two_pow_self]; simp)
      · cases hk
end Go.X
