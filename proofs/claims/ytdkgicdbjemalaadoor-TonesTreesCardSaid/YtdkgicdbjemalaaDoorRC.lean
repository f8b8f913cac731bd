import Derived.Test.YtdkgicdbjemalaaDoorRA
import Derived.Test.YtdkgicdbjemalaaDoorNC

/-! Tones: frames by a list of labels; what does not change if the labels are taken in another order. -/
set_option linter.unusedSimpArgs false
set_option linter.unusedVariables false
set_option maxRecDepth 10000
namespace Go.X

/-! ### Renumbered frames and lists of figures -/
theorem hs_rn {f g : List Nat} {K : List Nat} (hS : Sy f) (h7 : f.length ≤ 7) (g7 : g.length ≤ 7) (hlt : ∀ i, i < g.length → K.getD i 0 < f.length)
    (hbit : ∀ i k, i < g.length → k < g.length → (g.getD i 0).testBit k = (f.getD (K.getD i 0) 0).testBit (K.getD k 0))
    (hinj : ∀ i k, i < k → k < g.length → K.getD i 0 ≠ K.getD k 0) {m : Nat} (hm : m < 2 ^ (g.length * (g.length - 1) / 2)) : hs g m = hs f (ren K m) := by
  unfold ren
  rw [hs_fold f (fun p => m.testBit (ix p.1 p.2)), hs_zero, Bool.true_and]
  unfold hs
  refine all_congr' fun p hp => ?_
  cases hb : m.testBit (ix p.1 p.2) with
  | false => rfl
  | true =>
    have hlt2 : p.1 < p.2 ∧ p.2 < 7 := by
      have : ∀ p ∈ prs, p.1 < p.2 ∧ p.2 < 7 := by decide
      exact this p hp
    have h2 : p.2 < g.length := by
      have := List.all_eq_true.1 (List.all_eq_true.1 ix_big g.length (List.mem_range.2 (by omega))) p hp
      rw [Bool.or_eq_true, decide_eq_true_eq, decide_eq_true_eq] at this
      rcases this with h | h
      · exact h
      · rw [Nat.testBit_lt_two_pow (Nat.lt_of_lt_of_le hm (Nat.pow_le_pow_right (by decide) h))] at hb; cases hb
    have h1 : p.1 < g.length := by omega
    have := hs_eb hS (hlt _ h1) (hlt _ h2) h7 (hinj _ _ hlt2.1 h2)
    unfold hs at this
    rw [this, ← hbit _ _ h1 h2]

/-! ### Frames by labels -/
def bitsL : List Bool → Nat
  | [] => 0
  | b :: l => b.toNat + 2 * bitsL l
theorem bitsL_bit : ∀ (l : List Bool) (i : Nat), (bitsL l).testBit i = l.getD i false
  | [], i => by simp [bitsL]
  | b :: l, 0 => by
    simp only [bitsL, List.getD_cons_zero, Nat.testBit_zero]
    cases b <;> simp <;> omega
  | b :: l, i + 1 => by
    simp only [bitsL, List.getD_cons_succ, Nat.testBit_succ]
    rw [← bitsL_bit l i]
    congr 1
    cases b <;> simp <;> omega
theorem bitsL_lt : ∀ (l : List Bool), bitsL l < 2 ^ l.length
  | [] => by simp [bitsL]
  | b :: l => by
    have := bitsL_lt l
    have hb : b.toNat ≤ 1 := by cases b <;> decide
    simp only [bitsL, List.length_cons, Nat.pow_succ]
    omega

/-- The knots of f that a list names, in this order. -/
def frm (f : List Nat) (t : List Nat) : List Nat := t.map fun a => bitsL (t.map fun b => (f.getD a 0).testBit b)
theorem frm_len (f t : List Nat) : (frm f t).length = t.length := by simp [frm]
theorem getD_mapN {α : Type} {f : Nat → α} {l : List Nat} {i : Nat} {d : α} (h : i < l.length) : (l.map f).getD i d = f (l.getD i 0) := by
  simp only [List.getD_eq_getElem?_getD, List.getElem?_map, List.getElem?_eq_getElem h, Option.map_some, Option.getD_some]
theorem frm_bit {f t : List Nat} {i k : Nat} (hi : i < t.length) (hk : k < t.length) : ((frm f t).getD i 0).testBit k = (f.getD (t.getD i 0) 0).testBit (t.getD k 0) := by
  unfold frm
  rw [getD_mapN hi, bitsL_bit, getD_mapN hk]
theorem frm_lt {f t : List Nat} {i : Nat} (hi : i < t.length) : (frm f t).getD i 0 < 2 ^ t.length := by
  unfold frm
  rw [getD_mapN hi]
  have := bitsL_lt (t.map fun b => (f.getD (t.getD i 0) 0).testBit b)
  rwa [List.length_map] at this
theorem getD_mem {l : List Nat} {i : Nat} (h : i < l.length) : l.getD i 0 ∈ l := by
  rw [List.getD_eq_getElem?_getD, List.getElem?_eq_getElem h, Option.getD_some]; exact List.getElem_mem h
theorem frm_sy {f t : List Nat} (hS : Sy f) (ht : ∀ a ∈ t, a < f.length) : Sy (frm f t) := by
  intro i k hi hk
  rw [frm_len] at hi hk
  rw [frm_bit hi hk, frm_bit hk hi]
  exact hS _ _ (ht _ (getD_mem hi)) (ht _ (getD_mem hk))

/-- A frame is what its bits say. -/
theorem frm_eq {f g t : List Nat} (hl : g.length = t.length) (hg : ∀ i, i < g.length → g.getD i 0 < 2 ^ g.length) (h : ∀ i k, i < t.length → k < t.length → (g.getD i 0).testBit k = (f.getD (t.getD i 0) 0).testBit (t.getD k 0)) : g = frm f t := by
  apply List.ext_getElem?
  intro i
  by_cases hi : i < t.length
  · have e1 : g[i]? = some (g.getD i 0) := by rw [List.getD_eq_getElem?_getD, List.getElem?_eq_getElem (by omega)]; rfl
    have e2 : (frm f t)[i]? = some ((frm f t).getD i 0) := by rw [List.getD_eq_getElem?_getD, List.getElem?_eq_getElem (by rw [frm_len]; omega)]; rfl
    rw [e1, e2]
    congr 1
    apply Nat.eq_of_testBit_eq
    intro k
    by_cases hk : k < t.length
    · rw [h i k hi hk, frm_bit hi hk]
    · have a1 := hg i (by omega)
      have a2 := frm_lt (f := f) hi
      have hp : 2 ^ t.length ≤ 2 ^ k := Nat.pow_le_pow_right (by decide) (by omega)
      rw [hl] at a1
      rw [Nat.testBit_lt_two_pow (by omega), Nat.testBit_lt_two_pow (by omega)]
  · rw [List.getElem?_eq_none (by omega), List.getElem?_eq_none (by rw [frm_len]; omega)]
theorem range_getD {n i : Nat} (h : i < n) : (List.range n).getD i 0 = i := by
  rw [List.getD_eq_getElem?_getD, List.getElem?_range h]; rfl
theorem frm_range {g : List Nat} (hg : ∀ i, i < g.length → g.getD i 0 < 2 ^ g.length) : g = frm g (List.range g.length) := by
  refine frm_eq (by simp) hg fun i k hi hk => ?_
  rw [List.length_range] at hi hk
  rw [range_getD hi, range_getD hk]

/-! ### Neighbours swapped -/
theorem swap_getD (p t : List Nat) (a b : Nat) (x : Nat) : (p ++ b :: a :: t).getD x 0 = (p ++ a :: b :: t).getD (if x = p.length then p.length + 1 else if x = p.length + 1 then p.length else x) 0 := by
  simp only [List.getD_eq_getElem?_getD]
  by_cases h1 : x < p.length
  · rw [if_neg (by omega), if_neg (by omega), List.getElem?_append_left h1, List.getElem?_append_left h1]
  · obtain ⟨d, rfl⟩ : ∃ d, x = p.length + d := ⟨x - p.length, by omega⟩
    rw [List.getElem?_append_right (by omega)]
    match d with
    | 0 =>
      rw [if_pos (by omega), List.getElem?_append_right (by omega)]
      simp
    | 1 =>
      rw [if_neg (by omega), if_pos rfl, List.getElem?_append_right (by omega)]
      simp
    | d + 2 =>
      rw [if_neg (by omega), if_neg (by omega), List.getElem?_append_right (by omega)]
      simp
theorem swL_getD {n i x : Nat} (h : x < n) : (swL n i).getD x 0 = if x = i then i + 1 else if x = i + 1 then i else x := by
  unfold swL
  rw [getD_mapN (by simpa using h), range_getD h]

/-- A list of figures that a swap of any two neighbours leaves. -/
structure Still (n : Nat) (L : List Ent) : Prop where
  lt : ∀ x ∈ L, x.1 < 2 ^ (n * (n - 1) / 2)
  sw : ∀ i, i + 1 < n → ∀ f j, evE f (renE (swL n i) L) j = evE f L j

theorem Still.swap {n : Nat} {L : List Ent} (h : Still n L) {f p t : List Nat} {a b : Nat} (hS : Sy f) (hn : (p ++ a :: b :: t).length = n) (n7 : n ≤ 7) (ht : ∀ c ∈ p ++ a :: b :: t, c < f.length) (j : Nat) :
    evE (frm f (p ++ b :: a :: t)) L j = evE (frm f (p ++ a :: b :: t)) L j := by
  have hn' : (p ++ b :: a :: t).length = n := by rw [← hn]; simp
  have hpn : p.length + 1 < n := by rw [← hn]; simp
  rw [← h.sw p.length hpn (frm f (p ++ a :: b :: t)) j]
  refine evE_ren fun x hx => hs_rn (frm_sy hS ht) (by rw [frm_len, hn]; exact n7) (by rw [frm_len, hn']; exact n7) ?_ ?_ ?_ ?_
  · intro i hi
    rw [frm_len, hn'] at hi
    rw [swL_getD hi, frm_len, hn]
    split
    · omega
    · split <;> omega
  · intro i k hi hk
    rw [frm_len, hn'] at hi hk
    have q : ∀ x, x < n → (if x = p.length then p.length + 1 else if x = p.length + 1 then p.length else x) < n := fun x hx => by
      split
      · omega
      · split <;> omega
    rw [frm_bit (by omega) (by omega), swL_getD hi, swL_getD hk, frm_bit (by rw [hn]; exact q i hi) (by rw [hn]; exact q k hk), ← swap_getD, ← swap_getD]
  · intro i k hik hk
    rw [frm_len, hn'] at hk
    rw [swL_getD (by omega), swL_getD hk]
    split <;> split <;> (try split) <;> (try split) <;> omega
  · rw [frm_len, hn']; exact h.lt x hx

theorem Still.perm {n : Nat} {L : List Ent} (h : Still n L) {f : List Nat} (hS : Sy f) (n7 : n ≤ 7) {t t' : List Nat} (hp : t.Perm t') : ∀ (p : List Nat), (p ++ t).length = n → (∀ c ∈ p ++ t, c < f.length) → ∀ j, evE (frm f (p ++ t)) L j = evE (frm f (p ++ t')) L j := by
  induction hp with
  | nil => intro p _ _ j; rfl
  | cons x _ ih =>
    intro p hn hc j
    have := ih (p ++ [x]) (by simpa using hn) (by simpa using hc) j
    simpa using this
  | swap x y l =>
    intro p hn hc j
    refine h.swap hS ?_ n7 ?_ j
    · rw [← hn]; simp
    · intro c hcm
      apply hc
      simp only [List.mem_append, List.mem_cons] at hcm ⊢
      rcases hcm with h | h | h | h
      · exact .inl h
      · exact .inr (.inr (.inl h))
      · exact .inr (.inl h)
      · exact .inr (.inr (.inr h))
  | trans h1 _ ih1 ih2 =>
    intro p hn hc j
    rw [ih1 p hn hc j]
    refine ih2 p ?_ ?_ j
    · rw [← hn, List.length_append, List.length_append, h1.length_eq]
    · intro c hcm
      apply hc
      rw [List.mem_append] at hcm ⊢
      exact hcm.imp id h1.mem_iff.2

/-! ### The lists of tones and of matchings -/
theorem dec_lt : ∀ (n b : Nat), ∀ x ∈ dec n b, x.1 < 2 ^ 21
  | 0, _, _, h => by cases h
  | n + 1, b, x, h => by
    simp only [dec, List.mem_cons] at h
    rcases h with rfl | h
    · exact Nat.lt_of_le_of_lt Nat.and_le_right (by decide)
    · exact dec_lt n _ x h

def tnL (n : Nat) : List Ent := if n = 7 then dec 2461 big7 else ovY n (-1) (-2) 7 (full n)
theorem tnL_ev {n : Nat} (f : List Nat) (j : Nat) : evE f (ovY n (-1) (-2) 7 (2 ^ n - 1)) j = evE f (tnL n) j := by
  unfold tnL
  by_cases h : n = 7
  · subst h
    rw [if_pos rfl, ← evE_srt f j 14, eqE_eq sachs_7a]
  · rw [if_neg h]; rfl
theorem tn_still {n : Nat} (h7 : n ≤ 7) : Still n (tnL n) := by
  unfold tnL
  by_cases h : n = 7
  · subst h
    rw [if_pos rfl]
    refine ⟨fun x hx => dec_lt _ _ x hx, fun i hi f j => ?_⟩
    have : swap7 i = true := by
      have : i = 0 ∨ i = 1 ∨ i = 2 ∨ i = 3 ∨ i = 4 ∨ i = 5 := by omega
      rcases this with rfl | rfl | rfl | rfl | rfl | rfl
      · exact swap_70
      · exact swap_71
      · exact swap_72
      · exact swap_73
      · exact swap_74
      · exact swap_75
    rw [← evE_srt f j 14, eqE_eq this]
  · rw [if_neg h]
    have hn := List.all_eq_true.1 swap_6 n (List.mem_range.2 (by omega))
    refine ⟨fun x hx => ?_, fun i hi f j => ?_⟩
    · rcases Nat.lt_or_ge 1 n with h1 | h1
      · have := List.all_eq_true.1 hn 0 (List.mem_range.2 (by omega))
        unfold swapB at this
        rw [Bool.and_eq_true] at this
        have := List.all_eq_true.1 this.2 x hx
        simpa [Nat.blt, Nat.lt_iff_add_one_le] using this
      · have h01 : n = 0 ∨ n = 1 := by omega
        rcases h01 with rfl | rfl
        · revert x; decide
        · revert x; decide
    · have := List.all_eq_true.1 hn i (List.mem_range.2 (by omega))
      unfold swapB at this
      rw [Bool.and_eq_true] at this
      exact sameE_ev this.1 f j
theorem ma_still {n : Nat} (h7 : n ≤ 7) : Still n (maY n 7 (full n)) := by
  have hn := List.all_eq_true.1 swap_m n (List.mem_range.2 (by omega))
  refine ⟨fun x hx => ?_, fun i hi f j => ?_⟩
  · rcases Nat.lt_or_ge 1 n with h1 | h1
    · have := List.all_eq_true.1 hn 0 (List.mem_range.2 (by omega))
      unfold swapM at this
      rw [Bool.and_eq_true] at this
      have := List.all_eq_true.1 this.2 x hx
      simpa [Nat.blt, Nat.lt_iff_add_one_le] using this
    · have h01 : n = 0 ∨ n = 1 := by omega
      rcases h01 with rfl | rfl
      · revert x; decide
      · revert x; decide
  · have := List.all_eq_true.1 hn i (List.mem_range.2 (by omega))
    unfold swapM at this
    rw [Bool.and_eq_true] at this
    exact sameE_ev this.1 f j

/-! ### Polynomials -/
theorem tones_ev {f : List Nat} (hS : Sy f) (h7 : f.length ≤ 7) {j : Nat} (hj : j ≤ f.length) : (polyL f (-1) (-2)).getD j 0 = evE f (tnL f.length) (f.length - j) := by
  have h2 : 1 ≤ 2 ^ f.length := Nat.pow_pos (by decide)
  rw [polyL_get hj, ← ov_sym hS h7 _ _ _ (by omega), tnL_ev]
theorem match_ev {f : List Nat} (hS : Sy f) (h7 : f.length ≤ 7) {j : Nat} (hj : j ≤ f.length) : (polyL f (-1) 0).getD j 0 = evE f (maY f.length 7 (full f.length)) (f.length - j) := by
  have h2 : 1 ≤ 2 ^ f.length := Nat.pow_pos (by decide)
  rw [polyL_get hj, ← ma_sym hS h7 _ _ _ (by omega)]
  rfl
theorem poly_perm {f t t' : List Nat} (hS : Sy f) (h7 : t.length ≤ 7) (hp : t.Perm t') (ht : ∀ c ∈ t, c < f.length) :
    polyL (frm f t) (-1) (-2) = polyL (frm f t') (-1) (-2) ∧ polyL (frm f t) (-1) 0 = polyL (frm f t') (-1) 0 := by
  have hl := hp.length_eq
  have ht' : ∀ c ∈ t', c < f.length := fun c hc => ht c (hp.mem_iff.2 hc)
  have hs1 := frm_sy hS ht
  have hs2 := frm_sy hS ht'
  have l1 := frm_len f t
  have l2 := frm_len f t'
  constructor
  · refine ext_getD (by rw [polyL_len, polyL_len, l1, l2, hl]) fun j hj => ?_
    rw [polyL_len, l1] at hj
    rw [tones_ev hs1 (by omega) (by omega), tones_ev hs2 (by omega) (by omega), l1, l2, ← hl]
    exact (tn_still h7).perm hS h7 hp [] (by simp) (by simpa using ht) _
  · refine ext_getD (by rw [polyL_len, polyL_len, l1, l2, hl]) fun j hj => ?_
    rw [polyL_len, l1] at hj
    rw [match_ev hs1 (by omega) (by omega), match_ev hs2 (by omega) (by omega), l1, l2, ← hl]
    exact (ma_still h7).perm hS h7 hp [] (by simp) (by simpa using ht) _
end Go.X

/-! Tones: orders of knots; closed walks of frames that are renumbered; what the law Renumbered makes of an order. -/
set_option linter.unusedSimpArgs false
set_option linter.unusedVariables false
set_option maxRecDepth 10000
namespace Go.X

/-! ### Orders -/
theorem nodup_len : ∀ (n : Nat) (t : List Nat), t.Nodup → (∀ a ∈ t, a < n) → t.length ≤ n
  | 0, t, _, h => by
    cases t with
    | nil => simp
    | cons a t => exact absurd (h a List.mem_cons_self) (by omega)
  | n + 1, t, hd, h => by
    by_cases hm : n ∈ t
    · have h1 := nodup_len n (t.erase n) (hd.erase n) fun a ha => by
        have h2 := h a (List.mem_of_mem_erase ha)
        have h3 : a ≠ n := fun e => by subst e; exact hd.not_mem_erase ha
        omega
      rw [List.length_erase_of_mem hm] at h1
      omega
    · have := nodup_len n t hd fun a ha => by
        have h2 := h a ha
        have h3 : a ≠ n := fun e => hm (e ▸ ha)
        omega
      omega
theorem perm_range : ∀ (n : Nat) (t : List Nat), t.Nodup → (∀ a ∈ t, a < n) → t.length = n → t.Perm (List.range n)
  | 0, t, _, _, hl => by
    cases t with
    | nil => exact List.Perm.refl _
    | cons a t => cases hl
  | n + 1, t, hd, h, hl => by
    have hm : n ∈ t := by
      refine Classical.byContradiction fun hm => ?_
      have := nodup_len n t hd fun a ha => by
        have h2 := h a ha
        have h3 : a ≠ n := fun e => hm (e ▸ ha)
        omega
      omega
    have h1 := perm_range n (t.erase n) (hd.erase n) (fun a ha => by
        have h2 := h a (List.mem_of_mem_erase ha)
        have h3 : a ≠ n := fun e => by subst e; exact hd.not_mem_erase ha
        omega) (by rw [List.length_erase_of_mem hm]; omega)
    rw [List.range_succ]
    exact (List.perm_cons_erase hm).trans ((h1.cons n).trans (List.perm_append_singleton n (List.range n)).symm)
theorem nodup_of {t : List Nat} (h : ∀ i k, i < k → k < t.length → t.getD i 0 ≠ t.getD k 0) : t.Nodup := by
  unfold List.Nodup
  rw [List.pairwise_iff_getElem]
  intro i j hi hj hij
  have := h i j hij hj
  rwa [List.getD_eq_getElem?_getD, List.getD_eq_getElem?_getD, List.getElem?_eq_getElem hj, List.getElem?_eq_getElem hi] at this
theorem mem_getD {t : List Nat} {a : Nat} (h : a ∈ t) : ∃ i, i < t.length ∧ t.getD i 0 = a := by
  obtain ⟨i, hi, e⟩ := List.getElem_of_mem h
  exact ⟨i, hi, by rw [List.getD_eq_getElem?_getD, List.getElem?_eq_getElem hi]; exact e⟩

/-! ### Walks -/
theorem sumZ_perm {t t' : List Nat} (h : t.Perm t') (g : Nat → Int) : sumZ t g = sumZ t' g := by
  induction h with
  | nil => rfl
  | cons x _ ih => simp only [sumZ, ih]
  | swap x y l => simp only [sumZ]; omega
  | trans _ _ h1 h2 => rw [h1, h2]
theorem sumZ_mapr (g : Nat → Int) (r : Nat → Nat) : ∀ (l : List Nat), sumZ (l.map r) g = sumZ l fun i => g (r i)
  | [] => rfl
  | a :: l => by simp only [List.map_cons, sumZ]; rw [sumZ_mapr g r l]
theorem foldl_sumZ (g : Nat → Int) : ∀ (l : List Nat) (a : Int), l.foldl (fun o k => o + g k) a = a + sumZ l g
  | [], a => by simp [sumZ]
  | k :: l, a => by rw [List.foldl_cons, foldl_sumZ g l]; simp only [sumZ]; omega
theorem list_map_range (t : List Nat) : (List.range t.length).map (fun i => t.getD i 0) = t := by
  apply List.ext_getElem?
  intro i
  rw [List.getElem?_map]
  by_cases h : i < t.length
  · rw [List.getElem?_range h, Option.map_some, List.getD_eq_getElem?_getD, List.getElem?_eq_getElem h]; rfl
  · rw [List.getElem?_eq_none (by simpa using h), List.getElem?_eq_none (by omega)]; rfl
theorem sumZ_labels (t : List Nat) (g : Nat → Int) : sumZ (List.range t.length) (fun i => g (t.getD i 0)) = sumZ t g := by
  have h := sumZ_mapr g (fun i => t.getD i 0) (List.range t.length)
  rw [list_map_range] at h
  exact h.symm

theorem foldl_setI {g : Nat → Int} {m : Nat} : ∀ (ks : List Nat) (l : List Int), ks.Nodup → l.length = m → (∀ k ∈ ks, k < m) → ∀ c, (ks.foldl (fun l k => l.set k (l.getD k 0 + g k)) l).getD c 0 = if c ∈ ks then l.getD c 0 + g c else l.getD c 0
  | [], l, _, _, _, c => by simp
  | k :: ks, l, hd, hl, hk, c => by
    rw [List.foldl_cons, foldl_setI ks _ hd.of_cons (by simpa using hl) (fun k h => hk k (List.mem_cons_of_mem _ h)) c]
    have hk1 := hk k List.mem_cons_self
    have hnk : k ∉ ks := (List.nodup_cons.1 hd).1
    by_cases e : c = k
    · subst e
      rw [if_neg hnk, if_pos List.mem_cons_self, List.getD_eq_getElem?_getD, List.getElem?_set_self (by omega)]; rfl
    · have e1 : (l.set k (l.getD k 0 + g k)).getD c 0 = l.getD c 0 := by
        rw [List.getD_eq_getElem?_getD, List.getElem?_set_ne (Ne.symm e), ← List.getD_eq_getElem?_getD]
      rw [e1]
      by_cases h : c ∈ ks
      · rw [if_pos h, if_pos (List.mem_cons_of_mem _ h)]
      · rw [if_neg h, if_neg (by simp [e, h])]

/-- Steps from numbers at the knots. -/
def vS (A : Nat → Nat → Int) (t : List Nat) : Nat → (Nat → Int) → Nat → Int
  | 0, now => now
  | s + 1, now => vS A t s fun k => sumZ t fun i => now i * A i k
theorem vS_congr {A B : Nat → Nat → Int} {t : List Nat} (h : ∀ i k, i ∈ t → k ∈ t → A i k = B i k) : ∀ (s : Nat) (now now' : Nat → Int), (∀ i ∈ t, now i = now' i) → ∀ k ∈ t, vS A t s now k = vS B t s now' k
  | 0, now, now', e, k, hk => e k hk
  | s + 1, now, now', e, k, hk => vS_congr h s _ _ (fun i hi => sumZ_congr fun a ha => by rw [e a ha, h a i ha hi]) k hk
theorem vS_perm {A : Nat → Nat → Int} {t t' : List Nat} (h : t.Perm t') : ∀ (s : Nat) (now : Nat → Int) (k : Nat), vS A t s now k = vS A t' s now k
  | 0, now, k => rfl
  | s + 1, now, k => by
    simp only [vS]
    rw [vS_perm h s]
    congr 1
    funext k
    exact sumZ_perm h _
theorem vS_labels (A : Nat → Nat → Int) (t : List Nat) : ∀ (s : Nat) (v : Nat → Int) (k : Nat), vS (fun i k => A (t.getD i 0) (t.getD k 0)) (List.range t.length) s (fun k => v (t.getD k 0)) k = vS A t s v (t.getD k 0)
  | 0, v, k => rfl
  | s + 1, v, k => by
    simp only [vS]
    rw [← vS_labels A t s]
    congr 1
    funext k
    exact sumZ_labels t fun a => v a * A a (t.getD k 0)

theorem wk1_get {f : List Nat} {n : Nat} {now next : List Int} {i c : Nat} (hl : next.length = n) (hc : c < n) : (wk1 f n now next i).getD c 0 = next.getD c 0 + now.getD i 0 * bt f i c := by
  unfold wk1
  rw [foldl_setI (g := fun k => now.getD i 0 * bt f i k) (List.range n) next List.nodup_range hl (fun k hk => List.mem_range.1 hk) c, if_pos (List.mem_range.2 hc)]
theorem wk2_fold {f : List Nat} {n : Nat} {now : List Int} {c : Nat} (hc : c < n) : ∀ (is : List Nat) (next : List Int), next.length = n → (is.foldl (fun next i => wk1 f n now next i) next).getD c 0 = next.getD c 0 + sumZ is fun i => now.getD i 0 * bt f i c
  | [], next, _ => by simp [sumZ]
  | i :: is, next, hl => by
    rw [List.foldl_cons, wk2_fold hc is _ (wk1_len f n now next i n hl), wk1_get hl hc]
    simp only [sumZ]; omega
theorem wk2_get {f : List Nat} {n : Nat} {now : List Int} {c : Nat} (hc : c < n) : (wk2 f n now).getD c 0 = sumZ (List.range n) fun i => now.getD i 0 * bt f i c := by
  unfold wk2
  rw [wk2_fold hc _ _ (by simp), rep_getD, Int.zero_add]
theorem wkS_get {f : List Nat} {n : Nat} : ∀ (s : Nat) (now : List Int), now.length = n → ∀ c, c < n → (wkS f n s now).getD c 0 = vS (bt f) (List.range n) s (fun k => now.getD k 0) c
  | 0, now, _, c, _ => rfl
  | s + 1, now, hl, c, hc => by
    simp only [wkS, vS]
    rw [wkS_get s _ (wk2_len f n now) c hc]
    exact vS_congr (fun _ _ _ _ => rfl) s _ _ (fun i hi => wk2_get (List.mem_range.1 hi)) c (List.mem_range.2 hc)
theorem wkA_eq (f : List Nat) (n s : Nat) : wkA f n s = sumZ (List.range n) fun a => vS (bt f) (List.range n) s (fun k => if k = a then 1 else 0) a := by
  unfold wkA
  rw [foldl_sumZ, Int.zero_add]
  refine sumZ_congr fun a ha => ?_
  have ha' := List.mem_range.1 ha
  rw [wkS_get s _ (by simp) a ha']
  refine vS_congr (fun _ _ _ _ => rfl) s _ _ (fun i hi => ?_) a ha
  by_cases e : i = a
  · subst e
    rw [if_pos rfl, List.getD_eq_getElem?_getD, List.getElem?_set_self (by simpa using ha')]; rfl
  · rw [if_neg e, List.getD_eq_getElem?_getD, List.getElem?_set_ne (Ne.symm e), ← List.getD_eq_getElem?_getD, rep_getD]
theorem walk_labels {f t : List Nat} (hd : t.Nodup) (s : Nat) : wkA (frm f t) t.length s = sumZ t fun c => vS (bt f) t s (fun k => if k = c then 1 else 0) c := by
  rw [wkA_eq, ← sumZ_labels t fun c => vS (bt f) t s (fun k => if k = c then 1 else 0) c]
  refine sumZ_congr fun a ha => ?_
  have ha' := List.mem_range.1 ha
  rw [← vS_labels]
  refine vS_congr (fun i k hi hk => ?_) s _ _ (fun i hi => ?_) a ha
  · unfold bt
    rw [frm_bit (List.mem_range.1 hi) (List.mem_range.1 hk)]
  · have hi' := List.mem_range.1 hi
    by_cases e : i = a
    · subst e; rw [if_pos rfl, if_pos rfl]
    · rw [if_neg e, if_neg]
      intro h
      have := List.pairwise_iff_getElem.1 hd
      simp only [List.getD_eq_getElem?_getD, List.getElem?_eq_getElem hi', List.getElem?_eq_getElem ha', Option.getD_some] at h
      rcases Nat.lt_or_gt_of_ne e with h1 | h1
      · exact this i a hi' ha' h1 h
      · exact this a i ha' hi' h1 h.symm
theorem walk_perm {f t t' : List Nat} (hd : t.Nodup) (h : t.Perm t') (s : Nat) : wkA (frm f t) t.length s = wkA (frm f t') t'.length s := by
  rw [walk_labels hd, walk_labels (h.nodup_iff.1 hd), sumZ_perm h]
  exact sumZ_congr fun c _ => vS_perm h s _ c

/-! ### A frame that is renumbered -/
def rnJ (x : Nat) (o : List Nat) (js : List Nat) (acc : Nat) : Nat := js.foldl (fun acc j => acc + (if x.testBit j then 1 else 0) * 2 ^ o.getD j 0) acc
def rnI (f o : List Nat) (n : Nat) (is : List Nat) (k : List Nat) : List Nat := is.foldl (fun k i => k.set (o.getD i 0) (rnJ (f.getD i 0) o (List.range n) (k.getD (o.getD i 0) 0))) k

theorem add_pow : ∀ a < 128, ∀ c < 7, a.testBit c = false → a + 2 ^ c = a ||| 2 ^ c := by decide
theorem rnJ_bit {x : Nat} {o : List Nat} (ho : ∀ j, j < o.length → o.getD j 0 < 7) (hd : ∀ i k, i < k → k < o.length → o.getD i 0 ≠ o.getD k 0) : ∀ (d j acc : Nat), j + d = o.length → acc < 128 → (∀ j', j ≤ j' → j' < o.length → acc.testBit (o.getD j' 0) = false) →
    rnJ x o (List.range' j d) acc < 128 ∧ ∀ c, (rnJ x o (List.range' j d) acc).testBit c = (acc.testBit c || (List.range' j d).any fun j' => o.getD j' 0 == c && x.testBit j')
  | 0, j, acc, _, ha, _ => ⟨ha, fun c => by simp [rnJ]⟩
  | d + 1, j, acc, hj, ha, hb => by
    have hjl : j < o.length := by omega
    have hoj := ho j hjl
    have hp : (2 : Nat) ^ o.getD j 0 < 2 ^ 7 := Nat.pow_lt_pow_right (by decide) hoj
    have key : ∃ acc', acc' = acc + (if x.testBit j then 1 else 0) * 2 ^ o.getD j 0 ∧ acc' < 128 ∧ ∀ c, acc'.testBit c = (acc.testBit c || (o.getD j 0 == c && x.testBit j)) := by
      refine ⟨_, rfl, ?_⟩
      cases hx : x.testBit j with
      | false => simp [ha]
      | true =>
        rw [if_pos rfl, Nat.one_mul, add_pow acc ha _ hoj (hb j (Nat.le_refl _) hjl)]
        refine ⟨Nat.or_lt_two_pow (n := 7) ha hp, fun c => ?_⟩
        rw [Nat.testBit_or, Nat.testBit_two_pow, Bool.and_true]
        congr 1
    obtain ⟨acc', e, h1, h2⟩ := key
    have ih := rnJ_bit (x := x) ho hd d (j + 1) acc' (by omega) h1 fun j' h h' => by
      rw [h2, hb j' (by omega) h']
      have : (o.getD j 0 == o.getD j' 0) = false := by
        have := hd j j' (by omega) h'
        simpa using this
      rw [this]; rfl
    have e2 : rnJ x o (List.range' j (d + 1)) acc = rnJ x o (List.range' (j + 1) d) acc' := by
      rw [e, List.range'_succ]; rfl
    rw [e2]
    refine ⟨ih.1, fun c => ?_⟩
    rw [ih.2, h2, List.range'_succ, List.any_cons, Bool.or_assoc]

theorem rnI_len (f o : List Nat) (n : Nat) : ∀ (is k : List Nat), (rnI f o n is k).length = k.length
  | [], k => rfl
  | i :: is, k => by
    unfold rnI
    rw [List.foldl_cons]
    exact (rnI_len f o n is _).trans (by simp)
theorem rnI_get {f o : List Nat} {n : Nat} (hd : ∀ i k, i < k → k < n → o.getD i 0 ≠ o.getD k 0) : ∀ (d i : Nat) (k : List Nat), i + d = n → (∀ j, j < n → o.getD j 0 < k.length) →
    (∀ j, i ≤ j → j < n → (rnI f o n (List.range' i d) k).getD (o.getD j 0) 0 = rnJ (f.getD j 0) o (List.range n) (k.getD (o.getD j 0) 0)) ∧
    ∀ c, (∀ j, i ≤ j → j < n → o.getD j 0 ≠ c) → (rnI f o n (List.range' i d) k).getD c 0 = k.getD c 0
  | 0, i, k, hi, _ => ⟨fun j h1 h2 => by omega, fun c _ => rfl⟩
  | d + 1, i, k, hi, hk => by
    have e : rnI f o n (List.range' i (d + 1)) k = rnI f o n (List.range' (i + 1) d) (k.set (o.getD i 0) (rnJ (f.getD i 0) o (List.range n) (k.getD (o.getD i 0) 0))) := by
      rw [List.range'_succ]; rfl
    have ih := rnI_get (f := f) hd d (i + 1) (k.set (o.getD i 0) (rnJ (f.getD i 0) o (List.range n) (k.getD (o.getD i 0) 0))) (by omega) (by simpa using hk)
    rw [e]
    refine ⟨fun j h1 h2 => ?_, fun c hc => ?_⟩
    · rcases Nat.lt_or_ge i j with h | h
      · have e4 : (k.set (o.getD i 0) (rnJ (f.getD i 0) o (List.range n) (k.getD (o.getD i 0) 0))).getD (o.getD j 0) 0 = k.getD (o.getD j 0) 0 := by
          rw [List.getD_eq_getElem?_getD, List.getElem?_set_ne (hd i j h h2), ← List.getD_eq_getElem?_getD]
        rw [ih.1 j (by omega) h2, e4]
      · have : j = i := by omega
        subst this
        rw [ih.2 _ fun j' a b => fun e => hd j j' (by omega) b e.symm, List.getD_eq_getElem?_getD, List.getElem?_set_self (hk j h2)]; rfl
    · rw [ih.2 c fun j a b => hc j (by omega) b, List.getD_eq_getElem?_getD, List.getElem?_set_ne (hc i (Nat.le_refl _) (by omega)), ← List.getD_eq_getElem?_getD]

/-- What the law makes: the frame renumbered. -/
def rnF (f o : List Nat) : List Nat := rnI f o f.length (List.range f.length) (List.replicate f.length 0)
theorem rnF_len (f o : List Nat) : (rnF f o).length = f.length := by unfold rnF; rw [rnI_len]; simp

section
variable {f o : List Nat} (h7 : f.length ≤ 7) (hl : o.length = f.length) (ho : ∀ j, j < f.length → o.getD j 0 < f.length) (hd : ∀ i k, i < k → k < f.length → o.getD i 0 ≠ o.getD k 0)
include h7 hl ho hd

set_option linter.unusedSectionVars false
omit h7 ho in
theorem o_nodup : o.Nodup := nodup_of fun i k h1 h2 => hd i k h1 (by omega)
theorem o_perm : o.Perm (List.range f.length) := perm_range _ _ (o_nodup hl hd) (fun a ha => by
  obtain ⟨i, hi, rfl⟩ := mem_getD ha; exact ho i (by omega)) hl
theorem o_onto {c : Nat} (hc : c < f.length) : ∃ i, i < f.length ∧ o.getD i 0 = c := by
  have := (o_perm h7 hl ho hd).mem_iff.2 (List.mem_range.2 hc)
  obtain ⟨i, hi, e⟩ := mem_getD this
  exact ⟨i, by omega, e⟩

theorem rnF_bit {i c : Nat} (hi : i < f.length) : ((rnF f o).getD (o.getD i 0) 0).testBit c = (List.range f.length).any fun j => o.getD j 0 == c && (f.getD i 0).testBit j := by
  unfold rnF
  rw [List.range_eq_range' (n := f.length)]
  rw [(rnI_get (f := f) hd f.length 0 (List.replicate f.length 0) (by omega) (by simpa using ho)).1 i (by omega) hi, List.range_eq_range']
  have h0 : (List.replicate f.length 0).getD (o.getD i 0) 0 = 0 := by
    rw [List.getD_eq_getElem?_getD, List.getElem?_replicate]; split <;> rfl
  rw [h0]
  have := (rnJ_bit (x := f.getD i 0) (o := o) (fun j hj => by have := ho j (by omega); omega) (fun i k a b => hd i k a (by omega)) f.length 0 0 (by omega) (by omega) (by simp)).2 c
  rw [this]; simp

theorem rnF_bit2 {i j : Nat} (hi : i < f.length) (hj : j < f.length) : ((rnF f o).getD (o.getD i 0) 0).testBit (o.getD j 0) = (f.getD i 0).testBit j := by
  rw [rnF_bit h7 hl ho hd hi, Bool.eq_iff_iff, List.any_eq_true]
  constructor
  · rintro ⟨k, hk, h⟩
    rw [Bool.and_eq_true] at h
    have hk' := List.mem_range.1 hk
    have e : o.getD k 0 = o.getD j 0 := by simpa using h.1
    rcases Nat.lt_trichotomy k j with a | a | a
    · exact absurd e (hd k j a hj)
    · subst a; exact h.2
    · exact absurd e.symm (hd j k a hk')
  · intro h
    exact ⟨j, List.mem_range.2 hj, by rw [h]; simp⟩
theorem rnF_lt {c : Nat} (hc : c < f.length) : (rnF f o).getD c 0 < 2 ^ f.length := by
  obtain ⟨i, hi, rfl⟩ := o_onto h7 hl ho hd hc
  apply Nat.lt_pow_two_of_testBit
  intro k hk
  rw [rnF_bit h7 hl ho hd hi, ← Bool.not_eq_true, List.any_eq_true]
  rintro ⟨j, hj, h⟩
  rw [Bool.and_eq_true] at h
  have e : o.getD j 0 = k := by simpa using h.1
  have := ho j (List.mem_range.1 hj)
  omega
theorem rnF_frame (hf : frameB (f.map fun n : Nat => (n : Int)) = true) : frameB ((rnF f o).map fun n : Nat => (n : Int)) = true := by
  obtain ⟨n1, n7, hok, hS⟩ := frame_iff.1 hf
  have hlen := rnF_len f o
  refine frame_iff.2 ⟨by omega, by omega, fun c hc => ?_, fun a b ha hb => ?_⟩
  · rw [hlen] at hc ⊢
    refine ⟨rnF_lt h7 hl ho hd hc, ?_⟩
    obtain ⟨i, hi, rfl⟩ := o_onto h7 hl ho hd hc
    rw [rnF_bit2 h7 hl ho hd hi hi]
    exact (hok i hi).2
  · rw [hlen] at ha hb
    obtain ⟨i, hi, rfl⟩ := o_onto h7 hl ho hd ha
    obtain ⟨j, hj, rfl⟩ := o_onto h7 hl ho hd hb
    rw [rnF_bit2 h7 hl ho hd hi hj, rnF_bit2 h7 hl ho hd hj hi]
    exact hS i j hi hj
theorem rnF_same (hf : frameB (f.map fun n : Nat => (n : Int)) = true) :
    polyL f (-1) (-2) = polyL (rnF f o) (-1) (-2) ∧ polyL f (-1) 0 = polyL (rnF f o) (-1) 0 ∧ ∀ s, wkA f f.length s = wkA (rnF f o) f.length s := by
  obtain ⟨n1, n7, hok, hS⟩ := frame_iff.1 hf
  obtain ⟨m1, m7, mok, mS⟩ := frame_iff.1 (rnF_frame h7 hl ho hd hf)
  have hlen := rnF_len f o
  have e1 : f = frm (rnF f o) o := frm_eq hl.symm (fun i hi => (hok i hi).1) fun i k hi hk => (rnF_bit2 h7 hl ho hd (by omega) (by omega)).symm
  have e2 : rnF f o = frm (rnF f o) (List.range f.length) := by
    have := frm_range (g := rnF f o) fun i hi => (mok i hi).1
    rwa [hlen] at this
  have hp := o_perm h7 hl ho hd
  have hpp := poly_perm mS (by omega) hp fun c hc => by
    obtain ⟨i, hi, rfl⟩ := mem_getD hc; rw [hlen]; exact ho i (by omega)
  rw [← e1, ← e2] at hpp
  refine ⟨hpp.1, hpp.2, fun s => ?_⟩
  have hw := walk_perm (f := rnF f o) (o_nodup hl hd) hp s
  rw [← e1, ← e2, hl, List.length_range] at hw
  exact hw
end
end Go.X
