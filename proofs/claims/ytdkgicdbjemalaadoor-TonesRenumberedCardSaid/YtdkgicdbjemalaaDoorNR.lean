import Derived.Test.YtdkgicdbjemalaaDoorNI
import Derived.Test.YtdkgicdbjemalaaDoorNM
import Derived.Test.YtdkgicdbjemalaaDoorNL
/-! Tones: matchings as lists of sets of wires; frames without knots or wires. -/
set_option linter.unusedSimpArgs false
set_option linter.unusedVariables false
set_option maxRecDepth 10000
namespace Go.X

/-- Matchings of some knots. -/
def maY (n : Nat) : Nat → Nat → List Ent
  | 0, _ => [(0, 0, 1)]
  | d + 1, left => if left = 0 then [(0, 0, 1)] else
    maY n d (dl left (2 ^ ctz left))
      ++ (List.range n).flatMap (fun k => if (dl left (2 ^ ctz left)).testBit k then mulE (eb (ctz left) k) 2 (-1) (maY n d (dl (dl left (2 ^ ctz left)) (2 ^ k))) else [])

theorem ma_sym {f : List Nat} (hS : Sy f) (h7 : f.length ≤ 7) : ∀ (d left j : Nat), left < 2 ^ f.length → evE f (maY f.length d left) j = ovS f (-1) 0 d left j
  | 0, left, j, _ => by simp [maY, ovS, evE, hs_zero, eq_comm]
  | d + 1, left, j, hl => by
    simp only [maY, ovS]
    by_cases h0 : left = 0
    · rw [if_pos h0, if_pos h0]; simp [evE, hs_zero, eq_comm]
    · rw [if_neg h0, if_neg h0, onS_zero, Int.add_zero]
      have h128 : 2 ^ f.length ≤ 128 := by
        have : (2 : Nat) ^ f.length ≤ 2 ^ 7 := Nat.pow_le_pow_right (by decide) h7
        omega
      have hb := ctz_ok (m := left) (by omega) h0
      have hin : ctz left < f.length := by
        rcases Nat.lt_or_ge (ctz left) f.length with e | e
        · exact e
        · rw [Nat.testBit_lt_two_pow (Nat.lt_of_lt_of_le hl (Nat.pow_le_pow_right (by decide) e))] at hb; cases hb
      have hSl : dl left (2 ^ ctz left) < 2 ^ f.length := Nat.lt_of_le_of_lt (dl_le _ _) hl
      have hiS : (dl left (2 ^ ctz left)).testBit (ctz left) = false := by rw [dl_bit, Nat.testBit_two_pow_self]; simp
      generalize ctz left = i at *
      generalize dl left (2 ^ i) = S at *
      rw [evE_app, ma_sym hS h7 d S j hSl, evE_flat]
      congr 1
      refine sumZ_congr fun k hk => ?_
      have hk' := List.mem_range.1 hk
      rw [Nat.testBit_and]
      cases hd : S.testBit k with
      | false => simp [evE]
      | true =>
        have hik : i ≠ k := fun e => by rw [← e, hiS] at hd; cases hd
        rw [if_pos rfl, evE_mul, hs_eb hS hin hk' h7 hik, Bool.and_true]
        split
        · congr 1
          exact sft_congr (fun j => ma_sym hS h7 d _ j (Nat.lt_of_le_of_lt (dl_le _ _) hSl)) j
        · rfl

/-! ### At any knot, at any wire -/
def full (n : Nat) : Nat := 2 ^ n - 1
def knotB (n a : Nat) : Bool := sameE (maY n 7 (full n)) (maY n 7 (dl (full n) (2 ^ a)) ++ (List.range n).flatMap fun k => if a = k then [] else mulE (eb a k) 2 (-1) (maY n 7 (dl (full n) (2 ^ a ||| 2 ^ k))))
def wireB (n a b : Nat) : Bool := sameE (maY n 7 (full n)) ((maY n 7 (full n)).filter (fun x => !x.1.testBit (ix a b)) ++ mulE (eb a b) 2 (-1) (maY n 7 (dl (full n) (2 ^ a ||| 2 ^ b))))
set_option maxRecDepth 1000000 in
theorem knot_all : ((List.range 8).all fun n => (List.range n).all fun a => knotB n a) = true := by kernel_rfl
set_option maxRecDepth 1000000 in
theorem wire_all : ((List.range 8).all fun n => (List.range n).all fun a => (List.range n).all fun b => a == b || wireB n a b) = true := by kernel_rfl

/-! ### Without some knots -/
def kept (n set : Nat) : List Nat := (List.range n).filter fun i => !set.testBit i
def ren (K : List Nat) (m : Nat) : Nat := prs.foldl (fun acc p => if m.testBit (ix p.1 p.2) then acc ||| eb (K.getD p.1 0) (K.getD p.2 0) else acc) 0
def lessB (n set : Nat) : Bool := sameE ((maY (kept n set).length 7 (full (kept n set).length)).map fun x => (ren (kept n set) x.1, x.2.1, x.2.2)) (maY n 7 (dl (full n) set))
  && (maY (kept n set).length 7 (full (kept n set).length)).all (fun x => Nat.blt x.1 (2 ^ ((kept n set).length * ((kept n set).length - 1) / 2))) && (maY n 7 (dl (full n) set)).all (fun x => Nat.ble x.2.1 (kept n set).length)
set_option maxRecDepth 1000000 in
theorem less_all : ((List.range 8).all fun n => (List.range n).all fun a => (List.range n).all fun b => lessB n (2 ^ a ||| 2 ^ b)) = true := by kernel_rfl
end Go.X

/-! Tones: what the lists of matchings say about frames. -/
set_option linter.unusedSimpArgs false
set_option linter.unusedVariables false
set_option maxHeartbeats 1000000
set_option maxRecDepth 10000
namespace Go.X

/-- Matchings of some knots of a frame, by how many knots they have. -/
def mE (f : List Nat) (S j : Nat) : Int := evE f (maY f.length 7 S) j

theorem poly_mE {f : List Nat} (hS : Sy f) (h7 : f.length ≤ 7) {q : Nat} (hq : q ≤ f.length) : (polyL f (-1) 0).getD q 0 = mE f (full f.length) (f.length - q) := by
  have h2 : 1 ≤ 2 ^ f.length := Nat.pow_pos (by decide)
  rw [polyL_get hq]
  unfold mE full
  rw [ma_sym hS h7 _ _ _ (by omega)]

theorem knot_mE {f : List Nat} (hS : Sy f) (h7 : f.length ≤ 7) {a : Nat} (ha : a < f.length) (j : Nat) :
    mE f (full f.length) j = mE f (dl (full f.length) (2 ^ a)) j + sumZ (List.range f.length) (fun k => if a = k then 0 else if (f.getD a 0).testBit k = true then -1 * sft 2 (mE f (dl (full f.length) (2 ^ a ||| 2 ^ k))) j else 0) := by
  have := List.all_eq_true.1 (List.all_eq_true.1 knot_all f.length (List.mem_range.2 (by omega))) a (List.mem_range.2 ha)
  unfold knotB at this
  have h := sameE_ev this f j
  unfold mE
  rw [h, evE_app, evE_flat]
  congr 1
  refine sumZ_congr fun k hk => ?_
  by_cases e : a = k
  · rw [if_pos e, if_pos e]; rfl
  · rw [if_neg e, if_neg e, evE_mul, hs_eb hS ha (List.mem_range.1 hk) h7 e]

theorem sft_mE (f : List Nat) (S : Nat) : (fun j => evE f (maY f.length 7 S) j) = mE f S := rfl

theorem cut_hs {f : List Nat} (hS : Sy f) (h7 : f.length ≤ 7) {a b : Nat} (ha : a < f.length) (hb : b < f.length) (hne : a ≠ b) (hlo : ∀ i, i < f.length → (f.getD i 0).testBit i = false) (hbit : (f.getD a 0).testBit b = true) (m : Nat) : hs (cutF f a b) m = (hs f m && !m.testBit (ix a b)) := by
  have hg : ∀ p ∈ prs, ((cutF f a b).getD p.1 0).testBit p.2 = ((f.getD p.1 0).testBit p.2 && !decide (ix p.1 p.2 = ix a b)) := by
    intro p hp
    have hlt : p.1 < p.2 ∧ p.2 < 7 := by
      have : ∀ p ∈ prs, p.1 < p.2 ∧ p.2 < 7 := by decide
      exact this p hp
    have hix : ix p.1 p.2 = ix a b ↔ (p.1 = a ∧ p.2 = b) ∨ (p.1 = b ∧ p.2 = a) := by
      have key : ∀ p ∈ prs, ∀ q ∈ prs, ix p.1 p.2 = ix q.1 q.2 → p = q := by decide
      constructor
      · intro h
        rcases Nat.lt_or_gt_of_ne hne with h1 | h1
        · have := key p hp (a, b) (mem_prs h1 (by omega)) h
          left; rw [this]; exact ⟨rfl, rfl⟩
        · have e : ix a b = ix b a := by unfold ix; rw [if_neg (by omega), if_pos h1]
          rw [e] at h
          have := key p hp (b, a) (mem_prs h1 (by omega)) h
          right; rw [this]; exact ⟨rfl, rfl⟩
      · rintro (⟨h1, h2⟩ | ⟨h1, h2⟩)
        · rw [h1, h2]
        · rw [h1, h2]; unfold ix
          rcases Nat.lt_or_gt_of_ne hne with h | h
          · rw [if_neg (by omega), if_pos h]
          · rw [if_pos h, if_neg (by omega)]
    unfold cutF
    simp only [List.getD_eq_getElem?_getD, List.getElem?_set, List.length_set]
    by_cases e1 : b = p.1
    · rw [if_pos e1, if_pos hb]
      simp only [Option.getD_some]
      rw [← e1] at hix ⊢
      rw [dl_bit, Nat.testBit_two_pow]
      congr 2
      rw [decide_eq_decide, hix]
      constructor
      · intro h; exact .inr ⟨rfl, h.symm⟩
      · rintro (⟨h1, h2⟩ | ⟨h1, h2⟩)
        · omega
        · exact h2.symm
    · rw [if_neg e1]
      by_cases e2 : a = p.1
      · rw [if_pos e2, if_pos ha]
        simp only [Option.getD_some]
        rw [← e2] at hix ⊢
        rw [dl_bit, Nat.testBit_two_pow]
        congr 2
        rw [decide_eq_decide, hix]
        constructor
        · intro h; exact .inl ⟨rfl, h.symm⟩
        · rintro (⟨h1, h2⟩ | ⟨h1, h2⟩)
          · exact h2.symm
          · omega
      · rw [if_neg e2]
        have : ¬ (ix p.1 p.2 = ix a b) := fun h => by
          rcases hix.1 h with ⟨h1, _⟩ | ⟨h1, _⟩
          · exact e2 h1.symm
          · exact e1 h1.symm
        rw [decide_eq_false this]; simp
  unfold hs
  rw [Bool.eq_iff_iff, Bool.and_eq_true, List.all_eq_true, List.all_eq_true]
  constructor
  · intro h
    refine ⟨fun p hp => ?_, ?_⟩
    · have := h p hp
      rw [hg p hp] at this
      cases h1 : m.testBit (ix p.1 p.2) <;> simp_all
    · rcases Nat.lt_or_gt_of_ne hne with h1 | h1
      · have := h (a, b) (mem_prs h1 (by omega))
        rw [hg _ (mem_prs h1 (by omega))] at this
        simpa using this
      · have e : ix a b = ix b a := by unfold ix; rw [if_neg (by omega), if_pos h1]
        have := h (b, a) (mem_prs h1 (by omega))
        rw [hg _ (mem_prs h1 (by omega)), e] at this
        rw [e]
        simpa using this
  · rintro ⟨h1, h2⟩ p hp
    rw [hg p hp]
    have := h1 p hp
    by_cases e : ix p.1 p.2 = ix a b
    · rw [e]; simp at h2 ⊢; simp [h2]
    · simp [e]; simpa using this

theorem evE_filter {f g : List Nat} {i j : Nat} (h : ∀ m, hs g m = (hs f m && !m.testBit i)) : ∀ L : List Ent, evE g L j = evE f (L.filter fun x => !x.1.testBit i) j
  | [] => rfl
  | x :: L => by
    rw [List.filter_cons]
    simp only [evE]
    rw [evE_filter h L, h]
    cases hb : x.1.testBit i with
    | false => simp [evE]
    | true => simp

theorem cutF_len (f : List Nat) (a b : Nat) : (cutF f a b).length = f.length := by simp [cutF]

theorem wire_mE {f : List Nat} (hS : Sy f) (h7 : f.length ≤ 7) {a b : Nat} (ha : a < f.length) (hb : b < f.length) (hne : a ≠ b) (hlo : ∀ i, i < f.length → (f.getD i 0).testBit i = false) (hbit : (f.getD a 0).testBit b = true) (j : Nat) :
    mE f (full f.length) j = mE (cutF f a b) (full f.length) j + -1 * sft 2 (mE f (dl (full f.length) (2 ^ a ||| 2 ^ b))) j := by
  have := List.all_eq_true.1 (List.all_eq_true.1 (List.all_eq_true.1 wire_all f.length (List.mem_range.2 (by omega))) a (List.mem_range.2 ha)) b (List.mem_range.2 hb)
  rw [Bool.or_eq_true] at this
  rcases this with h | h
  · exact absurd (by simpa using h) hne
  · unfold wireB at h
    have h := sameE_ev h f j
    unfold mE
    rw [h, evE_app, cutF_len, evE_mul, hs_eb hS ha hb h7 hne, hbit, if_pos rfl, evE_filter (cut_hs hS h7 ha hb hne hlo hbit)]

/-! ### Less -/
theorem add_bit {v c : Nat} (hv : v < 2 ^ c) (b : Bool) (j : Nat) : (v + (if b then 1 else 0) * 2 ^ c).testBit j = if j < c then v.testBit j else (decide (j = c) && b) := by
  cases b with
  | false =>
    simp only [Bool.false_eq_true, if_false, Nat.zero_mul, Nat.add_zero, Bool.and_false]
    split
    · rfl
    · exact Nat.testBit_lt_two_pow (Nat.lt_of_lt_of_le hv (Nat.pow_le_pow_right (by decide) (by omega)))
  | true =>
    simp only [if_true, Nat.one_mul, Bool.and_true]
    rw [Nat.add_comm]
    by_cases h : j < c
    · rw [if_pos h, Nat.testBit_two_pow_add_gt h]
    · rw [if_neg h]
      by_cases e : j = c
      · subst e
        rw [Nat.testBit_two_pow_add_eq, Nat.testBit_lt_two_pow hv]; simp
      · rw [decide_eq_false e]
        exact Nat.testBit_lt_two_pow (Nat.lt_of_lt_of_le (show 2 ^ c + v < 2 ^ (c + 1) by rw [Nat.pow_succ]; omega) (Nat.pow_le_pow_right (by decide) (by omega)))

theorem lsRow_bit (x set : Nat) : ∀ (ks : List Nat) (q : Nat × Nat) (j : Nat), q.2 < 2 ^ q.1 → (lsRow x set ks q).2.testBit j = if j < q.1 then q.2.testBit j else (((ks.filter fun k => !set.testBit k)[j - q.1]?).map fun k => x.testBit k).getD false
  | [], q, j, h => by
    simp only [lsRow, List.foldl_nil, List.filter_nil]
    split
    · rfl
    · rw [Nat.testBit_lt_two_pow (Nat.lt_of_lt_of_le h (Nat.pow_le_pow_right (by decide) (by omega)))]; rfl
  | k :: ks, q, j, h => by
    unfold lsRow
    rw [List.foldl_cons]
    cases hb : set.testBit k with
    | true =>
      rw [if_pos rfl, List.filter_cons_of_neg (by simp [hb])]
      exact lsRow_bit x set ks q j h
    | false =>
      rw [if_neg (by simp), List.filter_cons_of_pos (by simp [hb])]
      have hq : q.2 + (if x.testBit k then 1 else 0) * 2 ^ q.1 < 2 ^ (q.1 + 1) := by
        rw [Nat.pow_succ]; split <;> omega
      have := lsRow_bit x set ks (q.1 + 1, q.2 + (if x.testBit k then 1 else 0) * 2 ^ q.1) j hq
      unfold lsRow at this
      rw [this]
      simp only
      rw [add_bit h]
      by_cases c1 : j < q.1
      · rw [if_pos (by omega), if_pos c1, if_pos c1]
      · rw [if_neg c1, if_neg c1]
        by_cases c2 : j = q.1
        · rw [if_pos (by omega), decide_eq_true c2, c2, Nat.sub_self]; simp
        · rw [if_neg (by omega), show j - q.1 = (j - (q.1 + 1)) + 1 by omega, List.getElem?_cons_succ]

theorem ls_len (f : List Nat) (set : Nat) : (lsF f set).length = (kept f.length set).length := by simp [lsF, kept]
theorem ls_get {f : List Nat} {set i : Nat} (hi : i < (kept f.length set).length) : (lsF f set).getD i 0 = (lsRow (f.getD ((kept f.length set).getD i 0) 0) set (List.range f.length) (0, 0)).2 := by
  have : lsF f set = (kept f.length set).map fun i => (lsRow (f.getD i 0) set (List.range f.length) (0, 0)).2 := rfl
  rw [this]
  generalize kept f.length set = K at *
  simp only [List.getD_eq_getElem?_getD, List.getElem?_map, List.getElem?_eq_getElem hi, Option.map_some, Option.getD_some]
theorem ls_bit {f : List Nat} {set i k : Nat} (hi : i < (kept f.length set).length) (hk : k < (kept f.length set).length) : ((lsF f set).getD i 0).testBit k = (f.getD ((kept f.length set).getD i 0) 0).testBit ((kept f.length set).getD k 0) := by
  rw [ls_get hi, lsRow_bit _ _ _ _ _ (by decide), if_neg (by omega), Nat.sub_zero]
  have : (List.range f.length).filter (fun k => !set.testBit k) = kept f.length set := rfl
  rw [this]
  generalize kept f.length set = K at *
  simp only [List.getD_eq_getElem?_getD, List.getElem?_eq_getElem hk, Option.map_some, Option.getD_some]
theorem kept_lt {n set i : Nat} (hi : i < (kept n set).length) : (kept n set).getD i 0 < n := by
  have : (kept n set).getD i 0 ∈ kept n set := by
    generalize kept n set = K at *
    simp only [List.getD_eq_getElem?_getD, List.getElem?_eq_getElem hi, Option.getD_some]
    exact List.getElem_mem hi
  exact List.mem_range.1 (List.mem_filter.1 this).1
theorem kept_inc {n set i k : Nat} (hik : i < k) (hk : k < (kept n set).length) : (kept n set).getD i 0 < (kept n set).getD k 0 := by
  have h : (kept n set).Pairwise (· < ·) := List.Pairwise.filter _ List.pairwise_lt_range
  have := List.pairwise_iff_getElem.1 h i k (by omega) hk hik
  rw [List.getD_eq_getElem?_getD, List.getD_eq_getElem?_getD, List.getElem?_eq_getElem hk, List.getElem?_eq_getElem (show i < (kept n set).length by omega)]
  exact this
theorem kept_le (n set : Nat) : (kept n set).length ≤ n := by
  unfold kept; exact Nat.le_trans (List.length_filter_le _ _) (by simp)

theorem hs_fold (f : List Nat) (c : Nat × Nat → Bool) (e : Nat × Nat → Nat) : ∀ (l : List (Nat × Nat)) (a : Nat), hs f (l.foldl (fun acc p => if c p then acc ||| e p else acc) a) = (hs f a && l.all fun p => !c p || hs f (e p))
  | [], a => by simp
  | p :: l, a => by
    rw [List.foldl_cons, hs_fold f c e l, List.all_cons]
    cases hc : c p with
    | false => simp
    | true => simp [hs_or, Bool.and_assoc]

theorem all_congr' {α : Type} {p q : α → Bool} : ∀ {l : List α}, (∀ x ∈ l, p x = q x) → l.all p = l.all q
  | [], _ => rfl
  | x :: l, h => by rw [List.all_cons, List.all_cons, h x List.mem_cons_self, all_congr' fun y hy => h y (List.mem_cons_of_mem _ hy)]

theorem ix_big : (List.range 8).all (fun n => prs.all fun p => decide (p.2 < n) || decide (n * (n - 1) / 2 ≤ ix p.1 p.2)) = true := by decide
theorem hs_ren {f : List Nat} (hS : Sy f) (h7 : f.length ≤ 7) {set m : Nat} (hm : m < 2 ^ ((kept f.length set).length * ((kept f.length set).length - 1) / 2)) : hs (lsF f set) m = hs f (ren (kept f.length set) m) := by
  unfold ren
  rw [hs_fold f (fun p => m.testBit (ix p.1 p.2)), hs_zero, Bool.true_and]
  unfold hs
  refine all_congr' fun p hp => ?_
  cases hb : m.testBit (ix p.1 p.2) with
  | false => rfl
  | true =>
    have hlt : p.1 < p.2 ∧ p.2 < 7 := by
      have : ∀ p ∈ prs, p.1 < p.2 ∧ p.2 < 7 := by decide
      exact this p hp
    have hK := kept_le f.length set
    have h2 : p.2 < (kept f.length set).length := by
      have := List.all_eq_true.1 (List.all_eq_true.1 ix_big (kept f.length set).length (List.mem_range.2 (by omega))) p hp
      rw [Bool.or_eq_true, decide_eq_true_eq, decide_eq_true_eq] at this
      rcases this with h | h
      · exact h
      · rw [Nat.testBit_lt_two_pow (Nat.lt_of_lt_of_le hm (Nat.pow_le_pow_right (by decide) h))] at hb; cases hb
    have h1 : p.1 < (kept f.length set).length := by omega
    have hne := kept_inc hlt.1 h2
    have := hs_eb hS (kept_lt h1) (kept_lt h2) h7 (by omega)
    unfold hs at this
    rw [this, ls_bit h1 h2]

theorem evE_ren {f g : List Nat} {r : Nat → Nat} {j : Nat} : ∀ {L : List Ent}, (∀ x ∈ L, hs g x.1 = hs f (r x.1)) → evE g L j = evE f (L.map fun x => (r x.1, x.2.1, x.2.2)) j
  | [], _ => rfl
  | x :: L, h => by
    simp only [List.map_cons, evE]
    rw [evE_ren fun y hy => h y (List.mem_cons_of_mem _ hy), h x List.mem_cons_self]

theorem less_mE {f : List Nat} (hS : Sy f) (h7 : f.length ≤ 7) {a b : Nat} (ha : a < f.length) (hb : b < f.length) (j : Nat) :
    mE (lsF f (2 ^ a ||| 2 ^ b)) (full (lsF f (2 ^ a ||| 2 ^ b)).length) j = mE f (dl (full f.length) (2 ^ a ||| 2 ^ b)) j := by
  have := List.all_eq_true.1 (List.all_eq_true.1 (List.all_eq_true.1 less_all f.length (List.mem_range.2 (by omega))) a (List.mem_range.2 ha)) b (List.mem_range.2 hb)
  unfold lessB at this
  rw [Bool.and_eq_true, Bool.and_eq_true] at this
  obtain ⟨⟨h1, h2⟩, h3⟩ := this
  unfold mE
  rw [← sameE_ev h1 f j, ls_len]
  refine evE_ren fun x hx => ?_
  have := List.all_eq_true.1 h2 x hx
  exact hs_ren hS h7 (by simpa [Nat.blt, Nat.lt_iff_add_one_le] using this)

theorem ent_zero {f : List Nat} {j : Nat} : ∀ {L : List Ent} {n : Nat}, L.all (fun x => Nat.ble x.2.1 n) = true → n < j → evE f L j = 0
  | [], _, _, _ => rfl
  | x :: L, n, h, hj => by
    rw [List.all_cons, Bool.and_eq_true] at h
    have h1 : x.2.1 ≤ n := Nat.le_of_ble_eq_true h.1
    simp only [evE]
    rw [if_neg (by omega), ent_zero h.2 hj, Int.zero_add]
theorem less_zero {f : List Nat} (h7 : f.length ≤ 7) {a b : Nat} (ha : a < f.length) (hb : b < f.length) {j : Nat} (hj : (kept f.length (2 ^ a ||| 2 ^ b)).length < j) : mE f (dl (full f.length) (2 ^ a ||| 2 ^ b)) j = 0 := by
  have := List.all_eq_true.1 (List.all_eq_true.1 (List.all_eq_true.1 less_all f.length (List.mem_range.2 (by omega))) a (List.mem_range.2 ha)) b (List.mem_range.2 hb)
  unfold lessB at this
  rw [Bool.and_eq_true, Bool.and_eq_true] at this
  exact ent_zero this.2 hj

theorem lsRow_cnt (x set : Nat) : ∀ (ks : List Nat) (q : Nat × Nat), (lsRow x set ks q).1 = q.1 + (ks.filter fun k => !set.testBit k).length
  | [], q => by simp [lsRow]
  | k :: ks, q => by
    unfold lsRow
    rw [List.foldl_cons]
    cases hb : set.testBit k with
    | true =>
      rw [if_pos rfl, List.filter_cons_of_neg (by simp [hb])]
      exact lsRow_cnt x set ks q
    | false =>
      rw [if_neg (by simp), List.filter_cons_of_pos (by simp [hb]), List.length_cons]
      have := lsRow_cnt x set ks (q.1 + 1, q.2 + (if x.testBit k then 1 else 0) * 2 ^ q.1)
      unfold lsRow at this
      rw [this]; simp only; omega

theorem frame_iff {f : List Nat} : frameB (f.map fun n : Nat => (n : Int)) = true ↔ 1 ≤ f.length ∧ f.length ≤ 7 ∧ (∀ i, i < f.length → f.getD i 0 < 2 ^ f.length ∧ (f.getD i 0).testBit i = false) ∧ Sy f := by
  have hg : ∀ j, j < f.length → (f.map fun n : Nat => (n : Int)).getD j 0 = ((f.getD j 0 : Nat) : Int) := fun j hj => getD_nat hj
  unfold frameB okL symL
  simp only [Bool.and_eq_true, decide_eq_true_eq, List.length_map, List.all_eq_true, List.mem_range]
  constructor
  · rintro ⟨⟨⟨h1, h2⟩, h3⟩, h4⟩
    refine ⟨h1, h2, fun i hi => ?_, fun i k hi hk => ?_⟩
    · have := h3 i hi
      rw [hg i hi] at this
      simp only [okE, Bool.and_eq_true, decide_eq_true_eq] at this
      refine ⟨by omega, ?_⟩
      have h := this.2
      rw [sh_bit] at h
      cases hb : (f.getD i 0).testBit i with
      | false => rfl
      | true => rw [hb] at h; exact absurd h (by decide)
    · have := h4 i hi k hk
      unfold symE at this
      rw [hg i hi, hg k hk, sh_bit, sh_bit] at this
      generalize (f.getD i 0).testBit k = x at *
      generalize (f.getD k 0).testBit i = y at *
      cases x <;> cases y <;> first | rfl | (exact absurd this (by decide))
  · rintro ⟨h1, h2, h3, h4⟩
    refine ⟨⟨⟨h1, h2⟩, fun i hi => ?_⟩, fun i hi k hk => ?_⟩
    · rw [hg i hi]
      simp only [okE, Bool.and_eq_true, decide_eq_true_eq]
      refine ⟨⟨by omega, by have := (h3 i hi).1; omega⟩, ?_⟩
      rw [sh_bit, (h3 i hi).2]; decide
    · unfold symE
      rw [hg i hi, hg k hk, sh_bit, sh_bit, h4 i k hi hk]
      simp

theorem less_frame {f : List Nat} (hf : frameB (f.map fun n : Nat => (n : Int)) = true) {set : Nat} (h1 : 1 ≤ (kept f.length set).length) : frameB ((lsF f set).map fun n : Nat => (n : Int)) = true := by
  obtain ⟨n1, n7, hok, hS⟩ := frame_iff.1 hf
  have hK := kept_le f.length set
  refine frame_iff.2 ⟨by rw [ls_len]; exact h1, by rw [ls_len]; omega, fun i hi => ?_, fun i k hi hk => ?_⟩
  · rw [ls_len] at hi ⊢
    refine ⟨?_, ?_⟩
    · rw [ls_get hi]
      have := (lsRow_lt (f.getD ((kept f.length set).getD i 0) 0) set (List.range f.length) (0, 0) (by decide)).1
      rw [lsRow_cnt, Nat.zero_add] at this
      exact this
    · rw [ls_bit hi hi]; exact (hok _ (kept_lt hi)).2
  · rw [ls_len] at hi hk
    rw [ls_bit hi hk, ls_bit hk hi, hS _ _ (kept_lt hi) (kept_lt hk)]

theorem cut_frame {f : List Nat} (hf : frameB (f.map fun n : Nat => (n : Int)) = true) {a b : Nat} (ha : a < f.length) (hb : b < f.length) (hne : a ≠ b) : frameB ((cutF f a b).map fun n : Nat => (n : Int)) = true := by
  obtain ⟨n1, n7, hok, hS⟩ := frame_iff.1 hf
  have hg : ∀ i, (cutF f a b).getD i 0 = if b = i then dl (f.getD b 0) (2 ^ a) else if a = i then dl (f.getD a 0) (2 ^ b) else f.getD i 0 := by
    intro i
    unfold cutF
    simp only [List.getD_eq_getElem?_getD, List.getElem?_set, List.length_set]
    by_cases e1 : b = i
    · rw [if_pos e1, if_pos e1, if_pos hb]; rfl
    · rw [if_neg e1, if_neg e1]
      by_cases e2 : a = i
      · rw [if_pos e2, if_pos e2, if_pos ha]; rfl
      · rw [if_neg e2, if_neg e2]
  have hbit : ∀ i k, ((cutF f a b).getD i 0).testBit k = ((f.getD i 0).testBit k && !(decide (i = b ∧ k = a) || decide (i = a ∧ k = b))) := by
    intro i k
    rw [hg]
    by_cases e1 : b = i
    · rw [if_pos e1, dl_bit, Nat.testBit_two_pow]
      subst e1
      have : ¬ (b = a) := fun e => hne e.symm
      by_cases e : a = k
      · subst e; simp
      · have e' : ¬ k = a := fun h => e h.symm
        simp [e, e', this]
    · rw [if_neg e1]
      by_cases e2 : a = i
      · rw [if_pos e2, dl_bit, Nat.testBit_two_pow]
        subst e2
        by_cases e : b = k
        · subst e; simp
        · have e' : ¬ k = b := fun h => e h.symm
          simp [e, e', hne]
      · rw [if_neg e2]
        have a1 : ¬ i = a := fun h => e2 h.symm
        have a2 : ¬ i = b := fun h => e1 h.symm
        simp [a1, a2]
  refine frame_iff.2 ⟨by rw [cutF_len]; exact n1, by rw [cutF_len]; exact n7, fun i hi => ?_, fun i k hi hk => ?_⟩
  · rw [cutF_len] at hi ⊢
    refine ⟨?_, by rw [hbit, (hok i hi).2]; rfl⟩
    rw [hg]
    split
    · exact Nat.lt_of_le_of_lt (dl_le _ _) (hok b hb).1
    · split
      · exact Nat.lt_of_le_of_lt (dl_le _ _) (hok a ha).1
      · exact (hok i hi).1
  · rw [cutF_len] at hi hk
    rw [hbit, hbit, hS i k hi hk]
    congr 2
    rw [Bool.or_comm]
    congr 1
    · rw [decide_eq_decide]; constructor <;> rintro ⟨h1, h2⟩ <;> exact ⟨h2, h1⟩
    · rw [decide_eq_decide]; constructor <;> rintro ⟨h1, h2⟩ <;> exact ⟨h2, h1⟩
end Go.X
