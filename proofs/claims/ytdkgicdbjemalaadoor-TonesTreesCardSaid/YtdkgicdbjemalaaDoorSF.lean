import Derived.Test.YtdkgicdbjemalaaDoorSE
/-! Tones: labels of joined knots: rings are what wires have over knots and parts. -/
set_option linter.unusedSimpArgs false
set_option linter.unusedVariables false
set_option maxRecDepth 10000
namespace Go.X

theorem filter_one {p q : Nat → Bool} {x : Nat} (hx : p x = true) (hq : q x = false) (h : ∀ y, y ≠ x → p y = q y) : ∀ (l : List Nat), l.Nodup → x ∈ l → (l.filter p).length = (l.filter q).length + 1
  | [], _, hm => by cases hm
  | y :: l, hd, hm => by
    have hd2 := List.nodup_cons.1 hd
    rcases List.mem_cons.1 hm with rfl | hm
    · rw [List.filter_cons_of_pos hx, List.filter_cons_of_neg (by simp [hq]), List.length_cons]
      have : l.filter p = l.filter q := List.filter_congr fun y hy => h y fun e => by subst e; exact hd2.1 hy
      rw [this]
    · have hne : y ≠ x := fun e => by subst e; exact hd2.1 hm
      have ih := filter_one hx hq h l hd2.2 hm
      cases hp : p y with
      | true => rw [List.filter_cons_of_pos hp, List.filter_cons_of_pos (by rw [← h y hne]; exact hp), List.length_cons, List.length_cons, ih]
      | false => rw [List.filter_cons_of_neg (by simp [hp]), List.filter_cons_of_neg (by rw [← h y hne]; simp [hp]), ih]

/-- Labels; wires inside a label; wires that join labels. -/
structure UF where
  lab : Nat → Nat
  ex : Nat
  un : Nat
def relab (lab : Nat → Nat) (a b : Nat) : Nat → Nat := fun x => if lab x = lab b then lab a else lab x
def ufStep (f : List Nat) (s : UF) (p : Nat × Nat) : UF := if adj f p.1 p.2 = true then if s.lab p.1 = s.lab p.2 then ⟨s.lab, s.ex + 1, s.un⟩ else ⟨relab s.lab p.1 p.2, s.ex, s.un + 1⟩ else s
def uf (f : List Nat) (l : List (Nat × Nat)) : UF := l.foldl (ufStep f) ⟨id, 0, 0⟩
theorem uf_snoc (f : List Nat) (l : List (Nat × Nat)) (p : Nat × Nat) : uf f (l ++ [p]) = ufStep f (uf f l) p := by
  unfold uf; rw [List.foldl_append]; rfl

inductive Con (f : List Nat) (l : List (Nat × Nat)) : Nat → Nat → Prop where
  | refl (x : Nat) : Con f l x x
  | wire {p : Nat × Nat} : p ∈ l → adj f p.1 p.2 = true → Con f l p.1 p.2
  | symm {x y : Nat} : Con f l x y → Con f l y x
  | trans {x y z : Nat} : Con f l x y → Con f l y z → Con f l x z
theorem Con.mono {f : List Nat} {l m : List (Nat × Nat)} {x y : Nat} (h : Con f l x y) (hm : ∀ p ∈ l, p ∈ m) : Con f m x y := by
  induction h with
  | refl x => exact .refl x
  | wire h1 h2 => exact .wire (hm _ h1) h2
  | symm _ ih => exact ih.symm
  | trans _ _ h1 h2 => exact h1.trans h2

/-- How many labels there are. -/
def fixN (n : Nat) (lab : Nat → Nat) : Nat := ((List.range n).filter fun x => lab x == x).length

/-- What is known of a frame. -/
structure Fm (f : List Nat) : Prop where
  n1 : 1 ≤ f.length
  n7 : f.length ≤ 7
  sy : Sy f
  no : ∀ i, i < f.length → (f.getD i 0).testBit i = false
  lt : ∀ i, i < f.length → f.getD i 0 < 2 ^ f.length
theorem Fm.of {f : List Nat} (hf : frameB (f.map fun n : Nat => (n : Int)) = true) : Fm f := by
  obtain ⟨n1, n7, hok, hS⟩ := frame_iff.1 hf
  exact ⟨n1, n7, hS, fun i hi => (hok i hi).2, fun i hi => (hok i hi).1⟩
theorem Fm.adj_lt {f : List Nat} (h : Fm f) {i k : Nat} (ha : adj f i k = true) : i < f.length ∧ k < f.length := by
  unfold adj at ha
  by_cases hi : i < f.length
  · refine ⟨hi, ?_⟩
    rcases Nat.lt_or_ge k f.length with c | c
    · exact c
    · rw [Nat.testBit_lt_two_pow (Nat.lt_of_lt_of_le (h.lt i hi) (Nat.pow_le_pow_right (by decide) c))] at ha; cases ha
  · rw [List.getD_eq_getElem?_getD, List.getElem?_eq_none (by omega)] at ha
    simp at ha
theorem Fm.adj_sy {f : List Nat} (h : Fm f) (i k : Nat) : adj f i k = adj f k i := by
  rw [Bool.eq_iff_iff]
  constructor
  · intro ha
    have := h.adj_lt ha
    unfold adj at *
    rw [h.sy k i this.2 this.1]; exact ha
  · intro ha
    have := h.adj_lt ha
    unfold adj at *
    rw [h.sy i k this.2 this.1]; exact ha
theorem Fm.adj_ne {f : List Nat} (h : Fm f) {i k : Nat} (ha : adj f i k = true) : i ≠ k := fun e => by
  subst e
  have := h.no i (h.adj_lt ha).1
  unfold adj at ha
  rw [this] at ha; cases ha

structure UInv (f : List Nat) (l : List (Nat × Nat)) (s : UF) : Prop where
  idem : ∀ x, s.lab (s.lab x) = s.lab x
  lt : ∀ x, x < f.length → s.lab x < f.length
  same : ∀ p ∈ l, adj f p.1 p.2 = true → s.lab p.1 = s.lab p.2
  conn : ∀ x y, s.lab x = s.lab y → Con f l x y
  cnt : fixN f.length s.lab + s.un = f.length
  wires : (l.filter fun p => adj f p.1 p.2).length = s.ex + s.un

theorem UInv.step {f : List Nat} (hf : Fm f) {l : List (Nat × Nat)} {s : UF} (h : UInv f l s) (p : Nat × Nat) : UInv f (l ++ [p]) (ufStep f s p) := by
  have hml : ∀ q ∈ l, q ∈ l ++ [p] := fun q hq => List.mem_append_left _ hq
  unfold ufStep
  by_cases ha : adj f p.1 p.2 = true
  · rw [if_pos ha]
    by_cases hl : s.lab p.1 = s.lab p.2
    · rw [if_pos hl]
      refine ⟨h.idem, h.lt, fun q hq hqa => ?_, fun x y e => (h.conn x y e).mono hml, h.cnt, ?_⟩
      · rcases List.mem_append.1 hq with hq | hq
        · exact h.same q hq hqa
        · rw [List.mem_singleton.1 hq]; exact hl
      · rw [List.filter_append, List.length_append, h.wires, List.filter_cons_of_pos (p := fun p : Nat × Nat => adj f p.1 p.2) ha]
        simp only [List.filter_nil, List.length_cons, List.length_nil]; omega
    · rw [if_neg hl]
      obtain ⟨ha1, ha2⟩ := hf.adj_lt ha
      have hid : ∀ x, relab s.lab p.1 p.2 x = if s.lab x = s.lab p.2 then s.lab p.1 else s.lab x := fun x => rfl
      refine ⟨fun x => ?_, fun x hx => ?_, fun q hq hqa => ?_, fun x y e => ?_, ?_, ?_⟩
      · simp only [hid]
        by_cases c : s.lab x = s.lab p.2
        · rw [if_pos c, h.idem, if_neg hl]
        · rw [if_neg c, h.idem, if_neg c]
      · simp only [hid]
        split
        · exact h.lt _ ha1
        · exact h.lt x hx
      · simp only [hid]
        rcases List.mem_append.1 hq with hq | hq
        · rw [h.same q hq hqa]
        · rw [List.mem_singleton.1 hq, if_pos rfl, if_neg hl]
      · simp only [hid] at e
        have hw : Con f (l ++ [p]) p.1 p.2 := .wire (List.mem_append_right _ (List.mem_singleton.2 rfl)) ha
        have up : ∀ x y, s.lab x = s.lab y → Con f (l ++ [p]) x y := fun x y e => (h.conn x y e).mono hml
        by_cases cx : s.lab x = s.lab p.2
        · rw [if_pos cx] at e
          by_cases cy : s.lab y = s.lab p.2
          · exact up x y (cx.trans cy.symm)
          · rw [if_neg cy] at e
            exact (up x p.2 cx).trans (hw.symm.trans (up p.1 y e))
        · rw [if_neg cx] at e
          by_cases cy : s.lab y = s.lab p.2
          · rw [if_pos cy] at e
            exact (up x p.1 e).trans (hw.trans (up p.2 y cy.symm))
          · rw [if_neg cy] at e
            exact up x y e
      · have hB : s.lab p.2 < f.length := h.lt _ ha2
        have e1 : fixN f.length s.lab = fixN f.length (relab s.lab p.1 p.2) + 1 := by
          unfold fixN
          refine filter_one (x := s.lab p.2) ?_ ?_ (fun y hy => ?_) _ List.nodup_range (List.mem_range.2 hB)
          · rw [h.idem]; simp
          · rw [hid, h.idem, if_pos rfl]; simpa using hl
          · rw [hid]
            by_cases c : s.lab y = s.lab p.2
            · rw [if_pos c]
              have n1 : ¬ s.lab y = y := fun e => hy (by rw [← e]; exact c)
              have n2 : ¬ s.lab p.1 = y := fun e => by
                have : s.lab y = s.lab p.1 := by rw [← e, h.idem]
                exact hl (by rw [← this, c])
              have b1 : (s.lab y == y) = false := by simpa using n1
              have b2 : (s.lab p.1 == y) = false := by simpa using n2
              rw [b1, b2]
            · rw [if_neg c]
        have := h.cnt
        show fixN f.length (relab s.lab p.1 p.2) + (s.un + 1) = f.length
        omega
      · rw [List.filter_append, List.length_append, h.wires, List.filter_cons_of_pos (p := fun p : Nat × Nat => adj f p.1 p.2) ha]
        simp only [List.filter_nil, List.length_cons, List.length_nil]; omega
  · rw [if_neg ha]
    refine ⟨h.idem, h.lt, fun q hq hqa => ?_, fun x y e => (h.conn x y e).mono hml, h.cnt, ?_⟩
    · rcases List.mem_append.1 hq with hq | hq
      · exact h.same q hq hqa
      · rw [List.mem_singleton.1 hq] at hqa; exact absurd hqa ha
    · rw [List.filter_append, List.length_append, h.wires, List.filter_cons_of_neg (p := fun p : Nat × Nat => adj f p.1 p.2) (by simpa using ha)]
      simp
theorem uinv {f : List Nat} (hf : Fm f) (l : List (Nat × Nat)) : UInv f l (uf f l) := by
  have key : ∀ (m l : List (Nat × Nat)), UInv f l (uf f l) → UInv f (l ++ m) (uf f (l ++ m)) := fun m => by
    induction m with
    | nil => intro l h; simpa using h
    | cons p m ih =>
      intro l h
      have h2 := h.step hf p
      rw [← uf_snoc] at h2
      have := ih (l ++ [p]) h2
      simpa using this
  have h0 : UInv f [] (uf f []) := by
    refine ⟨fun x => rfl, fun x hx => hx, fun p hp => by (cases hp), fun x y e => by (have : x = y := e; subst this; exact .refl x), ?_, rfl⟩
    show fixN f.length id + 0 = f.length
    unfold fixN
    rw [List.filter_eq_self.2 (fun x _ => by simp)]; simp
  exact key l [] h0

/-! ### A wire inside a label closes a ring -/
/-- The frame of some wires. -/
def sub (f : List Nat) (l : List (Nat × Nat)) : List Nat := (List.range f.length).map fun a => bitsL ((List.range f.length).map fun b => adj f a b && (l.contains (a, b) || l.contains (b, a)))
theorem sub_adj {f : List Nat} {l : List (Nat × Nat)} {a b : Nat} (ha : a < f.length) (hb : b < f.length) : adj (sub f l) a b = (adj f a b && (l.contains (a, b) || l.contains (b, a))) := by
  unfold adj sub
  rw [getD_mapN (by simpa using ha), bitsL_bit, getD_mapN (by simpa using hb), range_getD ha, range_getD hb]
  rfl
theorem sub_len (f : List Nat) (l : List (Nat × Nat)) : (sub f l).length = f.length := by simp [sub]
theorem sub_fm {f : List Nat} (hf : Fm f) (l : List (Nat × Nat)) : Fm (sub f l) := by
  have hl := sub_len f l
  refine ⟨by rw [hl]; exact hf.n1, by rw [hl]; exact hf.n7, fun i k hi hk => ?_, fun i hi => ?_, fun i hi => ?_⟩
  · rw [hl] at hi hk
    have e1 := sub_adj (l := l) hi hk
    have e2 := sub_adj (l := l) hk hi
    unfold adj at e1 e2
    rw [e1, e2, Bool.or_comm]
    have := hf.sy i k hi hk
    rw [this]
  · rw [hl] at hi
    have e1 := sub_adj (l := l) hi hi
    unfold adj at e1
    rw [e1, hf.no i hi]; rfl
  · rw [hl] at hi ⊢
    unfold sub
    rw [getD_mapN (by simpa using hi)]
    have := bitsL_lt ((List.range f.length).map fun b => adj f ((List.range f.length).getD i 0) b && (l.contains ((List.range f.length).getD i 0, b) || l.contains (b, (List.range f.length).getD i 0)))
    rwa [List.length_map, List.length_range] at this
theorem con_walk {f : List Nat} (hf : Fm f) {l : List (Nat × Nat)} {x y : Nat} (h : Con f l x y) : x = y ∨ ∃ d, Wk (sub f l) f.length d x y = true := by
  have hs := sub_fm hf l
  have hsl := sub_len f l
  have hA := hs.adj_sy
  have hn : ∀ i k, adj (sub f l) i k = true → i < f.length := fun i k h => by have := hs.adj_lt h; omega
  induction h with
  | refl x => exact .inl rfl
  | wire h1 h2 =>
    rename_i p
    obtain ⟨a1, a2⟩ := hf.adj_lt h2
    refine .inr ⟨1, Wk_step.2 (.inr ⟨p.2, a2, ?_, Wk_refl _⟩)⟩
    rw [sub_adj a1 a2, h2, List.contains_iff_mem.2 h1]; rfl
  | symm _ ih =>
    rcases ih with e | ⟨d, h⟩
    · exact .inl e.symm
    · exact .inr ⟨d, Wk_symm hA hn h⟩
  | trans _ _ h1 h2 =>
    rcases h1 with e | ⟨d, h⟩
    · subst e; exact h2
    · rcases h2 with e | ⟨d', h'⟩
      · subst e; exact .inr ⟨d, h⟩
      · exact .inr ⟨d + d', Wk_trans h' h⟩
theorem hs_sub {f : List Nat} (hf : Fm f) {l : List (Nat × Nat)} {m : Nat} (h : hs (sub f l) m = true) {p : Nat × Nat} (hp : p ∈ prs) (hb : m.testBit (ix p.1 p.2) = true) : adj f p.1 p.2 = true ∧ (p ∈ l ∨ (p.2, p.1) ∈ l) := by
  have h1 := List.all_eq_true.1 h p hp
  rw [hb] at h1
  have h2 : adj (sub f l) p.1 p.2 = true := by simpa [adj] using h1
  have h3 := (sub_fm hf l).adj_lt h2
  rw [sub_len] at h3
  rw [sub_adj h3.1 h3.2, Bool.and_eq_true, Bool.or_eq_true, List.contains_iff_mem, List.contains_iff_mem] at h2
  exact h2

theorem prs_ok : ∀ p ∈ prs, p.1 < p.2 ∧ p.2 < 7 := by decide
theorem ring_of {f : List Nat} (hf : Fm f) {l : List (Nat × Nat)} (hl : ∀ p ∈ l, p ∈ prs) {p : Nat × Nat} (hp : p ∈ prs) (hpl : p ∉ l) (ha : adj f p.1 p.2 = true) (h : Con f l p.1 p.2) : Cyc f := by
  obtain ⟨q1, q2⟩ := prs_ok p hp
  obtain ⟨a1, a2⟩ := hf.adj_lt ha
  have hs := sub_fm hf l
  have hsl := sub_len f l
  rcases con_walk hf h with e | ⟨d, hw⟩
  · omega
  · have h1 := pth_walk hf.n7 a1 hw
    rw [← hsl] at h1
    obtain ⟨m, hm, hms⟩ := wayM_of hs.sy hs.n7 hs.no 7 p.1 _ 0 (by omega) h1 (hs_zero _)
    rw [hsl] at hm
    have hb : m.testBit (ix p.1 p.2) = false := Bool.eq_false_iff.2 fun c => by
      rcases (hs_sub hf hms hp c).2 with h | h
      · exact hpl h
      · have := prs_ok _ (hl _ h); simp only at this; omega
    have hc := List.all_eq_true.1 (List.all_eq_true.1 (List.all_eq_true.1 (List.all_eq_true.1 c1_all f.length (List.mem_range.2 (by have := hf.n7; omega))) p.2 (List.mem_range.2 a2)) p.1 (List.mem_range.2 q1)) m hm
    rw [hb, Bool.false_or] at hc
    refine ⟨_, treeN_mem hc, ?_⟩
    rw [hs_or, hs_eb hf.sy a1 a2 hf.n7 (by omega)]
    have : Go.X.hs f m = true := by
      refine List.all_eq_true.2 fun q hq => ?_
      cases hbq : m.testBit (ix q.1 q.2) with
      | false => rfl
      | true => exact (hs_sub hf hms hq hbq).1
    rw [this]; exact ha

theorem ix_inj : ∀ p ∈ prs, ∀ q ∈ prs, ix p.1 p.2 = ix q.1 q.2 → p = q := by decide
theorem ix_sy (a b : Nat) : ix a b = ix b a := by
  unfold ix
  rcases Nat.lt_trichotomy a b with h | h | h
  · rw [if_pos h, if_neg (by omega)]
  · subst h; rfl
  · rw [if_neg (by omega), if_pos h]
theorem ix_onto : ∀ j < 21, ∃ p ∈ prs, ix p.1 p.2 = j := by decide
theorem pair_mem {a b : Nat} (ha : a < 7) (hb : b < 7) (h : a ≠ b) : ((a, b) ∈ prs ∨ (b, a) ∈ prs) := by
  rcases Nat.lt_or_gt_of_ne h with c | c
  · exact .inl (mem_prs c hb)
  · exact .inr (mem_prs c ha)

theorem c2_all {n k i r : Nat} (h7 : n ≤ 7) (hk : k < n) (hi : i < k) (hr : r ∈ RG n) (hb : r.testBit (ix i k) = true) : r ^^^ eb i k ∈ ways n i k := by
  have h : c2P n k = true := by
    rcases Nat.lt_or_ge n 7 with h | h
    · exact List.all_eq_true.1 (List.all_eq_true.1 c2_6 n (List.mem_range.2 (by omega))) k (List.mem_range.2 hk)
    · have : n = 7 := by omega
      subst this
      have : k = 0 ∨ k = 1 ∨ k = 2 ∨ k = 3 ∨ k = 4 ∨ k = 5 ∨ k = 6 := by omega
      rcases this with rfl | rfl | rfl | rfl | rfl | rfl | rfl
      · exact c2_70
      · exact c2_71
      · exact c2_72
      · exact c2_73
      · exact c2_74
      · exact c2_75
      · exact c2_76
  have h2 := List.all_eq_true.1 (List.all_eq_true.1 h i (List.mem_range.2 hi)) r hr
  rw [hb, Bool.not_true, Bool.false_or] at h2
  exact treeN_mem h2

theorem ex_mono (f : List Nat) (s : UF) (p : Nat × Nat) : s.ex ≤ (ufStep f s p).ex := by
  unfold ufStep
  split
  · split <;> simp
  · exact Nat.le_refl _

theorem ex_pos {f : List Nat} (hf : Fm f) : ∀ (m l : List (Nat × Nat)), l ++ m = prs → (uf f l).ex = 0 → (uf f prs).ex ≠ 0 → Cyc f
  | [], l, e, h0, h1 => by
    rw [List.append_nil] at e
    rw [e] at h0; exact absurd h0 h1
  | p :: m, l, e, h0, h1 => by
    have hml : ∀ q ∈ l, q ∈ prs := fun q hq => by rw [← e]; exact List.mem_append_left _ hq
    have hp : p ∈ prs := by rw [← e]; simp
    by_cases c : (uf f (l ++ [p])).ex = 0
    · exact ex_pos hf m (l ++ [p]) (by rw [← e]; simp) c h1
    · rw [uf_snoc] at c
      unfold ufStep at c
      by_cases ha : adj f p.1 p.2 = true
      · rw [if_pos ha] at c
        by_cases hl : (uf f l).lab p.1 = (uf f l).lab p.2
        · have hnd : prs.Nodup := by decide
          have hpl : p ∉ l := fun hq => by
            rw [← e] at hnd
            exact (List.nodup_append.1 hnd).2.2 p hq p List.mem_cons_self rfl
          exact ring_of hf hml hp hpl ha ((uinv hf l).conn _ _ hl)
        · rw [if_neg hl] at c
          exact absurd h0 c
      · rw [if_neg ha] at c
        exact absurd h0 c

theorem ring_ex {f : List Nat} (hf : Fm f) {r : Nat} (hr : r ∈ RG f.length) (hrf : hs f r = true) : ∀ (k : Nat) (l : List (Nat × Nat)), l.length = k → (∃ m, l ++ m = prs) → (∀ p ∈ prs, r.testBit (ix p.1 p.2) = true → p ∈ l) → (uf f l).ex ≠ 0
  | 0, l, hk, _, hall => by
    have hl : l = [] := List.eq_nil_of_length_eq_zero hk
    have hc := List.all_eq_true.1 (List.all_eq_true.1 c2_a f.length (List.mem_range.2 (by have := hf.n7; omega))) r hr
    rw [Bool.and_eq_true] at hc
    have h0 : r ≠ 0 := fun e => by rw [e] at hc; exact absurd hc.1 (by decide)
    have h1 : r < 2 ^ (f.length * (f.length - 1) / 2) := by have := hc.2; simpa [Nat.blt, Nat.lt_iff_add_one_le] using this
    have h2 : 2 ^ (f.length * (f.length - 1) / 2) ≤ 2 ^ 21 := Nat.pow_le_pow_right (by decide) (by
      have := hf.n7
      have : f.length * (f.length - 1) ≤ 7 * 6 := Nat.mul_le_mul this (by omega)
      omega)
    exfalso
    apply h0
    apply Nat.eq_of_testBit_eq
    intro j
    rw [Nat.zero_testBit]
    refine Bool.eq_false_iff.2 fun c => ?_
    by_cases hj : j < 21
    · obtain ⟨p, hp, e⟩ := ix_onto j hj
      have := hall p hp (by rw [e]; exact c)
      rw [hl] at this; cases this
    · rw [Nat.testBit_lt_two_pow (Nat.lt_of_lt_of_le (Nat.lt_of_lt_of_le h1 h2) (Nat.pow_le_pow_right (by decide) (by omega)))] at c
      cases c
  | k + 1, l, hk, ⟨m, hm⟩, hall => by
    obtain ⟨l', p, rfl⟩ : ∃ l' p, l = l' ++ [p] := by
      have hne : l ≠ [] := fun e => by subst e; cases hk
      exact ⟨l.dropLast, l.getLast hne, (List.dropLast_concat_getLast hne).symm⟩
    have hk' : l'.length = k := by simpa using hk
    have hp : p ∈ prs := by rw [← hm]; simp
    have hml : ∀ q ∈ l', q ∈ prs := fun q hq => by rw [← hm]; simp [hq]
    rw [uf_snoc]
    by_cases c : r.testBit (ix p.1 p.2) = true
    · obtain ⟨q1, q2⟩ := prs_ok p hp
      have ha : adj f p.1 p.2 = true := by
        have := List.all_eq_true.1 hrf p hp
        rw [c] at this
        simpa [adj] using this
      obtain ⟨a1, a2⟩ := hf.adj_lt ha
      have hlab := wayM_lab (uf f l').lab 7 p.1 _ 0 _ a1 (c2_all hf.n7 a2 q1 hr c) (fun a b ha' hb' hne hbit => by
        have n7 := hf.n7
        unfold eb at hbit
        rw [Nat.testBit_xor, Nat.testBit_two_pow] at hbit
        have key : ∀ q ∈ prs, r.testBit (ix q.1 q.2) = true → ix p.1 p.2 ≠ ix q.1 q.2 → (uf f l').lab q.1 = (uf f l').lab q.2 := fun q hq hb hi => by
          have h1 := hall q hq hb
          rcases List.mem_append.1 h1 with h1 | h1
          · refine (uinv hf l').same q h1 ?_
            have := List.all_eq_true.1 hrf q hq
            rw [hb] at this
            simpa [adj] using this
          · rw [List.mem_singleton.1 h1] at hi; exact absurd rfl hi
        have hr1 : ix p.1 p.2 ≠ ix a b := fun e => by
          rw [← e, c] at hbit; simp at hbit
        have hr2 : r.testBit (ix a b) = true := by
          have : decide (ix p.1 p.2 = ix a b) = false := by simpa using hr1
          rw [this, Bool.xor_false] at hbit
          exact hbit
        rcases pair_mem (by omega : a < 7) (by omega : b < 7) hne with hq | hq
        · exact key (a, b) hq hr2 hr1
        · exact (key (b, a) hq (by show r.testBit (ix b a) = true; rw [ix_sy]; exact hr2) (by show ix p.1 p.2 ≠ ix b a; rw [ix_sy b a]; exact hr1)).symm) (by rw [dl_bit, Nat.testBit_two_pow_self]; simp)
      unfold ufStep
      rw [if_pos ha, if_pos hlab]
      simp
    · have ih := ring_ex hf hr hrf k l' hk' ⟨p :: m, by rw [← hm]; simp⟩ fun q hq hb => by
        rcases List.mem_append.1 (hall q hq hb) with h1 | h1
        · exact h1
        · rw [List.mem_singleton.1 h1] at hb; exact absurd hb c
      have := ex_mono f (uf f l') p
      omega

theorem cyc_iff {f : List Nat} (hf : Fm f) : Cyc f ↔ (uf f prs).ex ≠ 0 := by
  constructor
  · rintro ⟨r, hr, hrf⟩
    exact ring_ex hf hr hrf _ prs rfl ⟨[], by simp⟩ fun p hp _ => hp
  · intro h
    exact ex_pos hf prs [] (by simp) rfl h

/-! ### Parts -/
theorem mtL_has {f : List Nat} {k c : Nat} (hc : (f.getD k 0).testBit c = true) : ∀ (ks : List Nat) (x : Nat), k ∈ ks → x.testBit k = true → (mtL f ks x).testBit c = true
  | [], _, h, _ => by cases h
  | j :: ks, x, h, hx => by
    have e : mtL f (j :: ks) x = mtL f ks (if x.testBit j then x ||| f.getD j 0 else x) := rfl
    rw [e]
    by_cases c1 : k = j
    · subst c1
      rw [if_pos hx]
      exact mtL_sub f ks _ c (by rw [Nat.testBit_or, hc, Bool.or_true])
    · have hk : k ∈ ks := (List.mem_cons.1 h).resolve_left c1
      refine mtL_has hc ks _ hk ?_
      split
      · rw [Nat.testBit_or, hx, Bool.true_or]
      · exact hx
theorem mtL_lab {f : List Nat} {lab : Nat → Nat} {a : Nat} (hl : ∀ i k, adj f i k = true → lab i = lab k) : ∀ (ks : List Nat) (x : Nat), (∀ j, x.testBit j = true → lab j = a) → ∀ j, (mtL f ks x).testBit j = true → lab j = a
  | [], x, h, j, hj => h j hj
  | k :: ks, x, h, j, hj => by
    have e : mtL f (k :: ks) x = mtL f ks (if x.testBit k then x ||| f.getD k 0 else x) := rfl
    rw [e] at hj
    refine mtL_lab hl ks _ (fun i hi => ?_) j hj
    split at hi
    · rename_i hk
      rw [Nat.testBit_or, Bool.or_eq_true] at hi
      rcases hi with hi | hi
      · exact h i hi
      · rw [← hl k i hi]; exact h k hk
    · exact h i hi
theorem mtN_lab {f : List Nat} {lab : Nat → Nat} {a : Nat} (hl : ∀ i k, adj f i k = true → lab i = lab k) : ∀ (r x : Nat), (∀ j, x.testBit j = true → lab j = a) → ∀ j, (mtN f r x).testBit j = true → lab j = a
  | 0, x, h => h
  | r + 1, x, h => mtN_lab hl r _ (mtL_lab hl _ x h)

section
variable {f : List Nat} (hf : Fm f)
include hf
theorem Fm.bit128 (j : Nat) : f.getD j 0 < 128 := by
  have h2 : 2 ^ f.length ≤ 2 ^ 7 := Nat.pow_le_pow_right (by decide) hf.n7
  by_cases hj : j < f.length
  · have := hf.lt j hj; omega
  · rw [List.getD_eq_getElem?_getD, List.getElem?_eq_none (by omega)]; decide
theorem Fm.bitn (j : Nat) : f.getD j 0 < 2 ^ f.length := by
  by_cases hj : j < f.length
  · exact hf.lt j hj
  · rw [List.getD_eq_getElem?_getD, List.getElem?_eq_none (by omega)]; exact Nat.pow_pos (by decide)
theorem prs_same (i k : Nat) (ha : adj f i k = true) : (uf f prs).lab i = (uf f prs).lab k := by
  have h1 := hf.adj_lt ha
  have h2 := hf.adj_ne ha
  have n7 := hf.n7
  have hi := uinv hf prs
  rcases pair_mem (by omega : i < 7) (by omega : k < 7) h2 with h | h
  · exact hi.same (i, k) h ha
  · exact (hi.same (k, i) h (by rw [hf.adj_sy]; exact ha)).symm
theorem clo_lt {i : Nat} (hi : i < f.length) : clo f 8 (2 ^ i) < 2 ^ f.length := by
  rw [clo_eq]
  exact mtN_lt hf.bitn 8 _ (Nat.pow_lt_pow_right (by decide) hi)
theorem clo_class {i c : Nat} (hi : i < f.length) : (clo f 8 (2 ^ i)).testBit c = true ↔ c < f.length ∧ (uf f prs).lab c = (uf f prs).lab i := by
  have hlt := clo_lt hf hi
  rw [clo_eq] at hlt ⊢
  have hs := prs_same hf
  constructor
  · intro h
    refine ⟨?_, mtN_lab hs 8 (2 ^ i) (fun j hj => ?_) c h⟩
    · rcases Nat.lt_or_ge c f.length with h1 | h1
      · exact h1
      · rw [Nat.testBit_lt_two_pow (Nat.lt_of_lt_of_le hlt (Nat.pow_le_pow_right (by decide) h1))] at h; cases h
    · rw [Nat.testBit_two_pow, decide_eq_true_eq] at hj
      rw [hj]
  · rintro ⟨hc, hlab⟩
    have hst : mt1 f (mtN f 8 (2 ^ i)) = mtN f 8 (2 ^ i) := by
      rcases mtN_grow hf.bit128 8 (2 ^ i) (by
        have : (2 : Nat) ^ i < 2 ^ 7 := Nat.pow_lt_pow_right (by decide) (by have := hf.n7; omega)
        omega) with h | h
      · exact h
      · have := pc_le7 (mtN f 8 (2 ^ i)); omega
    have hi0 : (mtN f 8 (2 ^ i)).testBit i = true := mtN_sub f 8 (2 ^ i) i (Nat.testBit_two_pow_self)
    generalize mtN f 8 (2 ^ i) = S at *
    have hcl : ∀ a b, adj f a b = true → S.testBit a = true → S.testBit b = true := fun a b ha hS => by
      rw [← hst]
      exact mtL_has ha _ S (List.mem_range.2 (hf.adj_lt ha).1) hS
    have hcon : ∀ x y, Con f prs x y → (S.testBit x = true ↔ S.testBit y = true) := fun x y h => by
      induction h with
      | refl x => exact Iff.rfl
      | wire _ h2 => exact ⟨hcl _ _ h2, hcl _ _ (by rw [hf.adj_sy]; exact h2)⟩
      | symm _ ih => exact ih.symm
      | trans _ _ h1 h2 => exact h1.trans h2
    exact (hcon c i ((uinv hf prs).conn c i hlab)).2 hi0

theorem parts_fix : ∀ (d left many : Nat), left < 2 ^ f.length → (∀ x y, x < f.length → y < f.length → (uf f prs).lab x = (uf f prs).lab y → left.testBit x = true → left.testBit y = true) → pc left ≤ d →
    partsP f d left many = many + ((List.range f.length).filter fun x => left.testBit x && (uf f prs).lab x == x).length
  | 0, left, many, hl, _, hd => by
    have h0 : left = 0 := by
      refine Classical.byContradiction fun h => ?_
      have h128 : 2 ^ f.length ≤ 2 ^ 7 := Nat.pow_le_pow_right (by decide) hf.n7
      have := (pc_pos (met := left) (by omega)).1 (by omega)
      omega
    subst h0
    rw [List.filter_eq_nil_iff.2 (fun x _ => by simp)]
    rfl
  | d + 1, left, many, hl, hcl, hd => by
    simp only [partsP]
    have h128 : 2 ^ f.length ≤ 2 ^ 7 := Nat.pow_le_pow_right (by decide) hf.n7
    by_cases h0 : left = 0
    · rw [if_pos h0]
      subst h0
      rw [List.filter_eq_nil_iff.2 (fun x _ => by simp)]
      rfl
    · rw [if_neg h0]
      have hb := ctz_ok (m := left) (by omega) h0
      have hin : ctz left < f.length := by
        rcases Nat.lt_or_ge (ctz left) f.length with e | e
        · exact e
        · rw [Nat.testBit_lt_two_pow (Nat.lt_of_lt_of_le hl (Nat.pow_le_pow_right (by decide) e))] at hb; cases hb
      generalize ctz left = i at *
      have hS := fun c => clo_class hf (c := c) hin
      have hlab := (uinv hf prs)
      generalize hSe : clo f 8 (2 ^ i) = S at *
      have hSi : S.testBit i = true := (hS i).2 ⟨hin, rfl⟩
      have h1 : pc (dl left S) < pc left := pc_lt (k := i) (fun j hj => by rw [dl_bit] at hj; simp at hj; exact hj.1) (by have := hf.n7; omega) (by rw [dl_bit, hSi]; simp) hb
      rw [parts_fix d (dl left S) (many + 1) (Nat.lt_of_le_of_lt (dl_le _ _) hl) (fun x y hx hy e hb' => ?_) (by omega)]
      · have e1 := filter_one (x := (uf f prs).lab i) (p := fun x => left.testBit x && (uf f prs).lab x == x) (q := fun x => (dl left S).testBit x && (uf f prs).lab x == x) ?_ ?_ (fun y hy => ?_) (List.range f.length) List.nodup_range (List.mem_range.2 (hlab.lt i hin))
        · omega
        · rw [hlab.idem, hcl i _ hin (hlab.lt i hin) (hlab.idem i).symm hb]; simp
        · rw [dl_bit, (hS _).2 ⟨hlab.lt i hin, hlab.idem i⟩]; simp
        · rw [dl_bit]
          cases hSy : S.testBit y with
          | false => simp
          | true =>
            have := (hS y).1 hSy
            have hne : ((uf f prs).lab y == y) = false := by
              have : (uf f prs).lab y ≠ y := fun e => hy (by rw [← e]; exact this.2)
              simpa using this
            rw [hne]; simp
      · rw [dl_bit] at hb' ⊢
        rw [Bool.and_eq_true] at hb'
        rw [hcl x y hx hy e hb'.1]
        have : S.testBit y = false := Bool.eq_false_iff.2 fun c => by
          have h2 := (hS y).1 c
          have h3 := (hS x).2 ⟨hx, by rw [e]; exact h2.2⟩
          rw [h3] at hb'; simp at hb'
        rw [this]; rfl

theorem parts_eq : partsP f 8 (2 ^ f.length - 1) 0 = fixN f.length (uf f prs).lab := by
  rw [parts_fix hf 8 (2 ^ f.length - 1) 0 (by have : 0 < 2 ^ f.length := Nat.pow_pos (by decide)
                                              omega) (fun x y hx hy _ _ => by rw [Nat.testBit_two_pow_sub_one]; simpa using hy) (by have := pc_full hf.n7; have := hf.n7; omega), Nat.zero_add]
  unfold fixN
  congr 1
  refine List.filter_congr fun x hx => ?_
  rw [Nat.testBit_two_pow_sub_one]
  have := List.mem_range.1 hx
  simp [this]

theorem wires_eq : wiN f = (prs.filter fun p => adj f p.1 p.2).length := by
  have e1 : ∀ (l : List Nat), ((l.flatMap fun k => (List.range k).map fun i => (i, k)).filter fun p => adj f p.1 p.2).length = (l.map fun k => wiR (f.getD k 0) (List.range k)).sum := fun l => by
    induction l with
    | nil => rfl
    | cons k l ih =>
      rw [List.flatMap_cons, List.filter_append, List.length_append, ih, List.map_cons, List.sum_cons]
      congr 1
      unfold wiR
      rw [List.filter_map, List.length_map]
      congr 1
      refine List.filter_congr fun i _ => ?_
      show adj f i k = (f.getD k 0).testBit i
      rw [hf.adj_sy]; rfl
  unfold prs
  rw [e1]
  have e2 : ∀ d, f.length + d = 7 → ((List.range 7).map fun k => wiR (f.getD k 0) (List.range k)).sum = ((List.range f.length).map fun k => wiR (f.getD k 0) (List.range k)).sum := fun d hd => by
    have h7 : List.range 7 = List.range f.length ++ (List.range d).map (f.length + ·) := by
      rw [← hd, List.range_add]
    rw [h7, List.map_append, List.sum_append, List.map_map]
    have z : (((List.range d).map ((fun k => wiR (f.getD k 0) (List.range k)) ∘ (f.length + ·)))).sum = 0 := by
      have : ∀ l : List Nat, (l.map ((fun k => wiR (f.getD k 0) (List.range k)) ∘ (f.length + ·))).sum = 0 := fun l => by
        induction l with
        | nil => rfl
        | cons k l ih =>
          rw [List.map_cons, List.sum_cons, ih]
          simp only [Function.comp]
          rw [List.getD_eq_getElem?_getD, List.getElem?_eq_none (by omega)]
          unfold wiR
          rw [List.filter_eq_nil_iff.2 (fun x _ => by simp)]; rfl
      exact this _
    rw [z, Nat.add_zero]
  rw [e2 (7 - f.length) (by have := hf.n7; omega)]
  rfl

/-- Wires and parts are as many as knots exactly if there are no rings. -/
theorem rings_iff : wiN f + partsP f 8 (2 ^ f.length - 1) 0 = f.length ↔ ¬ Cyc f := by
  have hi := uinv hf prs
  rw [cyc_iff hf, wires_eq hf, hi.wires, parts_eq hf]
  have := hi.cnt
  omega
theorem rings_ge : f.length ≤ wiN f + partsP f 8 (2 ^ f.length - 1) 0 := by
  have hi := uinv hf prs
  rw [wires_eq hf, hi.wires, parts_eq hf]
  have := hi.cnt
  omega
end
end Go.X
