import Derived.Test.YtppekkocioidkaaX9
/-! A region whose order is open: whatever order is taken comes to what the text's own order comes to. -/
set_option linter.unusedSimpArgs false
set_option linter.unusedVariables false
set_option linter.unusedSectionVars false
namespace Go.X
open Go Go.RowKit

section
variable {P : Program} {W0 : World} [GlobOk W0] {G : Gh} {H : Heap} {w : World}

/-- An operation that makes a slice, and a store into an object that is made in the same region. -/
def ApB (P : Program) (md : Nat → Nat) (ops : Array Oper) (i j : Nat) : Prop :=
  (∃ x esz bytes z l c, ops[i]? = some x ∧ (comp1 P md ops x).ins = .mks esz bytes z l c) ∧
  ∃ y n d v, ops[j]? = some y ∧ (comp1 P md ops y).ins = .store n (.t d) v ∧ ∃ m o z, m < j ∧ ops[m]? = some o ∧ o.dst = some d ∧ (comp1 P md ops o).ins = .alloc z

/-- An operation that reads an object, and a store into another one. -/
def ApC (P : Program) (md : Nat → Nat) (ops : Array Oper) (F : Nat → List AV) (i j : Nat) : Prop :=
  ∃ x y n t m q v, ops[i]? = some x ∧ (comp1 P md ops x).ins = .load n (.t t) ∧ ops[j]? = some y ∧ (comp1 P md ops y).ins = .store m (.t q) v ∧ apartV ((F i).getD t .undef) ((F j).getD q .undef) = true

/-- All that a region's proof holds fixed. -/
structure Reg (P : Program) (W0 : World) (R : Nat → List AV → Heap → Option (AV × Heap)) (md : Nat → Nat) (ops : Array Oper) (fr0 : List AV) (H0 : Heap) (G0 : Gh) (w0 : World) (F : Nat → List AV) (Hp : Nat → Heap) (V : Nat → AV) : Prop where
  RS : CallSound P W0 R
  f0 : F 0 = fr0
  h0 : Hp 0 = H0
  st : ∀ (k : Nat) (o : Oper), ops[k]? = some o → stepA R (comp1 P md ops o) (F k) (Hp k) = some (F (k + 1), Hp (k + 1)) ∧ F (k + 1) = putA (F k) o.dst (V k) ∧
        ((wantedA (comp1 P md ops o).guard (F k) = some true ∧ insA R (comp1 P md ops o).ins (F k) (Hp k) = some (V k, Hp (k + 1))) ∨ (wantedA (comp1 P md ops o).guard (F k) = some false ∧ V k = .skp ∧ Hp (k + 1) = Hp k))
  tw : ∀ k, k ≤ ops.size → ∃ G w a, FR W0 G (F k) (Act.tmps a) ∧ Rel W0 G (Hp k) w ∧ Ext G0 H0 w0 G w ∧ Gr G H0 (Hp k)
  back : ∀ (j : Nat) (o : Oper), ops[j]? = some o → ∀ e ∈ o.after, Region.binds .any e = true → e.on < j
  ne : ∀ (i j : Nat) (x y : Oper) (d : Nat), ops[i]? = some x → ops[j]? = some y → i ≠ j → x.dst = some d → y.dst ≠ some d
  ord : ∀ (i j : Nat) (x y : Oper), i < j → ops[i]? = some x → ops[j]? = some y → Tr ops j i ∨ (apartR (comp1 P md ops x) (comp1 P md ops y) = true ∧ (memK (comp1 P md ops x).ins * memK (comp1 P md ops y).ins < 2 ∨ ApB P md ops i j ∨ ApC P md ops F i j))

variable {R : Nat → List AV → Heap → Option (AV × Heap)} {md : Nat → Nat} {ops : Array Oper} {fr0 : List AV} {H0 : Heap} {G0 : Gh} {w0 : World} {F : Nat → List AV} {Hp : Nat → Heap} {V : Nat → AV}

def kindOf (P : Program) (md : Nat → Nat) (ops : Array Oper) (k : Nat) : Nat := match ops[k]? with
  | some o => memK (comp1 P md ops o).ins
  | none => 0

def dstOf (ops : Array Oper) (k : Nat) : Option Nat := (ops[k]?).bind (·.dst)

theorem Reg.len (g : Reg P W0 R md ops fr0 H0 G0 w0 F Hp V) : ∀ k, k ≤ ops.size → (F k).length = fr0.length
  | 0, _ => by rw [g.f0]
  | k + 1, hk => by
    have ho : ops[k]? = some ops[k] := by simp
    rw [(g.st k _ ho).2.1, putA_length, g.len k (by omega)]

/-- The frame at step k. -/
theorem Reg.get (g : Reg P W0 R md ops fr0 H0 G0 w0 F Hp V) (t : Nat) (ht : t < fr0.length) : ∀ k, k ≤ ops.size →
    (∃ j, j < k ∧ dstOf ops j = some t ∧ (F k).getD t .undef = V j) ∨ ((∀ j, j < k → dstOf ops j ≠ some t) ∧ (F k).getD t .undef = fr0.getD t .undef)
  | 0, _ => .inr ⟨fun j hj => by omega, by rw [g.f0]⟩
  | k + 1, hk => by
    have ho : ops[k]? = some ops[k] := by simp
    have hd : dstOf ops k = (ops[k]).dst := by simp [dstOf, ho]
    have hst := (g.st k _ ho).2.1
    rw [hst, putA_get, g.len k (by omega)]
    by_cases e : (ops[k]).dst = some t
    · rw [if_pos ⟨e, ht⟩]
      exact .inl ⟨k, by omega, by rw [hd]; exact e, rfl⟩
    · rw [if_neg (fun h => e h.1)]
      rcases g.get t ht k (by omega) with ⟨j, h1, h2, h3⟩ | ⟨h1, h2⟩
      · exact .inl ⟨j, by omega, h2, h3⟩
      · refine .inr ⟨fun j hj => ?_, h2⟩
        by_cases ej : j = k
        · subst ej; rw [hd]; exact e
        · exact h1 j (by omega)

theorem Reg.heapLe (g : Reg P W0 R md ops fr0 H0 G0 w0 F Hp V) {k : Nat} (hk : k < ops.size) : (kindOf P md ops k ≤ 1 → ∃ l, Hp (k + 1) = Hp k ++ l) := by
  intro hkind
  have ho : ops[k]? = some ops[k] := by simp [hk]
  simp only [kindOf, ho] at hkind
  rcases (g.st k _ ho).2.2 with ⟨_, h2⟩ | ⟨_, _, h3⟩
  · exact ins_grows hkind h2
  · exact ⟨[], by simp [h3]⟩

/-- Between writers the heap only grows. -/
theorem Reg.pre (g : Reg P W0 R md ops fr0 H0 G0 w0 F Hp V) (i : Nat) : ∀ d, i + d ≤ ops.size → (∀ k, i ≤ k → k < i + d → kindOf P md ops k ≤ 1) → ∃ l, Hp (i + d) = Hp i ++ l
  | 0, _, _ => ⟨[], by simp⟩
  | d + 1, h, hk => by
    obtain ⟨l, hl⟩ := g.pre i d (by omega) (fun k h1 h2 => hk k h1 (by omega))
    obtain ⟨l', hl'⟩ := g.heapLe (k := i + d) (by omega) (hk _ (by omega) (by omega))
    exact ⟨l ++ l', by rw [show i + (d + 1) = i + d + 1 by omega, hl', hl]; simp⟩

theorem Reg.pre' (g : Reg P W0 R md ops fr0 H0 G0 w0 F Hp V) {i j : Nat} (hij : i ≤ j) (hj : j ≤ ops.size) (hk : ∀ k, i ≤ k → k < j → kindOf P md ops k ≤ 1) : ∃ l, Hp j = Hp i ++ l := by
  obtain ⟨l, hl⟩ := g.pre i (j - i) (by omega) (fun k h1 h2 => hk k h1 (by omega))
  exact ⟨l, by rwa [show i + (j - i) = j by omega] at hl⟩

/-- The objects that the text knows at step k. -/
def Dk (H0 : Heap) (G0 : Gh) (Hp : Nat → Heap) (k id : Nat) : Prop := (id < H0.length ∧ ∃ x, G0.ob id = some x) ∨ (H0.length ≤ id ∧ id < (Hp k).length)

theorem Reg.dom (g : Reg P W0 R md ops fr0 H0 G0 w0 F Hp V) {k : Nat} (hk : k ≤ ops.size) :
    (∀ t, t < fr0.length → Sc (Dk H0 G0 Hp k) ((F k).getD t .undef)) ∧ (∀ id, Dk H0 G0 Hp k id → ∀ o, (Hp k)[id]? = some o → ∀ j, j < o.cells.length → Sc (Dk H0 G0 Hp k) (o.cells.getD j .undef)) ∧ H0.length ≤ (Hp k).length := by
  obtain ⟨G, w, a, h1, h2, h3, h4⟩ := g.tw k hk
  have hd : ∀ id, (∃ x, G.ob id = some x) → Dk H0 G0 Hp k id := by
    rintro id ⟨⟨v, b, S⟩, hx⟩
    have hlt := h2.dom _ _ _ _ hx
    rcases Nat.lt_or_ge id H0.length with hl | hl
    · refine .inl ⟨hl, ?_⟩
      cases hq : G0.ob id with
      | none => have := (h3.new _ _ _ _ hx hq).1; omega
      | some x => exact ⟨x, rfl⟩
    · exact .inr ⟨hl, hlt⟩
  refine ⟨fun t ht => ((h1.2 t (by rw [g.len k hk]; exact ht)).sc).mono hd, fun id hid o ho j hj => ?_, h4.len⟩
  have hx : ∃ x, G.ob id = some x := by
    rcases hid with ⟨hl, ⟨⟨v, b, S⟩, hx⟩⟩ | ⟨hl, hl'⟩
    · obtain ⟨v', b', S', hx', _⟩ := h3.le.ob rfl _ _ _ _ hx
      exact ⟨_, hx'⟩
    · exact h4.tot id hl hl'
  obtain ⟨⟨v, b, S⟩, hx⟩ := hx
  obtain ⟨o', cs, cr, t, k1, k2, k3, k4, k5, k6⟩ := h2.obj _ _ _ _ hx
  rw [ho] at k1; cases k1
  exact ((k6.2 j hj).sc).mono hd

open Classical in
/-- What a place holds when the operations of L are made. -/
noncomputable def cur (ops : Array Oper) (fr0 : List AV) (V : Nat → AV) (L : Nat → Prop) (t : Nat) : AV :=
  if h : ∃ k, k < ops.size ∧ L k ∧ dstOf ops k = some t then V (Classical.choose h) else fr0.getD t .undef

theorem Reg.cur_of (g : Reg P W0 R md ops fr0 H0 G0 w0 F Hp V) {L : Nat → Prop} {k t : Nat} (hk : k < ops.size) (hL : L k) (hd : dstOf ops k = some t) : cur ops fr0 V L t = V k := by
  have h : ∃ k, k < ops.size ∧ L k ∧ dstOf ops k = some t := ⟨k, hk, hL, hd⟩
  unfold cur
  rw [dif_pos h]
  obtain ⟨c1, c2, c3⟩ := Classical.choose_spec h
  generalize Classical.choose h = m at c1 c2 c3
  by_cases e : m = k
  · rw [e]
  · exfalso
    have ho : ops[k]? = some ops[k] := by simp [hk]
    have ho' : ops[m]? = some ops[m] := by simp [c1]
    simp only [dstOf, ho, Option.bind_some] at hd
    simp only [dstOf, ho', Option.bind_some] at c3
    exact g.ne _ _ _ _ t ho' ho e c3 hd

theorem cur_none {L : Nat → Prop} {t : Nat} (h : ∀ k, k < ops.size → L k → dstOf ops k ≠ some t) : cur ops fr0 V L t = fr0.getD t .undef := by
  unfold cur
  rw [dif_neg]
  rintro ⟨k, h1, h2, h3⟩
  exact h k h1 h2 h3

structure Inv (P : Program) (W0 : World) (md : Nat → Nat) (ops : Array Oper) (fr0 : List AV) (H0 : Heap) (G0 : Gh) (w0 : World) (Hp : Nat → Heap) (V : Nat → AV) (L : Nat → Prop) (a : Act) (w : World) (G : Gh) (e : Nat) : Prop where
  le : e ≤ ops.size
  wr : ∀ k, k < e → kindOf P md ops k = 2 → L k
  now : e < ops.size → kindOf P md ops e = 2 ∧ ¬ L e
  size : fr0.length ≤ a.tmps.size
  fr : ∀ t, t < fr0.length → VR W0 G 0 (cur ops fr0 V L t) (a.tmps.getD t Go.undef)
  rel : Rel W0 G (Hp e) w
  dom : ∀ id, (∃ x, G.ob id = some x) ↔ ((id < H0.length ∧ ∃ x, G0.ob id = some x) ∨ ∃ k, k < ops.size ∧ L k ∧ (Hp k).length ≤ id ∧ id < (Hp (k + 1)).length)
  ext : Ext G0 H0 w0 G w
  dfr : a.defers = []

def Cl (ops : Array Oper) (L : Nat → Prop) : Prop := ∀ j, L j → ∀ i, dirA ops j i → L i

theorem Cl.tr {L : Nat → Prop} (h : Cl ops L) {j i : Nat} (t : Tr ops j i) : L j → L i := by
  induction t with
  | one hd => exact fun hj => h _ hj _ hd
  | cons hd _ ih => exact fun hj => ih (h _ hj _ hd)

theorem Cl.tr' {L : Nat → Prop} (h : Cl ops L) {j i : Nat} (t : Tr ops j i) (hr : ∀ i, dirA ops j i → L i) : L i := by
  cases t with
  | one hd => exact hr _ hd
  | cons hd t => exact h.tr t (hr _ hd)

theorem apart_reads {x y : Op1} (h : apartR x y = true) : (∀ d, x.dst = some d → d ∉ readsO y) ∧ (∀ d, y.dst = some d → d ∉ readsO x) := by
  simp only [apartR, Bool.and_eq_true] at h
  refine ⟨fun d hd => ?_, fun d hd => ?_⟩
  · have := h.1; rw [hd] at this; simpa using this
  · have := h.2; rw [hd] at this; simpa using this

theorem memK_le (i : Ins) : memK i ≤ 2 := by
  cases i <;> simp only [memK] <;> (try split) <;> omega

theorem kind_le (k : Nat) : kindOf P md ops k ≤ 2 := by
  unfold kindOf; split
  · exact memK_le _
  · omega

/-- What an operation that is ready looks at is what it looks at in the text's order. -/
theorem Reg.looks (g : Reg P W0 R md ops fr0 H0 G0 w0 F Hp V) {L : Nat → Prop} (hcl : Cl ops L) {j : Nat} {o : Oper} (ho : ops[j]? = some o) (hj : ¬ L j) (hr : ∀ i, dirA ops j i → L i) {t : Nat} (ht : t < fr0.length) (hread : t ∈ readsO (comp1 P md ops o)) :
    cur ops fr0 V L t = (F j).getD t .undef := by
  have hjs : j < ops.size := by
    rcases Nat.lt_or_ge j ops.size with h | h
    · exact h
    · rw [Array.getElem?_eq_none h] at ho; cases ho
  have hdst : ∀ (k : Nat) (x : Oper), ops[k]? = some x → dstOf ops k = some t → x.dst = some t := fun k x hx hd => by simpa [dstOf, hx] using hd
  rcases g.get t ht j (by omega) with ⟨k, h1, h2, h3⟩ | ⟨h1, h2⟩
  · rw [h3]
    have hks : k < ops.size := by omega
    have hk : ops[k]? = some ops[k] := by simp [hks]
    refine g.cur_of hks ?_ h2
    rcases g.ord k j _ _ h1 hk ho with ht' | hap
    · exact hcl.tr' ht' hr
    · exact absurd hread ((apart_reads hap.1).1 t (by rw [comp1_dst]; exact hdst _ _ hk h2))
  · rw [h2]
    refine cur_none fun k hks hLk hd => ?_
    have hk : ops[k]? = some ops[k] := by simp [hks]
    rcases Nat.lt_trichotomy k j with hlt | heq | hgt
    · exact h1 k hlt hd
    · subst heq; exact hj hLk
    · rcases g.ord j k _ _ hgt ho hk with ht' | hap
      · exact hj (hcl.tr ht' hLk)
      · exact (apart_reads hap.1).2 t (by rw [comp1_dst]; exact hdst _ _ hk hd) hread

def addL (L : Nat → Prop) (j : Nat) : Nat → Prop := fun k => L k ∨ k = j

/-- The frame behind one more. -/
theorem Reg.fr_step (g : Reg P W0 R md ops fr0 H0 G0 w0 F Hp V) {L : Nat → Prop} {j : Nat} {o : Oper} (ho : ops[j]? = some o) (hj : ¬ L j) {a : Act} {G G' : Gh} (hsz : fr0.length ≤ a.tmps.size) (hfr : ∀ t, t < fr0.length → VR W0 G 0 (cur ops fr0 V L t) (a.tmps.getD t Go.undef)) (hle : Le 0 G G')
    {m : List AV} (hm : m.length = fr0.length) {v : AV} {c : Value} (hput : putA m o.dst (V j) = putA m o.dst v) (hv : VR W0 G' 0 v c) :
    fr0.length ≤ (a.put o.dst c).tmps.size ∧ ∀ t, t < fr0.length → VR W0 G' 0 (cur ops fr0 V (addL L j) t) ((a.put o.dst c).tmps.getD t Go.undef) := by
  have hjs : j < ops.size := by
    rcases Nat.lt_or_ge j ops.size with h | h
    · exact h
    · rw [Array.getElem?_eq_none h] at ho; cases ho
  have hd : dstOf ops j = o.dst := by simp [dstOf, ho]
  refine ⟨by cases hdo : o.dst <;> simpa [Act.put] using hsz, fun t ht => ?_⟩
  by_cases e : o.dst = some t
  · rw [g.cur_of hjs (.inr rfl) (by rw [hd]; exact e)]
    rw [e] at hput ⊢
    rw [putA_inj hput (by omega)]
    have : t < a.tmps.size := by omega
    simp only [Act.put, Array.getD_eq_getD_getElem?, Array.getElem?_setIfInBounds, if_pos rfl, if_pos this, Option.getD_some]
    exact hv
  · have hc : cur ops fr0 V (addL L j) t = cur ops fr0 V L t := by
      by_cases h : ∃ k, k < ops.size ∧ L k ∧ dstOf ops k = some t
      · obtain ⟨k, h1, h2, h3⟩ := h
        rw [g.cur_of h1 h2 h3, g.cur_of (L := addL L j) h1 (.inl h2) h3]
      · rw [cur_none (fun k h1 h2 h3 => h ⟨k, h1, h2, h3⟩), cur_none]
        rintro k h1 (h2 | rfl) h3
        · exact h ⟨k, h1, h2, h3⟩
        · rw [hd] at h3; exact e h3
    have ht' : (a.put o.dst c).tmps.getD t Go.undef = a.tmps.getD t Go.undef := by
      cases hdo : o.dst with
      | none => rfl
      | some d =>
        have hne : d ≠ t := fun e' => e (by rw [hdo, e'])
        simp only [Act.put, Array.getD_eq_getD_getElem?, Array.getElem?_setIfInBounds_ne hne]
    rw [hc, ht']
    exact (hfr t ht).mono hle

theorem put_defers (a : Act) (d : Option Nat) (c : Value) : (a.put d c).defers = a.defers := by cases d <;> rfl

theorem lt_of_get {ops : Array Oper} {j : Nat} {o : Oper} (ho : ops[j]? = some o) : j < ops.size := by
  rcases Nat.lt_or_ge j ops.size with h | h
  · exact h
  · rw [Array.getElem?_eq_none h] at ho; cases ho

/-- The next operation that may write. -/
theorem next_wr (P : Program) (md : Nat → Nat) (ops : Array Oper) (i : Nat) (hi : i ≤ ops.size) : ∃ e, i ≤ e ∧ e ≤ ops.size ∧ (∀ k, i ≤ k → k < e → kindOf P md ops k ≤ 1) ∧ (e < ops.size → kindOf P md ops e = 2) := by
  have : ∀ d i, i + d = ops.size → ∃ e, i ≤ e ∧ e ≤ ops.size ∧ (∀ k, i ≤ k → k < e → kindOf P md ops k ≤ 1) ∧ (e < ops.size → kindOf P md ops e = 2) := by
    intro d
    induction d with
    | zero => intro i h; exact ⟨i, Nat.le_refl _, by omega, fun k h1 h2 => by omega, fun h' => by omega⟩
    | succ d ih =>
      intro i h
      by_cases hk : kindOf P md ops i = 2
      · exact ⟨i, Nat.le_refl _, by omega, fun k h1 h2 => by omega, fun _ => hk⟩
      · obtain ⟨e, h1, h2, h3, h4⟩ := ih (i + 1) (by omega)
        refine ⟨e, by omega, h2, fun k k1 k2 => ?_, h4⟩
        by_cases e' : k = i
        · subst e'; have := kind_le (P := P) (md := md) (ops := ops) k; omega
        · exact h3 k (by omega) k2
  exact this (ops.size - i) i (by omega)

theorem Ext.low {G G' : Gh} {H H' : Heap} {w w' : World} (h : Ext G H w G' w') (hl : H'.length ≤ H.length) : Ext G H' w G' w' :=
  { h with new := fun id v b S h1 h2 => ⟨Nat.le_trans hl (h.new _ _ _ _ h1 h2).1, (h.new _ _ _ _ h1 h2).2⟩ }

theorem get_app {α : Type} {l l' : List α} {i : Nat} {x : α} (h : (l ++ l')[i]? = some x) (hi : i < l.length) : l[i]? = some x := by
  rwa [List.getElem?_append_left hi] at h

theorem app_get {α : Type} {l l' : List α} {i : Nat} {x : α} (h : l[i]? = some x) : (l ++ l')[i]? = some x := by
  have hi : i < l.length := by
    rcases Nat.lt_or_ge i l.length with h' | h'
    · exact h'
    · rw [List.getElem?_eq_none h'] at h; cases h
  rwa [List.getElem?_append_left hi]

open Classical in
/-- The ghost behind an operation that only makes new objects. -/
noncomputable def Gh.mix (G G2 : Gh) (lo hi : Nat) : Gh where
  ob := fun id => if lo ≤ id ∧ id < hi then G2.ob id else G.ob id
  C := G2.C
  D := G.D

/-- What a few objects know is left as it was: the rest of the heap may be there or not. -/
theorem Rel.mix {G G2 : Gh} {Hj Hj1 He H0 : Heap} {w w' : World} (hR : Rel W0 G He w) (hpre : ∃ l, He = Hj1 ++ l) (hpre1 : ∃ l, Hj1 = Hj ++ l) (h0 : H0.length ≤ Hj.length)
    (hout : ∀ id x, G.ob id = some x → ¬ (Hj.length ≤ id ∧ id < Hj1.length))
    (hR2 : Rel W0 G2 Hj1 w') (hE : Ext (G.on fun id => id < Hj.length) Hj w G2 w') (hg : Gr G2 Hj Hj1) :
    Rel W0 (G.mix G2 Hj.length Hj1.length) He w' ∧ Ext G H0 w (G.mix G2 Hj.length Hj1.length) w' ∧ Le 0 G2 (G.mix G2 Hj.length Hj1.length) := by
  obtain ⟨l, rfl⟩ := hpre
  obtain ⟨l1, rfl⟩ := hpre1
  have hon : ∀ id x, (G.on fun id => id < Hj.length).ob id = some x → id < Hj.length ∧ G.ob id = some x := fun id x h => by
    simp only [Gh.on] at h; split at h
    · exact ⟨by assumption, h⟩
    · cases h
  have hon' : ∀ id x, id < Hj.length → G.ob id = some x → (G.on fun id => id < Hj.length).ob id = some x := fun id x h1 h2 => by simp [Gh.on, h1, h2]
  -- old objects stand as they stood
  have hsame : ∀ id v b S, id < Hj.length → G.ob id = some (v, b, S) → G2.ob id = some (v, b, S) := by
    intro id v b S hl hx
    obtain ⟨v', b', S', k1, k2, k3⟩ := hE.le.ob rfl _ _ _ _ (hon' _ _ hl hx)
    obtain ⟨o, _, _, _, m1, m2, _⟩ := hR2.obj _ _ _ _ k1
    obtain ⟨o', _, _, _, n1, n2, _⟩ := hR.obj _ _ _ _ hx
    rw [List.append_assoc, List.getElem?_append_left hl] at n1
    rw [List.getElem?_append_left hl] at m1
    rw [m1] at n1; cases n1
    obtain ⟨rfl, rfl⟩ := k3 (by omega)
    have : v = v' := by omega
    rw [this]; exact k1
  have hback : ∀ id x, id < Hj.length → G2.ob id = some x → G.ob id = some x := by
    rintro id ⟨v, b, S⟩ hl hx
    cases hq : (G.on fun id => id < Hj.length).ob id with
    | none => have := (hE.new _ _ _ _ hx hq).1; omega
    | some y =>
      obtain ⟨v1, b1, S1⟩ := y
      have h1 := (hon _ _ hq).2
      rw [hsame _ _ _ _ hl h1] at hx
      rw [h1, hx]
  have hnewb : ∀ id v b S, Hj.length ≤ id → G2.ob id = some (v, b, S) → w.heap.size ≤ b := fun id v b S hl hx =>
    (hE.new _ _ _ _ hx (by simp only [Gh.on]; rw [if_neg (by omega)])).2
  have holdb : ∀ id v b S, G.ob id = some (v, b, S) → b < w.heap.size := fun id v b S hx => by
    obtain ⟨_, _, _, _, _, _, _, h4, _⟩ := hR.obj _ _ _ _ hx
    exact blk_lt' h4
  have hle2 : Le 0 G2 (G.mix G2 Hj.length (Hj ++ l1).length) := by
    refine ⟨fun _ id v b S hx => ⟨v, b, S, ?_, Nat.le_refl _, fun _ => ⟨rfl, rfl⟩⟩, fun _ b s hx => ?_, fun _ _ h => h⟩
    · simp only [Gh.mix]
      split
      · exact hx
      · rename_i hn
        exact hback _ _ (by have := hR2.dom _ _ _ _ hx; omega) hx
    · rw [hE.D] at hx; exact hx
  have hle : Le 0 G (G.mix G2 Hj.length (Hj ++ l1).length) := by
    refine ⟨fun _ id v b S hx => ⟨v, b, S, ?_, Nat.le_refl _, fun _ => ⟨rfl, rfl⟩⟩, fun _ _ _ h => h, fun b s h => hE.le.C _ _ h⟩
    simp only [Gh.mix]
    rw [if_neg (hout _ _ hx)]; exact hx
  have hCn : ∀ b s, G2.C b = some s → G.C b = some s ∨ w.heap.size ≤ b := fun b s h => hE.Cn _ _ h
  have hframe : ∀ b, b < w.heap.size → (∀ id v S, id < Hj.length → G.ob id ≠ some (v, b, S)) → w'.heap[b]? = w.heap[b]? := fun b hb hn =>
    hE.frame b hb (fun id v S hx => hn id v S (hon _ _ hx).1 (hon _ _ hx).2)
  refine ⟨⟨hR2.below, fun id v b S hx => ?_, fun id v b S hx => ?_, fun id id' v b S v' S' hx hx' => ?_, hR2.C, fun b s hx => hR2.D b s (by rw [hE.D]; exact hx), fun id v b S hx => ?_⟩, ⟨hle, rfl, fun id v b S v' b' S' h1 h2 => ?_, fun id v b S h1 h2 => ?_, hCn, hE.size, fun b hb hn => hframe b hb (fun id v S _ => hn id v S)⟩, hle2⟩
  · simp only [Gh.mix] at hx
    split at hx
    · rename_i h; have := h.2; simp at this ⊢; omega
    · exact hR.dom _ _ _ _ hx
  · simp only [Gh.mix] at hx
    split at hx
    · obtain ⟨o, cs, cr, t, k1, k2, k3, k4, k5, k6⟩ := hR2.obj _ _ _ _ hx
      exact ⟨o, cs, cr, t, app_get k1, k2, k3, k4, k5, k6.mono hle2⟩
    · rename_i hn
      rcases Nat.lt_or_ge id Hj.length with hl | hl
      · obtain ⟨o, cs, cr, t, k1, k2, k3, k4, k5, k6⟩ := hR2.obj _ _ _ _ (hsame _ _ _ _ hl hx)
        exact ⟨o, cs, cr, t, app_get k1, k2, k3, k4, k5, k6.mono hle2⟩
      · obtain ⟨o, cs, cr, t, k1, k2, k3, k4, k5, k6⟩ := hR.obj _ _ _ _ hx
        refine ⟨o, cs, cr, t, k1, k2, k3, ?_, k5, k6.mono hle⟩
        rw [hframe b (blk_lt' k4) (fun id' v' S' hl' hx' => by have := hR.inj _ _ _ _ _ _ _ hx' hx; omega)]
        exact k4
  · simp only [Gh.mix] at hx hx'
    split at hx <;> split at hx'
    · exact hR2.inj _ _ _ _ _ _ _ hx hx'
    · rename_i h1 h2; have := hnewb _ _ _ _ h1.1 hx; have := holdb _ _ _ _ hx'; omega
    · rename_i h1 h2; have := hnewb _ _ _ _ h2.1 hx'; have := holdb _ _ _ _ hx; omega
    · exact hR.inj _ _ _ _ _ _ _ hx hx'
  · simp only [Gh.mix] at hx
    split at hx
    · refine ⟨(hR2.ap _ _ _ _ hx).1, ?_⟩
      have := (hR2.ap _ _ _ _ hx).2
      rw [hE.D] at this; exact this
    · refine ⟨?_, (hR.ap _ _ _ _ hx).2⟩
      show G2.C b = none
      cases hq : G2.C b with
      | none => rfl
      | some s =>
        rcases hCn _ _ hq with h | h
        · rw [(hR.ap _ _ _ _ hx).1] at h; cases h
        · have := holdb _ _ _ _ hx; omega
  · simp only [Gh.mix] at h2
    rw [if_neg (hout _ _ h1), h1] at h2
    cases h2; exact .inl rfl
  · simp only [Gh.mix] at h1
    split at h1
    · rename_i h; exact ⟨by omega, hnewb _ _ _ _ h.1 h1⟩
    · rw [h2] at h1; cases h1

theorem VR.plain {G1 : Gh} {v : AV} {c : Value} (h : VR W0 G 0 v c) (hp : (∃ k n, v = .int k n) ∨ ∃ b, v = .bool b) : VR W0 G1 0 v c := by
  rcases hp with ⟨k, n, rfl⟩ | ⟨b, rfl⟩
  · cases h; exact .int _ _
  · cases h; exact .bool _

theorem mks_plain {op : Op1} {esz bytes : Nat} {z : List AV} {l c : Opd} {fr : List AV} {H H' : Heap} {v : AV} (hi : op.ins = .mks esz bytes z l c) (hw : wantedA op.guard fr = some true) (h : insA R op.ins fr H = some (v, H')) :
    ∀ t, t ∈ readsO op → (∃ k n, fr.getD t .undef = .int k n) ∨ ∃ b, fr.getD t .undef = .bool b := by
  intro t ht
  rw [hi] at h
  simp only [readsO, hi, readsI, List.mem_append] at ht
  rcases ht with (ht | ht) | ht
  · cases l with
    | c v => simp [opdT] at ht
    | t i =>
      simp only [opdT, List.mem_singleton] at ht
      subst ht
      simp only [insA, Opd.ev] at h
      split at h
      · rename_i h1 _; exact .inl ⟨_, _, h1⟩
      · cases h
  · cases c with
    | c v => simp [opdT] at ht
    | t i =>
      simp only [opdT, List.mem_singleton] at ht
      subst ht
      simp only [insA, Opd.ev] at h
      split at h
      · rename_i h1; exact .inl ⟨_, _, h1⟩
      · cases h
  · cases hg : op.guard with
    | none => rw [hg] at ht; simp [gT] at ht
    | some p =>
      obtain ⟨t', b⟩ := p
      rw [hg] at ht hw
      simp only [gT, List.mem_singleton] at ht
      subst ht
      simp only [wantedA] at hw
      split at hw
      · rename_i h1; exact .inr ⟨_, h1⟩
      · cases hw
      · cases hw

theorem store_other {H H' : Heap} {n id ver off : Nat} {v : AV} (h : storeA H n (.ptr id ver off) v = some H') : H'.length = H.length ∧ ∀ i, i ≠ id → H'[i]? = H[i]? := by
  simp only [storeA] at h
  split at h
  · split at h
    · cases h
      exact ⟨by simp, fun i hi => by rw [List.getElem?_set_ne (Ne.symm hi)]⟩
    · cases h
  · cases h

/-- What a slice is made of is not touched by stores into other objects. -/
theorem Reg.kept (g : Reg P W0 R md ops fr0 H0 G0 w0 F Hp V) {j : Nat} (hjs : j < ops.size) (hmk : ∃ x esz bytes z l c, ops[j]? = some x ∧ (comp1 P md ops x).ins = .mks esz bytes z l c)
    (hmono : ∀ i k, i ≤ k → k ≤ ops.size → (Hp i).length ≤ (Hp k).length) {d : Nat} (hd : j + 1 + d ≤ ops.size) (hk : ∀ k, j + 1 ≤ k → k < j + 1 + d → kindOf P md ops k ≤ 1 ∨ ApB P md ops j k) :
    ∀ id, (Hp j).length ≤ id → id < (Hp (j + 1)).length → (Hp (j + 1 + d))[id]? = (Hp (j + 1))[id]? := by
  induction d with
  | zero => intro id _ _; rfl
  | succ d ih =>
    intro id h1 h2
    have ih := ih (by omega) (fun k a b => hk k a (by omega)) id h1 h2
    have hlen := hmono (j + 1) (j + 1 + d) (by omega) (by omega)
    rw [show j + 1 + (d + 1) = j + 1 + d + 1 by omega, ← ih]
    rcases hk (j + 1 + d) (by omega) (by omega) with h | ⟨_, y, n, t, v, hy, hi, m, o, z, hm, hmo, hmd, hmi⟩
    · obtain ⟨l, hl⟩ := g.heapLe (k := j + 1 + d) (by omega) h
      rw [hl, List.getElem?_append_left (by omega)]
    · rcases (g.st _ _ hy).2.2 with ⟨_, hs⟩ | ⟨_, _, hs⟩
      · rw [hi] at hs
        simp only [insA, Opd.ev, Option.map_eq_some_iff, Prod.mk.injEq] at hs
        obtain ⟨H2, hs, _, rfl⟩ := hs
        have htl : t < fr0.length := by
          rcases Nat.lt_or_ge t fr0.length with hl | hl
          · exact hl
          · rw [List.getD_eq_getElem?_getD, List.getElem?_eq_none (by rw [g.len _ (by omega)]; exact hl)] at hs
            simp [storeA] at hs
        have hmdst : dstOf ops m = some t := by simp [dstOf, hmo, hmd]
        rcases g.get t htl (j + 1 + d) (by omega) with ⟨q, q1, q2, q3⟩ | ⟨q1, _⟩
        · have hqm : q = m := by
            refine Classical.byContradiction fun hne => ?_
            have hq : ops[q]? = some ops[q] := by simp [show q < ops.size by omega]
            have hqd : ops[q].dst = some t := by simpa [dstOf, hq] using q2
            exact g.ne m q o _ t hmo hq (fun e => hne e.symm) hmd hqd
          subst hqm
          rw [q3] at hs
          have hqs : q < ops.size := by omega
          rcases (g.st q _ hmo).2.2 with ⟨_, ha⟩ | ⟨_, ha, _⟩
          · rw [hmi] at ha
            simp only [insA, Option.some.injEq, Prod.mk.injEq] at ha
            rw [← ha.1] at hs
            refine (store_other hs).2 id ?_
            have hne : q ≠ j := by
              rintro rfl
              obtain ⟨x, _, _, _, _, _, hx, hxi⟩ := hmk
              rw [hmo] at hx; cases hx
              rw [hmi] at hxi; cases hxi
            rintro rfl
            rcases Nat.lt_or_ge q j with hl | hl
            · have e1 := hmono (q + 1) j (by omega) (by omega)
              rw [← ha.2] at e1
              simp at e1
              omega
            · have e1 := hmono (j + 1) q (by omega) (by omega)
              omega
          · rw [ha] at hs; simp [storeA] at hs
        · exact absurd hmdst (q1 m (by omega))
      · rw [hs]

theorem load_kept {H H2 : Heap} {n : Option Nat} {p v : AV} (h : loadA H n p = some v) (hk : ∀ id ver off, p = .ptr id ver off → ∀ o, H[id]? = some o → H2[id]? = some o) : loadA H2 n p = some v := by
  have hc : ∀ k cs, cellsAt H p k = some cs → cellsAt H2 p k = some cs := by
    intro k cs hcs
    unfold cellsAt at hcs ⊢
    split at hcs
    · rename_i id ver off
      cases ho : H[id]? with
      | none => simp [ho] at hcs
      | some o => rw [ho] at hcs; rw [hk _ _ _ rfl _ ho]; exact hcs
    · exact hcs
    · cases hcs
  cases n with
  | none =>
    simp only [loadA] at h ⊢
    cases hcs : cellsAt H p 1 with
    | none => simp [hcs] at h
    | some cs => rw [hcs] at h; rw [hc _ _ hcs]; exact h
  | some n =>
    simp only [loadA] at h ⊢
    cases hcs : cellsAt H p n with
    | none => simp [hcs] at h
    | some cs => rw [hcs] at h; rw [hc _ _ hcs]; exact h

/-- An object is not touched by stores into other ones. -/
theorem Reg.kept2 (g : Reg P W0 R md ops fr0 H0 G0 w0 F Hp V) {j id : Nat} {d : Nat} (hd : j + d ≤ ops.size)
    (hk : ∀ k, j ≤ k → k < j + d → kindOf P md ops k ≤ 1 ∨ ∃ y m q v, ops[k]? = some y ∧ (comp1 P md ops y).ins = .store m (.t q) v ∧ ∀ id' ver off, (F k).getD q .undef = .ptr id' ver off → id ≠ id') :
    ∀ o, (Hp j)[id]? = some o → (Hp (j + d))[id]? = some o := by
  induction d with
  | zero => intro o h; exact h
  | succ d ih =>
    intro o h
    have ih := ih (by omega) (fun k a b => hk k a (by omega)) o h
    rw [show j + (d + 1) = j + d + 1 by omega]
    rcases hk (j + d) (by omega) (by omega) with h | ⟨y, m, q, v, hy, hi, hne⟩
    · obtain ⟨l, hl⟩ := g.heapLe (k := j + d) (by omega) h
      rw [hl]; exact app_get ih
    · rcases (g.st _ _ hy).2.2 with ⟨_, hs⟩ | ⟨_, _, hs⟩
      · rw [hi] at hs
        simp only [insA, Opd.ev, Option.map_eq_some_iff, Prod.mk.injEq] at hs
        obtain ⟨H2, hs, _, rfl⟩ := hs
        cases hp : (F (j + d)).getD q .undef with
        | ptr id' ver off =>
          rw [hp] at hs
          rw [(store_other hs).2 id (hne _ _ _ hp)]; exact ih
        | _ => rw [hp] at hs; simp [storeA] at hs
      · rw [hs]; exact ih

/-- The same for an operation that looks at no object. -/
theorem Rel.mix0 {G G2 : Gh} {Hj Hj1 He H0 : Heap} {w w' : World} (hR : Rel W0 G He w) (hle1 : Hj1.length ≤ He.length) (hle0 : Hj.length ≤ Hj1.length) (hkeep : ∀ id, Hj.length ≤ id → id < Hj1.length → He[id]? = Hj1[id]?) (h0 : H0.length ≤ Hj.length)
    (hout : ∀ id x, G.ob id = some x → ¬ (Hj.length ≤ id ∧ id < Hj1.length))
    (hR2 : Rel W0 G2 Hj1 w') (hE : Ext (G.on fun _ => False) Hj w G2 w') :
    Rel W0 (G.mix G2 Hj.length Hj1.length) He w' ∧ Ext G H0 w (G.mix G2 Hj.length Hj1.length) w' ∧ Le 0 G2 (G.mix G2 Hj.length Hj1.length) := by
  have hnone : ∀ id, (G.on fun _ => False).ob id = none := fun id => by simp [Gh.on]
  have hnew : ∀ id v b S, G2.ob id = some (v, b, S) → (Hj.length ≤ id ∧ id < Hj1.length) ∧ w.heap.size ≤ b := fun id v b S hx =>
    ⟨⟨(hE.new _ _ _ _ hx (hnone _)).1, hR2.dom _ _ _ _ hx⟩, (hE.new _ _ _ _ hx (hnone _)).2⟩
  have holdb : ∀ id v b S, G.ob id = some (v, b, S) → b < w.heap.size := fun id v b S hx => by
    obtain ⟨_, _, _, _, _, _, _, h4, _⟩ := hR.obj _ _ _ _ hx
    exact blk_lt' h4
  have hle2 : Le 0 G2 (G.mix G2 Hj.length Hj1.length) := by
    refine ⟨fun _ id v b S hx => ⟨v, b, S, ?_, Nat.le_refl _, fun _ => ⟨rfl, rfl⟩⟩, fun _ b s hx => ?_, fun _ _ h => h⟩
    · simp only [Gh.mix]
      rw [if_pos (hnew _ _ _ _ hx).1]; exact hx
    · rw [hE.D] at hx; exact hx
  have hle : Le 0 G (G.mix G2 Hj.length Hj1.length) := by
    refine ⟨fun _ id v b S hx => ⟨v, b, S, ?_, Nat.le_refl _, fun _ => ⟨rfl, rfl⟩⟩, fun _ _ _ h => h, fun b s h => hE.le.C _ _ h⟩
    simp only [Gh.mix]
    rw [if_neg (hout _ _ hx)]; exact hx
  have hCn : ∀ b s, G2.C b = some s → G.C b = some s ∨ w.heap.size ≤ b := fun b s h => hE.Cn _ _ h
  have hframe : ∀ b, b < w.heap.size → w'.heap[b]? = w.heap[b]? := fun b hb =>
    hE.frame b hb (fun id v S hx => by rw [hnone] at hx; cases hx)
  refine ⟨⟨hR2.below, fun id v b S hx => ?_, fun id v b S hx => ?_, fun id id' v b S v' S' hx hx' => ?_, hR2.C, fun b s hx => hR2.D b s (by rw [hE.D]; exact hx), fun id v b S hx => ?_⟩, ⟨hle, rfl, fun id v b S v' b' S' h1 h2 => ?_, fun id v b S h1 h2 => ?_, hCn, hE.size, fun b hb _ => hframe b hb⟩, hle2⟩
  · simp only [Gh.mix] at hx
    split at hx
    · rename_i h; omega
    · exact hR.dom _ _ _ _ hx
  · simp only [Gh.mix] at hx
    split at hx
    · rename_i h
      obtain ⟨o, cs, cr, t, k1, k2, k3, k4, k5, k6⟩ := hR2.obj _ _ _ _ hx
      exact ⟨o, cs, cr, t, by rw [hkeep _ h.1 h.2]; exact k1, k2, k3, k4, k5, k6.mono hle2⟩
    · obtain ⟨o, cs, cr, t, k1, k2, k3, k4, k5, k6⟩ := hR.obj _ _ _ _ hx
      exact ⟨o, cs, cr, t, k1, k2, k3, by rw [hframe b (blk_lt' k4)]; exact k4, k5, k6.mono hle⟩
  · simp only [Gh.mix] at hx hx'
    split at hx <;> split at hx'
    · exact hR2.inj _ _ _ _ _ _ _ hx hx'
    · have := (hnew _ _ _ _ hx).2; have := holdb _ _ _ _ hx'; omega
    · have := (hnew _ _ _ _ hx').2; have := holdb _ _ _ _ hx; omega
    · exact hR.inj _ _ _ _ _ _ _ hx hx'
  · simp only [Gh.mix] at hx
    split at hx
    · refine ⟨(hR2.ap _ _ _ _ hx).1, ?_⟩
      have := (hR2.ap _ _ _ _ hx).2
      rw [hE.D] at this; exact this
    · refine ⟨?_, (hR.ap _ _ _ _ hx).2⟩
      show G2.C b = none
      cases hq : G2.C b with
      | none => rfl
      | some s =>
        rcases hCn _ _ hq with h | h
        · rw [(hR.ap _ _ _ _ hx).1] at h; cases h
        · have := holdb _ _ _ _ hx; omega
  · simp only [Gh.mix] at h2
    rw [if_neg (hout _ _ h1), h1] at h2
    cases h2; exact .inl rfl
  · simp only [Gh.mix] at h1
    split at h1
    · rename_i h; exact ⟨by omega, (hnew _ _ _ _ h1).2⟩
    · rw [h2] at h1; cases h1

/-- One more operation, whichever is ready. -/
theorem Reg.step (g : Reg P W0 R md ops fr0 H0 G0 w0 F Hp V) {L : Nat → Prop} (hcl : Cl ops L) {j : Nat} {o : Oper} (ho : ops[j]? = some o) (hj : ¬ L j) (hr : ∀ i, dirA ops j i → L i) {a : Act} {w : World} {G : Gh} {e : Nat}
    (hI : Inv P W0 md ops fr0 H0 G0 w0 Hp V L a w G e) {K : Act → World → Prop} {Q : Exit → Act → World → Prop}
    (hK : ∀ c G' w' e', Inv P W0 md ops fr0 H0 G0 w0 Hp V (addL L j) (a.put o.dst c) w' G' e' → K (a.put o.dst c) w') : wpOp P ops Q j K a w := by
  have hjs := lt_of_get ho
  have hkj : kindOf P md ops j = memK (comp1 P md ops o).ins := by simp [kindOf, ho]
  have htr := (g.st j o ho).2.2
  have hmask := step_mask htr
  rw [comp1_dst] at hmask
  have hml : (maskF (F j) (readsO (comp1 P md ops o))).length = fr0.length := by simp [maskF, g.len j (by omega)]
  have hlook : ∀ t, t < fr0.length → t ∈ readsO (comp1 P md ops o) → cur ops fr0 V L t = (F j).getD t .undef := fun t ht => g.looks hcl ho hj hr ht
  -- the frame, masked, in a world that knows what it needs
  have hFR : ∀ G1, (∀ t, t < fr0.length → t ∈ readsO (comp1 P md ops o) → VR W0 G1 0 ((F j).getD t .undef) (a.tmps.getD t Go.undef)) → FR W0 G1 (maskF (F j) (readsO (comp1 P md ops o))) a.tmps := by
    intro G1 h
    refine ⟨by rw [hml]; exact hI.size, fun t ht => ?_⟩
    rw [hml] at ht
    by_cases hm : t ∈ readsO (comp1 P md ops o)
    · rw [maskF_get hm]; exact h t ht hm
    · rw [maskF_not hm]; exact .undef _
  -- of two operations that touch memory, one of which may write, one lies before the other
  have hcomp : ∀ k, k < ops.size → k ≠ j → kindOf P md ops k = 2 → 1 ≤ kindOf P md ops j → (k < j → L k) ∧ (j < k → L k → ApB P md ops j k ∨ ApC P md ops F j k) := by
    intro k hks hne hk2 hj1
    have hk : ops[k]? = some ops[k] := by simp [hks]
    have hkk : kindOf P md ops k = memK (comp1 P md ops ops[k]).ins := by simp [kindOf, hk]
    rw [hkk] at hk2
    rw [hkj] at hj1
    refine ⟨fun hlt => ?_, fun hlt hLk => ?_⟩
    · rcases g.ord k j _ _ hlt hk ho with ht | ⟨_, hap | ⟨⟨x, _, _, _, _, _, hx, hi⟩, _⟩ | ⟨x, _, _, _, _, _, _, hx, hi, _⟩⟩
      · exact hcl.tr' ht hr
      · rw [hk2] at hap; omega
      · rw [hk] at hx; cases hx
        rw [hi] at hk2; simp [memK] at hk2
      · rw [hk] at hx; cases hx
        rw [hi] at hk2; simp [memK] at hk2
    · rcases g.ord j k _ _ hlt ho hk with ht | ⟨_, hap | hap⟩
      · exact absurd (hcl.tr ht hLk) hj
      · rw [hk2] at hap; omega
      · exact hap
  have hnoB : kindOf P md ops j = 2 → ∀ k, ¬ (ApB P md ops j k ∨ ApC P md ops F j k) := by
    rintro h2 k (⟨⟨x, _, _, _, _, _, hx, hi⟩, _⟩ | ⟨x, _, _, _, _, _, _, hx, hi, _⟩)
    all_goals
      rw [ho] at hx; cases hx
      rw [hkj, hi] at h2; simp [memK] at h2
  have hHle : ∀ k, k < ops.size → (Hp k).length ≤ (Hp (k + 1)).length := by
    intro k hk
    obtain ⟨G1, w1, a1, t1, t2, t3, t4⟩ := g.tw k (by omega)
    have hok : ops[k]? = some ops[k] := by simp [hk]
    have := step_sound (Q := fun _ _ _ => False) g.RS hok (K := fun a' w' => (Hp k).length ≤ (Hp (k + 1)).length) t1 t2 (g.st k _ hok).1 (fun v c G' w' _ _ _ _ q5 => q5.len)
    obtain ⟨_, _, h⟩ := wpOp_exists this
    exact h
  have hHmono : ∀ i k, i ≤ k → k ≤ ops.size → (Hp i).length ≤ (Hp k).length := by
    intro i k hik
    induction hik with
    | refl => intro _; exact Nat.le_refl _
    | step h ih => intro hk; exact Nat.le_trans (ih (by omega)) (hHle _ (by omega))
  have hH0 : ∀ k, k ≤ ops.size → H0.length ≤ (Hp k).length := fun k hk => by rw [← g.h0]; exact hHmono 0 k (by omega) hk
  have hdo : (comp1 P md ops o).dst = o.dst := comp1_dst _ _ _
  have hjlt : kindOf P md ops j = 1 → j < e := by
    intro hk1
    rcases Nat.lt_trichotomy j e with h | h | h
    · exact h
    · subst h; have := (hI.now hjs).1; omega
    · have hes : e < ops.size := by omega
      obtain ⟨n1, n2⟩ := hI.now hes
      exact absurd ((hcomp e hes (by omega) n1 (by omega)).1 h) n2
  by_cases hsil : kindOf P md ops j ≠ 2 ∧ (kindOf P md ops j = 0 ∨ (wantedA (comp1 P md ops o).guard (F j) = some false) ∨ ∃ k, ApC P md ops F j k)
  · -- nothing but the frame
    obtain ⟨hk2, hsil⟩ := hsil
    have hsame : Hp (j + 1) = Hp j ∧ stepA R (comp1 P md ops o) (maskF (F j) (readsO (comp1 P md ops o))) (Hp e) = some (putA (maskF (F j) (readsO (comp1 P md ops o))) o.dst (V j), Hp e) := by
      rcases htr with ⟨h1, h2⟩ | ⟨h1, h2, h3⟩
      · rcases hsil with h0 | h0 | ⟨_, x, _, n, t, _, _, _, hx, hi, _⟩
        · rw [hkj] at h0
          obtain ⟨s1, s2⟩ := ins_silent h0 h2
          exact ⟨s1, by have := step_mask (.inl ⟨h1, s2 (Hp e)⟩); rwa [hdo] at this⟩
        · rw [h1] at h0; cases h0
        · rw [ho] at hx; cases hx
          have hkind1 : kindOf P md ops j = 1 := by rw [hkj, hi]; rfl
          have hje := hjlt hkind1
          have h2' := h2
          rw [hi] at h2'
          simp only [insA, Opd.ev] at h2'
          obtain ⟨s1, s2⟩ := map_pair h2'
          refine ⟨s2, ?_⟩
          have hld : loadA (Hp e) n ((F j).getD t .undef) = some (V j) := by
            refine load_kept s1 fun id ver off hp => ?_
            have hkept := g.kept2 (id := id) (j := j) (d := e - j) (by have := hI.le; omega) (fun k h1' h2' => by
              have := kind_le (P := P) (md := md) (ops := ops) k
              by_cases h3 : kindOf P md ops k = 2
              · right
                have hne : k ≠ j := by rintro rfl; omega
                rcases (hcomp k (by have := hI.le; omega) hne h3 (by omega)).2 (by omega) (hI.wr k (by omega) h3) with hb | hc
                · exfalso
                  obtain ⟨⟨x, _, _, _, _, _, hx, hi'⟩, _⟩ := hb
                  rw [ho] at hx; cases hx
                  rw [hi] at hi'; cases hi'
                · obtain ⟨x, y, n', t', m, q, v, hx, hi', hy, hiy, hap⟩ := hc
                  rw [ho] at hx; cases hx
                  rw [hi] at hi'; cases hi'
                  refine ⟨y, m, q, v, hy, hiy, fun id' ver' off' hq e' => ?_⟩
                  rw [hp, hq, e'] at hap
                  simp [apartV] at hap
              · exact .inl (by omega))
            rw [show j + (e - j) = e by omega] at hkept
            exact hkept
          have := step_mask (R := R) (o := comp1 P md ops o) (fr := F j) (H := Hp e) (H' := Hp e) (v := V j) (.inl ⟨h1, by rw [hi]; simp only [insA, Opd.ev, hld, Option.map_some]⟩)
          rwa [hdo] at this
      · exact ⟨h3, by have := step_mask (R := R) (H := Hp e) (.inr ⟨h1, h2, rfl⟩); rwa [hdo] at this⟩
    refine step_sound g.RS ho (hFR G (fun t ht hm => by rw [← hlook t ht hm]; exact hI.fr t ht)) hI.rel hsame.2 (fun v c G' w' q1 q2 q3 q4 q5 => ?_)
    obtain ⟨f1, f2⟩ := g.fr_step ho hj hI.size hI.fr q4.le hml q1 q2
    have hdom : ∀ id, (∃ x, G'.ob id = some x) ↔ (∃ x, G.ob id = some x) := by
      intro id
      constructor
      · rintro ⟨⟨v', b', S'⟩, hx⟩
        cases hq : G.ob id with
        | none => have := (q4.new _ _ _ _ hx hq).1; have := q3.dom _ _ _ _ hx; omega
        | some x => exact ⟨x, rfl⟩
      · rintro ⟨⟨v', b', S'⟩, hx⟩
        obtain ⟨_, _, _, h, _⟩ := q4.le.ob rfl _ _ _ _ hx
        exact ⟨_, h⟩
    refine hK c G' w' e ⟨hI.le, fun k h1 h2 => .inl (hI.wr k h1 h2), fun h => ⟨(hI.now h).1, ?_⟩, f1, f2, q3, fun id => ?_, hI.ext.trans (Nat.le_refl _) (q4.low (hH0 e hI.le)), by rw [put_defers]; exact hI.dfr⟩
    · rintro (h' | rfl)
      · exact (hI.now h).2 h'
      · exact hk2 (hI.now h).1
    · rw [hdom, hI.dom]
      constructor
      · rintro (h | ⟨k, h1, h2, h3⟩)
        · exact .inl h
        · exact .inr ⟨k, h1, .inl h2, h3⟩
      · rintro (h | ⟨k, h1, h2 | rfl, h3, h4⟩)
        · exact .inl h
        · exact .inr ⟨k, h1, h2, h3, h4⟩
        · rw [hsame.1] at h4; omega
  · by_cases hwr : kindOf P md ops j = 2
    · -- it may write: nothing beside it
      have hje : j = e := by
        rcases Nat.lt_trichotomy j e with h | h | h
        · exact absurd (hI.wr j h hwr) hj
        · exact h
        · have hes : e < ops.size := by omega
          obtain ⟨n1, n2⟩ := hI.now hes
          exact absurd ((hcomp e hes (by omega) n1 (by omega)).1 h) n2
      subst hje
      obtain ⟨e', e1, e2, e3, e4⟩ := next_wr P md ops (j + 1) (by omega)
      obtain ⟨l, hl⟩ := g.pre' e1 e2 e3
      refine step_sound g.RS ho (hFR G (fun t ht hm => by rw [← hlook t ht hm]; exact hI.fr t ht)) hI.rel hmask (fun v c G' w' q1 q2 q3 q4 q5 => ?_)
      obtain ⟨f1, f2⟩ := g.fr_step ho hj hI.size hI.fr q4.le hml q1 q2
      have hrel : Rel W0 G' (Hp e') w' := by
        rw [hl]
        exact { q3 with dom := fun id v b S hx => by have := q3.dom _ _ _ _ hx; simp; omega, obj := fun id v b S hx => by obtain ⟨o, cs, cr, t, k1, k⟩ := q3.obj _ _ _ _ hx; exact ⟨o, cs, cr, t, app_get k1, k⟩ }
      refine hK c G' w' e' ⟨e2, fun k h1 h2 => ?_, fun h => ⟨e4 h, ?_⟩, f1, f2, hrel, fun id => ?_, hI.ext.trans (Nat.le_refl _) (q4.low (hH0 j (by omega))), by rw [put_defers]; exact hI.dfr⟩
      · rcases Nat.lt_trichotomy k j with h | h | h
        · exact .inl (hI.wr k h h2)
        · exact .inr h
        · have := e3 k (by omega) h1; omega
      · rintro (h' | h')
        · exact hnoB hwr _ ((hcomp e' h (by omega) (e4 h) (by omega)).2 (by omega) h')
        · omega
      · constructor
        · rintro ⟨⟨v', b', S'⟩, hx⟩
          cases hq : G.ob id with
          | none => exact .inr ⟨j, hjs, .inr rfl, (q4.new _ _ _ _ hx hq).1, q3.dom _ _ _ _ hx⟩
          | some x =>
            rcases (hI.dom id).1 ⟨x, hq⟩ with h | ⟨k, h1, h2, h3⟩
            · exact .inl h
            · exact .inr ⟨k, h1, .inl h2, h3⟩
        · intro h
          have : (∃ x, G.ob id = some x) ∨ ((Hp j).length ≤ id ∧ id < (Hp (j + 1)).length) := by
            rcases h with h | ⟨k, h1, h2 | rfl, h3⟩
            · exact .inl ((hI.dom id).2 (.inl h))
            · exact .inl ((hI.dom id).2 (.inr ⟨k, h1, h2, h3⟩))
            · exact .inr h3
          rcases this with ⟨⟨v', b', S'⟩, hx⟩ | ⟨h1, h2⟩
          · obtain ⟨_, _, _, h, _⟩ := q4.le.ob rfl _ _ _ _ hx
            exact ⟨_, h⟩
          · exact q5.tot id h1 h2
    · -- it makes new objects at the most
      have hk1 : kindOf P md ops j = 1 := by
        have := kind_le (P := P) (md := md) (ops := ops) j
        have : kindOf P md ops j ≠ 0 := fun h => hsil ⟨hwr, .inl h⟩
        omega
      have hje : j < e := by
        rcases Nat.lt_trichotomy j e with h | h | h
        · exact h
        · subst h; exact absurd (hI.now hjs).1 hwr
        · have hes : e < ops.size := by omega
          obtain ⟨n1, n2⟩ := hI.now hes
          exact absurd ((hcomp e hes (by omega) n1 (by omega)).1 h) n2
      by_cases hBex : ∃ k, ApB P md ops j k
      · obtain ⟨_, ⟨x, esz, bytes, z, l, c, hx, hi⟩, _⟩ := hBex
        rw [ho] at hx; cases hx
        have hwant : wantedA (comp1 P md ops o).guard (F j) = some true ∧ insA R (comp1 P md ops o).ins (F j) (Hp j) = some (V j, Hp (j + 1)) := by
          rcases htr with h | ⟨h, _⟩
          · exact h
          · exact absurd (.inr (.inl h)) (fun h' => hsil ⟨hwr, h'⟩)
        have hplain := mks_plain hi hwant.1 hwant.2
        have hj1 := hHle j hjs
        have hkeep := g.kept hjs ⟨o, esz, bytes, z, l, c, ho, hi⟩ hHmono (d := e - (j + 1)) (by have := hI.le; omega) (fun k h1 h2 => by
          have := kind_le (P := P) (md := md) (ops := ops) k
          by_cases h3 : kindOf P md ops k = 2
          · rcases (hcomp k (by have := hI.le; omega) (by omega) h3 (by omega)).2 (by omega) (hI.wr k (by omega) h3) with hb | hc
            · exact .inr hb
            · exact absurd (.inr (.inr ⟨k, hc⟩)) (fun h' => hsil ⟨hwr, h'⟩)
          · exact .inl (by omega))
        rw [show j + 1 + (e - (j + 1)) = e by omega] at hkeep
        have hout : ∀ id x, G.ob id = some x → ¬ ((Hp j).length ≤ id ∧ id < (Hp (j + 1)).length) := by
          rintro id x hx ⟨l1, l2⟩
          rcases (hI.dom id).1 ⟨x, hx⟩ with ⟨h, _⟩ | ⟨k, h1, h2, h3, h4⟩
          · have := hH0 j (by omega); omega
          · rcases Nat.lt_trichotomy k j with h | h | h
            · have := hHmono (k + 1) j (by omega) (by omega); omega
            · subst h; exact hj h2
            · have := hHmono (j + 1) k (by omega) (by omega); omega
        have hrel1 : Rel W0 (G.on fun _ => False) (Hp j) w := by
          have hon : ∀ id x, (G.on fun _ => False).ob id = some x → False := fun id x h => by simp [Gh.on] at h
          exact ⟨hI.rel.below, fun id v b S hx => (hon _ _ hx).elim, fun id v b S hx => (hon _ _ hx).elim, fun id id' v b S v' S' hx _ => (hon _ _ hx).elim, hI.rel.C, hI.rel.D, fun id v b S hx => (hon _ _ hx).elim⟩
        refine step_sound g.RS ho (hFR _ (fun t ht hm => VR.plain (by rw [← hlook t ht hm]; exact hI.fr t ht) (hplain t hm))) hrel1 hmask (fun v c G' w' q1 q2 q3 q4 q5 => ?_)
        obtain ⟨m1, m2, m3⟩ := hI.rel.mix0 (H0 := H0) (hHmono (j + 1) e (by omega) hI.le) hj1 hkeep (hH0 j (by omega)) hout q3 q4
        obtain ⟨f1, f2⟩ := g.fr_step ho hj hI.size hI.fr m2.le hml q1 (q2.mono m3)
        refine hK c _ w' e ⟨hI.le, fun k h1 h2 => .inl (hI.wr k h1 h2), fun h => ⟨(hI.now h).1, ?_⟩, f1, f2, m1, fun id => ?_, hI.ext.trans (Nat.le_refl _) m2, by rw [put_defers]; exact hI.dfr⟩
        · rintro (h' | rfl)
          · exact (hI.now h).2 h'
          · exact hwr (hI.now h).1
        · simp only [Gh.mix]
          by_cases hin : (Hp j).length ≤ id ∧ id < (Hp (j + 1)).length
          · rw [if_pos hin]
            exact ⟨fun _ => .inr ⟨j, hjs, .inr rfl, hin⟩, fun _ => q5.tot id hin.1 hin.2⟩
          · rw [if_neg hin, hI.dom]
            constructor
            · rintro (h | ⟨k, h1, h2, h3⟩)
              · exact .inl h
              · exact .inr ⟨k, h1, .inl h2, h3⟩
            · rintro (h | ⟨k, h1, h2 | rfl, h3⟩)
              · exact .inl h
              · exact .inr ⟨k, h1, h2, h3⟩
              · exact absurd h3 hin
      have hB : ∀ k, ¬ (ApB P md ops j k ∨ ApC P md ops F j k) := by
        rintro k (h | h)
        · exact hBex ⟨k, h⟩
        · exact hsil ⟨hwr, .inr (.inr ⟨k, h⟩)⟩
      have hno : ∀ k, j ≤ k → k < e → kindOf P md ops k ≤ 1 := by
        intro k h1 h2
        have := kind_le (P := P) (md := md) (ops := ops) k
        rcases Nat.lt_or_ge j k with h | h
        · by_cases h3 : kindOf P md ops k = 2
          · exact absurd ((hcomp k (by have := hI.le; omega) (by omega) h3 (by omega)).2 h (hI.wr k h2 h3)) (hB k)
          · omega
        · obtain rfl : k = j := by omega
          omega
      have hpre := g.pre' (i := j + 1) (j := e) (by omega) hI.le (fun k h1 h2 => hno k (by omega) h2)
      have hpre1 := g.heapLe hjs (by omega)
      obtain ⟨d1, d2, d3⟩ := g.dom (k := j) (by omega)
      have hDlt : ∀ id, Dk H0 G0 Hp j id → id < (Hp j).length := by
        rintro id (⟨h1, _⟩ | ⟨_, h2⟩)
        · omega
        · exact h2
      have hGD : ∀ id, (∃ x, G.ob id = some x) → id < (Hp j).length → Dk H0 G0 Hp j id := by
        intro id hx hl
        rcases (hI.dom id).1 hx with h | ⟨k, h1, h2, h3, h4⟩
        · exact .inl h
        · exact .inr ⟨by have := hH0 k (by omega); omega, hl⟩
      have hout : ∀ id x, G.ob id = some x → ¬ ((Hp j).length ≤ id ∧ id < (Hp (j + 1)).length) := by
        rintro id x hx ⟨l1, l2⟩
        rcases (hI.dom id).1 ⟨x, hx⟩ with ⟨h, _⟩ | ⟨k, h1, h2, h3, h4⟩
        · omega
        · rcases Nat.lt_trichotomy k j with h | h | h
          · have := hHmono (k + 1) j (by omega) (by omega); omega
          · subst h; exact hj h2
          · have := hHmono (j + 1) k (by omega) (by omega); omega
      have hpreJ : ∃ l, Hp e = Hp j ++ l := by
        obtain ⟨l, hl⟩ := hpre; obtain ⟨l1, hl1⟩ := hpre1
        exact ⟨l1 ++ l, by rw [hl, hl1]; simp⟩
      have hrel1 : Rel W0 (G.on fun id => id < (Hp j).length) (Hp j) w := by
        have hon : ∀ id x, (G.on fun id => id < (Hp j).length).ob id = some x → id < (Hp j).length ∧ G.ob id = some x := fun id x h => by
          simp only [Gh.on] at h; split at h
          · exact ⟨by assumption, h⟩
          · cases h
        obtain ⟨l, hl⟩ := hpreJ
        refine ⟨hI.rel.below, fun id v b S hx => (hon _ _ hx).1, fun id v b S hx => ?_, fun id id' v b S v' S' hx hx' => hI.rel.inj _ _ _ _ _ _ _ (hon _ _ hx).2 (hon _ _ hx').2, hI.rel.C, hI.rel.D, fun id v b S hx => hI.rel.ap _ _ _ _ (hon _ _ hx).2⟩
        obtain ⟨hl1, hx1⟩ := hon _ _ hx
        obtain ⟨o', cs, cr, t, k1, k2, k3, k4, k5, k6⟩ := hI.rel.obj _ _ _ _ hx1
        rw [hl] at k1
        have k1' := get_app k1 hl1
        exact ⟨o', cs, cr, t, k1', k2, k3, k4, k5, ⟨k6.1, fun q hq => (k6.2 q hq).on ((d2 id (hGD id ⟨_, hx1⟩ hl1) o' k1' q hq).mono hDlt)⟩⟩
      refine step_sound g.RS ho (hFR _ (fun t ht hm => VR.on (by rw [← hlook t ht hm]; exact hI.fr t ht) ((d1 t ht).mono hDlt))) hrel1 hmask (fun v c G' w' q1 q2 q3 q4 q5 => ?_)
      obtain ⟨m1, m2, m3⟩ := hI.rel.mix (H0 := H0) hpre hpre1 d3 hout q3 q4 q5
      obtain ⟨f1, f2⟩ := g.fr_step ho hj hI.size hI.fr m2.le hml q1 (q2.mono m3)
      refine hK c _ w' e ⟨hI.le, fun k h1 h2 => .inl (hI.wr k h1 h2), fun h => ⟨(hI.now h).1, ?_⟩, f1, f2, m1, fun id => ?_, hI.ext.trans (Nat.le_refl _) m2, by rw [put_defers]; exact hI.dfr⟩
      · rintro (h' | rfl)
        · exact (hI.now h).2 h'
        · exact hwr (hI.now h).1
      · simp only [Gh.mix]
        by_cases hin : (Hp j).length ≤ id ∧ id < (Hp (j + 1)).length
        · rw [if_pos hin]
          exact ⟨fun _ => .inr ⟨j, hjs, .inr rfl, hin⟩, fun _ => q5.tot id hin.1 hin.2⟩
        · rw [if_neg hin, hI.dom]
          constructor
          · rintro (h | ⟨k, h1, h2, h3⟩)
            · exact .inl h
            · exact .inr ⟨k, h1, .inl h2, h3⟩
          · rintro (h | ⟨k, h1, h2 | rfl, h3⟩)
            · exact .inl h
            · exact .inr ⟨k, h1, h2, h3⟩
            · exact absurd h3 hin

/-- The whole of it. -/
theorem Reg.any (g : Reg P W0 R md ops fr0 H0 G0 w0 F Hp V) {Q : Exit → Act → World → Prop} (hQ : ∀ a w G, FR W0 G (F ops.size) a.tmps → Rel W0 G (Hp ops.size) w → Ext G0 H0 w0 G w → Gr G H0 (Hp ops.size) → a.defers = [] → Q .normal a w) :
    ∀ (fuel : Nat) (listed : Array Bool) (a : Act) (w : World) (G : Gh) (e : Nat), listed.size = ops.size → listed.toList.count false ≤ fuel → Cl ops (fun k => listed.getD k false = true) →
      Inv P W0 md ops fr0 H0 G0 w0 Hp V (fun k => listed.getD k false = true) a w G e → wpAny P .any ops Q fuel listed a w := by
  intro fuel
  have hdone : ∀ (listed : Array Bool) (a : Act) (w : World) (G : Gh) (e : Nat), listed.size = ops.size → Cl ops (fun k => listed.getD k false = true) → Inv P W0 md ops fr0 H0 G0 w0 Hp V (fun k => listed.getD k false = true) a w G e →
      Region.ready .any ops listed = [] → Q .normal a w := by
    intro listed a w G e hsz hcl hI hnil
    have hall : ∀ k, k < ops.size → listed.getD k false = true := by
      intro k
      induction k using Nat.strongRecOn with
      | _ k ih =>
        intro hk
        cases hb : listed.getD k false with
        | true => rfl
        | false =>
          exfalso
          have ho : ops[k]? = some ops[k] := by simp [hk]
          have : k ∈ Region.ready .any ops listed := by
            rw [mem_ready]
            refine ⟨?_, ops[k], ho, fun ed hed hbd => ih ed.on (g.back k _ ho ed hed hbd) (by have := g.back k _ ho ed hed hbd; omega)⟩
            have hk' : k < listed.size := by omega
            simpa [Array.getD_eq_getD_getElem?, hk'] using hb
          rw [hnil] at this; cases this
    have he : e = ops.size := by
      rcases Nat.lt_or_ge e ops.size with h | h
      · exact absurd (hall e h) (hI.now h).2
      · have := hI.le; omega
    subst he
    refine hQ a w G ⟨by rw [g.len _ (Nat.le_refl _)]; exact hI.size, fun t ht => ?_⟩ hI.rel hI.ext ⟨?_, fun id h1 h2 => ?_⟩ hI.dfr
    · rw [g.len _ (Nat.le_refl _)] at ht
      have := hI.fr t ht
      rcases g.get t ht ops.size (Nat.le_refl _) with ⟨k, h1, h2, h3⟩ | ⟨h1, h2⟩
      · rw [h3]; rwa [g.cur_of h1 (hall k h1) h2] at this
      · rw [h2]; rwa [cur_none (fun k hk _ => h1 k hk)] at this
    · exact (g.dom (Nat.le_refl _)).2.2
    · refine (hI.dom id).2 (.inr ?_)
      have hex : ∀ k, k ≤ ops.size → id < (Hp k).length → ∃ q, q < k ∧ (Hp q).length ≤ id ∧ id < (Hp (q + 1)).length := by
        intro k
        induction k with
        | zero => intro _ h; rw [g.h0] at h; omega
        | succ k ih =>
          intro hk h
          rcases Nat.lt_or_ge id (Hp k).length with hl | hl
          · obtain ⟨q, q1, q2⟩ := ih (by omega) hl
            exact ⟨q, by omega, q2⟩
          · exact ⟨k, by omega, hl, h⟩
      obtain ⟨q, q1, q2, q3⟩ := hex _ (Nat.le_refl _) h2
      exact ⟨q, q1, hall q q1, q2, q3⟩
  induction fuel with
  | zero =>
    intro listed a w G e hsz hcnt hcl hI
    have hnil : Region.ready .any ops listed = [] := by
      cases hr : Region.ready .any ops listed with
      | nil => rfl
      | cons j l =>
        exfalso
        have hj : j ∈ Region.ready .any ops listed := by rw [hr]; simp
        obtain ⟨h1, o, ho, _⟩ := mem_ready.1 hj
        have hjs := lt_of_get ho
        have hmem : false ∈ listed.toList := by
          have hk' : j < listed.size := by omega
          rw [Array.getD_eq_getD_getElem?] at h1
          simp only [Array.getElem?_eq_getElem hk', Option.getD_some] at h1
          rw [← h1]; simp
        have := List.count_pos_iff.2 hmem
        omega
    exact ⟨hnil, hdone listed a w G e hsz hcl hI hnil⟩
  | succ fuel ih =>
    intro listed a w G e hsz hcnt hcl hI
    refine ⟨hdone listed a w G e hsz hcl hI, fun j hj => ?_⟩
    obtain ⟨h1, o, ho, h2⟩ := mem_ready.1 hj
    have hjs := lt_of_get ho
    have hk' : j < listed.size := by omega
    have hjf : listed[j]? = some false := by
      rw [Array.getD_eq_getD_getElem?] at h1
      rw [Array.getElem?_eq_getElem hk'] at h1 ⊢
      simpa using h1
    have hset : ∀ k, (listed.setIfInBounds j true).getD k false = true ↔ addL (fun k => listed.getD k false = true) j k := by
      intro k
      by_cases e' : k = j
      · subst e'; simp [addL, Array.getD_eq_getD_getElem?, hk']
      · simp [addL, Array.getD_eq_getD_getElem?, Array.getElem?_setIfInBounds_ne (fun h => e' h.symm), e']
    refine g.step hcl ho (by simp [Array.getD_eq_getD_getElem?, hjf]) (fun i hd => ?_) hI (fun c G' w' e' hI' => ?_)
    · obtain ⟨o', ho', ed, hed, hbd, rfl⟩ := hd
      rw [ho] at ho'; cases ho'
      exact h2 ed hed hbd
    · refine ih _ _ _ G' e' (by simpa using hsz) ?_ ?_ ?_
      · have := count_set listed.toList j (by simpa using hjf)
        rw [Array.toList_setIfInBounds]; omega
      · intro k hk i hd
        rw [hset] at hk ⊢
        rcases hk with hk | rfl
        · exact .inl (hcl _ hk _ hd)
        · obtain ⟨o', ho', ed, hed, hbd, rfl⟩ := hd
          rw [ho] at ho'; cases ho'
          exact .inl (h2 ed hed hbd)
      · have : (fun k => (listed.setIfInBounds j true).getD k false = true) = addL (fun k => listed.getD k false = true) j := funext fun k => propext (hset k)
        rw [this]; exact hI'
end
end Go.X
