import Derived.Test.YtdkgicdbjemalaaDoorX8
/-! A region whose order is open. -/
set_option linter.unusedSimpArgs false
set_option linter.unusedVariables false
set_option linter.unusedSectionVars false
namespace Go.X
open Go Go.RowKit

/-! ### What lies before what -/
def maskA (acc : List Nat) (o : Oper) : Nat := o.after.toList.foldl (fun s e => if Region.binds .any e then s ||| 2 ^ e.on ||| acc.getD e.on 0 else s) 0

def befA : List Nat → List Oper → List Nat
  | acc, [] => acc
  | acc, o :: rest => befA (acc ++ [maskA acc o]) rest

def dirA (ops : Array Oper) (j i : Nat) : Prop := ∃ o, ops[j]? = some o ∧ ∃ e ∈ o.after, Region.binds .any e = true ∧ e.on = i

inductive Tr (ops : Array Oper) : Nat → Nat → Prop where
  | one {j i : Nat} (h : dirA ops j i) : Tr ops j i
  | cons {j k i : Nat} (h : dirA ops j k) (t : Tr ops k i) : Tr ops j i

theorem maskA_spec {ops : Array Oper} {acc : List Nat} {o : Oper} {j : Nat} (ho : ops[j]? = some o) (hacc : ∀ k i, (acc.getD k 0).testBit i = true → Tr ops k i) {i : Nat} (h : (maskA acc o).testBit i = true) : Tr ops j i := by
  unfold maskA at h
  have key : ∀ (l : List Edge) (s : Nat), (∀ e ∈ l, e ∈ o.after) → (s.testBit i = true → Tr ops j i) → ((l.foldl (fun s e => if Region.binds .any e then s ||| 2 ^ e.on ||| acc.getD e.on 0 else s) s).testBit i = true → Tr ops j i) := by
    intro l
    induction l with
    | nil => intro s _ hs h; exact hs h
    | cons e l ih =>
      intro s hl hs h
      simp only [List.foldl_cons] at h
      refine ih _ (fun e' he' => hl e' (List.mem_cons_of_mem _ he')) ?_ h
      intro hb
      split at hb
      · rename_i hbind
        have hd : dirA ops j e.on := ⟨o, ho, e, hl e (by simp), hbind, rfl⟩
        rw [Nat.testBit_or, Nat.testBit_or, Bool.or_eq_true, Bool.or_eq_true] at hb
        rcases hb with (hb | hb) | hb
        · exact hs hb
        · have : e.on = i := by
            by_cases he : e.on = i
            · exact he
            · rw [Nat.testBit_two_pow_of_ne he] at hb; cases hb
          exact this ▸ .one hd
        · exact .cons hd (hacc _ _ hb)
      · exact hs hb
  exact key o.after.toList 0 (fun e he => by simpa using he) (by simp) h

theorem befA_spec {ops : Array Oper} : ∀ (l : List Oper) (acc : List Nat), (∀ k, ops[acc.length + k]? = l[k]?) → (∀ k i, (acc.getD k 0).testBit i = true → Tr ops k i) → ∀ k i, ((befA acc l).getD k 0).testBit i = true → Tr ops k i
  | [], acc, _, h => h
  | o :: rest, acc, hl, h => by
    refine befA_spec rest (acc ++ [maskA acc o]) (fun k => ?_) (fun k i hk => ?_)
    · have := hl (k + 1)
      simp only [List.length_append, List.length_cons, List.length_nil] at *
      rw [show acc.length + (0 + 1) + k = acc.length + (k + 1) by omega, this]; simp
    · have h0 := hl 0
      simp only [Nat.add_zero, List.getElem?_cons_zero] at h0
      simp only [List.getD_eq_getElem?_getD, List.getElem?_append] at hk
      split at hk
      · exact h k i (by simpa [List.getD_eq_getElem?_getD] using hk)
      · rename_i hge
        by_cases hke : k = acc.length
        · subst hke
          simp at hk
          exact maskA_spec h0 h hk
        · rw [List.getElem?_eq_none (by simp; omega)] at hk
          simp at hk

def nedst (x y : Op1) : Bool := match x.dst, y.dst with
  | some a, some b => a != b
  | _, _ => true

def apartA (x y : Op1) : Bool :=
  (match x.dst with | some d => !(readsO y).contains d | none => true) && (match y.dst with | some d => !(readsO x).contains d | none => true) && decide (memK x.ins * memK y.ins < 2)

def op0 : Op1 := ⟨none, none, .bad⟩

/-- Neither looks at what the other one sets. -/
def apartR (x y : Op1) : Bool :=
  (match x.dst with | some d => !(readsO y).contains d | none => true) && (match y.dst with | some d => !(readsO x).contains d | none => true)

/-- An operation that makes a slice, and a store into an object that is made in the same region. -/
def apartB (is : List Op1) (i j : Nat) : Bool :=
  apartR (is.getD i op0) (is.getD j op0) && (match (is.getD i op0).ins with | .mks .. => true | _ => false) &&
    (match (is.getD j op0).ins with
      | .store _ (.t d) _ => (List.range j).any fun m => (is.getD m op0).dst == some d && (match (is.getD m op0).ins with | .alloc _ => true | _ => false)
      | _ => false)

/-- An operation that reads an object, and a store into another one. -/
def apartC (is : List Op1) (i j : Nat) : Bool :=
  apartR (is.getD i op0) (is.getD j op0) &&
    (match (is.getD i op0).ins, (is.getD j op0).ins with
      | .load _ (.t p), .store _ (.t q) _ => ((is.drop i).all fun o => o.dst != some p) && ((is.drop j).all fun o => o.dst != some q)
      | _, _ => false)

/-- What must be looked at: that the two are apart. -/
def chkP (is : List Op1) (i j : Nat) : Op1 := match (is.getD i op0).ins, (is.getD j op0).ins with
  | .load _ p, .store _ q _ => ⟨none, none, .apt p q⟩
  | _, _ => op0

def chks (ops : Array Oper) (is : List Op1) : List Op1 :=
  let b := befA [] ops.toList
  (List.range is.length).flatMap fun j => ((List.range j).filter fun i => !((b.getD j 0).testBit i || apartA (is.getD i op0) (is.getD j op0) || apartB is i j)).map fun i => chkP is i j

def okDraw (ops : Array Oper) (is : List Op1) : Bool :=
  let b := befA [] ops.toList
  (List.range is.length).all fun j =>
    (match ops[j]? with | some o => o.after.all fun e => !Region.binds .any e || decide (e.on < j) | none => false) &&
    ((List.range j).all fun i => nedst (is.getD i op0) (is.getD j op0) && ((b.getD j 0).testBit i || apartA (is.getD i op0) (is.getD j op0) || apartB is i j || apartC is i j))

/-! ### The text's own run -/
theorem trace {R : Nat → List AV → Heap → Option (AV × Heap)} : ∀ (is : List Op1) (fr0 : List AV) (H0 : Heap) (frN : List AV) (HN : Heap), opsA R is fr0 H0 = some (frN, HN) →
    ∃ (F : Nat → List AV) (Hp : Nat → Heap) (V : Nat → AV), F 0 = fr0 ∧ Hp 0 = H0 ∧ F is.length = frN ∧ Hp is.length = HN ∧
      ∀ (k : Nat) (o : Op1), is[k]? = some o → stepA R o (F k) (Hp k) = some (F (k + 1), Hp (k + 1)) ∧ F (k + 1) = putA (F k) o.dst (V k) ∧
        ((wantedA o.guard (F k) = some true ∧ insA R o.ins (F k) (Hp k) = some (V k, Hp (k + 1))) ∨ (wantedA o.guard (F k) = some false ∧ V k = .skp ∧ Hp (k + 1) = Hp k))
  | [], fr0, H0, frN, HN, h => by
    simp only [opsA, Option.some.injEq, Prod.mk.injEq] at h
    exact ⟨fun _ => fr0, fun _ => H0, fun _ => .undef, rfl, rfl, h.1, h.2, fun k o hk => by simp at hk⟩
  | o :: rest, fr0, H0, frN, HN, h => by
    simp only [opsA] at h
    cases hs : stepA R o fr0 H0 with
    | none => simp [hs] at h
    | some r =>
      obtain ⟨fr1, H1⟩ := r
      simp only [hs] at h
      obtain ⟨F, Hp, V, h1, h2, h3, h4, h5⟩ := trace rest fr1 H1 frN HN h
      have hv : ∃ v, fr1 = putA fr0 o.dst v ∧ ((wantedA o.guard fr0 = some true ∧ insA R o.ins fr0 H0 = some (v, H1)) ∨ (wantedA o.guard fr0 = some false ∧ v = .skp ∧ H1 = H0)) := by
        unfold stepA at hs
        split at hs
        · rename_i hw
          split at hs
          · rename_i v H2 hi; cases hs; exact ⟨v, rfl, .inl ⟨hw, hi⟩⟩
          · cases hs
        · rename_i hw; cases hs; exact ⟨.skp, rfl, .inr ⟨hw, rfl, rfl⟩⟩
        · cases hs
      obtain ⟨v, hv1, hv2⟩ := hv
      refine ⟨fun k => match k with | 0 => fr0 | k + 1 => F k, fun k => match k with | 0 => H0 | k + 1 => Hp k, fun k => match k with | 0 => v | k + 1 => V k, rfl, rfl, h3, h4, fun k o' hk => ?_⟩
      cases k with
      | zero =>
        simp only [List.getElem?_cons_zero, Option.some.injEq] at hk
        subst hk
        refine ⟨by simp only [h1, h2]; exact hs, by simp only [h1]; exact hv1, ?_⟩
        simp only [h2]; exact hv2
      | succ k => exact h5 k o' (by simpa using hk)

/-- Only what is looked at. -/
def maskF (fr : List AV) (rs : List Nat) : List AV := (List.range fr.length).map fun t => if rs.contains t then fr.getD t .undef else .undef

theorem maskF_get {fr : List AV} {rs : List Nat} {t : Nat} (h : t ∈ rs) : (maskF fr rs).getD t .undef = fr.getD t .undef := by
  unfold maskF
  rcases Nat.lt_or_ge t fr.length with hl | hl
  · simp only [List.getD_eq_getElem?_getD, List.getElem?_map, List.getElem?_range hl, Option.map_some, Option.getD_some]
    rw [if_pos (by simpa using h)]
  · rw [List.getD_eq_getElem?_getD, List.getElem?_eq_none (by simpa using hl), List.getD_eq_getElem?_getD, List.getElem?_eq_none hl]

theorem maskF_not {fr : List AV} {rs : List Nat} {t : Nat} (h : t ∉ rs) : (maskF fr rs).getD t .undef = .undef := by
  unfold maskF
  rcases Nat.lt_or_ge t fr.length with hl | hl
  · simp only [List.getD_eq_getElem?_getD, List.getElem?_map, List.getElem?_range hl, Option.map_some, Option.getD_some]
    rw [if_neg (by simpa using h)]
  · rw [List.getD_eq_getElem?_getD, List.getElem?_eq_none (by simpa using hl)]; rfl

theorem wantedA_congr {g : Option (Nat × Bool)} {fr fr' : List AV} (h : ∀ t ∈ gT g, fr.getD t .undef = fr'.getD t .undef) : wantedA g fr = wantedA g fr' := by
  cases g with
  | none => rfl
  | some p => obtain ⟨t, b⟩ := p; simp only [wantedA]; rw [h t (by simp [gT])]

theorem step_mask {R : Nat → List AV → Heap → Option (AV × Heap)} {o : Op1} {fr : List AV} {H H' : Heap} {v : AV}
    (h : (wantedA o.guard fr = some true ∧ insA R o.ins fr H = some (v, H')) ∨ (wantedA o.guard fr = some false ∧ v = .skp ∧ H' = H)) :
    stepA R o (maskF fr (readsO o)) H = some (putA (maskF fr (readsO o)) o.dst v, H') := by
  have hw : wantedA o.guard (maskF fr (readsO o)) = wantedA o.guard fr := wantedA_congr fun t ht => maskF_get (by simp [readsO, ht])
  have hi : insA R o.ins (maskF fr (readsO o)) H = insA R o.ins fr H := ins_congr fun t ht => maskF_get (by simp [readsO, ht])
  unfold stepA
  rw [hw, hi]
  rcases h with ⟨h1, h2⟩ | ⟨h1, rfl, rfl⟩
  · rw [h1]; simp only [h2]
  · rw [h1]

theorem putA_length (fr : List AV) (d : Option Nat) (v : AV) : (putA fr d v).length = fr.length := by
  cases d <;> simp [putA]

theorem putA_get (fr : List AV) (d : Option Nat) (v : AV) (t : Nat) : (putA fr d v).getD t .undef = if d = some t ∧ t < fr.length then v else fr.getD t .undef := by
  cases d with
  | none => simp [putA]
  | some d =>
    simp only [putA, List.getD_eq_getElem?_getD, List.getElem?_set, Option.some.injEq]
    by_cases e : d = t
    · subst e
      by_cases hl : d < fr.length
      · simp [hl]
      · simp [hl]
    · simp [e]

theorem putA_inj {fr : List AV} {d : Nat} {v u : AV} (h : putA fr (some d) v = putA fr (some d) u) (hd : d < fr.length) : v = u := by
  have h1 := putA_get fr (some d) v d
  have h2 := putA_get fr (some d) u d
  rw [h] at h1
  rw [h1] at h2
  simpa [hd] using h2

theorem count_set : ∀ (l : List Bool) (j : Nat), l[j]? = some false → (l.set j true).count false + 1 = l.count false
  | [], j, h => by simp at h
  | b :: l, 0, h => by simp at h; subst h; simp
  | b :: l, j + 1, h => by
    have := count_set l j (by simpa using h)
    simp only [List.set_cons_succ, List.count_cons]
    omega

theorem wp_exists {P : Program} {o : Oper} {a : Act} {w : World} {K : Act → World → Prop} (h : o.wp P a w K (fun _ _ _ => False)) : ∃ a' w', K a' w' := by
  unfold Oper.wp at h
  generalize (execOp a.eval o).run P w = r at h
  cases r with
  | ok n w' =>
    cases n <;> simp only [Oper.upon] at h <;> first
      | exact ⟨_, _, h⟩
      | (obtain ⟨e, w2, fr, hr, _⟩ := h []; cases e <;> first | exact ⟨_, _, hr⟩ | exact hr.elim | (obtain ⟨_, _, hf⟩ := hr; exact hf.elim))
      | (obtain ⟨v, w2, hr, _⟩ := h default []; exact ⟨_, _, hr⟩)
  | halt x w' => cases x <;> simp only [Oper.upon] at h

theorem wpOp_exists {P : Program} {ops : Array Oper} {i : Nat} {a : Act} {w : World} {K : Act → World → Prop} (h : wpOp P ops (fun _ _ _ => False) i K a w) : ∃ a' w', K a' w' := by
  unfold wpOp at h
  split at h
  · exact ⟨_, _, h⟩
  · split at h
    · rcases h with h | ⟨_, _, _, hf⟩
      · exact wp_exists h
      · exact hf.elim
    · exact ⟨_, _, h⟩

section
variable {P : Program} {W0 : World} [GlobOk W0] {G : Gh} {H : Heap} {w : World}

theorem Gr.trans {G' : Gh} {H' H'' : Heap} (h : Gr G H H') (hle : Le 0 G G') (k : Gr G' H' H'') : Gr G' H H'' := by
  refine ⟨Nat.le_trans h.len k.len, fun id h1 h2 => ?_⟩
  rcases Nat.lt_or_ge id H'.length with hl | hl
  · obtain ⟨⟨v, b, S⟩, hx⟩ := h.tot id h1 hl
    obtain ⟨v', b', S', hx', _⟩ := hle.ob rfl _ _ _ _ hx
    exact ⟨_, hx'⟩
  · exact k.tot id hl h2

/-- The text's run has worlds of its own. -/
theorem trace_worlds {R : Nat → List AV → Heap → Option (AV × Heap)} (RS : CallSound P W0 R) {md : Nat → Nat} {ops : Array Oper} {fr0 : List AV} {H0 : Heap} {F : Nat → List AV} {Hp : Nat → Heap} (hF0 : F 0 = fr0) (hH0 : Hp 0 = H0)
    (hst : ∀ (k : Nat) (o : Op1), (compOps P md ops)[k]? = some o → stepA R o (F k) (Hp k) = some (F (k + 1), Hp (k + 1))) {a0 : Act} {w0 : World} {G0 : Gh} (hF : FR W0 G0 fr0 a0.tmps) (hR : Rel W0 G0 H0 w0) :
    ∀ k, k ≤ ops.size → ∃ G w a, FR W0 G (F k) (Act.tmps a) ∧ Rel W0 G (Hp k) w ∧ Ext G0 H0 w0 G w ∧ Gr G H0 (Hp k)
  | 0, _ => ⟨G0, w0, a0, by rw [hF0]; exact hF, by rw [hH0]; exact hR, Ext.refl _ _ _, Gr.same (by rw [hH0])⟩
  | k + 1, hk => by
    obtain ⟨G, w, a, h1, h2, h3, h4⟩ := trace_worlds RS hF0 hH0 hst hF hR k (by omega)
    have ho : ops[k]? = some ops[k] := by simp
    have ho' : (compOps P md ops)[k]? = some (comp1 P md ops ops[k]) := by simp [compOps, ho]
    have hs := hst k _ ho'
    have := step_sound (Q := fun _ _ _ => False) RS ho (K := fun a' w' => ∃ G', FR W0 G' (F (k + 1)) a'.tmps ∧ Rel W0 G' (Hp (k + 1)) w' ∧ Ext G (Hp k) w G' w' ∧ Gr G' (Hp k) (Hp (k + 1))) h1 h2 hs
      (fun v c G' w' q1 q2 q3 q4 q5 => ⟨G', by rw [q1]; exact (h1.mono q4.le).put _ q2, q3, q4, q5⟩)
    obtain ⟨a', w', G', q1, q2, q3, q4⟩ := wpOp_exists this
    exact ⟨G', w', a', q1, q2, h3.trans h4.len q3, h4.trans q3.le q4⟩
end
end Go.X
