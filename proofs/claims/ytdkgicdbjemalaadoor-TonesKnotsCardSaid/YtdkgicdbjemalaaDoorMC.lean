import Derived.Test.YtdkgicdbjemalaaDoorMB
/-! What a walk by hand keeps of the small machine's memory: boxes of its own, blocks that stand, and values. -/
set_option linter.unusedSimpArgs false
set_option linter.unusedVariables false
set_option linter.unusedSectionVars false
namespace Go.X
open Go Go.RowKit Go.Proofs

section
variable {P : Program} {W0 : World} [GlobOk W0] {G G0 : Gh} {H : Heap} {w0 W W' : World} {bx bx' fx : List (Nat × Obj)} {vs : List AV} {cs : List Value}

theorem Rel.other (hR : Rel W0 G H W) (hb : Below W0.heap.size W0 W') (hs : ∀ k, (∃ id v S, G.ob id = some (v, k, S)) ∨ (∃ s, G.C k = some s) ∨ (∃ s, G.D k = some s) → W'.heap[k]? = W.heap[k]?) : Rel W0 G H W' :=
  ⟨hb, hR.dom, fun id v b S hx => by rw [hs b (.inl ⟨_, _, _, hx⟩)]; exact hR.obj id v b S hx, hR.inj, fun b s hx => by rw [hs b (.inr (.inl ⟨_, hx⟩))]; exact hR.C b s hx, fun b s hx => by rw [hs b (.inr (.inr ⟨_, hx⟩))]; exact hR.D b s hx, hR.ap⟩

theorem Ext.other (hE : Ext G0 H w0 G W) (hz : W.heap.size ≤ W'.heap.size) (hs : ∀ k, k < w0.heap.size → W'.heap[k]? = W.heap[k]?) : Ext G0 H w0 G W' :=
  ⟨hE.le, hE.D, hE.blk, hE.new, hE.Cn, Nat.le_trans hE.size hz, fun b hb hn => (hs b hb).trans (hE.frame b hb hn)⟩

theorem Rel.D_lt (hR : Rel W0 G H W) {b : Nat} {s : List Value} (h : G.D b = some s) : b < W.heap.size := by
  obtain ⟨_, c, t, fr, hc, _⟩ := hR.D _ _ h
  exact blk_lt' hc

/-- The small machine's memory, boxes of the walk's own (they may change), blocks that stand, and values. -/
def Cx (W0 : World) (G0 : Gh) (H : Heap) (w0 : World) (bx fx : List (Nat × Obj)) (vs : List AV) (cs : List Value) (W : World) : Prop :=
  ∃ G, Rel W0 G H W ∧ Ext G0 H w0 G W ∧ VL W0 G 0 vs cs ∧ (∀ p ∈ bx, w0.heap.size ≤ p.1 ∧ W.heap[p.1]? = some p.2 ∧ (∀ id v S, G.ob id ≠ some (v, p.1, S)) ∧ G.C p.1 = none) ∧ ∀ p ∈ fx, W.heap[p.1]? = some p.2 ∧ ∀ id v S, G.ob id ≠ some (v, p.1, S)

theorem Cx.box (h : Cx W0 G0 H w0 bx fx vs cs W) {p : Nat × Obj} (hp : p ∈ bx) : W.heap[p.1]? = some p.2 := by
  obtain ⟨G, _, _, _, h4, _⟩ := h
  exact (h4 p hp).2.1

theorem Cx.fix (h : Cx W0 G0 H w0 bx fx vs cs W) {p : Nat × Obj} (hp : p ∈ fx) : W.heap[p.1]? = some p.2 := by
  obtain ⟨G, _, _, _, _, h5⟩ := h
  exact (h5 p hp).1

theorem Cx.low (h : Cx W0 G0 H w0 bx fx vs cs W) {p : Nat × Obj} (hp : p ∈ bx) : w0.heap.size ≤ p.1 := by
  obtain ⟨G, _, _, _, h4, _⟩ := h
  exact (h4 p hp).1

theorem Cx.below (h : Cx W0 G0 H w0 bx fx vs cs W) : Below W0.heap.size W0 W := by
  obtain ⟨G, h1, _⟩ := h
  exact h1.below

/-- A few boxes change, or new blocks come. -/
theorem Cx.to (hR0 : Rel W0 G0 H w0) (h : Cx W0 G0 H w0 bx fx vs cs W) (hz : W.heap.size ≤ W'.heap.size) (hb : Below W0.heap.size W0 W') (ch : List Nat) (hch : ∀ k ∈ ch, (∃ o, (k, o) ∈ bx) ∧ ∀ o, (k, o) ∉ fx)
    (hs : ∀ k, k < W.heap.size → k ∉ ch → W'.heap[k]? = W.heap[k]?) (hx : ∀ p ∈ bx', W'.heap[p.1]? = some p.2 ∧ (W.heap.size ≤ p.1 ∨ ∃ o, (p.1, o) ∈ bx)) : Cx W0 G0 H w0 bx' fx vs cs W' := by
  obtain ⟨G, h1, h2, h3, h4, h5⟩ := h
  have hlow : ∀ k ∈ ch, w0.heap.size ≤ k := fun k hk => by obtain ⟨⟨o, ho⟩, _⟩ := hch k hk; exact (h4 _ ho).1
  have hR : Rel W0 G H W' := h1.other hb fun k hk => by
    have hlt : k < W.heap.size := by
      rcases hk with ⟨id, v, S, hx⟩ | ⟨s, hx⟩ | ⟨s, hx⟩
      · obtain ⟨_, _, _, _, _, _, _, q, _⟩ := h1.obj _ _ _ _ hx; exact blk_lt' q
      · obtain ⟨_, c, t, fr, q, _⟩ := h1.C _ _ hx; exact blk_lt' q
      · exact h1.D_lt hx
    refine hs k hlt fun hc => ?_
    obtain ⟨⟨o, ho⟩, _⟩ := hch k hc
    obtain ⟨q1, q2, q3, q4⟩ := h4 _ ho
    rcases hk with ⟨id, v, S, hx⟩ | ⟨s, hx⟩ | ⟨s, hx⟩
    · exact q3 _ _ _ hx
    · rw [q4] at hx; cases hx
    · rw [h2.D] at hx
      have := hR0.D_lt hx
      simp only at q1; omega
  refine ⟨G, hR, h2.other hz fun k hk => hs k (by have := h2.size; omega) fun hc => by have := hlow k hc; omega, h3, fun p hp => ?_, fun p hp => ?_⟩
  · obtain ⟨e1, e2⟩ := hx p hp
    rcases e2 with e2 | ⟨o, ho⟩
    · refine ⟨by have := h2.size; omega, e1, fun id v S hx => ?_, ?_⟩
      · obtain ⟨_, _, _, _, _, _, _, q, _⟩ := h1.obj _ _ _ _ hx
        have := blk_lt' q; omega
      · cases hq : G.C p.1 with
        | none => rfl
        | some s => obtain ⟨_, c, t, fr, q, _⟩ := h1.C _ _ hq; have := blk_lt' q; omega
    · obtain ⟨q1, q2, q3, q4⟩ := h4 _ ho
      exact ⟨q1, e1, q3, q4⟩
  · obtain ⟨q1, q2⟩ := h5 p hp
    have hlt : p.1 < W.heap.size := (Array.getElem?_eq_some_iff.1 q1).1
    exact ⟨(hs p.1 hlt fun hc => (hch _ hc).2 _ hp).trans q1, q2⟩

theorem Cx.vals (h : Cx W0 G0 H w0 bx fx vs cs W) {vs' : List AV} {cs' : List Value} (hv : ∀ G, VL W0 G 0 vs cs → VL W0 G 0 vs' cs') : Cx W0 G0 H w0 bx fx vs' cs' W := by
  obtain ⟨G, h1, h2, h3, h4, h5⟩ := h
  exact ⟨G, h1, h2, hv G h3, h4, h5⟩

theorem Cx.valsG (h : Cx W0 G0 H w0 bx fx vs cs W) {vs' : List AV} {cs' : List Value} (hv : ∀ G, Le 0 G0 G → VL W0 G 0 vs cs → VL W0 G 0 vs' cs') : Cx W0 G0 H w0 bx fx vs' cs' W := by
  obtain ⟨G, h1, h2, h3, h4, h5⟩ := h
  exact ⟨G, h1, h2, hv G h2.le h3, h4, h5⟩

theorem Cx.drew (h : Cx W0 G0 H w0 bx fx vs cs W) : Cx W0 G0 H w0 bx fx vs cs W.drew := by
  obtain ⟨G, h1, h2, h3, h4, h5⟩ := h
  exact ⟨G, h1.drew, h2.other (Nat.le_refl _) fun _ _ => rfl, h3, h4, h5⟩

/-- A call that shares nothing. -/
theorem Cx.call {R : Run} (RS : CallSound P W0 R) {f : Nat} {av : List AV} {v : AV} (hc : callA R 1 f av H = some (v, H)) (h : Cx W0 G0 H w0 bx fx vs cs W) {cas : List Value} (ha : ∀ G, VL W0 G 0 vs cs → VL W0 G 0 av cas) :
    Calls P f cas.toArray W fun e W' => ∃ c, e = .returned c ∧ Cx W0 G0 H w0 bx fx (v :: vs) (c :: cs) W' ∧ KeepsOthers W W' := by
  obtain ⟨G, h1, h2, h3, h4, h5⟩ := h
  refine ((callA_spec RS hc).2 G W cas h1 (ha G h3)).mono ?_
  rintro e W' ⟨c, G', rfl, k1, k2, k3, k4⟩
  have hap : ∀ b, b < W.heap.size → (∀ id v S, G.ob id ≠ some (v, b, S)) → ∀ id v S, G'.ob id ≠ some (v, b, S) := fun b hb hn id v S hx => by
    cases hq : G.ob id with
    | none => have := (k3.new _ _ _ _ hx hq).2; omega
    | some y =>
      obtain ⟨v1, b1, S1⟩ := y
      rcases k3.blk _ _ _ _ _ _ _ hq hx with e | e
      · subst e; exact hn _ _ _ hq
      · omega
  refine ⟨c, rfl, ⟨G', k2, h2.trans (Nat.le_refl _) k3, VL.cons k1 (h3.mono k3.le), fun p hp => ?_, fun p hp => ?_⟩, ⟨k3.size, fun k o hk ho => ?_⟩⟩
  case refine_3 =>
    refine (k3.frame k (Array.getElem?_eq_some_iff.1 hk).1 fun id v S hx => ?_).trans hk
    obtain ⟨_, _, _, _, _, _, _, q, _⟩ := h1.obj _ _ _ _ hx
    rw [hk] at q; cases q; cases ho
  · obtain ⟨q1, q2, q3, q4⟩ := h4 p hp
    have hlt : p.1 < W.heap.size := (Array.getElem?_eq_some_iff.1 q2).1
    refine ⟨q1, (k3.frame _ hlt q3).trans q2, hap _ hlt q3, ?_⟩
    cases hq : G'.C p.1 with
    | none => rfl
    | some s =>
      rcases k3.Cn _ _ hq with e | e
      · rw [q4] at e; cases e
      · omega
  · obtain ⟨q1, q2⟩ := h5 p hp
    have hlt : p.1 < W.heap.size := (Array.getElem?_eq_some_iff.1 q1).1
    exact ⟨(k3.frame _ hlt q2).trans q1, hap _ hlt q2⟩

/-- Blocks that are no cells may come and go. -/
theorem Cx.own {B : Nat} (hB : w0.heap.size ≤ B) (hcells : ∀ p ∈ bx ++ fx, p.2.isCells = true) {row : Option Nat} (h : Cx W0 G0 H w0 bx fx vs cs W) (hg : W.grownBy W' row) (hr : ∀ r, row = some r → B ≤ r ∧ ∃ o : Obj, W.heap[r]? = some o ∧ o.isCells = false)
    (hW0 : W0.heap.size ≤ w0.heap.size) : Cx W0 G0 H w0 bx fx vs cs W' := by
  obtain ⟨G, h1, h2, h3, h4, h5⟩ := h
  have hkeep : ∀ {k : Nat} {o : Obj}, W.heap[k]? = some o → o.isCells = true → W'.heap[k]? = W.heap[k]? := fun hk hc => grownBy_keeps_cells hg (fun r e => (hr r e).2) hk hc
  have hlow : ∀ k, k < w0.heap.size → W'.heap[k]? = W.heap[k]? := fun k hk => hg.block k (by have := h2.size; omega) fun e => by have := (hr k e.symm).1; omega
  have hbel : Below W0.heap.size W0 W' := h1.below.grown hg h1.below.size (fun k e => by have := (hr k e).1; omega)
  refine ⟨G, h1.other hbel fun k hk => ?_, h2.other hg.size hlow, h3, fun p hp => ?_, fun p hp => ?_⟩
  · rcases hk with ⟨id, v, S, hx⟩ | ⟨s, hx⟩ | ⟨s, hx⟩
    · obtain ⟨_, _, _, _, _, _, _, q, _⟩ := h1.obj _ _ _ _ hx; exact hkeep q rfl
    · obtain ⟨_, c, t, fr, q, _⟩ := h1.C _ _ hx; exact hkeep q rfl
    · obtain ⟨_, c, t, fr, q, _⟩ := h1.D _ _ hx; exact hkeep q rfl
  · obtain ⟨q1, q2, q3, q4⟩ := h4 p hp
    exact ⟨q1, (hkeep q2 (hcells p (by simp [hp]))).trans q2, q3, q4⟩
  · obtain ⟨q1, q2⟩ := h5 p hp
    exact ⟨(hkeep q1 (hcells p (by simp [hp]))).trans q1, q2⟩
end
end Go.X
