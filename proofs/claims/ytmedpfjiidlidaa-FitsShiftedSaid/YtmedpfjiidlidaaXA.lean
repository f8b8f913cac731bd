import Derived.Test.YtmedpfjiidlidaaX7
import Derived.Orders
/-! Regions: operations in the text's order, and in whatever order they may be made. -/
set_option linter.unusedSimpArgs false
set_option linter.unusedVariables false
namespace Go.X
open Go Go.RowKit

/-! ### What an operation looks at -/
def opdT : Opd → List Nat
  | .t i => [i]
  | .c _ => []

def oT : Option Opd → List Nat
  | some x => opdT x
  | none => []

def readsI : Ins → List Nat
  | .mov x | .box x | .chk x | .eqn _ x | .un _ x | .conv _ x | .mki _ x | .fieldA _ x | .field _ _ x | .ext x _ | .len x | .load _ x => opdT x
  | .pick c a b => opdT c ++ opdT a ++ opdT b
  | .alloc _ | .bad => []
  | .build _ ps | .bslice _ _ _ ps => ps.flatMap fun p => opdT p.2.2
  | .store _ p x | .apt p x | .bin _ p x | .eqb _ p x | .eqs _ _ p x | .indexA _ p x | .indexP _ _ p x | .index _ _ _ p x | .app _ _ p x | .mks _ _ _ p x => opdT p ++ opdT x
  | .mkf _ cs => cs.flatMap opdT
  | .slice _ x lo hi mx => opdT x ++ oT lo ++ oT hi ++ oT mx
  | .mnx _ xs => xs.flatMap opdT
  | .call _ _ xs => xs.flatMap opdT
  | .calld _ f xs | .callm _ _ f xs => opdT f ++ xs.flatMap opdT

def gT : Option (Nat × Bool) → List Nat
  | some (t, _) => [t]
  | none => []

def readsO (o : Op1) : List Nat := readsI o.ins ++ gT o.guard

/-- 0: no memory; 1: it reads, or makes new memory; 2: it may write. -/
def memK : Ins → Nat
  | .alloc _ | .box _ | .bslice .. | .mks .. | .load .. => 1
  | .call m _ _ | .calld m _ _ | .callm m _ _ _ => if m = 0 then 2 else 1
  | .store .. | .app .. | .bad => 2
  | _ => 0

theorem ev_congr {x : Opd} {fr fr' : List AV} (h : ∀ t ∈ opdT x, fr.getD t .undef = fr'.getD t .undef) : x.ev fr = x.ev fr' := by
  cases x with
  | t i => exact h i (by simp [opdT])
  | c v => rfl

theorem evs_congr {xs : List Opd} {fr fr' : List AV} (h : ∀ t ∈ xs.flatMap opdT, fr.getD t .undef = fr'.getD t .undef) : xs.map (·.ev fr) = xs.map (·.ev fr') :=
  List.map_congr_left fun x hx => ev_congr fun t ht => h t (List.mem_flatMap.2 ⟨x, hx, ht⟩)

theorem evp_congr {ps : List (Nat × Nat × Opd)} {fr fr' : List AV} (h : ∀ t ∈ ps.flatMap (fun p => opdT p.2.2), fr.getD t .undef = fr'.getD t .undef) :
    (ps.map fun p => (p.1, p.2.1, p.2.2.ev fr)) = (ps.map fun p => (p.1, p.2.1, p.2.2.ev fr')) :=
  List.map_congr_left fun p hp => by rw [ev_congr (fr := fr) (fr' := fr') fun t ht => h t (List.mem_flatMap.2 ⟨p, hp, ht⟩)]

theorem evo_congr {x : Option Opd} {fr fr' : List AV} (h : ∀ t ∈ oT x, fr.getD t .undef = fr'.getD t .undef) : x.map (·.ev fr) = x.map (·.ev fr') := by
  cases x with
  | none => rfl
  | some x => simp only [Option.map_some]; rw [ev_congr h]

theorem ins_congr {R : Nat → List AV → Heap → Option (AV × Heap)} {i : Ins} {fr fr' : List AV} {H : Heap} (h : ∀ t ∈ readsI i, fr.getD t .undef = fr'.getD t .undef) : insA R i fr H = insA R i fr' H := by
  cases i with
  | mov x => simp only [insA, readsI] at *; rw [ev_congr h]
  | box x => simp only [insA, readsI] at *; rw [ev_congr h]
  | chk x => simp only [insA, readsI] at *; rw [ev_congr h]
  | eqn n x => simp only [insA, readsI] at *; rw [ev_congr h]
  | un op x => simp only [insA, readsI] at *; rw [ev_congr h]
  | conv k x => simp only [insA, readsI] at *; rw [ev_congr h]
  | mki t x => simp only [insA, readsI] at *; rw [ev_congr h]
  | fieldA o x => simp only [insA, readsI] at *; rw [ev_congr h]
  | field s o x => simp only [insA, readsI] at *; rw [ev_congr h]
  | ext x j => simp only [insA, readsI] at *; rw [ev_congr h]
  | len x => simp only [insA, readsI] at *; rw [ev_congr h]
  | load s x => simp only [insA, readsI] at *; rw [ev_congr h]
  | alloc z => rfl
  | bad => rfl
  | pick c a b =>
    simp only [insA, readsI, List.mem_append] at *
    rw [ev_congr (x := c) (fr := fr) (fr' := fr') fun t ht => h t (.inl (.inl ht)), ev_congr (x := a) (fr := fr) (fr' := fr') fun t ht => h t (.inl (.inr ht)), ev_congr (x := b) (fr := fr) (fr' := fr') fun t ht => h t (.inr ht)]
  | build z ps => simp only [insA, readsI] at *; rw [evp_congr h]
  | bslice e l z ps => simp only [insA, readsI] at *; rw [evp_congr h]
  | store s p x =>
    simp only [insA, readsI, List.mem_append] at *
    rw [ev_congr (x := p) (fr := fr) (fr' := fr') fun t ht => h t (.inl ht), ev_congr (x := x) (fr := fr) (fr' := fr') fun t ht => h t (.inr ht)]
  | apt p x =>
    simp only [insA, readsI, List.mem_append] at *
    rw [ev_congr (x := p) (fr := fr) (fr' := fr') fun t ht => h t (.inl ht), ev_congr (x := x) (fr := fr) (fr' := fr') fun t ht => h t (.inr ht)]
  | bin s p x =>
    simp only [insA, readsI, List.mem_append] at *
    rw [ev_congr (x := p) (fr := fr) (fr' := fr') fun t ht => h t (.inl ht), ev_congr (x := x) (fr := fr) (fr' := fr') fun t ht => h t (.inr ht)]
  | eqb s p x =>
    simp only [insA, readsI, List.mem_append] at *
    rw [ev_congr (x := p) (fr := fr) (fr' := fr') fun t ht => h t (.inl ht), ev_congr (x := x) (fr := fr) (fr' := fr') fun t ht => h t (.inr ht)]
  | eqs s n p x =>
    simp only [insA, readsI, List.mem_append] at *
    rw [ev_congr (x := p) (fr := fr) (fr' := fr') fun t ht => h t (.inl ht), ev_congr (x := x) (fr := fr) (fr' := fr') fun t ht => h t (.inr ht)]
  | indexA s p x =>
    simp only [insA, readsI, List.mem_append] at *
    rw [ev_congr (x := p) (fr := fr) (fr' := fr') fun t ht => h t (.inl ht), ev_congr (x := x) (fr := fr) (fr' := fr') fun t ht => h t (.inr ht)]
  | indexP s n p x =>
    simp only [insA, readsI, List.mem_append] at *
    rw [ev_congr (x := p) (fr := fr) (fr' := fr') fun t ht => h t (.inl ht), ev_congr (x := x) (fr := fr) (fr' := fr') fun t ht => h t (.inr ht)]
  | index s e n p x =>
    simp only [insA, readsI, List.mem_append] at *
    rw [ev_congr (x := p) (fr := fr) (fr' := fr') fun t ht => h t (.inl ht), ev_congr (x := x) (fr := fr) (fr' := fr') fun t ht => h t (.inr ht)]
  | app e b p x =>
    simp only [insA, readsI, List.mem_append] at *
    rw [ev_congr (x := p) (fr := fr) (fr' := fr') fun t ht => h t (.inl ht), ev_congr (x := x) (fr := fr) (fr' := fr') fun t ht => h t (.inr ht)]
  | mks e b z p x =>
    simp only [insA, readsI, List.mem_append] at *
    rw [ev_congr (x := p) (fr := fr) (fr' := fr') fun t ht => h t (.inl ht), ev_congr (x := x) (fr := fr) (fr' := fr') fun t ht => h t (.inr ht)]
  | mkf f cs => simp only [insA, readsI] at *; rw [evs_congr h]
  | mnx m xs => simp only [insA, readsI] at *; rw [evs_congr h]
  | call m f xs => simp only [insA, readsI] at *; rw [evs_congr h]
  | slice e x lo hi mx =>
    simp only [insA, readsI, List.mem_append] at *
    rw [ev_congr (x := x) (fr := fr) (fr' := fr') fun t ht => h t (.inl (.inl (.inl ht))), evo_congr (x := lo) (fr := fr) (fr' := fr') fun t ht => h t (.inl (.inl (.inr ht))), evo_congr (x := hi) (fr := fr) (fr' := fr') fun t ht => h t (.inl (.inr ht)), evo_congr (x := mx) (fr := fr) (fr' := fr') fun t ht => h t (.inr ht)]
  | calld m f xs =>
    simp only [insA, readsI, List.mem_append] at *
    rw [ev_congr (x := f) (fr := fr) (fr' := fr') fun t ht => h t (.inl ht), evs_congr (fr := fr) (fr' := fr') fun t ht => h t (.inr ht)]
  | callm m tab f xs =>
    simp only [insA, readsI, List.mem_append] at *
    rw [ev_congr (x := f) (fr := fr) (fr' := fr') fun t ht => h t (.inl ht), evs_congr (fr := fr) (fr' := fr') fun t ht => h t (.inr ht)]

theorem map_pair' {o : Option AV} {v : AV} {H H' : Heap} (h : (o.map fun v => (v, H)) = some (v, H')) : H' = H ∧ ∀ H2 : Heap, (o.map fun v => (v, H2)) = some (v, H2) := by
  obtain ⟨h1, h2⟩ := map_pair h
  exact ⟨h2, fun H2 => by rw [h1]; rfl⟩

theorem ins_silent {R : Nat → List AV → Heap → Option (AV × Heap)} {i : Ins} {fr : List AV} {H H' : Heap} {v : AV} (hm : memK i = 0) (h : insA R i fr H = some (v, H')) : H' = H ∧ ∀ H2 : Heap, insA R i fr H2 = some (v, H2) := by
  cases i with
  | pick c a b =>
    simp only [insA] at h ⊢
    split at h
    · rename_i t ht; cases h; simp only [ht]; exact ⟨trivial, fun _ => trivial⟩
    · cases h
  | conv k x =>
    simp only [insA] at h ⊢
    split at h
    · rename_i k' n hk; cases h; simp only [hk]; exact ⟨trivial, fun _ => trivial⟩
    · cases h
  | ext x j =>
    simp only [insA] at h ⊢
    split at h
    · rename_i vs hv; first | exact map_pair' h | (simp only [hv]; exact map_pair' h)
    · cases h
  | index s e n x j =>
    simp only [insA] at h ⊢
    split at h
    · rename_i k hk
      split at h
      · rename_i hlt; simp only [hk, if_pos hlt]; exact map_pair' h
      · cases h
    · cases h
  | call m f xs => simp only [memK] at hm; split at hm <;> cases hm
  | calld m f xs => simp only [memK] at hm; split at hm <;> cases hm
  | callm m tab f xs => simp only [memK] at hm; split at hm <;> cases hm
  | mov x => cases h; exact ⟨rfl, fun _ => rfl⟩
  | mki t x => cases h; exact ⟨rfl, fun _ => rfl⟩
  | mkf f cs => cases h; exact ⟨rfl, fun _ => rfl⟩
  | alloc z => cases hm
  | box x => cases hm
  | bslice e l z ps => cases hm
  | mks e b z l c => cases hm
  | load s p => cases hm
  | store s p x => cases hm
  | app e b x y => cases hm
  | bad => cases hm
  | _ => exact map_pair' h

theorem callA_grows {R : Nat → List AV → Heap → Option (AV × Heap)} {m f : Nat} {args : List AV} {H H' : Heap} {v : AV} (hm : m ≠ 0) (h : callA R m f args H = some (v, H')) : ∃ l, H' = H ++ l := by
  unfold callA at h
  split at h
  · exact absurd rfl hm
  · split at h
    · split at h
      · cases hf : freeA ‹_› depth ‹_› with
        | none => simp [hf] at h
        | some x => simp [hf] at h; exact ⟨[], by simp [h.2]⟩
      · cases h
    · cases h
  · split at h
    · split at h
      · split at h
        · cases h; exact ⟨_, rfl⟩
        · cases h
      · cases h
    · cases h

theorem ins_grows {R : Nat → List AV → Heap → Option (AV × Heap)} {i : Ins} {fr : List AV} {H H' : Heap} {v : AV} (hm : memK i ≤ 1) (h : insA R i fr H = some (v, H')) : ∃ l, H' = H ++ l := by
  by_cases h0 : memK i = 0
  · exact ⟨[], by simp [(ins_silent h0 h).1]⟩
  · cases i <;> simp only [memK] at hm h0 <;> first
      | exact absurd rfl h0
      | exact absurd trivial h0
      | exact absurd hm (by decide)
      | skip
    case alloc z => simp only [insA] at h; cases h; exact ⟨_, rfl⟩
    case box x =>
      simp only [insA] at h
      split at h
      · cases h
      · cases h; exact ⟨_, rfl⟩
    case bslice e l z ps =>
      simp only [insA] at h
      split at h
      · cases h; exact ⟨_, rfl⟩
      · cases h
    case mks e b z l c =>
      simp only [insA] at h
      split at h
      · split at h
        · cases h; exact ⟨_, rfl⟩
        · cases h
      · cases h
    case load s p => simp only [insA] at h; obtain ⟨_, rfl⟩ := map_pair h; exact ⟨[], by simp⟩
    case call m f xs =>
      simp only [insA] at h
      exact callA_grows (by intro e; simp [e] at hm) h
    case calld m f xs =>
      simp only [insA] at h
      split at h
      · exact callA_grows (by intro e; simp [e] at hm) h
      · cases h
    case callm m tab f xs =>
      simp only [insA] at h
      split at h
      · split at h
        · exact callA_grows (by intro e; simp [e] at hm) h
        · cases h
      · cases h

/-! ### Which objects a value leads to -/
inductive Sc (D : Nat → Prop) : AV → Prop where
  | undef : Sc D .undef
  | skp : Sc D .skp
  | bool (b : Bool) : Sc D (.bool b)
  | int (k : IntKind) (n : Int) : Sc D (.int k n)
  | nilp : Sc D .nilp
  | nils : Sc D .nils
  | nilf : Sc D .nilf
  | nili : Sc D .nili
  | ptr (id ver off : Nat) (h : D id) : Sc D (.ptr id ver off)
  | sl (id ver esz off len : Nat) (cap : Option Nat) (h : D id) : Sc D (.sl id ver esz off len cap)
  | cptr (sn : Bool) (cells : List AV) : Sc D (.cptr sn cells)
  | imm (sn : Bool) (cells : List AV) (len : Nat) : Sc D (.imm sn cells len)
  | fn (f : Nat) (vs : List AV) (r : ∀ j, j < vs.length → Sc D (vs.getD j .undef)) : Sc D (.fn f vs)
  | iface (t : Nat) (v : AV) (r : Sc D v) : Sc D (.iface t v)
  | agg (vs : List AV) (r : ∀ j, j < vs.length → Sc D (vs.getD j .undef)) : Sc D (.agg vs)
  | tup (vs : List AV) (r : ∀ j, j < vs.length → Sc D (vs.getD j .undef)) : Sc D (.tup vs)

section
variable {P : Program} {W0 : World} {G : Gh} {H : Heap} {w : World}

theorem VR.sc {l : Nat} {v : AV} {c : Value} (h : VR W0 G l v c) : Sc (fun id => ∃ x, G.ob id = some x) v := by
  induction h with
  | undef c => exact .undef
  | skp => exact .skp
  | bool b => exact .bool b
  | int k n => exact .int k n
  | nilp => exact .nilp
  | nils => exact .nils
  | nilf => exact .nilf
  | nili => exact .nili
  | ptr id ver off a h => obtain ⟨v0, b, S, h1, _⟩ := h; exact .ptr _ _ _ ⟨_, h1⟩
  | cptr sn cells a u hl h r ih => exact .cptr _ _
  | sl id ver esz off len cap a cc hc hcap h => obtain ⟨v0, b, S, h1, _⟩ := h; exact .sl _ _ _ _ _ _ ⟨_, h1⟩
  | imm sn cells len A cc u hl hc h h0 r ih => exact .imm _ _ _
  | fn f caps cs hn r ih => exact .fn _ _ ih
  | iface t v c r ih => exact .iface _ _ ih
  | agg vs cs hn r ih => exact .agg _ ih
  | tup vs cs hn r ih => exact .tup _ ih

theorem Sc.mono {D D' : Nat → Prop} {v : AV} (h : Sc D v) (k : ∀ id, D id → D' id) : Sc D' v := by
  induction h with
  | undef => exact .undef
  | skp => exact .skp
  | bool b => exact .bool b
  | int k n => exact .int k n
  | nilp => exact .nilp
  | nils => exact .nils
  | nilf => exact .nilf
  | nili => exact .nili
  | ptr id ver off h => exact .ptr _ _ _ (k _ h)
  | cptr sn cells => exact .cptr _ _
  | sl id ver esz off len cap h => exact .sl _ _ _ _ _ _ (k _ h)
  | imm sn cells len => exact .imm _ _ _
  | fn f caps r ih => exact .fn _ _ ih
  | iface t v r ih => exact .iface _ _ ih
  | agg vs r ih => exact .agg _ ih
  | tup vs r ih => exact .tup _ ih

open Classical in
noncomputable def Gh.on (G : Gh) (D : Nat → Prop) : Gh := { G with ob := fun id => if D id then G.ob id else none }

theorem VR.on {l : Nat} {v : AV} {c : Value} (h : VR W0 G l v c) : ∀ {D : Nat → Prop}, Sc D v → VR W0 (G.on D) l v c := by
  have hL : ∀ D : Nat → Prop, ∀ m, 1 ≤ m → Le m G (G.on D) := fun D m hm => ⟨fun e => by omega, fun _ _ _ h => h, fun _ _ h => h⟩
  induction h with
  | undef c => intro D _; exact .undef c
  | skp => intro D _; exact .skp
  | bool b => intro D _; exact .bool b
  | int k n => intro D _; exact .int k n
  | nilp => intro D _; exact .nilp
  | nils => intro D _; exact .nils
  | nilf => intro D _; exact .nilf
  | nili => intro D _; exact .nili
  | ptr id ver off a h =>
    intro D hs
    obtain ⟨v0, b, S, h1, h2⟩ := h
    cases hs with
    | ptr _ _ _ hd => exact .ptr _ _ _ _ ⟨v0, b, S, by simp [Gh.on, hd, h1], h2⟩
  | cptr sn cells a u hl h r ih =>
    intro D _
    exact .cptr sn cells a u hl (fun j hj => (h j hj).mono (Nat.le_refl _) (hL D _ (by cases sn <;> simp [lv]))) (fun j hj => (r j hj).mono (hL D _ (by cases sn <;> simp [lv])))
  | sl id ver esz off len cap a cc hc hcap h =>
    intro D hs
    obtain ⟨v0, b, S, h1, h2⟩ := h
    cases hs with
    | sl _ _ _ _ _ _ hd => exact .sl _ _ _ _ _ _ _ _ hc hcap ⟨v0, b, S, by simp [Gh.on, hd, h1], h2⟩
  | imm sn cells len A cc u hl hc h h0 r ih =>
    intro D _
    exact .imm sn cells len A cc u hl hc (fun a ha j hj => (h a ha j hj).mono (Nat.le_refl _) (hL D _ (by cases sn <;> simp [lv]))) h0 (fun j hj => (r j hj).mono (hL D _ (by cases sn <;> simp [lv])))
  | fn f caps cs hn r ih => intro D hs; cases hs with | fn _ _ hs => exact .fn _ _ _ hn (fun j hj => ih j hj (hs j hj))
  | iface t v c r ih => intro D hs; cases hs with | iface _ _ hs => exact .iface _ _ _ (ih hs)
  | agg vs cs hn r ih => intro D hs; cases hs with | agg _ hs => exact .agg _ _ hn (fun j hj => ih j hj (hs j hj))
  | tup vs cs hn r ih => intro D hs; cases hs with | tup _ hs => exact .tup _ _ hn (fun j hj => ih j hj (hs j hj))

/-! ### In the text's order -/
theorem wanted_sound {md : Nat → Nat} {ops : Array Oper} {o : Oper} {fr : List AV} {a : Act} (hF : FR W0 G fr a.tmps) {b : Bool} (h : wantedA (comp1 P md ops o).guard fr = some b) :
    ((comp1 P md ops o).ins = .bad ∧ (comp1 P md ops o).guard = none) ∨ Region.wanted o (yielded ops a.tmps) = b := by
  unfold Region.wanted
  unfold comp1 at h ⊢
  cases hg : o.guard with
  | none => simp [hg, wantedA] at h; exact .inr (by simpa using h)
  | some g =>
    obtain ⟨j, want⟩ := g
    simp only [hg] at h ⊢
    cases hd : (ops[j]?).bind (·.dst) with
    | none => exact .inl ⟨rfl, rfl⟩
    | some t =>
      right
      simp only [hd, wantedA] at h
      have hlt : ∀ v, fr.getD t .undef = v → v ≠ .undef → t < fr.length := fun v hv hn => by
        rcases Nat.lt_or_ge t fr.length with h' | h'
        · exact h'
        · rw [List.getD_eq_getElem?_getD, List.getElem?_eq_none h'] at hv; exact absurd hv.symm hn
      split at h
      · rename_i c hc
        cases h
        have hl := hlt _ hc (by simp)
        have hv := hF.2 t hl
        rw [hc] at hv
        have hsz : t < a.tmps.size := Nat.lt_of_lt_of_le hl hF.1
        simp only [yielded, hd, Option.bind_some, Array.getElem?_eq_getElem hsz]
        simp only [Array.getD_eq_getD_getElem?, Array.getElem?_eq_getElem hsz, Option.getD_some] at hv
        generalize a.tmps[t] = x at hv ⊢
        cases hv
        cases c <;> cases want <;> rfl
      · rename_i hc
        cases h
        have hl := hlt _ hc (by simp)
        have hv := hF.2 t hl
        rw [hc] at hv
        have hsz : t < a.tmps.size := Nat.lt_of_lt_of_le hl hF.1
        simp only [yielded, hd, Option.bind_some, Array.getElem?_eq_getElem hsz]
        simp only [Array.getD_eq_getD_getElem?, Array.getElem?_eq_getElem hsz, Option.getD_some] at hv
        generalize a.tmps[t] = x at hv ⊢
        cases hv
        rfl
      · cases h

theorem comp1_dst (md : Nat → Nat) (ops : Array Oper) (o : Oper) : (comp1 P md ops o).dst = o.dst := by
  unfold comp1; split
  · rfl
  · split <;> rfl

theorem comp1_ins (md : Nat → Nat) (ops : Array Oper) (o : Oper) : (comp1 P md ops o).ins = compOp P md o ∨ ((comp1 P md ops o).ins = .bad ∧ (comp1 P md ops o).guard = none) := by
  unfold comp1; split
  · exact .inl rfl
  · split
    · exact .inl rfl
    · exact .inr ⟨rfl, rfl⟩

/-- One operation, wanted or not. -/
theorem step_sound {R : Nat → List AV → Heap → Option (AV × Heap)} (RS : CallSound P W0 R) {md : Nat → Nat} {ops : Array Oper} {i : Nat} {o : Oper} (ho : ops[i]? = some o) {a : Act} {fr fr' : List AV} {H' : Heap} {K : Act → World → Prop} {Q : Exit → Act → World → Prop}
    (hF : FR W0 G fr a.tmps) (hR : Rel W0 G H w) (hs : stepA R (comp1 P md ops o) fr H = some (fr', H'))
    (hK : ∀ v c G' w', fr' = putA fr o.dst v → VR W0 G' 0 v c → Rel W0 G' H' w' → Ext G H w G' w' → Gr G' H H' → K (a.put o.dst c) w') : wpOp P ops Q i K a w := by
  unfold wpOp
  simp only [ho]
  unfold stepA at hs
  rw [comp1_dst] at hs
  split at hs
  · rename_i hw
    split at hs
    · rename_i v H1 hi
      cases hs
      rcases comp1_ins (P := P) md ops o with hc | ⟨hc, _⟩
      · rw [hc] at hi
        rcases wanted_sound hF hw with hb | hb
        · rw [hb.1] at hc; rw [← hc] at hi; simp [insA] at hi
        · rw [if_pos hb]
          exact .inl (ins_sound RS hF hR hi fun c G' w' q1 q2 q3 q4 => hK v c G' w' rfl q1 q2 q3 q4)
      · rw [hc] at hi; simp [insA] at hi
    · cases hs
  · rename_i hw
    cases hs
    rcases wanted_sound hF hw with hb | hb
    · rw [hb.2] at hw; simp [wantedA] at hw
    · rw [hb]
      exact hK .skp _ G w rfl .skp hR (Ext.refl _ _ _) (Gr.same rfl)
  · cases hs
end
end Go.X

/-! A region whose order is open. -/
set_option linter.unusedSimpArgs false
set_option linter.unusedVariables false
namespace Go.X
open Go Go.RowKit

/-! ### What lies before what -/
def maskA (acc : List Nat) (o : Oper) : Nat := o.after.toList.foldl (fun s e => if Region.binds .any e then s ||| 2 ^ e.on ||| acc.getD e.on 0 else s) 0

def befA : List Nat → List Oper → List Nat
  | acc, [] => acc
  | acc, o :: rest => befA (acc ++ [maskA acc o]) rest

def dirA (ops : Array Oper) (j i : Nat) : Prop := ∃ o, ops[j]? = some o ∧ ∃ e ∈ o.after, Region.binds .any e = true ∧ e.on = i

inductive Tr (ops : Array Oper) : Nat → Nat → Prop where
  | one {j i : Nat} (h : dirA ops j i) : Tr ops j i
  | cons {j k i : Nat} (h : dirA ops j k) (t : Tr ops k i) : Tr ops j i

theorem maskA_spec {ops : Array Oper} {acc : List Nat} {o : Oper} {j : Nat} (ho : ops[j]? = some o) (hacc : ∀ k i, (acc.getD k 0).testBit i = true → Tr ops k i) {i : Nat} (h : (maskA acc o).testBit i = true) : Tr ops j i := by
  unfold maskA at h
  have key : ∀ (l : List Edge) (s : Nat), (∀ e ∈ l, e ∈ o.after) → (s.testBit i = true → Tr ops j i) → ((l.foldl (fun s e => if Region.binds .any e then s ||| 2 ^ e.on ||| acc.getD e.on 0 else s) s).testBit i = true → Tr ops j i) := by
    intro l
    induction l with
    | nil => intro s _ hs h; exact hs h
    | cons e l ih =>
      intro s hl hs h
      simp only [List.foldl_cons] at h
      refine ih _ (fun e' he' => hl e' (List.mem_cons_of_mem _ he')) ?_ h
      intro hb
      split at hb
      · rename_i hbind
        have hd : dirA ops j e.on := ⟨o, ho, e, hl e (by simp), hbind, rfl⟩
        rw [Nat.testBit_or, Nat.testBit_or, Bool.or_eq_true, Bool.or_eq_true] at hb
        rcases hb with (hb | hb) | hb
        · exact hs hb
        · have : e.on = i := by
            by_cases he : e.on = i
            · exact he
            · rw [Nat.testBit_two_pow_of_ne he] at hb; cases hb
          exact this ▸ .one hd
        · exact .cons hd (hacc _ _ hb)
      · exact hs hb
  exact key o.after.toList 0 (fun e he => by simpa using he) (by simp) h

theorem befA_spec {ops : Array Oper} : ∀ (l : List Oper) (acc : List Nat), (∀ k, ops[acc.length + k]? = l[k]?) → (∀ k i, (acc.getD k 0).testBit i = true → Tr ops k i) → ∀ k i, ((befA acc l).getD k 0).testBit i = true → Tr ops k i
  | [], acc, _, h => h
  | o :: rest, acc, hl, h => by
    refine befA_spec rest (acc ++ [maskA acc o]) (fun k => ?_) (fun k i hk => ?_)
    · have := hl (k + 1)
      simp only [List.length_append, List.length_cons, List.length_nil] at *
      rw [show acc.length + (0 + 1) + k = acc.length + (k + 1) by omega, this]; simp
    · have h0 := hl 0
      simp only [Nat.add_zero, List.getElem?_cons_zero] at h0
      simp only [List.getD_eq_getElem?_getD, List.getElem?_append] at hk
      split at hk
      · exact h k i (by simpa [List.getD_eq_getElem?_getD] using hk)
      · rename_i hge
        by_cases hke : k = acc.length
        · subst hke
          simp at hk
          exact maskA_spec h0 h hk
        · rw [List.getElem?_eq_none (by simp; omega)] at hk
          simp at hk

def nedst (x y : Op1) : Bool := match x.dst, y.dst with
  | some a, some b => a != b
  | _, _ => true

def apartA (x y : Op1) : Bool :=
  (match x.dst with | some d => !(readsO y).contains d | none => true) && (match y.dst with | some d => !(readsO x).contains d | none => true) && decide (memK x.ins * memK y.ins < 2)

def op0 : Op1 := ⟨none, none, .bad⟩

/-- Neither looks at what the other one sets. -/
def apartR (x y : Op1) : Bool :=
  (match x.dst with | some d => !(readsO y).contains d | none => true) && (match y.dst with | some d => !(readsO x).contains d | none => true)

/-- An operation that makes a slice, and a store into an object that is made in the same region. -/
def apartB (is : List Op1) (i j : Nat) : Bool :=
  apartR (is.getD i op0) (is.getD j op0) && (match (is.getD i op0).ins with | .mks .. => true | _ => false) &&
    (match (is.getD j op0).ins with
      | .store _ (.t d) _ => (List.range j).any fun m => (is.getD m op0).dst == some d && (match (is.getD m op0).ins with | .alloc _ => true | _ => false)
      | _ => false)

/-- An operation that reads an object, and a store into another one. -/
def apartC (is : List Op1) (i j : Nat) : Bool :=
  apartR (is.getD i op0) (is.getD j op0) &&
    (match (is.getD i op0).ins, (is.getD j op0).ins with
      | .load _ (.t p), .store _ (.t q) _ => ((is.drop i).all fun o => o.dst != some p) && ((is.drop j).all fun o => o.dst != some q)
      | _, _ => false)

/-- What must be looked at: that the two are apart. -/
def chkP (is : List Op1) (i j : Nat) : Op1 := match (is.getD i op0).ins, (is.getD j op0).ins with
  | .load _ p, .store _ q _ => ⟨none, none, .apt p q⟩
  | _, _ => op0

def chks (ops : Array Oper) (is : List Op1) : List Op1 :=
  let b := befA [] ops.toList
  (List.range is.length).flatMap fun j => ((List.range j).filter fun i => !((b.getD j 0).testBit i || apartA (is.getD i op0) (is.getD j op0) || apartB is i j)).map fun i => chkP is i j

def okDraw (ops : Array Oper) (is : List Op1) : Bool :=
  let b := befA [] ops.toList
  (List.range is.length).all fun j =>
    (match ops[j]? with | some o => o.after.all fun e => !Region.binds .any e || decide (e.on < j) | none => false) &&
    ((List.range j).all fun i => nedst (is.getD i op0) (is.getD j op0) && ((b.getD j 0).testBit i || apartA (is.getD i op0) (is.getD j op0) || apartB is i j || apartC is i j))

/-! ### The text's own run -/
theorem trace {R : Nat → List AV → Heap → Option (AV × Heap)} : ∀ (is : List Op1) (fr0 : List AV) (H0 : Heap) (frN : List AV) (HN : Heap), opsA R is fr0 H0 = some (frN, HN) →
    ∃ (F : Nat → List AV) (Hp : Nat → Heap) (V : Nat → AV), F 0 = fr0 ∧ Hp 0 = H0 ∧ F is.length = frN ∧ Hp is.length = HN ∧
      ∀ (k : Nat) (o : Op1), is[k]? = some o → stepA R o (F k) (Hp k) = some (F (k + 1), Hp (k + 1)) ∧ F (k + 1) = putA (F k) o.dst (V k) ∧
        ((wantedA o.guard (F k) = some true ∧ insA R o.ins (F k) (Hp k) = some (V k, Hp (k + 1))) ∨ (wantedA o.guard (F k) = some false ∧ V k = .skp ∧ Hp (k + 1) = Hp k))
  | [], fr0, H0, frN, HN, h => by
    simp only [opsA, Option.some.injEq, Prod.mk.injEq] at h
    exact ⟨fun _ => fr0, fun _ => H0, fun _ => .undef, rfl, rfl, h.1, h.2, fun k o hk => by simp at hk⟩
  | o :: rest, fr0, H0, frN, HN, h => by
    simp only [opsA] at h
    cases hs : stepA R o fr0 H0 with
    | none => simp [hs] at h
    | some r =>
      obtain ⟨fr1, H1⟩ := r
      simp only [hs] at h
      obtain ⟨F, Hp, V, h1, h2, h3, h4, h5⟩ := trace rest fr1 H1 frN HN h
      have hv : ∃ v, fr1 = putA fr0 o.dst v ∧ ((wantedA o.guard fr0 = some true ∧ insA R o.ins fr0 H0 = some (v, H1)) ∨ (wantedA o.guard fr0 = some false ∧ v = .skp ∧ H1 = H0)) := by
        unfold stepA at hs
        split at hs
        · rename_i hw
          split at hs
          · rename_i v H2 hi; cases hs; exact ⟨v, rfl, .inl ⟨hw, hi⟩⟩
          · cases hs
        · rename_i hw; cases hs; exact ⟨.skp, rfl, .inr ⟨hw, rfl, rfl⟩⟩
        · cases hs
      obtain ⟨v, hv1, hv2⟩ := hv
      refine ⟨fun k => match k with | 0 => fr0 | k + 1 => F k, fun k => match k with | 0 => H0 | k + 1 => Hp k, fun k => match k with | 0 => v | k + 1 => V k, rfl, rfl, h3, h4, fun k o' hk => ?_⟩
      cases k with
      | zero =>
        simp only [List.getElem?_cons_zero, Option.some.injEq] at hk
        subst hk
        refine ⟨by simp only [h1, h2]; exact hs, by simp only [h1]; exact hv1, ?_⟩
        simp only [h2]; exact hv2
      | succ k => exact h5 k o' (by simpa using hk)

/-- Only what is looked at. -/
def maskF (fr : List AV) (rs : List Nat) : List AV := (List.range fr.length).map fun t => if rs.contains t then fr.getD t .undef else .undef

theorem maskF_get {fr : List AV} {rs : List Nat} {t : Nat} (h : t ∈ rs) : (maskF fr rs).getD t .undef = fr.getD t .undef := by
  unfold maskF
  rcases Nat.lt_or_ge t fr.length with hl | hl
  · simp only [List.getD_eq_getElem?_getD, List.getElem?_map, List.getElem?_range hl, Option.map_some, Option.getD_some]
    rw [if_pos (by simpa using h)]
  · rw [List.getD_eq_getElem?_getD, List.getElem?_eq_none (by simpa using hl), List.getD_eq_getElem?_getD, List.getElem?_eq_none hl]

theorem maskF_not {fr : List AV} {rs : List Nat} {t : Nat} (h : t ∉ rs) : (maskF fr rs).getD t .undef = .undef := by
  unfold maskF
  rcases Nat.lt_or_ge t fr.length with hl | hl
  · simp only [List.getD_eq_getElem?_getD, List.getElem?_map, List.getElem?_range hl, Option.map_some, Option.getD_some]
    rw [if_neg (by simpa using h)]
  · rw [List.getD_eq_getElem?_getD, List.getElem?_eq_none (by simpa using hl)]; rfl

theorem wantedA_congr {g : Option (Nat × Bool)} {fr fr' : List AV} (h : ∀ t ∈ gT g, fr.getD t .undef = fr'.getD t .undef) : wantedA g fr = wantedA g fr' := by
  cases g with
  | none => rfl
  | some p => obtain ⟨t, b⟩ := p; simp only [wantedA]; rw [h t (by simp [gT])]

theorem step_mask {R : Nat → List AV → Heap → Option (AV × Heap)} {o : Op1} {fr : List AV} {H H' : Heap} {v : AV}
    (h : (wantedA o.guard fr = some true ∧ insA R o.ins fr H = some (v, H')) ∨ (wantedA o.guard fr = some false ∧ v = .skp ∧ H' = H)) :
    stepA R o (maskF fr (readsO o)) H = some (putA (maskF fr (readsO o)) o.dst v, H') := by
  have hw : wantedA o.guard (maskF fr (readsO o)) = wantedA o.guard fr := wantedA_congr fun t ht => maskF_get (by simp [readsO, ht])
  have hi : insA R o.ins (maskF fr (readsO o)) H = insA R o.ins fr H := ins_congr fun t ht => maskF_get (by simp [readsO, ht])
  unfold stepA
  rw [hw, hi]
  rcases h with ⟨h1, h2⟩ | ⟨h1, rfl, rfl⟩
  · rw [h1]; simp only [h2]
  · rw [h1]

theorem putA_length (fr : List AV) (d : Option Nat) (v : AV) : (putA fr d v).length = fr.length := by
  cases d <;> simp [putA]

theorem putA_get (fr : List AV) (d : Option Nat) (v : AV) (t : Nat) : (putA fr d v).getD t .undef = if d = some t ∧ t < fr.length then v else fr.getD t .undef := by
  cases d with
  | none => simp [putA]
  | some d =>
    simp only [putA, List.getD_eq_getElem?_getD, List.getElem?_set, Option.some.injEq]
    by_cases e : d = t
    · subst e
      by_cases hl : d < fr.length
      · simp [hl]
      · simp [hl]
    · simp [e]

theorem putA_inj {fr : List AV} {d : Nat} {v u : AV} (h : putA fr (some d) v = putA fr (some d) u) (hd : d < fr.length) : v = u := by
  have h1 := putA_get fr (some d) v d
  have h2 := putA_get fr (some d) u d
  rw [h] at h1
  rw [h1] at h2
  simpa [hd] using h2

theorem count_set : ∀ (l : List Bool) (j : Nat), l[j]? = some false → (l.set j true).count false + 1 = l.count false
  | [], j, h => by simp at h
  | b :: l, 0, h => by simp at h; subst h; simp
  | b :: l, j + 1, h => by
    have := count_set l j (by simpa using h)
    simp only [List.set_cons_succ, List.count_cons]
    omega

theorem wp_exists {P : Program} {o : Oper} {a : Act} {w : World} {K : Act → World → Prop} (h : o.wp P a w K (fun _ _ _ => False)) : ∃ a' w', K a' w' := by
  unfold Oper.wp at h
  generalize (execOp a.eval o).run P w = r at h
  cases r with
  | ok n w' =>
    cases n <;> simp only [Oper.upon] at h <;> first
      | exact ⟨_, _, h⟩
      | (obtain ⟨e, w2, fr, hr, _⟩ := h []; cases e <;> first | exact ⟨_, _, hr⟩ | exact hr.elim | (obtain ⟨_, _, hf⟩ := hr; exact hf.elim))
      | (obtain ⟨v, w2, hr, _⟩ := h default []; exact ⟨_, _, hr⟩)
  | halt x w' => cases x <;> simp only [Oper.upon] at h

theorem wpOp_exists {P : Program} {ops : Array Oper} {i : Nat} {a : Act} {w : World} {K : Act → World → Prop} (h : wpOp P ops (fun _ _ _ => False) i K a w) : ∃ a' w', K a' w' := by
  unfold wpOp at h
  split at h
  · exact ⟨_, _, h⟩
  · split at h
    · rcases h with h | ⟨_, _, _, hf⟩
      · exact wp_exists h
      · exact hf.elim
    · exact ⟨_, _, h⟩

section
variable {P : Program} {W0 : World} {G : Gh} {H : Heap} {w : World}

theorem Gr.trans {G' : Gh} {H' H'' : Heap} (h : Gr G H H') (hle : Le 0 G G') (k : Gr G' H' H'') : Gr G' H H'' := by
  refine ⟨Nat.le_trans h.len k.len, fun id h1 h2 => ?_⟩
  rcases Nat.lt_or_ge id H'.length with hl | hl
  · obtain ⟨⟨v, b, S⟩, hx⟩ := h.tot id h1 hl
    obtain ⟨v', b', S', hx', _⟩ := hle.ob rfl _ _ _ _ hx
    exact ⟨_, hx'⟩
  · exact k.tot id hl h2

/-- The text's run has worlds of its own. -/
theorem trace_worlds {R : Nat → List AV → Heap → Option (AV × Heap)} (RS : CallSound P W0 R) {md : Nat → Nat} {ops : Array Oper} {fr0 : List AV} {H0 : Heap} {F : Nat → List AV} {Hp : Nat → Heap} (hF0 : F 0 = fr0) (hH0 : Hp 0 = H0)
    (hst : ∀ (k : Nat) (o : Op1), (compOps P md ops)[k]? = some o → stepA R o (F k) (Hp k) = some (F (k + 1), Hp (k + 1))) {a0 : Act} {w0 : World} {G0 : Gh} (hF : FR W0 G0 fr0 a0.tmps) (hR : Rel W0 G0 H0 w0) :
    ∀ k, k ≤ ops.size → ∃ G w a, FR W0 G (F k) (Act.tmps a) ∧ Rel W0 G (Hp k) w ∧ Ext G0 H0 w0 G w ∧ Gr G H0 (Hp k)
  | 0, _ => ⟨G0, w0, a0, by rw [hF0]; exact hF, by rw [hH0]; exact hR, Ext.refl _ _ _, Gr.same (by rw [hH0])⟩
  | k + 1, hk => by
    obtain ⟨G, w, a, h1, h2, h3, h4⟩ := trace_worlds RS hF0 hH0 hst hF hR k (by omega)
    have ho : ops[k]? = some ops[k] := by simp
    have ho' : (compOps P md ops)[k]? = some (comp1 P md ops ops[k]) := by simp [compOps, ho]
    have hs := hst k _ ho'
    have := step_sound (Q := fun _ _ _ => False) RS ho (K := fun a' w' => ∃ G', FR W0 G' (F (k + 1)) a'.tmps ∧ Rel W0 G' (Hp (k + 1)) w' ∧ Ext G (Hp k) w G' w' ∧ Gr G' (Hp k) (Hp (k + 1))) h1 h2 hs
      (fun v c G' w' q1 q2 q3 q4 q5 => ⟨G', by rw [q1]; exact (h1.mono q4.le).put _ q2, q3, q4, q5⟩)
    obtain ⟨a', w', G', q1, q2, q3, q4⟩ := wpOp_exists this
    exact ⟨G', w', a', q1, q2, h3.trans h4.len q3, h4.trans q3.le q4⟩
end
end Go.X

/-! A region whose order is open: whatever order is taken comes to what the text's own order comes to. -/
set_option linter.unusedSimpArgs false
set_option linter.unusedVariables false
namespace Go.X
open Go Go.RowKit

section
variable {P : Program} {W0 : World} {G : Gh} {H : Heap} {w : World}

/-- An operation that makes a slice, and a store into an object that is made in the same region. -/
def ApB (P : Program) (md : Nat → Nat) (ops : Array Oper) (i j : Nat) : Prop :=
  (∃ x esz bytes z l c, ops[i]? = some x ∧ (comp1 P md ops x).ins = .mks esz bytes z l c) ∧
  ∃ y n d v, ops[j]? = some y ∧ (comp1 P md ops y).ins = .store n (.t d) v ∧ ∃ m o z, m < j ∧ ops[m]? = some o ∧ o.dst = some d ∧ (comp1 P md ops o).ins = .alloc z

/-- An operation that reads an object, and a store into another one. -/
def ApC (P : Program) (md : Nat → Nat) (ops : Array Oper) (F : Nat → List AV) (i j : Nat) : Prop :=
  ∃ x y n t m q v, ops[i]? = some x ∧ (comp1 P md ops x).ins = .load n (.t t) ∧ ops[j]? = some y ∧ (comp1 P md ops y).ins = .store m (.t q) v ∧ apartV ((F i).getD t .undef) ((F j).getD q .undef) = true

/-- All that a region's proof holds fixed. -/
structure Reg (P : Program) (W0 : World) (R : Nat → List AV → Heap → Option (AV × Heap)) (md : Nat → Nat) (ops : Array Oper) (fr0 : List AV) (H0 : Heap) (G0 : Gh) (w0 : World) (F : Nat → List AV) (Hp : Nat → Heap) (V : Nat → AV) : Prop where
  RS : CallSound P W0 R
  f0 : F 0 = fr0
  h0 : Hp 0 = H0
  st : ∀ (k : Nat) (o : Oper), ops[k]? = some o → stepA R (comp1 P md ops o) (F k) (Hp k) = some (F (k + 1), Hp (k + 1)) ∧ F (k + 1) = putA (F k) o.dst (V k) ∧
        ((wantedA (comp1 P md ops o).guard (F k) = some true ∧ insA R (comp1 P md ops o).ins (F k) (Hp k) = some (V k, Hp (k + 1))) ∨ (wantedA (comp1 P md ops o).guard (F k) = some false ∧ V k = .skp ∧ Hp (k + 1) = Hp k))
  tw : ∀ k, k ≤ ops.size → ∃ G w a, FR W0 G (F k) (Act.tmps a) ∧ Rel W0 G (Hp k) w ∧ Ext G0 H0 w0 G w ∧ Gr G H0 (Hp k)
  back : ∀ (j : Nat) (o : Oper), ops[j]? = some o → ∀ e ∈ o.after, Region.binds .any e = true → e.on < j
  ne : ∀ (i j : Nat) (x y : Oper) (d : Nat), ops[i]? = some x → ops[j]? = some y → i ≠ j → x.dst = some d → y.dst ≠ some d
  ord : ∀ (i j : Nat) (x y : Oper), i < j → ops[i]? = some x → ops[j]? = some y → Tr ops j i ∨ (apartR (comp1 P md ops x) (comp1 P md ops y) = true ∧ (memK (comp1 P md ops x).ins * memK (comp1 P md ops y).ins < 2 ∨ ApB P md ops i j ∨ ApC P md ops F i j))

variable {R : Nat → List AV → Heap → Option (AV × Heap)} {md : Nat → Nat} {ops : Array Oper} {fr0 : List AV} {H0 : Heap} {G0 : Gh} {w0 : World} {F : Nat → List AV} {Hp : Nat → Heap} {V : Nat → AV}

def kindOf (P : Program) (md : Nat → Nat) (ops : Array Oper) (k : Nat) : Nat := match ops[k]? with
  | some o => memK (comp1 P md ops o).ins
  | none => 0

def dstOf (ops : Array Oper) (k : Nat) : Option Nat := (ops[k]?).bind (·.dst)

theorem Reg.len (g : Reg P W0 R md ops fr0 H0 G0 w0 F Hp V) : ∀ k, k ≤ ops.size → (F k).length = fr0.length
  | 0, _ => by rw [g.f0]
  | k + 1, hk => by
    have ho : ops[k]? = some ops[k] := by simp
    rw [(g.st k _ ho).2.1, putA_length, g.len k (by omega)]

/-- The frame at step k. -/
theorem Reg.get (g : Reg P W0 R md ops fr0 H0 G0 w0 F Hp V) (t : Nat) (ht : t < fr0.length) : ∀ k, k ≤ ops.size →
    (∃ j, j < k ∧ dstOf ops j = some t ∧ (F k).getD t .undef = V j) ∨ ((∀ j, j < k → dstOf ops j ≠ some t) ∧ (F k).getD t .undef = fr0.getD t .undef)
  | 0, _ => .inr ⟨fun j hj => by omega, by rw [g.f0]⟩
  | k + 1, hk => by
    have ho : ops[k]? = some ops[k] := by simp
    have hd : dstOf ops k = (ops[k]).dst := by simp [dstOf, ho]
    have hst := (g.st k _ ho).2.1
    rw [hst, putA_get, g.len k (by omega)]
    by_cases e : (ops[k]).dst = some t
    · rw [if_pos ⟨e, ht⟩]
      exact .inl ⟨k, by omega, by rw [hd]; exact e, rfl⟩
    · rw [if_neg (fun h => e h.1)]
      rcases g.get t ht k (by omega) with ⟨j, h1, h2, h3⟩ | ⟨h1, h2⟩
      · exact .inl ⟨j, by omega, h2, h3⟩
      · refine .inr ⟨fun j hj => ?_, h2⟩
        by_cases ej : j = k
        · subst ej; rw [hd]; exact e
        · exact h1 j (by omega)

theorem Reg.heapLe (g : Reg P W0 R md ops fr0 H0 G0 w0 F Hp V) {k : Nat} (hk : k < ops.size) : (kindOf P md ops k ≤ 1 → ∃ l, Hp (k + 1) = Hp k ++ l) := by
  intro hkind
  have ho : ops[k]? = some ops[k] := by simp [hk]
  simp only [kindOf, ho] at hkind
  rcases (g.st k _ ho).2.2 with ⟨_, h2⟩ | ⟨_, _, h3⟩
  · exact ins_grows hkind h2
  · exact ⟨[], by simp [h3]⟩

/-- Between writers the heap only grows. -/
theorem Reg.pre (g : Reg P W0 R md ops fr0 H0 G0 w0 F Hp V) (i : Nat) : ∀ d, i + d ≤ ops.size → (∀ k, i ≤ k → k < i + d → kindOf P md ops k ≤ 1) → ∃ l, Hp (i + d) = Hp i ++ l
  | 0, _, _ => ⟨[], by simp⟩
  | d + 1, h, hk => by
    obtain ⟨l, hl⟩ := g.pre i d (by omega) (fun k h1 h2 => hk k h1 (by omega))
    obtain ⟨l', hl'⟩ := g.heapLe (k := i + d) (by omega) (hk _ (by omega) (by omega))
    exact ⟨l ++ l', by rw [show i + (d + 1) = i + d + 1 by omega, hl', hl]; simp⟩

theorem Reg.pre' (g : Reg P W0 R md ops fr0 H0 G0 w0 F Hp V) {i j : Nat} (hij : i ≤ j) (hj : j ≤ ops.size) (hk : ∀ k, i ≤ k → k < j → kindOf P md ops k ≤ 1) : ∃ l, Hp j = Hp i ++ l := by
  obtain ⟨l, hl⟩ := g.pre i (j - i) (by omega) (fun k h1 h2 => hk k h1 (by omega))
  exact ⟨l, by rwa [show i + (j - i) = j by omega] at hl⟩

/-- The objects that the text knows at step k. -/
def Dk (H0 : Heap) (G0 : Gh) (Hp : Nat → Heap) (k id : Nat) : Prop := (id < H0.length ∧ ∃ x, G0.ob id = some x) ∨ (H0.length ≤ id ∧ id < (Hp k).length)

theorem Reg.dom (g : Reg P W0 R md ops fr0 H0 G0 w0 F Hp V) {k : Nat} (hk : k ≤ ops.size) :
    (∀ t, t < fr0.length → Sc (Dk H0 G0 Hp k) ((F k).getD t .undef)) ∧ (∀ id, Dk H0 G0 Hp k id → ∀ o, (Hp k)[id]? = some o → ∀ j, j < o.cells.length → Sc (Dk H0 G0 Hp k) (o.cells.getD j .undef)) ∧ H0.length ≤ (Hp k).length := by
  obtain ⟨G, w, a, h1, h2, h3, h4⟩ := g.tw k hk
  have hd : ∀ id, (∃ x, G.ob id = some x) → Dk H0 G0 Hp k id := by
    rintro id ⟨⟨v, b, S⟩, hx⟩
    have hlt := h2.dom _ _ _ _ hx
    rcases Nat.lt_or_ge id H0.length with hl | hl
    · refine .inl ⟨hl, ?_⟩
      cases hq : G0.ob id with
      | none => have := (h3.new _ _ _ _ hx hq).1; omega
      | some x => exact ⟨x, rfl⟩
    · exact .inr ⟨hl, hlt⟩
  refine ⟨fun t ht => ((h1.2 t (by rw [g.len k hk]; exact ht)).sc).mono hd, fun id hid o ho j hj => ?_, h4.len⟩
  have hx : ∃ x, G.ob id = some x := by
    rcases hid with ⟨hl, ⟨⟨v, b, S⟩, hx⟩⟩ | ⟨hl, hl'⟩
    · obtain ⟨v', b', S', hx', _⟩ := h3.le.ob rfl _ _ _ _ hx
      exact ⟨_, hx'⟩
    · exact h4.tot id hl hl'
  obtain ⟨⟨v, b, S⟩, hx⟩ := hx
  obtain ⟨o', cs, cr, t, k1, k2, k3, k4, k5, k6⟩ := h2.obj _ _ _ _ hx
  rw [ho] at k1; cases k1
  exact ((k6.2 j hj).sc).mono hd

open Classical in
/-- What a place holds when the operations of L are made. -/
noncomputable def cur (ops : Array Oper) (fr0 : List AV) (V : Nat → AV) (L : Nat → Prop) (t : Nat) : AV :=
  if h : ∃ k, k < ops.size ∧ L k ∧ dstOf ops k = some t then V (Classical.choose h) else fr0.getD t .undef

theorem Reg.cur_of (g : Reg P W0 R md ops fr0 H0 G0 w0 F Hp V) {L : Nat → Prop} {k t : Nat} (hk : k < ops.size) (hL : L k) (hd : dstOf ops k = some t) : cur ops fr0 V L t = V k := by
  have h : ∃ k, k < ops.size ∧ L k ∧ dstOf ops k = some t := ⟨k, hk, hL, hd⟩
  unfold cur
  rw [dif_pos h]
  obtain ⟨c1, c2, c3⟩ := Classical.choose_spec h
  generalize Classical.choose h = m at c1 c2 c3
  by_cases e : m = k
  · rw [e]
  · exfalso
    have ho : ops[k]? = some ops[k] := by simp [hk]
    have ho' : ops[m]? = some ops[m] := by simp [c1]
    simp only [dstOf, ho, Option.bind_some] at hd
    simp only [dstOf, ho', Option.bind_some] at c3
    exact g.ne _ _ _ _ t ho' ho e c3 hd

theorem cur_none {L : Nat → Prop} {t : Nat} (h : ∀ k, k < ops.size → L k → dstOf ops k ≠ some t) : cur ops fr0 V L t = fr0.getD t .undef := by
  unfold cur
  rw [dif_neg]
  rintro ⟨k, h1, h2, h3⟩
  exact h k h1 h2 h3

structure Inv (P : Program) (W0 : World) (md : Nat → Nat) (ops : Array Oper) (fr0 : List AV) (H0 : Heap) (G0 : Gh) (w0 : World) (Hp : Nat → Heap) (V : Nat → AV) (L : Nat → Prop) (a : Act) (w : World) (G : Gh) (e : Nat) : Prop where
  le : e ≤ ops.size
  wr : ∀ k, k < e → kindOf P md ops k = 2 → L k
  now : e < ops.size → kindOf P md ops e = 2 ∧ ¬ L e
  size : fr0.length ≤ a.tmps.size
  fr : ∀ t, t < fr0.length → VR W0 G 0 (cur ops fr0 V L t) (a.tmps.getD t Go.undef)
  rel : Rel W0 G (Hp e) w
  dom : ∀ id, (∃ x, G.ob id = some x) ↔ ((id < H0.length ∧ ∃ x, G0.ob id = some x) ∨ ∃ k, k < ops.size ∧ L k ∧ (Hp k).length ≤ id ∧ id < (Hp (k + 1)).length)
  ext : Ext G0 H0 w0 G w
  dfr : a.defers = []

def Cl (ops : Array Oper) (L : Nat → Prop) : Prop := ∀ j, L j → ∀ i, dirA ops j i → L i

theorem Cl.tr {L : Nat → Prop} (h : Cl ops L) {j i : Nat} (t : Tr ops j i) : L j → L i := by
  induction t with
  | one hd => exact fun hj => h _ hj _ hd
  | cons hd _ ih => exact fun hj => ih (h _ hj _ hd)

theorem Cl.tr' {L : Nat → Prop} (h : Cl ops L) {j i : Nat} (t : Tr ops j i) (hr : ∀ i, dirA ops j i → L i) : L i := by
  cases t with
  | one hd => exact hr _ hd
  | cons hd t => exact h.tr t (hr _ hd)

theorem apart_reads {x y : Op1} (h : apartR x y = true) : (∀ d, x.dst = some d → d ∉ readsO y) ∧ (∀ d, y.dst = some d → d ∉ readsO x) := by
  simp only [apartR, Bool.and_eq_true] at h
  refine ⟨fun d hd => ?_, fun d hd => ?_⟩
  · have := h.1; rw [hd] at this; simpa using this
  · have := h.2; rw [hd] at this; simpa using this

theorem memK_le (i : Ins) : memK i ≤ 2 := by
  cases i <;> simp only [memK] <;> (try split) <;> omega

theorem kind_le (k : Nat) : kindOf P md ops k ≤ 2 := by
  unfold kindOf; split
  · exact memK_le _
  · omega

/-- What an operation that is ready looks at is what it looks at in the text's order. -/
theorem Reg.looks (g : Reg P W0 R md ops fr0 H0 G0 w0 F Hp V) {L : Nat → Prop} (hcl : Cl ops L) {j : Nat} {o : Oper} (ho : ops[j]? = some o) (hj : ¬ L j) (hr : ∀ i, dirA ops j i → L i) {t : Nat} (ht : t < fr0.length) (hread : t ∈ readsO (comp1 P md ops o)) :
    cur ops fr0 V L t = (F j).getD t .undef := by
  have hjs : j < ops.size := by
    rcases Nat.lt_or_ge j ops.size with h | h
    · exact h
    · rw [Array.getElem?_eq_none h] at ho; cases ho
  have hdst : ∀ (k : Nat) (x : Oper), ops[k]? = some x → dstOf ops k = some t → x.dst = some t := fun k x hx hd => by simpa [dstOf, hx] using hd
  rcases g.get t ht j (by omega) with ⟨k, h1, h2, h3⟩ | ⟨h1, h2⟩
  · rw [h3]
    have hks : k < ops.size := by omega
    have hk : ops[k]? = some ops[k] := by simp [hks]
    refine g.cur_of hks ?_ h2
    rcases g.ord k j _ _ h1 hk ho with ht' | hap
    · exact hcl.tr' ht' hr
    · exact absurd hread ((apart_reads hap.1).1 t (by rw [comp1_dst]; exact hdst _ _ hk h2))
  · rw [h2]
    refine cur_none fun k hks hLk hd => ?_
    have hk : ops[k]? = some ops[k] := by simp [hks]
    rcases Nat.lt_trichotomy k j with hlt | heq | hgt
    · exact h1 k hlt hd
    · subst heq; exact hj hLk
    · rcases g.ord j k _ _ hgt ho hk with ht' | hap
      · exact hj (hcl.tr ht' hLk)
      · exact (apart_reads hap.1).2 t (by rw [comp1_dst]; exact hdst _ _ hk hd) hread

def addL (L : Nat → Prop) (j : Nat) : Nat → Prop := fun k => L k ∨ k = j

/-- The frame behind one more. -/
theorem Reg.fr_step (g : Reg P W0 R md ops fr0 H0 G0 w0 F Hp V) {L : Nat → Prop} {j : Nat} {o : Oper} (ho : ops[j]? = some o) (hj : ¬ L j) {a : Act} {G G' : Gh} (hsz : fr0.length ≤ a.tmps.size) (hfr : ∀ t, t < fr0.length → VR W0 G 0 (cur ops fr0 V L t) (a.tmps.getD t Go.undef)) (hle : Le 0 G G')
    {m : List AV} (hm : m.length = fr0.length) {v : AV} {c : Value} (hput : putA m o.dst (V j) = putA m o.dst v) (hv : VR W0 G' 0 v c) :
    fr0.length ≤ (a.put o.dst c).tmps.size ∧ ∀ t, t < fr0.length → VR W0 G' 0 (cur ops fr0 V (addL L j) t) ((a.put o.dst c).tmps.getD t Go.undef) := by
  have hjs : j < ops.size := by
    rcases Nat.lt_or_ge j ops.size with h | h
    · exact h
    · rw [Array.getElem?_eq_none h] at ho; cases ho
  have hd : dstOf ops j = o.dst := by simp [dstOf, ho]
  refine ⟨by cases hdo : o.dst <;> simpa [Act.put] using hsz, fun t ht => ?_⟩
  by_cases e : o.dst = some t
  · rw [g.cur_of hjs (.inr rfl) (by rw [hd]; exact e)]
    rw [e] at hput ⊢
    rw [putA_inj hput (by omega)]
    have : t < a.tmps.size := by omega
    simp only [Act.put, Array.getD_eq_getD_getElem?, Array.getElem?_setIfInBounds, if_pos rfl, if_pos this, Option.getD_some]
    exact hv
  · have hc : cur ops fr0 V (addL L j) t = cur ops fr0 V L t := by
      by_cases h : ∃ k, k < ops.size ∧ L k ∧ dstOf ops k = some t
      · obtain ⟨k, h1, h2, h3⟩ := h
        rw [g.cur_of h1 h2 h3, g.cur_of (L := addL L j) h1 (.inl h2) h3]
      · rw [cur_none (fun k h1 h2 h3 => h ⟨k, h1, h2, h3⟩), cur_none]
        rintro k h1 (h2 | rfl) h3
        · exact h ⟨k, h1, h2, h3⟩
        · rw [hd] at h3; exact e h3
    have ht' : (a.put o.dst c).tmps.getD t Go.undef = a.tmps.getD t Go.undef := by
      cases hdo : o.dst with
      | none => rfl
      | some d =>
        have hne : d ≠ t := fun e' => e (by rw [hdo, e'])
        simp only [Act.put, Array.getD_eq_getD_getElem?, Array.getElem?_setIfInBounds_ne hne]
    rw [hc, ht']
    exact (hfr t ht).mono hle

theorem put_defers (a : Act) (d : Option Nat) (c : Value) : (a.put d c).defers = a.defers := by cases d <;> rfl

theorem lt_of_get {ops : Array Oper} {j : Nat} {o : Oper} (ho : ops[j]? = some o) : j < ops.size := by
  rcases Nat.lt_or_ge j ops.size with h | h
  · exact h
  · rw [Array.getElem?_eq_none h] at ho; cases ho

/-- The next operation that may write. -/
theorem next_wr (P : Program) (md : Nat → Nat) (ops : Array Oper) (i : Nat) (hi : i ≤ ops.size) : ∃ e, i ≤ e ∧ e ≤ ops.size ∧ (∀ k, i ≤ k → k < e → kindOf P md ops k ≤ 1) ∧ (e < ops.size → kindOf P md ops e = 2) := by
  have : ∀ d i, i + d = ops.size → ∃ e, i ≤ e ∧ e ≤ ops.size ∧ (∀ k, i ≤ k → k < e → kindOf P md ops k ≤ 1) ∧ (e < ops.size → kindOf P md ops e = 2) := by
    intro d
    induction d with
    | zero => intro i h; exact ⟨i, Nat.le_refl _, by omega, fun k h1 h2 => by omega, fun h' => by omega⟩
    | succ d ih =>
      intro i h
      by_cases hk : kindOf P md ops i = 2
      · exact ⟨i, Nat.le_refl _, by omega, fun k h1 h2 => by omega, fun _ => hk⟩
      · obtain ⟨e, h1, h2, h3, h4⟩ := ih (i + 1) (by omega)
        refine ⟨e, by omega, h2, fun k k1 k2 => ?_, h4⟩
        by_cases e' : k = i
        · subst e'; have := kind_le (P := P) (md := md) (ops := ops) k; omega
        · exact h3 k (by omega) k2
  exact this (ops.size - i) i (by omega)

theorem Ext.low {G G' : Gh} {H H' : Heap} {w w' : World} (h : Ext G H w G' w') (hl : H'.length ≤ H.length) : Ext G H' w G' w' :=
  { h with new := fun id v b S h1 h2 => ⟨Nat.le_trans hl (h.new _ _ _ _ h1 h2).1, (h.new _ _ _ _ h1 h2).2⟩ }

theorem get_app {α : Type} {l l' : List α} {i : Nat} {x : α} (h : (l ++ l')[i]? = some x) (hi : i < l.length) : l[i]? = some x := by
  rwa [List.getElem?_append_left hi] at h

theorem app_get {α : Type} {l l' : List α} {i : Nat} {x : α} (h : l[i]? = some x) : (l ++ l')[i]? = some x := by
  have hi : i < l.length := by
    rcases Nat.lt_or_ge i l.length with h' | h'
    · exact h'
    · rw [List.getElem?_eq_none h'] at h; cases h
  rwa [List.getElem?_append_left hi]

open Classical in
/-- The ghost behind an operation that only makes new objects. -/
noncomputable def Gh.mix (G G2 : Gh) (lo hi : Nat) : Gh where
  ob := fun id => if lo ≤ id ∧ id < hi then G2.ob id else G.ob id
  C := G2.C
  D := G.D

/-- What a few objects know is left as it was: the rest of the heap may be there or not. -/
theorem Rel.mix {G G2 : Gh} {Hj Hj1 He H0 : Heap} {w w' : World} (hR : Rel W0 G He w) (hpre : ∃ l, He = Hj1 ++ l) (hpre1 : ∃ l, Hj1 = Hj ++ l) (h0 : H0.length ≤ Hj.length)
    (hout : ∀ id x, G.ob id = some x → ¬ (Hj.length ≤ id ∧ id < Hj1.length))
    (hR2 : Rel W0 G2 Hj1 w') (hE : Ext (G.on fun id => id < Hj.length) Hj w G2 w') (hg : Gr G2 Hj Hj1) :
    Rel W0 (G.mix G2 Hj.length Hj1.length) He w' ∧ Ext G H0 w (G.mix G2 Hj.length Hj1.length) w' ∧ Le 0 G2 (G.mix G2 Hj.length Hj1.length) := by
  obtain ⟨l, rfl⟩ := hpre
  obtain ⟨l1, rfl⟩ := hpre1
  have hon : ∀ id x, (G.on fun id => id < Hj.length).ob id = some x → id < Hj.length ∧ G.ob id = some x := fun id x h => by
    simp only [Gh.on] at h; split at h
    · exact ⟨by assumption, h⟩
    · cases h
  have hon' : ∀ id x, id < Hj.length → G.ob id = some x → (G.on fun id => id < Hj.length).ob id = some x := fun id x h1 h2 => by simp [Gh.on, h1, h2]
  -- old objects stand as they stood
  have hsame : ∀ id v b S, id < Hj.length → G.ob id = some (v, b, S) → G2.ob id = some (v, b, S) := by
    intro id v b S hl hx
    obtain ⟨v', b', S', k1, k2, k3⟩ := hE.le.ob rfl _ _ _ _ (hon' _ _ hl hx)
    obtain ⟨o, _, _, _, m1, m2, _⟩ := hR2.obj _ _ _ _ k1
    obtain ⟨o', _, _, _, n1, n2, _⟩ := hR.obj _ _ _ _ hx
    rw [List.append_assoc, List.getElem?_append_left hl] at n1
    rw [List.getElem?_append_left hl] at m1
    rw [m1] at n1; cases n1
    obtain ⟨rfl, rfl⟩ := k3 (by omega)
    have : v = v' := by omega
    rw [this]; exact k1
  have hback : ∀ id x, id < Hj.length → G2.ob id = some x → G.ob id = some x := by
    rintro id ⟨v, b, S⟩ hl hx
    cases hq : (G.on fun id => id < Hj.length).ob id with
    | none => have := (hE.new _ _ _ _ hx hq).1; omega
    | some y =>
      obtain ⟨v1, b1, S1⟩ := y
      have h1 := (hon _ _ hq).2
      rw [hsame _ _ _ _ hl h1] at hx
      rw [h1, hx]
  have hnewb : ∀ id v b S, Hj.length ≤ id → G2.ob id = some (v, b, S) → w.heap.size ≤ b := fun id v b S hl hx =>
    (hE.new _ _ _ _ hx (by simp only [Gh.on]; rw [if_neg (by omega)])).2
  have holdb : ∀ id v b S, G.ob id = some (v, b, S) → b < w.heap.size := fun id v b S hx => by
    obtain ⟨_, _, _, _, _, _, _, h4, _⟩ := hR.obj _ _ _ _ hx
    exact blk_lt' h4
  have hle2 : Le 0 G2 (G.mix G2 Hj.length (Hj ++ l1).length) := by
    refine ⟨fun _ id v b S hx => ⟨v, b, S, ?_, Nat.le_refl _, fun _ => ⟨rfl, rfl⟩⟩, fun _ b s hx => ?_, fun _ _ h => h⟩
    · simp only [Gh.mix]
      split
      · exact hx
      · rename_i hn
        exact hback _ _ (by have := hR2.dom _ _ _ _ hx; omega) hx
    · rw [hE.D] at hx; exact hx
  have hle : Le 0 G (G.mix G2 Hj.length (Hj ++ l1).length) := by
    refine ⟨fun _ id v b S hx => ⟨v, b, S, ?_, Nat.le_refl _, fun _ => ⟨rfl, rfl⟩⟩, fun _ _ _ h => h, fun b s h => hE.le.C _ _ h⟩
    simp only [Gh.mix]
    rw [if_neg (hout _ _ hx)]; exact hx
  have hCn : ∀ b s, G2.C b = some s → G.C b = some s ∨ w.heap.size ≤ b := fun b s h => hE.Cn _ _ h
  have hframe : ∀ b, b < w.heap.size → (∀ id v S, id < Hj.length → G.ob id ≠ some (v, b, S)) → w'.heap[b]? = w.heap[b]? := fun b hb hn =>
    hE.frame b hb (fun id v S hx => hn id v S (hon _ _ hx).1 (hon _ _ hx).2)
  refine ⟨⟨hR2.below, fun id v b S hx => ?_, fun id v b S hx => ?_, fun id id' v b S v' S' hx hx' => ?_, hR2.C, fun b s hx => hR2.D b s (by rw [hE.D]; exact hx), fun id v b S hx => ?_⟩, ⟨hle, rfl, fun id v b S v' b' S' h1 h2 => ?_, fun id v b S h1 h2 => ?_, hCn, hE.size, fun b hb hn => hframe b hb (fun id v S _ => hn id v S)⟩, hle2⟩
  · simp only [Gh.mix] at hx
    split at hx
    · rename_i h; have := h.2; simp at this ⊢; omega
    · exact hR.dom _ _ _ _ hx
  · simp only [Gh.mix] at hx
    split at hx
    · obtain ⟨o, cs, cr, t, k1, k2, k3, k4, k5, k6⟩ := hR2.obj _ _ _ _ hx
      exact ⟨o, cs, cr, t, app_get k1, k2, k3, k4, k5, k6.mono hle2⟩
    · rename_i hn
      rcases Nat.lt_or_ge id Hj.length with hl | hl
      · obtain ⟨o, cs, cr, t, k1, k2, k3, k4, k5, k6⟩ := hR2.obj _ _ _ _ (hsame _ _ _ _ hl hx)
        exact ⟨o, cs, cr, t, app_get k1, k2, k3, k4, k5, k6.mono hle2⟩
      · obtain ⟨o, cs, cr, t, k1, k2, k3, k4, k5, k6⟩ := hR.obj _ _ _ _ hx
        refine ⟨o, cs, cr, t, k1, k2, k3, ?_, k5, k6.mono hle⟩
        rw [hframe b (blk_lt' k4) (fun id' v' S' hl' hx' => by have := hR.inj _ _ _ _ _ _ _ hx' hx; omega)]
        exact k4
  · simp only [Gh.mix] at hx hx'
    split at hx <;> split at hx'
    · exact hR2.inj _ _ _ _ _ _ _ hx hx'
    · rename_i h1 h2; have := hnewb _ _ _ _ h1.1 hx; have := holdb _ _ _ _ hx'; omega
    · rename_i h1 h2; have := hnewb _ _ _ _ h2.1 hx'; have := holdb _ _ _ _ hx; omega
    · exact hR.inj _ _ _ _ _ _ _ hx hx'
  · simp only [Gh.mix] at hx
    split at hx
    · refine ⟨(hR2.ap _ _ _ _ hx).1, ?_⟩
      have := (hR2.ap _ _ _ _ hx).2
      rw [hE.D] at this; exact this
    · refine ⟨?_, (hR.ap _ _ _ _ hx).2⟩
      show G2.C b = none
      cases hq : G2.C b with
      | none => rfl
      | some s =>
        rcases hCn _ _ hq with h | h
        · rw [(hR.ap _ _ _ _ hx).1] at h; cases h
        · have := holdb _ _ _ _ hx; omega
  · simp only [Gh.mix] at h2
    rw [if_neg (hout _ _ h1), h1] at h2
    cases h2; exact .inl rfl
  · simp only [Gh.mix] at h1
    split at h1
    · rename_i h; exact ⟨by omega, hnewb _ _ _ _ h.1 h1⟩
    · rw [h2] at h1; cases h1

theorem VR.plain {G1 : Gh} {v : AV} {c : Value} (h : VR W0 G 0 v c) (hp : (∃ k n, v = .int k n) ∨ ∃ b, v = .bool b) : VR W0 G1 0 v c := by
  rcases hp with ⟨k, n, rfl⟩ | ⟨b, rfl⟩
  · cases h; exact .int _ _
  · cases h; exact .bool _

theorem mks_plain {op : Op1} {esz bytes : Nat} {z : List AV} {l c : Opd} {fr : List AV} {H H' : Heap} {v : AV} (hi : op.ins = .mks esz bytes z l c) (hw : wantedA op.guard fr = some true) (h : insA R op.ins fr H = some (v, H')) :
    ∀ t, t ∈ readsO op → (∃ k n, fr.getD t .undef = .int k n) ∨ ∃ b, fr.getD t .undef = .bool b := by
  intro t ht
  rw [hi] at h
  simp only [readsO, hi, readsI, List.mem_append] at ht
  rcases ht with (ht | ht) | ht
  · cases l with
    | c v => simp [opdT] at ht
    | t i =>
      simp only [opdT, List.mem_singleton] at ht
      subst ht
      simp only [insA, Opd.ev] at h
      split at h
      · rename_i h1 _; exact .inl ⟨_, _, h1⟩
      · cases h
  · cases c with
    | c v => simp [opdT] at ht
    | t i =>
      simp only [opdT, List.mem_singleton] at ht
      subst ht
      simp only [insA, Opd.ev] at h
      split at h
      · rename_i h1; exact .inl ⟨_, _, h1⟩
      · cases h
  · cases hg : op.guard with
    | none => rw [hg] at ht; simp [gT] at ht
    | some p =>
      obtain ⟨t', b⟩ := p
      rw [hg] at ht hw
      simp only [gT, List.mem_singleton] at ht
      subst ht
      simp only [wantedA] at hw
      split at hw
      · rename_i h1; exact .inr ⟨_, h1⟩
      · cases hw
      · cases hw

theorem store_other {H H' : Heap} {n id ver off : Nat} {v : AV} (h : storeA H n (.ptr id ver off) v = some H') : H'.length = H.length ∧ ∀ i, i ≠ id → H'[i]? = H[i]? := by
  simp only [storeA] at h
  split at h
  · split at h
    · cases h
      exact ⟨by simp, fun i hi => by rw [List.getElem?_set_ne (Ne.symm hi)]⟩
    · cases h
  · cases h

/-- What a slice is made of is not touched by stores into other objects. -/
theorem Reg.kept (g : Reg P W0 R md ops fr0 H0 G0 w0 F Hp V) {j : Nat} (hjs : j < ops.size) (hmk : ∃ x esz bytes z l c, ops[j]? = some x ∧ (comp1 P md ops x).ins = .mks esz bytes z l c)
    (hmono : ∀ i k, i ≤ k → k ≤ ops.size → (Hp i).length ≤ (Hp k).length) {d : Nat} (hd : j + 1 + d ≤ ops.size) (hk : ∀ k, j + 1 ≤ k → k < j + 1 + d → kindOf P md ops k ≤ 1 ∨ ApB P md ops j k) :
    ∀ id, (Hp j).length ≤ id → id < (Hp (j + 1)).length → (Hp (j + 1 + d))[id]? = (Hp (j + 1))[id]? := by
  induction d with
  | zero => intro id _ _; rfl
  | succ d ih =>
    intro id h1 h2
    have ih := ih (by omega) (fun k a b => hk k a (by omega)) id h1 h2
    have hlen := hmono (j + 1) (j + 1 + d) (by omega) (by omega)
    rw [show j + 1 + (d + 1) = j + 1 + d + 1 by omega, ← ih]
    rcases hk (j + 1 + d) (by omega) (by omega) with h | ⟨_, y, n, t, v, hy, hi, m, o, z, hm, hmo, hmd, hmi⟩
    · obtain ⟨l, hl⟩ := g.heapLe (k := j + 1 + d) (by omega) h
      rw [hl, List.getElem?_append_left (by omega)]
    · rcases (g.st _ _ hy).2.2 with ⟨_, hs⟩ | ⟨_, _, hs⟩
      · rw [hi] at hs
        simp only [insA, Opd.ev, Option.map_eq_some_iff, Prod.mk.injEq] at hs
        obtain ⟨H2, hs, _, rfl⟩ := hs
        have htl : t < fr0.length := by
          rcases Nat.lt_or_ge t fr0.length with hl | hl
          · exact hl
          · rw [List.getD_eq_getElem?_getD, List.getElem?_eq_none (by rw [g.len _ (by omega)]; exact hl)] at hs
            simp [storeA] at hs
        have hmdst : dstOf ops m = some t := by simp [dstOf, hmo, hmd]
        rcases g.get t htl (j + 1 + d) (by omega) with ⟨q, q1, q2, q3⟩ | ⟨q1, _⟩
        · have hqm : q = m := by
            refine Classical.byContradiction fun hne => ?_
            have hq : ops[q]? = some ops[q] := by simp [show q < ops.size by omega]
            have hqd : ops[q].dst = some t := by simpa [dstOf, hq] using q2
            exact g.ne m q o _ t hmo hq (fun e => hne e.symm) hmd hqd
          subst hqm
          rw [q3] at hs
          have hqs : q < ops.size := by omega
          rcases (g.st q _ hmo).2.2 with ⟨_, ha⟩ | ⟨_, ha, _⟩
          · rw [hmi] at ha
            simp only [insA, Option.some.injEq, Prod.mk.injEq] at ha
            rw [← ha.1] at hs
            refine (store_other hs).2 id ?_
            have hne : q ≠ j := by
              rintro rfl
              obtain ⟨x, _, _, _, _, _, hx, hxi⟩ := hmk
              rw [hmo] at hx; cases hx
              rw [hmi] at hxi; cases hxi
            rintro rfl
            rcases Nat.lt_or_ge q j with hl | hl
            · have e1 := hmono (q + 1) j (by omega) (by omega)
              rw [← ha.2] at e1
              simp at e1
              omega
            · have e1 := hmono (j + 1) q (by omega) (by omega)
              omega
          · rw [ha] at hs; simp [storeA] at hs
        · exact absurd hmdst (q1 m (by omega))
      · rw [hs]

theorem load_kept {H H2 : Heap} {n : Option Nat} {p v : AV} (h : loadA H n p = some v) (hk : ∀ id ver off, p = .ptr id ver off → ∀ o, H[id]? = some o → H2[id]? = some o) : loadA H2 n p = some v := by
  have hc : ∀ k cs, cellsAt H p k = some cs → cellsAt H2 p k = some cs := by
    intro k cs hcs
    unfold cellsAt at hcs ⊢
    split at hcs
    · rename_i id ver off
      cases ho : H[id]? with
      | none => simp [ho] at hcs
      | some o => rw [ho] at hcs; rw [hk _ _ _ rfl _ ho]; exact hcs
    · exact hcs
    · cases hcs
  cases n with
  | none =>
    simp only [loadA] at h ⊢
    cases hcs : cellsAt H p 1 with
    | none => simp [hcs] at h
    | some cs => rw [hcs] at h; rw [hc _ _ hcs]; exact h
  | some n =>
    simp only [loadA] at h ⊢
    cases hcs : cellsAt H p n with
    | none => simp [hcs] at h
    | some cs => rw [hcs] at h; rw [hc _ _ hcs]; exact h

/-- An object is not touched by stores into other ones. -/
theorem Reg.kept2 (g : Reg P W0 R md ops fr0 H0 G0 w0 F Hp V) {j id : Nat} {d : Nat} (hd : j + d ≤ ops.size)
    (hk : ∀ k, j ≤ k → k < j + d → kindOf P md ops k ≤ 1 ∨ ∃ y m q v, ops[k]? = some y ∧ (comp1 P md ops y).ins = .store m (.t q) v ∧ ∀ id' ver off, (F k).getD q .undef = .ptr id' ver off → id ≠ id') :
    ∀ o, (Hp j)[id]? = some o → (Hp (j + d))[id]? = some o := by
  induction d with
  | zero => intro o h; exact h
  | succ d ih =>
    intro o h
    have ih := ih (by omega) (fun k a b => hk k a (by omega)) o h
    rw [show j + (d + 1) = j + d + 1 by omega]
    rcases hk (j + d) (by omega) (by omega) with h | ⟨y, m, q, v, hy, hi, hne⟩
    · obtain ⟨l, hl⟩ := g.heapLe (k := j + d) (by omega) h
      rw [hl]; exact app_get ih
    · rcases (g.st _ _ hy).2.2 with ⟨_, hs⟩ | ⟨_, _, hs⟩
      · rw [hi] at hs
        simp only [insA, Opd.ev, Option.map_eq_some_iff, Prod.mk.injEq] at hs
        obtain ⟨H2, hs, _, rfl⟩ := hs
        cases hp : (F (j + d)).getD q .undef with
        | ptr id' ver off =>
          rw [hp] at hs
          rw [(store_other hs).2 id (hne _ _ _ hp)]; exact ih
        | _ => rw [hp] at hs; simp [storeA] at hs
      · rw [hs]; exact ih

/-- The same for an operation that looks at no object. -/
theorem Rel.mix0 {G G2 : Gh} {Hj Hj1 He H0 : Heap} {w w' : World} (hR : Rel W0 G He w) (hle1 : Hj1.length ≤ He.length) (hle0 : Hj.length ≤ Hj1.length) (hkeep : ∀ id, Hj.length ≤ id → id < Hj1.length → He[id]? = Hj1[id]?) (h0 : H0.length ≤ Hj.length)
    (hout : ∀ id x, G.ob id = some x → ¬ (Hj.length ≤ id ∧ id < Hj1.length))
    (hR2 : Rel W0 G2 Hj1 w') (hE : Ext (G.on fun _ => False) Hj w G2 w') :
    Rel W0 (G.mix G2 Hj.length Hj1.length) He w' ∧ Ext G H0 w (G.mix G2 Hj.length Hj1.length) w' ∧ Le 0 G2 (G.mix G2 Hj.length Hj1.length) := by
  have hnone : ∀ id, (G.on fun _ => False).ob id = none := fun id => by simp [Gh.on]
  have hnew : ∀ id v b S, G2.ob id = some (v, b, S) → (Hj.length ≤ id ∧ id < Hj1.length) ∧ w.heap.size ≤ b := fun id v b S hx =>
    ⟨⟨(hE.new _ _ _ _ hx (hnone _)).1, hR2.dom _ _ _ _ hx⟩, (hE.new _ _ _ _ hx (hnone _)).2⟩
  have holdb : ∀ id v b S, G.ob id = some (v, b, S) → b < w.heap.size := fun id v b S hx => by
    obtain ⟨_, _, _, _, _, _, _, h4, _⟩ := hR.obj _ _ _ _ hx
    exact blk_lt' h4
  have hle2 : Le 0 G2 (G.mix G2 Hj.length Hj1.length) := by
    refine ⟨fun _ id v b S hx => ⟨v, b, S, ?_, Nat.le_refl _, fun _ => ⟨rfl, rfl⟩⟩, fun _ b s hx => ?_, fun _ _ h => h⟩
    · simp only [Gh.mix]
      rw [if_pos (hnew _ _ _ _ hx).1]; exact hx
    · rw [hE.D] at hx; exact hx
  have hle : Le 0 G (G.mix G2 Hj.length Hj1.length) := by
    refine ⟨fun _ id v b S hx => ⟨v, b, S, ?_, Nat.le_refl _, fun _ => ⟨rfl, rfl⟩⟩, fun _ _ _ h => h, fun b s h => hE.le.C _ _ h⟩
    simp only [Gh.mix]
    rw [if_neg (hout _ _ hx)]; exact hx
  have hCn : ∀ b s, G2.C b = some s → G.C b = some s ∨ w.heap.size ≤ b := fun b s h => hE.Cn _ _ h
  have hframe : ∀ b, b < w.heap.size → w'.heap[b]? = w.heap[b]? := fun b hb =>
    hE.frame b hb (fun id v S hx => by rw [hnone] at hx; cases hx)
  refine ⟨⟨hR2.below, fun id v b S hx => ?_, fun id v b S hx => ?_, fun id id' v b S v' S' hx hx' => ?_, hR2.C, fun b s hx => hR2.D b s (by rw [hE.D]; exact hx), fun id v b S hx => ?_⟩, ⟨hle, rfl, fun id v b S v' b' S' h1 h2 => ?_, fun id v b S h1 h2 => ?_, hCn, hE.size, fun b hb _ => hframe b hb⟩, hle2⟩
  · simp only [Gh.mix] at hx
    split at hx
    · rename_i h; omega
    · exact hR.dom _ _ _ _ hx
  · simp only [Gh.mix] at hx
    split at hx
    · rename_i h
      obtain ⟨o, cs, cr, t, k1, k2, k3, k4, k5, k6⟩ := hR2.obj _ _ _ _ hx
      exact ⟨o, cs, cr, t, by rw [hkeep _ h.1 h.2]; exact k1, k2, k3, k4, k5, k6.mono hle2⟩
    · obtain ⟨o, cs, cr, t, k1, k2, k3, k4, k5, k6⟩ := hR.obj _ _ _ _ hx
      exact ⟨o, cs, cr, t, k1, k2, k3, by rw [hframe b (blk_lt' k4)]; exact k4, k5, k6.mono hle⟩
  · simp only [Gh.mix] at hx hx'
    split at hx <;> split at hx'
    · exact hR2.inj _ _ _ _ _ _ _ hx hx'
    · have := (hnew _ _ _ _ hx).2; have := holdb _ _ _ _ hx'; omega
    · have := (hnew _ _ _ _ hx').2; have := holdb _ _ _ _ hx; omega
    · exact hR.inj _ _ _ _ _ _ _ hx hx'
  · simp only [Gh.mix] at hx
    split at hx
    · refine ⟨(hR2.ap _ _ _ _ hx).1, ?_⟩
      have := (hR2.ap _ _ _ _ hx).2
      rw [hE.D] at this; exact this
    · refine ⟨?_, (hR.ap _ _ _ _ hx).2⟩
      show G2.C b = none
      cases hq : G2.C b with
      | none => rfl
      | some s =>
        rcases hCn _ _ hq with h | h
        · rw [(hR.ap _ _ _ _ hx).1] at h; cases h
        · have := holdb _ _ _ _ hx; omega
  · simp only [Gh.mix] at h2
    rw [if_neg (hout _ _ h1), h1] at h2
    cases h2; exact .inl rfl
  · simp only [Gh.mix] at h1
    split at h1
    · rename_i h; exact ⟨by omega, (hnew _ _ _ _ h1).2⟩
    · rw [h2] at h1; cases h1

/-- One more operation, whichever is ready. -/
theorem Reg.step (g : Reg P W0 R md ops fr0 H0 G0 w0 F Hp V) {L : Nat → Prop} (hcl : Cl ops L) {j : Nat} {o : Oper} (ho : ops[j]? = some o) (hj : ¬ L j) (hr : ∀ i, dirA ops j i → L i) {a : Act} {w : World} {G : Gh} {e : Nat}
    (hI : Inv P W0 md ops fr0 H0 G0 w0 Hp V L a w G e) {K : Act → World → Prop} {Q : Exit → Act → World → Prop}
    (hK : ∀ c G' w' e', Inv P W0 md ops fr0 H0 G0 w0 Hp V (addL L j) (a.put o.dst c) w' G' e' → K (a.put o.dst c) w') : wpOp P ops Q j K a w := by
  have hjs := lt_of_get ho
  have hkj : kindOf P md ops j = memK (comp1 P md ops o).ins := by simp [kindOf, ho]
  have htr := (g.st j o ho).2.2
  have hmask := step_mask htr
  rw [comp1_dst] at hmask
  have hml : (maskF (F j) (readsO (comp1 P md ops o))).length = fr0.length := by simp [maskF, g.len j (by omega)]
  have hlook : ∀ t, t < fr0.length → t ∈ readsO (comp1 P md ops o) → cur ops fr0 V L t = (F j).getD t .undef := fun t ht => g.looks hcl ho hj hr ht
  -- the frame, masked, in a world that knows what it needs
  have hFR : ∀ G1, (∀ t, t < fr0.length → t ∈ readsO (comp1 P md ops o) → VR W0 G1 0 ((F j).getD t .undef) (a.tmps.getD t Go.undef)) → FR W0 G1 (maskF (F j) (readsO (comp1 P md ops o))) a.tmps := by
    intro G1 h
    refine ⟨by rw [hml]; exact hI.size, fun t ht => ?_⟩
    rw [hml] at ht
    by_cases hm : t ∈ readsO (comp1 P md ops o)
    · rw [maskF_get hm]; exact h t ht hm
    · rw [maskF_not hm]; exact .undef _
  -- of two operations that touch memory, one of which may write, one lies before the other
  have hcomp : ∀ k, k < ops.size → k ≠ j → kindOf P md ops k = 2 → 1 ≤ kindOf P md ops j → (k < j → L k) ∧ (j < k → L k → ApB P md ops j k ∨ ApC P md ops F j k) := by
    intro k hks hne hk2 hj1
    have hk : ops[k]? = some ops[k] := by simp [hks]
    have hkk : kindOf P md ops k = memK (comp1 P md ops ops[k]).ins := by simp [kindOf, hk]
    rw [hkk] at hk2
    rw [hkj] at hj1
    refine ⟨fun hlt => ?_, fun hlt hLk => ?_⟩
    · rcases g.ord k j _ _ hlt hk ho with ht | ⟨_, hap | ⟨⟨x, _, _, _, _, _, hx, hi⟩, _⟩ | ⟨x, _, _, _, _, _, _, hx, hi, _⟩⟩
      · exact hcl.tr' ht hr
      · rw [hk2] at hap; omega
      · rw [hk] at hx; cases hx
        rw [hi] at hk2; simp [memK] at hk2
      · rw [hk] at hx; cases hx
        rw [hi] at hk2; simp [memK] at hk2
    · rcases g.ord j k _ _ hlt ho hk with ht | ⟨_, hap | hap⟩
      · exact absurd (hcl.tr ht hLk) hj
      · rw [hk2] at hap; omega
      · exact hap
  have hnoB : kindOf P md ops j = 2 → ∀ k, ¬ (ApB P md ops j k ∨ ApC P md ops F j k) := by
    rintro h2 k (⟨⟨x, _, _, _, _, _, hx, hi⟩, _⟩ | ⟨x, _, _, _, _, _, _, hx, hi, _⟩)
    all_goals
      rw [ho] at hx; cases hx
      rw [hkj, hi] at h2; simp [memK] at h2
  have hHle : ∀ k, k < ops.size → (Hp k).length ≤ (Hp (k + 1)).length := by
    intro k hk
    obtain ⟨G1, w1, a1, t1, t2, t3, t4⟩ := g.tw k (by omega)
    have hok : ops[k]? = some ops[k] := by simp [hk]
    have := step_sound (Q := fun _ _ _ => False) g.RS hok (K := fun a' w' => (Hp k).length ≤ (Hp (k + 1)).length) t1 t2 (g.st k _ hok).1 (fun v c G' w' _ _ _ _ q5 => q5.len)
    obtain ⟨_, _, h⟩ := wpOp_exists this
    exact h
  have hHmono : ∀ i k, i ≤ k → k ≤ ops.size → (Hp i).length ≤ (Hp k).length := by
    intro i k hik
    induction hik with
    | refl => intro _; exact Nat.le_refl _
    | step h ih => intro hk; exact Nat.le_trans (ih (by omega)) (hHle _ (by omega))
  have hH0 : ∀ k, k ≤ ops.size → H0.length ≤ (Hp k).length := fun k hk => by rw [← g.h0]; exact hHmono 0 k (by omega) hk
  have hdo : (comp1 P md ops o).dst = o.dst := comp1_dst _ _ _
  have hjlt : kindOf P md ops j = 1 → j < e := by
    intro hk1
    rcases Nat.lt_trichotomy j e with h | h | h
    · exact h
    · subst h; have := (hI.now hjs).1; omega
    · have hes : e < ops.size := by omega
      obtain ⟨n1, n2⟩ := hI.now hes
      exact absurd ((hcomp e hes (by omega) n1 (by omega)).1 h) n2
  by_cases hsil : kindOf P md ops j ≠ 2 ∧ (kindOf P md ops j = 0 ∨ (wantedA (comp1 P md ops o).guard (F j) = some false) ∨ ∃ k, ApC P md ops F j k)
  · -- nothing but the frame
    obtain ⟨hk2, hsil⟩ := hsil
    have hsame : Hp (j + 1) = Hp j ∧ stepA R (comp1 P md ops o) (maskF (F j) (readsO (comp1 P md ops o))) (Hp e) = some (putA (maskF (F j) (readsO (comp1 P md ops o))) o.dst (V j), Hp e) := by
      rcases htr with ⟨h1, h2⟩ | ⟨h1, h2, h3⟩
      · rcases hsil with h0 | h0 | ⟨_, x, _, n, t, _, _, _, hx, hi, _⟩
        · rw [hkj] at h0
          obtain ⟨s1, s2⟩ := ins_silent h0 h2
          exact ⟨s1, by have := step_mask (.inl ⟨h1, s2 (Hp e)⟩); rwa [hdo] at this⟩
        · rw [h1] at h0; cases h0
        · rw [ho] at hx; cases hx
          have hkind1 : kindOf P md ops j = 1 := by rw [hkj, hi]; rfl
          have hje := hjlt hkind1
          have h2' := h2
          rw [hi] at h2'
          simp only [insA, Opd.ev] at h2'
          obtain ⟨s1, s2⟩ := map_pair h2'
          refine ⟨s2, ?_⟩
          have hld : loadA (Hp e) n ((F j).getD t .undef) = some (V j) := by
            refine load_kept s1 fun id ver off hp => ?_
            have hkept := g.kept2 (id := id) (j := j) (d := e - j) (by have := hI.le; omega) (fun k h1' h2' => by
              have := kind_le (P := P) (md := md) (ops := ops) k
              by_cases h3 : kindOf P md ops k = 2
              · right
                have hne : k ≠ j := by rintro rfl; omega
                rcases (hcomp k (by have := hI.le; omega) hne h3 (by omega)).2 (by omega) (hI.wr k (by omega) h3) with hb | hc
                · exfalso
                  obtain ⟨⟨x, _, _, _, _, _, hx, hi'⟩, _⟩ := hb
                  rw [ho] at hx; cases hx
                  rw [hi] at hi'; cases hi'
                · obtain ⟨x, y, n', t', m, q, v, hx, hi', hy, hiy, hap⟩ := hc
                  rw [ho] at hx; cases hx
                  rw [hi] at hi'; cases hi'
                  refine ⟨y, m, q, v, hy, hiy, fun id' ver' off' hq e' => ?_⟩
                  rw [hp, hq, e'] at hap
                  simp [apartV] at hap
              · exact .inl (by omega))
            rw [show j + (e - j) = e by omega] at hkept
            exact hkept
          have := step_mask (R := R) (o := comp1 P md ops o) (fr := F j) (H := Hp e) (H' := Hp e) (v := V j) (.inl ⟨h1, by rw [hi]; simp only [insA, Opd.ev, hld, Option.map_some]⟩)
          rwa [hdo] at this
      · exact ⟨h3, by have := step_mask (R := R) (H := Hp e) (.inr ⟨h1, h2, rfl⟩); rwa [hdo] at this⟩
    refine step_sound g.RS ho (hFR G (fun t ht hm => by rw [← hlook t ht hm]; exact hI.fr t ht)) hI.rel hsame.2 (fun v c G' w' q1 q2 q3 q4 q5 => ?_)
    obtain ⟨f1, f2⟩ := g.fr_step ho hj hI.size hI.fr q4.le hml q1 q2
    have hdom : ∀ id, (∃ x, G'.ob id = some x) ↔ (∃ x, G.ob id = some x) := by
      intro id
      constructor
      · rintro ⟨⟨v', b', S'⟩, hx⟩
        cases hq : G.ob id with
        | none => have := (q4.new _ _ _ _ hx hq).1; have := q3.dom _ _ _ _ hx; omega
        | some x => exact ⟨x, rfl⟩
      · rintro ⟨⟨v', b', S'⟩, hx⟩
        obtain ⟨_, _, _, h, _⟩ := q4.le.ob rfl _ _ _ _ hx
        exact ⟨_, h⟩
    refine hK c G' w' e ⟨hI.le, fun k h1 h2 => .inl (hI.wr k h1 h2), fun h => ⟨(hI.now h).1, ?_⟩, f1, f2, q3, fun id => ?_, hI.ext.trans (Nat.le_refl _) (q4.low (hH0 e hI.le)), by rw [put_defers]; exact hI.dfr⟩
    · rintro (h' | rfl)
      · exact (hI.now h).2 h'
      · exact hk2 (hI.now h).1
    · rw [hdom, hI.dom]
      constructor
      · rintro (h | ⟨k, h1, h2, h3⟩)
        · exact .inl h
        · exact .inr ⟨k, h1, .inl h2, h3⟩
      · rintro (h | ⟨k, h1, h2 | rfl, h3, h4⟩)
        · exact .inl h
        · exact .inr ⟨k, h1, h2, h3, h4⟩
        · rw [hsame.1] at h4; omega
  · by_cases hwr : kindOf P md ops j = 2
    · -- it may write: nothing beside it
      have hje : j = e := by
        rcases Nat.lt_trichotomy j e with h | h | h
        · exact absurd (hI.wr j h hwr) hj
        · exact h
        · have hes : e < ops.size := by omega
          obtain ⟨n1, n2⟩ := hI.now hes
          exact absurd ((hcomp e hes (by omega) n1 (by omega)).1 h) n2
      subst hje
      obtain ⟨e', e1, e2, e3, e4⟩ := next_wr P md ops (j + 1) (by omega)
      obtain ⟨l, hl⟩ := g.pre' e1 e2 e3
      refine step_sound g.RS ho (hFR G (fun t ht hm => by rw [← hlook t ht hm]; exact hI.fr t ht)) hI.rel hmask (fun v c G' w' q1 q2 q3 q4 q5 => ?_)
      obtain ⟨f1, f2⟩ := g.fr_step ho hj hI.size hI.fr q4.le hml q1 q2
      have hrel : Rel W0 G' (Hp e') w' := by
        rw [hl]
        exact { q3 with dom := fun id v b S hx => by have := q3.dom _ _ _ _ hx; simp; omega, obj := fun id v b S hx => by obtain ⟨o, cs, cr, t, k1, k⟩ := q3.obj _ _ _ _ hx; exact ⟨o, cs, cr, t, app_get k1, k⟩ }
      refine hK c G' w' e' ⟨e2, fun k h1 h2 => ?_, fun h => ⟨e4 h, ?_⟩, f1, f2, hrel, fun id => ?_, hI.ext.trans (Nat.le_refl _) (q4.low (hH0 j (by omega))), by rw [put_defers]; exact hI.dfr⟩
      · rcases Nat.lt_trichotomy k j with h | h | h
        · exact .inl (hI.wr k h h2)
        · exact .inr h
        · have := e3 k (by omega) h1; omega
      · rintro (h' | h')
        · exact hnoB hwr _ ((hcomp e' h (by omega) (e4 h) (by omega)).2 (by omega) h')
        · omega
      · constructor
        · rintro ⟨⟨v', b', S'⟩, hx⟩
          cases hq : G.ob id with
          | none => exact .inr ⟨j, hjs, .inr rfl, (q4.new _ _ _ _ hx hq).1, q3.dom _ _ _ _ hx⟩
          | some x =>
            rcases (hI.dom id).1 ⟨x, hq⟩ with h | ⟨k, h1, h2, h3⟩
            · exact .inl h
            · exact .inr ⟨k, h1, .inl h2, h3⟩
        · intro h
          have : (∃ x, G.ob id = some x) ∨ ((Hp j).length ≤ id ∧ id < (Hp (j + 1)).length) := by
            rcases h with h | ⟨k, h1, h2 | rfl, h3⟩
            · exact .inl ((hI.dom id).2 (.inl h))
            · exact .inl ((hI.dom id).2 (.inr ⟨k, h1, h2, h3⟩))
            · exact .inr h3
          rcases this with ⟨⟨v', b', S'⟩, hx⟩ | ⟨h1, h2⟩
          · obtain ⟨_, _, _, h, _⟩ := q4.le.ob rfl _ _ _ _ hx
            exact ⟨_, h⟩
          · exact q5.tot id h1 h2
    · -- it makes new objects at the most
      have hk1 : kindOf P md ops j = 1 := by
        have := kind_le (P := P) (md := md) (ops := ops) j
        have : kindOf P md ops j ≠ 0 := fun h => hsil ⟨hwr, .inl h⟩
        omega
      have hje : j < e := by
        rcases Nat.lt_trichotomy j e with h | h | h
        · exact h
        · subst h; exact absurd (hI.now hjs).1 hwr
        · have hes : e < ops.size := by omega
          obtain ⟨n1, n2⟩ := hI.now hes
          exact absurd ((hcomp e hes (by omega) n1 (by omega)).1 h) n2
      by_cases hBex : ∃ k, ApB P md ops j k
      · obtain ⟨_, ⟨x, esz, bytes, z, l, c, hx, hi⟩, _⟩ := hBex
        rw [ho] at hx; cases hx
        have hwant : wantedA (comp1 P md ops o).guard (F j) = some true ∧ insA R (comp1 P md ops o).ins (F j) (Hp j) = some (V j, Hp (j + 1)) := by
          rcases htr with h | ⟨h, _⟩
          · exact h
          · exact absurd (.inr (.inl h)) (fun h' => hsil ⟨hwr, h'⟩)
        have hplain := mks_plain hi hwant.1 hwant.2
        have hj1 := hHle j hjs
        have hkeep := g.kept hjs ⟨o, esz, bytes, z, l, c, ho, hi⟩ hHmono (d := e - (j + 1)) (by have := hI.le; omega) (fun k h1 h2 => by
          have := kind_le (P := P) (md := md) (ops := ops) k
          by_cases h3 : kindOf P md ops k = 2
          · rcases (hcomp k (by have := hI.le; omega) (by omega) h3 (by omega)).2 (by omega) (hI.wr k (by omega) h3) with hb | hc
            · exact .inr hb
            · exact absurd (.inr (.inr ⟨k, hc⟩)) (fun h' => hsil ⟨hwr, h'⟩)
          · exact .inl (by omega))
        rw [show j + 1 + (e - (j + 1)) = e by omega] at hkeep
        have hout : ∀ id x, G.ob id = some x → ¬ ((Hp j).length ≤ id ∧ id < (Hp (j + 1)).length) := by
          rintro id x hx ⟨l1, l2⟩
          rcases (hI.dom id).1 ⟨x, hx⟩ with ⟨h, _⟩ | ⟨k, h1, h2, h3, h4⟩
          · have := hH0 j (by omega); omega
          · rcases Nat.lt_trichotomy k j with h | h | h
            · have := hHmono (k + 1) j (by omega) (by omega); omega
            · subst h; exact hj h2
            · have := hHmono (j + 1) k (by omega) (by omega); omega
        have hrel1 : Rel W0 (G.on fun _ => False) (Hp j) w := by
          have hon : ∀ id x, (G.on fun _ => False).ob id = some x → False := fun id x h => by simp [Gh.on] at h
          exact ⟨hI.rel.below, fun id v b S hx => (hon _ _ hx).elim, fun id v b S hx => (hon _ _ hx).elim, fun id id' v b S v' S' hx _ => (hon _ _ hx).elim, hI.rel.C, hI.rel.D, fun id v b S hx => (hon _ _ hx).elim⟩
        refine step_sound g.RS ho (hFR _ (fun t ht hm => VR.plain (by rw [← hlook t ht hm]; exact hI.fr t ht) (hplain t hm))) hrel1 hmask (fun v c G' w' q1 q2 q3 q4 q5 => ?_)
        obtain ⟨m1, m2, m3⟩ := hI.rel.mix0 (H0 := H0) (hHmono (j + 1) e (by omega) hI.le) hj1 hkeep (hH0 j (by omega)) hout q3 q4
        obtain ⟨f1, f2⟩ := g.fr_step ho hj hI.size hI.fr m2.le hml q1 (q2.mono m3)
        refine hK c _ w' e ⟨hI.le, fun k h1 h2 => .inl (hI.wr k h1 h2), fun h => ⟨(hI.now h).1, ?_⟩, f1, f2, m1, fun id => ?_, hI.ext.trans (Nat.le_refl _) m2, by rw [put_defers]; exact hI.dfr⟩
        · rintro (h' | rfl)
          · exact (hI.now h).2 h'
          · exact hwr (hI.now h).1
        · simp only [Gh.mix]
          by_cases hin : (Hp j).length ≤ id ∧ id < (Hp (j + 1)).length
          · rw [if_pos hin]
            exact ⟨fun _ => .inr ⟨j, hjs, .inr rfl, hin⟩, fun _ => q5.tot id hin.1 hin.2⟩
          · rw [if_neg hin, hI.dom]
            constructor
            · rintro (h | ⟨k, h1, h2, h3⟩)
              · exact .inl h
              · exact .inr ⟨k, h1, .inl h2, h3⟩
            · rintro (h | ⟨k, h1, h2 | rfl, h3⟩)
              · exact .inl h
              · exact .inr ⟨k, h1, h2, h3⟩
              · exact absurd h3 hin
      have hB : ∀ k, ¬ (ApB P md ops j k ∨ ApC P md ops F j k) := by
        rintro k (h | h)
        · exact hBex ⟨k, h⟩
        · exact hsil ⟨hwr, .inr (.inr ⟨k, h⟩)⟩
      have hno : ∀ k, j ≤ k → k < e → kindOf P md ops k ≤ 1 := by
        intro k h1 h2
        have := kind_le (P := P) (md := md) (ops := ops) k
        rcases Nat.lt_or_ge j k with h | h
        · by_cases h3 : kindOf P md ops k = 2
          · exact absurd ((hcomp k (by have := hI.le; omega) (by omega) h3 (by omega)).2 h (hI.wr k h2 h3)) (hB k)
          · omega
        · obtain rfl : k = j := by omega
          omega
      have hpre := g.pre' (i := j + 1) (j := e) (by omega) hI.le (fun k h1 h2 => hno k (by omega) h2)
      have hpre1 := g.heapLe hjs (by omega)
      obtain ⟨d1, d2, d3⟩ := g.dom (k := j) (by omega)
      have hDlt : ∀ id, Dk H0 G0 Hp j id → id < (Hp j).length := by
        rintro id (⟨h1, _⟩ | ⟨_, h2⟩)
        · omega
        · exact h2
      have hGD : ∀ id, (∃ x, G.ob id = some x) → id < (Hp j).length → Dk H0 G0 Hp j id := by
        intro id hx hl
        rcases (hI.dom id).1 hx with h | ⟨k, h1, h2, h3, h4⟩
        · exact .inl h
        · exact .inr ⟨by have := hH0 k (by omega); omega, hl⟩
      have hout : ∀ id x, G.ob id = some x → ¬ ((Hp j).length ≤ id ∧ id < (Hp (j + 1)).length) := by
        rintro id x hx ⟨l1, l2⟩
        rcases (hI.dom id).1 ⟨x, hx⟩ with ⟨h, _⟩ | ⟨k, h1, h2, h3, h4⟩
        · omega
        · rcases Nat.lt_trichotomy k j with h | h | h
          · have := hHmono (k + 1) j (by omega) (by omega); omega
          · subst h; exact hj h2
          · have := hHmono (j + 1) k (by omega) (by omega); omega
      have hpreJ : ∃ l, Hp e = Hp j ++ l := by
        obtain ⟨l, hl⟩ := hpre; obtain ⟨l1, hl1⟩ := hpre1
        exact ⟨l1 ++ l, by rw [hl, hl1]; simp⟩
      have hrel1 : Rel W0 (G.on fun id => id < (Hp j).length) (Hp j) w := by
        have hon : ∀ id x, (G.on fun id => id < (Hp j).length).ob id = some x → id < (Hp j).length ∧ G.ob id = some x := fun id x h => by
          simp only [Gh.on] at h; split at h
          · exact ⟨by assumption, h⟩
          · cases h
        obtain ⟨l, hl⟩ := hpreJ
        refine ⟨hI.rel.below, fun id v b S hx => (hon _ _ hx).1, fun id v b S hx => ?_, fun id id' v b S v' S' hx hx' => hI.rel.inj _ _ _ _ _ _ _ (hon _ _ hx).2 (hon _ _ hx').2, hI.rel.C, hI.rel.D, fun id v b S hx => hI.rel.ap _ _ _ _ (hon _ _ hx).2⟩
        obtain ⟨hl1, hx1⟩ := hon _ _ hx
        obtain ⟨o', cs, cr, t, k1, k2, k3, k4, k5, k6⟩ := hI.rel.obj _ _ _ _ hx1
        rw [hl] at k1
        have k1' := get_app k1 hl1
        exact ⟨o', cs, cr, t, k1', k2, k3, k4, k5, ⟨k6.1, fun q hq => (k6.2 q hq).on ((d2 id (hGD id ⟨_, hx1⟩ hl1) o' k1' q hq).mono hDlt)⟩⟩
      refine step_sound g.RS ho (hFR _ (fun t ht hm => VR.on (by rw [← hlook t ht hm]; exact hI.fr t ht) ((d1 t ht).mono hDlt))) hrel1 hmask (fun v c G' w' q1 q2 q3 q4 q5 => ?_)
      obtain ⟨m1, m2, m3⟩ := hI.rel.mix (H0 := H0) hpre hpre1 d3 hout q3 q4 q5
      obtain ⟨f1, f2⟩ := g.fr_step ho hj hI.size hI.fr m2.le hml q1 (q2.mono m3)
      refine hK c _ w' e ⟨hI.le, fun k h1 h2 => .inl (hI.wr k h1 h2), fun h => ⟨(hI.now h).1, ?_⟩, f1, f2, m1, fun id => ?_, hI.ext.trans (Nat.le_refl _) m2, by rw [put_defers]; exact hI.dfr⟩
      · rintro (h' | rfl)
        · exact (hI.now h).2 h'
        · exact hwr (hI.now h).1
      · simp only [Gh.mix]
        by_cases hin : (Hp j).length ≤ id ∧ id < (Hp (j + 1)).length
        · rw [if_pos hin]
          exact ⟨fun _ => .inr ⟨j, hjs, .inr rfl, hin⟩, fun _ => q5.tot id hin.1 hin.2⟩
        · rw [if_neg hin, hI.dom]
          constructor
          · rintro (h | ⟨k, h1, h2, h3⟩)
            · exact .inl h
            · exact .inr ⟨k, h1, .inl h2, h3⟩
          · rintro (h | ⟨k, h1, h2 | rfl, h3⟩)
            · exact .inl h
            · exact .inr ⟨k, h1, h2, h3⟩
            · exact absurd h3 hin

/-- The whole of it. -/
theorem Reg.any (g : Reg P W0 R md ops fr0 H0 G0 w0 F Hp V) {Q : Exit → Act → World → Prop} (hQ : ∀ a w G, FR W0 G (F ops.size) a.tmps → Rel W0 G (Hp ops.size) w → Ext G0 H0 w0 G w → Gr G H0 (Hp ops.size) → a.defers = [] → Q .normal a w) :
    ∀ (fuel : Nat) (listed : Array Bool) (a : Act) (w : World) (G : Gh) (e : Nat), listed.size = ops.size → listed.toList.count false ≤ fuel → Cl ops (fun k => listed.getD k false = true) →
      Inv P W0 md ops fr0 H0 G0 w0 Hp V (fun k => listed.getD k false = true) a w G e → wpAny P .any ops Q fuel listed a w := by
  intro fuel
  have hdone : ∀ (listed : Array Bool) (a : Act) (w : World) (G : Gh) (e : Nat), listed.size = ops.size → Cl ops (fun k => listed.getD k false = true) → Inv P W0 md ops fr0 H0 G0 w0 Hp V (fun k => listed.getD k false = true) a w G e →
      Region.ready .any ops listed = [] → Q .normal a w := by
    intro listed a w G e hsz hcl hI hnil
    have hall : ∀ k, k < ops.size → listed.getD k false = true := by
      intro k
      induction k using Nat.strongRecOn with
      | _ k ih =>
        intro hk
        cases hb : listed.getD k false with
        | true => rfl
        | false =>
          exfalso
          have ho : ops[k]? = some ops[k] := by simp [hk]
          have : k ∈ Region.ready .any ops listed := by
            rw [mem_ready]
            refine ⟨?_, ops[k], ho, fun ed hed hbd => ih ed.on (g.back k _ ho ed hed hbd) (by have := g.back k _ ho ed hed hbd; omega)⟩
            have hk' : k < listed.size := by omega
            simpa [Array.getD_eq_getD_getElem?, hk'] using hb
          rw [hnil] at this; cases this
    have he : e = ops.size := by
      rcases Nat.lt_or_ge e ops.size with h | h
      · exact absurd (hall e h) (hI.now h).2
      · have := hI.le; omega
    subst he
    refine hQ a w G ⟨by rw [g.len _ (Nat.le_refl _)]; exact hI.size, fun t ht => ?_⟩ hI.rel hI.ext ⟨?_, fun id h1 h2 => ?_⟩ hI.dfr
    · rw [g.len _ (Nat.le_refl _)] at ht
      have := hI.fr t ht
      rcases g.get t ht ops.size (Nat.le_refl _) with ⟨k, h1, h2, h3⟩ | ⟨h1, h2⟩
      · rw [h3]; rwa [g.cur_of h1 (hall k h1) h2] at this
      · rw [h2]; rwa [cur_none (fun k hk _ => h1 k hk)] at this
    · exact (g.dom (Nat.le_refl _)).2.2
    · refine (hI.dom id).2 (.inr ?_)
      have hex : ∀ k, k ≤ ops.size → id < (Hp k).length → ∃ q, q < k ∧ (Hp q).length ≤ id ∧ id < (Hp (q + 1)).length := by
        intro k
        induction k with
        | zero => intro _ h; rw [g.h0] at h; omega
        | succ k ih =>
          intro hk h
          rcases Nat.lt_or_ge id (Hp k).length with hl | hl
          · obtain ⟨q, q1, q2⟩ := ih (by omega) hl
            exact ⟨q, by omega, q2⟩
          · exact ⟨k, by omega, hl, h⟩
      obtain ⟨q, q1, q2, q3⟩ := hex _ (Nat.le_refl _) h2
      exact ⟨q, q1, hall q q1, q2, q3⟩
  induction fuel with
  | zero =>
    intro listed a w G e hsz hcnt hcl hI
    have hnil : Region.ready .any ops listed = [] := by
      cases hr : Region.ready .any ops listed with
      | nil => rfl
      | cons j l =>
        exfalso
        have hj : j ∈ Region.ready .any ops listed := by rw [hr]; simp
        obtain ⟨h1, o, ho, _⟩ := mem_ready.1 hj
        have hjs := lt_of_get ho
        have hmem : false ∈ listed.toList := by
          have hk' : j < listed.size := by omega
          rw [Array.getD_eq_getD_getElem?] at h1
          simp only [Array.getElem?_eq_getElem hk', Option.getD_some] at h1
          rw [← h1]; simp
        have := List.count_pos_iff.2 hmem
        omega
    exact ⟨hnil, hdone listed a w G e hsz hcl hI hnil⟩
  | succ fuel ih =>
    intro listed a w G e hsz hcnt hcl hI
    refine ⟨hdone listed a w G e hsz hcl hI, fun j hj => ?_⟩
    obtain ⟨h1, o, ho, h2⟩ := mem_ready.1 hj
    have hjs := lt_of_get ho
    have hk' : j < listed.size := by omega
    have hjf : listed[j]? = some false := by
      rw [Array.getD_eq_getD_getElem?] at h1
      rw [Array.getElem?_eq_getElem hk'] at h1 ⊢
      simpa using h1
    have hset : ∀ k, (listed.setIfInBounds j true).getD k false = true ↔ addL (fun k => listed.getD k false = true) j k := by
      intro k
      by_cases e' : k = j
      · subst e'; simp [addL, Array.getD_eq_getD_getElem?, hk']
      · simp [addL, Array.getD_eq_getD_getElem?, Array.getElem?_setIfInBounds_ne (fun h => e' h.symm), e']
    refine g.step hcl ho (by simp [Array.getD_eq_getD_getElem?, hjf]) (fun i hd => ?_) hI (fun c G' w' e' hI' => ?_)
    · obtain ⟨o', ho', ed, hed, hbd, rfl⟩ := hd
      rw [ho] at ho'; cases ho'
      exact h2 ed hed hbd
    · refine ih _ _ _ G' e' (by simpa using hsz) ?_ ?_ ?_
      · have := count_set listed.toList j (by simpa using hjf)
        rw [Array.toList_setIfInBounds]; omega
      · intro k hk i hd
        rw [hset] at hk ⊢
        rcases hk with hk | rfl
        · exact .inl (hcl _ hk _ hd)
        · obtain ⟨o', ho', ed, hed, hbd, rfl⟩ := hd
          rw [ho] at ho'; cases ho'
          exact .inl (h2 ed hed hbd)
      · have : (fun k => (listed.setIfInBounds j true).getD k false = true) = addL (fun k => listed.getD k false = true) j := funext fun k => propext (hset k)
        rw [this]; exact hI'
end
end Go.X
