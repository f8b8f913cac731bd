import Derived.Test.YtdkgicdbjemalaaDoorX7
import Derived.Orders
/-! Regions: operations in the text's order, and in whatever order they may be made. -/
set_option linter.unusedSimpArgs false
set_option linter.unusedVariables false
set_option linter.unusedSectionVars false
namespace Go.X
open Go Go.RowKit

/-! ### What an operation looks at -/
def opdT : Opd → List Nat
  | .t i => [i]
  | .c _ => []

def oT : Option Opd → List Nat
  | some x => opdT x
  | none => []

def readsI : Ins → List Nat
  | .mov x | .box x | .chk x | .eqn _ x | .un _ x | .conv _ x | .mki _ x | .fieldA _ x | .field _ _ x | .ext x _ | .len x | .load _ x => opdT x
  | .pick c a b => opdT c ++ opdT a ++ opdT b
  | .alloc _ | .bad => []
  | .build _ ps | .bslice _ _ _ ps => ps.flatMap fun p => opdT p.2.2
  | .store _ p x | .apt p x | .bin _ p x | .eqb _ p x | .eqs _ _ p x | .indexA _ p x | .indexP _ _ p x | .index _ _ _ p x | .app _ _ p x | .mks _ _ _ p x => opdT p ++ opdT x
  | .mkf _ cs => cs.flatMap opdT
  | .slice _ x lo hi mx => opdT x ++ oT lo ++ oT hi ++ oT mx
  | .mnx _ xs => xs.flatMap opdT
  | .call _ _ xs => xs.flatMap opdT
  | .calld _ f xs | .callm _ _ f xs => opdT f ++ xs.flatMap opdT

def gT : Option (Nat × Bool) → List Nat
  | some (t, _) => [t]
  | none => []

def readsO (o : Op1) : List Nat := readsI o.ins ++ gT o.guard

/-- 0: no memory; 1: it reads, or makes new memory; 2: it may write. -/
def memK : Ins → Nat
  | .alloc _ | .box _ | .bslice .. | .mks .. | .load .. => 1
  | .call m _ _ | .calld m _ _ | .callm m _ _ _ => if m = 0 then 2 else 1
  | .store .. | .app .. | .bad => 2
  | _ => 0

theorem ev_congr {x : Opd} {fr fr' : List AV} (h : ∀ t ∈ opdT x, fr.getD t .undef = fr'.getD t .undef) : x.ev fr = x.ev fr' := by
  cases x with
  | t i => exact h i (by simp [opdT])
  | c v => rfl

theorem evs_congr {xs : List Opd} {fr fr' : List AV} (h : ∀ t ∈ xs.flatMap opdT, fr.getD t .undef = fr'.getD t .undef) : xs.map (·.ev fr) = xs.map (·.ev fr') :=
  List.map_congr_left fun x hx => ev_congr fun t ht => h t (List.mem_flatMap.2 ⟨x, hx, ht⟩)

theorem evp_congr {ps : List (Nat × Nat × Opd)} {fr fr' : List AV} (h : ∀ t ∈ ps.flatMap (fun p => opdT p.2.2), fr.getD t .undef = fr'.getD t .undef) :
    (ps.map fun p => (p.1, p.2.1, p.2.2.ev fr)) = (ps.map fun p => (p.1, p.2.1, p.2.2.ev fr')) :=
  List.map_congr_left fun p hp => by rw [ev_congr (fr := fr) (fr' := fr') fun t ht => h t (List.mem_flatMap.2 ⟨p, hp, ht⟩)]

theorem evo_congr {x : Option Opd} {fr fr' : List AV} (h : ∀ t ∈ oT x, fr.getD t .undef = fr'.getD t .undef) : x.map (·.ev fr) = x.map (·.ev fr') := by
  cases x with
  | none => rfl
  | some x => simp only [Option.map_some]; rw [ev_congr h]

theorem ins_congr {R : Nat → List AV → Heap → Option (AV × Heap)} {i : Ins} {fr fr' : List AV} {H : Heap} (h : ∀ t ∈ readsI i, fr.getD t .undef = fr'.getD t .undef) : insA R i fr H = insA R i fr' H := by
  cases i with
  | mov x => simp only [insA, readsI] at *; rw [ev_congr h]
  | box x => simp only [insA, readsI] at *; rw [ev_congr h]
  | chk x => simp only [insA, readsI] at *; rw [ev_congr h]
  | eqn n x => simp only [insA, readsI] at *; rw [ev_congr h]
  | un op x => simp only [insA, readsI] at *; rw [ev_congr h]
  | conv k x => simp only [insA, readsI] at *; rw [ev_congr h]
  | mki t x => simp only [insA, readsI] at *; rw [ev_congr h]
  | fieldA o x => simp only [insA, readsI] at *; rw [ev_congr h]
  | field s o x => simp only [insA, readsI] at *; rw [ev_congr h]
  | ext x j => simp only [insA, readsI] at *; rw [ev_congr h]
  | len x => simp only [insA, readsI] at *; rw [ev_congr h]
  | load s x => simp only [insA, readsI] at *; rw [ev_congr h]
  | alloc z => rfl
  | bad => rfl
  | pick c a b =>
    simp only [insA, readsI, List.mem_append] at *
    rw [ev_congr (x := c) (fr := fr) (fr' := fr') fun t ht => h t (.inl (.inl ht)), ev_congr (x := a) (fr := fr) (fr' := fr') fun t ht => h t (.inl (.inr ht)), ev_congr (x := b) (fr := fr) (fr' := fr') fun t ht => h t (.inr ht)]
  | build z ps => simp only [insA, readsI] at *; rw [evp_congr h]
  | bslice e l z ps => simp only [insA, readsI] at *; rw [evp_congr h]
  | store s p x =>
    simp only [insA, readsI, List.mem_append] at *
    rw [ev_congr (x := p) (fr := fr) (fr' := fr') fun t ht => h t (.inl ht), ev_congr (x := x) (fr := fr) (fr' := fr') fun t ht => h t (.inr ht)]
  | apt p x =>
    simp only [insA, readsI, List.mem_append] at *
    rw [ev_congr (x := p) (fr := fr) (fr' := fr') fun t ht => h t (.inl ht), ev_congr (x := x) (fr := fr) (fr' := fr') fun t ht => h t (.inr ht)]
  | bin s p x =>
    simp only [insA, readsI, List.mem_append] at *
    rw [ev_congr (x := p) (fr := fr) (fr' := fr') fun t ht => h t (.inl ht), ev_congr (x := x) (fr := fr) (fr' := fr') fun t ht => h t (.inr ht)]
  | eqb s p x =>
    simp only [insA, readsI, List.mem_append] at *
    rw [ev_congr (x := p) (fr := fr) (fr' := fr') fun t ht => h t (.inl ht), ev_congr (x := x) (fr := fr) (fr' := fr') fun t ht => h t (.inr ht)]
  | eqs s n p x =>
    simp only [insA, readsI, List.mem_append] at *
    rw [ev_congr (x := p) (fr := fr) (fr' := fr') fun t ht => h t (.inl ht), ev_congr (x := x) (fr := fr) (fr' := fr') fun t ht => h t (.inr ht)]
  | indexA s p x =>
    simp only [insA, readsI, List.mem_append] at *
    rw [ev_congr (x := p) (fr := fr) (fr' := fr') fun t ht => h t (.inl ht), ev_congr (x := x) (fr := fr) (fr' := fr') fun t ht => h t (.inr ht)]
  | indexP s n p x =>
    simp only [insA, readsI, List.mem_append] at *
    rw [ev_congr (x := p) (fr := fr) (fr' := fr') fun t ht => h t (.inl ht), ev_congr (x := x) (fr := fr) (fr' := fr') fun t ht => h t (.inr ht)]
  | index s e n p x =>
    simp only [insA, readsI, List.mem_append] at *
    rw [ev_congr (x := p) (fr := fr) (fr' := fr') fun t ht => h t (.inl ht), ev_congr (x := x) (fr := fr) (fr' := fr') fun t ht => h t (.inr ht)]
  | app e b p x =>
    simp only [insA, readsI, List.mem_append] at *
    rw [ev_congr (x := p) (fr := fr) (fr' := fr') fun t ht => h t (.inl ht), ev_congr (x := x) (fr := fr) (fr' := fr') fun t ht => h t (.inr ht)]
  | mks e b z p x =>
    simp only [insA, readsI, List.mem_append] at *
    rw [ev_congr (x := p) (fr := fr) (fr' := fr') fun t ht => h t (.inl ht), ev_congr (x := x) (fr := fr) (fr' := fr') fun t ht => h t (.inr ht)]
  | mkf f cs => simp only [insA, readsI] at *; rw [evs_congr h]
  | mnx m xs => simp only [insA, readsI] at *; rw [evs_congr h]
  | call m f xs => simp only [insA, readsI] at *; rw [evs_congr h]
  | slice e x lo hi mx =>
    simp only [insA, readsI, List.mem_append] at *
    rw [ev_congr (x := x) (fr := fr) (fr' := fr') fun t ht => h t (.inl (.inl (.inl ht))), evo_congr (x := lo) (fr := fr) (fr' := fr') fun t ht => h t (.inl (.inl (.inr ht))), evo_congr (x := hi) (fr := fr) (fr' := fr') fun t ht => h t (.inl (.inr ht)), evo_congr (x := mx) (fr := fr) (fr' := fr') fun t ht => h t (.inr ht)]
  | calld m f xs =>
    simp only [insA, readsI, List.mem_append] at *
    rw [ev_congr (x := f) (fr := fr) (fr' := fr') fun t ht => h t (.inl ht), evs_congr (fr := fr) (fr' := fr') fun t ht => h t (.inr ht)]
  | callm m tab f xs =>
    simp only [insA, readsI, List.mem_append] at *
    rw [ev_congr (x := f) (fr := fr) (fr' := fr') fun t ht => h t (.inl ht), evs_congr (fr := fr) (fr' := fr') fun t ht => h t (.inr ht)]

theorem map_pair' {o : Option AV} {v : AV} {H H' : Heap} (h : (o.map fun v => (v, H)) = some (v, H')) : H' = H ∧ ∀ H2 : Heap, (o.map fun v => (v, H2)) = some (v, H2) := by
  obtain ⟨h1, h2⟩ := map_pair h
  exact ⟨h2, fun H2 => by rw [h1]; rfl⟩

theorem ins_silent {R : Nat → List AV → Heap → Option (AV × Heap)} {i : Ins} {fr : List AV} {H H' : Heap} {v : AV} (hm : memK i = 0) (h : insA R i fr H = some (v, H')) : H' = H ∧ ∀ H2 : Heap, insA R i fr H2 = some (v, H2) := by
  cases i with
  | pick c a b =>
    simp only [insA] at h ⊢
    split at h
    · rename_i t ht; cases h; simp only [ht]; exact ⟨trivial, fun _ => trivial⟩
    · cases h
  | conv k x =>
    simp only [insA] at h ⊢
    split at h
    · rename_i k' n hk; cases h; simp only [hk]; exact ⟨trivial, fun _ => trivial⟩
    · cases h
  | ext x j =>
    simp only [insA] at h ⊢
    split at h
    · rename_i vs hv; first | exact map_pair' h | (simp only [hv]; exact map_pair' h)
    · cases h
  | index s e n x j =>
    simp only [insA] at h ⊢
    split at h
    · rename_i k hk
      split at h
      · rename_i hlt; simp only [hk, if_pos hlt]; exact map_pair' h
      · cases h
    · cases h
  | call m f xs => simp only [memK] at hm; split at hm <;> cases hm
  | calld m f xs => simp only [memK] at hm; split at hm <;> cases hm
  | callm m tab f xs => simp only [memK] at hm; split at hm <;> cases hm
  | mov x => cases h; exact ⟨rfl, fun _ => rfl⟩
  | mki t x => cases h; exact ⟨rfl, fun _ => rfl⟩
  | mkf f cs => cases h; exact ⟨rfl, fun _ => rfl⟩
  | alloc z => cases hm
  | box x => cases hm
  | bslice e l z ps => cases hm
  | mks e b z l c => cases hm
  | load s p => cases hm
  | store s p x => cases hm
  | app e b x y => cases hm
  | bad => cases hm
  | _ => exact map_pair' h

theorem callA_grows {R : Nat → List AV → Heap → Option (AV × Heap)} {m f : Nat} {args : List AV} {H H' : Heap} {v : AV} (hm : m ≠ 0) (h : callA R m f args H = some (v, H')) : ∃ l, H' = H ++ l := by
  unfold callA at h
  split at h
  · exact absurd rfl hm
  · split at h
    · split at h
      · cases hf : freeA ‹_› depth ‹_› with
        | none => simp [hf] at h
        | some x => simp [hf] at h; exact ⟨[], by simp [h.2]⟩
      · cases h
    · cases h
  · split at h
    · cases hr : R f args H with
      | none => simp [hr] at h
      | some r => simp [hr] at h; exact ⟨[], by simp [h.2]⟩
    · cases h
  · split at h
    · split at h
      · split at h
        · cases h; exact ⟨_, rfl⟩
        · cases h
      · cases h
    · cases h

theorem ins_grows {R : Nat → List AV → Heap → Option (AV × Heap)} {i : Ins} {fr : List AV} {H H' : Heap} {v : AV} (hm : memK i ≤ 1) (h : insA R i fr H = some (v, H')) : ∃ l, H' = H ++ l := by
  by_cases h0 : memK i = 0
  · exact ⟨[], by simp [(ins_silent h0 h).1]⟩
  · cases i <;> simp only [memK] at hm h0 <;> first
      | exact absurd rfl h0
      | exact absurd trivial h0
      | exact absurd hm (by decide)
      | skip
    case alloc z => simp only [insA] at h; cases h; exact ⟨_, rfl⟩
    case box x =>
      simp only [insA] at h
      split at h
      · cases h
      · cases h; exact ⟨_, rfl⟩
    case bslice e l z ps =>
      simp only [insA] at h
      split at h
      · cases h; exact ⟨_, rfl⟩
      · cases h
    case mks e b z l c =>
      simp only [insA] at h
      split at h
      · split at h
        · cases h; exact ⟨_, rfl⟩
        · cases h
      · cases h
    case load s p => simp only [insA] at h; obtain ⟨_, rfl⟩ := map_pair h; exact ⟨[], by simp⟩
    case call m f xs =>
      simp only [insA] at h
      exact callA_grows (by intro e; simp [e] at hm) h
    case calld m f xs =>
      simp only [insA] at h
      split at h
      · exact callA_grows (by intro e; simp [e] at hm) h
      · cases h
    case callm m tab f xs =>
      simp only [insA] at h
      split at h
      · split at h
        · exact callA_grows (by intro e; simp [e] at hm) h
        · cases h
      · cases h

/-! ### Which objects a value leads to -/
inductive Sc (D : Nat → Prop) : AV → Prop where
  | undef : Sc D .undef
  | skp : Sc D .skp
  | bool (b : Bool) : Sc D (.bool b)
  | int (k : IntKind) (n : Int) : Sc D (.int k n)
  | nilp : Sc D .nilp
  | nils : Sc D .nils
  | nilf : Sc D .nilf
  | nili : Sc D .nili
  | ptr (id ver off : Nat) (h : D id) : Sc D (.ptr id ver off)
  | sl (id ver esz off len : Nat) (cap : Option Nat) (h : D id) : Sc D (.sl id ver esz off len cap)
  | cptr (sn : Bool) (cells : List AV) : Sc D (.cptr sn cells)
  | imm (sn : Bool) (cells : List AV) (len : Nat) : Sc D (.imm sn cells len)
  | fn (f : Nat) (vs : List AV) (r : ∀ j, j < vs.length → Sc D (vs.getD j .undef)) : Sc D (.fn f vs)
  | iface (t : Nat) (v : AV) (r : Sc D v) : Sc D (.iface t v)
  | agg (vs : List AV) (r : ∀ j, j < vs.length → Sc D (vs.getD j .undef)) : Sc D (.agg vs)
  | tup (vs : List AV) (r : ∀ j, j < vs.length → Sc D (vs.getD j .undef)) : Sc D (.tup vs)

section
variable {P : Program} {W0 : World} [GlobOk W0] {G : Gh} {H : Heap} {w : World}

theorem VR.sc {l : Nat} {v : AV} {c : Value} (h : VR W0 G l v c) : Sc (fun id => ∃ x, G.ob id = some x) v := by
  induction h with
  | undef c => exact .undef
  | skp => exact .skp
  | bool b => exact .bool b
  | int k n => exact .int k n
  | nilp => exact .nilp
  | nils => exact .nils
  | nilf => exact .nilf
  | nili => exact .nili
  | ptr id ver off a h => obtain ⟨v0, b, S, h1, _⟩ := h; exact .ptr _ _ _ ⟨_, h1⟩
  | cptr sn cells a u hl h r ih => exact .cptr _ _
  | sl id ver esz off len cap a cc hc hcap h => obtain ⟨v0, b, S, h1, _⟩ := h; exact .sl _ _ _ _ _ _ ⟨_, h1⟩
  | imm sn cells len A cc u hl hc h h0 r ih => exact .imm _ _ _
  | fn f caps cs hn r ih => exact .fn _ _ ih
  | iface t v c r ih => exact .iface _ _ ih
  | agg vs cs hn r ih => exact .agg _ ih
  | tup vs cs hn r ih => exact .tup _ ih

theorem Sc.mono {D D' : Nat → Prop} {v : AV} (h : Sc D v) (k : ∀ id, D id → D' id) : Sc D' v := by
  induction h with
  | undef => exact .undef
  | skp => exact .skp
  | bool b => exact .bool b
  | int k n => exact .int k n
  | nilp => exact .nilp
  | nils => exact .nils
  | nilf => exact .nilf
  | nili => exact .nili
  | ptr id ver off h => exact .ptr _ _ _ (k _ h)
  | cptr sn cells => exact .cptr _ _
  | sl id ver esz off len cap h => exact .sl _ _ _ _ _ _ (k _ h)
  | imm sn cells len => exact .imm _ _ _
  | fn f caps r ih => exact .fn _ _ ih
  | iface t v r ih => exact .iface _ _ ih
  | agg vs r ih => exact .agg _ ih
  | tup vs r ih => exact .tup _ ih

open Classical in
noncomputable def Gh.on (G : Gh) (D : Nat → Prop) : Gh := { G with ob := fun id => if D id then G.ob id else none }

theorem VR.on {l : Nat} {v : AV} {c : Value} (h : VR W0 G l v c) : ∀ {D : Nat → Prop}, Sc D v → VR W0 (G.on D) l v c := by
  have hL : ∀ D : Nat → Prop, ∀ m, 1 ≤ m → Le m G (G.on D) := fun D m hm => ⟨fun e => by omega, fun _ _ _ h => h, fun _ _ h => h⟩
  induction h with
  | undef c => intro D _; exact .undef c
  | skp => intro D _; exact .skp
  | bool b => intro D _; exact .bool b
  | int k n => intro D _; exact .int k n
  | nilp => intro D _; exact .nilp
  | nils => intro D _; exact .nils
  | nilf => intro D _; exact .nilf
  | nili => intro D _; exact .nili
  | ptr id ver off a h =>
    intro D hs
    obtain ⟨v0, b, S, h1, h2⟩ := h
    cases hs with
    | ptr _ _ _ hd => exact .ptr _ _ _ _ ⟨v0, b, S, by simp [Gh.on, hd, h1], h2⟩
  | cptr sn cells a u hl h r ih =>
    intro D _
    exact .cptr sn cells a u hl (fun j hj => (h j hj).mono (Nat.le_refl _) (hL D _ (by cases sn <;> simp [lv]))) (fun j hj => (r j hj).mono (hL D _ (by cases sn <;> simp [lv])))
  | sl id ver esz off len cap a cc hc hcap h =>
    intro D hs
    obtain ⟨v0, b, S, h1, h2⟩ := h
    cases hs with
    | sl _ _ _ _ _ _ hd => exact .sl _ _ _ _ _ _ _ _ hc hcap ⟨v0, b, S, by simp [Gh.on, hd, h1], h2⟩
  | imm sn cells len A cc u hl hc h h0 r ih =>
    intro D _
    exact .imm sn cells len A cc u hl hc (fun a ha j hj => (h a ha j hj).mono (Nat.le_refl _) (hL D _ (by cases sn <;> simp [lv]))) h0 (fun j hj => (r j hj).mono (hL D _ (by cases sn <;> simp [lv])))
  | fn f caps cs hn r ih => intro D hs; cases hs with | fn _ _ hs => exact .fn _ _ _ hn (fun j hj => ih j hj (hs j hj))
  | iface t v c r ih => intro D hs; cases hs with | iface _ _ hs => exact .iface _ _ _ (ih hs)
  | agg vs cs hn r ih => intro D hs; cases hs with | agg _ hs => exact .agg _ _ hn (fun j hj => ih j hj (hs j hj))
  | tup vs cs hn r ih => intro D hs; cases hs with | tup _ hs => exact .tup _ _ hn (fun j hj => ih j hj (hs j hj))

/-! ### In the text's order -/
theorem wanted_sound {md : Nat → Nat} {ops : Array Oper} {o : Oper} {fr : List AV} {a : Act} (hF : FR W0 G fr a.tmps) {b : Bool} (h : wantedA (comp1 P md ops o).guard fr = some b) :
    ((comp1 P md ops o).ins = .bad ∧ (comp1 P md ops o).guard = none) ∨ Region.wanted o (yielded ops a.tmps) = b := by
  unfold Region.wanted
  unfold comp1 at h ⊢
  cases hg : o.guard with
  | none => simp [hg, wantedA] at h; exact .inr (by simpa using h)
  | some g =>
    obtain ⟨j, want⟩ := g
    simp only [hg] at h ⊢
    cases hd : (ops[j]?).bind (·.dst) with
    | none => exact .inl ⟨rfl, rfl⟩
    | some t =>
      right
      simp only [hd, wantedA] at h
      have hlt : ∀ v, fr.getD t .undef = v → v ≠ .undef → t < fr.length := fun v hv hn => by
        rcases Nat.lt_or_ge t fr.length with h' | h'
        · exact h'
        · rw [List.getD_eq_getElem?_getD, List.getElem?_eq_none h'] at hv; exact absurd hv.symm hn
      split at h
      · rename_i c hc
        cases h
        have hl := hlt _ hc (by simp)
        have hv := hF.2 t hl
        rw [hc] at hv
        have hsz : t < a.tmps.size := Nat.lt_of_lt_of_le hl hF.1
        simp only [yielded, hd, Option.bind_some, Array.getElem?_eq_getElem hsz]
        simp only [Array.getD_eq_getD_getElem?, Array.getElem?_eq_getElem hsz, Option.getD_some] at hv
        generalize a.tmps[t] = x at hv ⊢
        cases hv
        cases c <;> cases want <;> rfl
      · rename_i hc
        cases h
        have hl := hlt _ hc (by simp)
        have hv := hF.2 t hl
        rw [hc] at hv
        have hsz : t < a.tmps.size := Nat.lt_of_lt_of_le hl hF.1
        simp only [yielded, hd, Option.bind_some, Array.getElem?_eq_getElem hsz]
        simp only [Array.getD_eq_getD_getElem?, Array.getElem?_eq_getElem hsz, Option.getD_some] at hv
        generalize a.tmps[t] = x at hv ⊢
        cases hv
        rfl
      · cases h

theorem comp1_dst (md : Nat → Nat) (ops : Array Oper) (o : Oper) : (comp1 P md ops o).dst = o.dst := by
  unfold comp1; split
  · rfl
  · split <;> rfl

theorem comp1_ins (md : Nat → Nat) (ops : Array Oper) (o : Oper) : (comp1 P md ops o).ins = compOp P md o ∨ ((comp1 P md ops o).ins = .bad ∧ (comp1 P md ops o).guard = none) := by
  unfold comp1; split
  · exact .inl rfl
  · split
    · exact .inl rfl
    · exact .inr ⟨rfl, rfl⟩

/-- One operation, wanted or not. -/
theorem step_sound {R : Nat → List AV → Heap → Option (AV × Heap)} (RS : CallSound P W0 R) {md : Nat → Nat} {ops : Array Oper} {i : Nat} {o : Oper} (ho : ops[i]? = some o) {a : Act} {fr fr' : List AV} {H' : Heap} {K : Act → World → Prop} {Q : Exit → Act → World → Prop}
    (hF : FR W0 G fr a.tmps) (hR : Rel W0 G H w) (hs : stepA R (comp1 P md ops o) fr H = some (fr', H'))
    (hK : ∀ v c G' w', fr' = putA fr o.dst v → VR W0 G' 0 v c → Rel W0 G' H' w' → Ext G H w G' w' → Gr G' H H' → K (a.put o.dst c) w') : wpOp P ops Q i K a w := by
  unfold wpOp
  simp only [ho]
  unfold stepA at hs
  rw [comp1_dst] at hs
  split at hs
  · rename_i hw
    split at hs
    · rename_i v H1 hi
      cases hs
      rcases comp1_ins (P := P) md ops o with hc | ⟨hc, _⟩
      · rw [hc] at hi
        rcases wanted_sound hF hw with hb | hb
        · rw [hb.1] at hc; rw [← hc] at hi; simp [insA] at hi
        · rw [if_pos hb]
          exact .inl (ins_sound RS hF hR hi fun c G' w' q1 q2 q3 q4 => hK v c G' w' rfl q1 q2 q3 q4)
      · rw [hc] at hi; simp [insA] at hi
    · cases hs
  · rename_i hw
    cases hs
    rcases wanted_sound hF hw with hb | hb
    · rw [hb.2] at hw; simp [wantedA] at hw
    · rw [hb]
      exact hK .skp _ G w rfl .skp hR (Ext.refl _ _ _) (Gr.same rfl)
  · cases hs
end
end Go.X
