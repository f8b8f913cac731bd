import Derived.Test.YtdkgicdbjemalaaDoorX1
import Derived.Laws.StructEq
import Derived.Laws.MakeOwn
import Derived.Laws.IdiomCopy
/-! The small machine's operations out of the model's, and what they do to the relation. -/
set_option linter.unusedSimpArgs false
set_option linter.unusedVariables false
set_option linter.unusedSectionVars false
namespace Go.X
open Go Go.RowKit

/-! ### From the model's text -/
def const1 : Value → AV
  | .bool b => .bool b
  | .int k n => .int k n
  | .pointer none => .nilp
  | .slice none 0 0 => .nils
  | .nilFunc => .nilf
  | .nilIface => .nili
  | _ => .undef

def constA : Value → AV
  | .agg cs => .agg (cs.toList.map const1)
  | v => const1 v

def opdA : Operand → Opd
  | .tmp t => .t t
  | .const v => .c (constA v)
  | .func f => .c (.fn f [])
  | .global g => .c (gval g)

def isStruct (P : Program) (t : TypeId) : Option Bool :=
  match P.underlying t with
  | some (.struct _) | some (.array _ _) => some true
  | some _ => some false
  | none => none

def sizeA (P : Program) (t : TypeId) : Option Nat := (P.info? t).map (·.size)

def zeroA (P : Program) (t : TypeId) : Option (List AV) := match (P.info? t).bind (·.zero) with
  | some z => if isU (constA z) then none else some (cellsOf (constA z))
  | none => none

def placesA (P : Program) (fs : List Field) : Option (List (Nat × Nat)) := fs.mapM (fun f => (P.info? f.type).map fun i => (f.offset, i.size))

def partsA (place : Nat → Option (Nat × Nat)) (ps : List (Nat × Operand)) : Option (List (Nat × Nat × Opd)) :=
  ps.mapM fun p => (place p.1).map fun q => (q.1, q.2, opdA p.2)

/-- A struct of whole numbers and bools, a cell each, in order. -/
def flatA (P : Program) : Nat → List Field → Option (List Bool)
  | _, [] => some []
  | i, f :: fs => if f.name != "_" && f.offset == i then
      match P.underlying f.type, flatA P (i + 1) fs with
      | some (.int _), some ks => some (true :: ks)
      | some .bool, some ks => some (false :: ks)
      | _, _ => none
    else none

def methodTab (P : Program) (name : String) : List (Nat × Nat) :=
  (List.range P.types.size).filterMap fun t => match P.info? t with
    | some i => match i.methods.find? (·.name == name) with
      | some m => match m.path.isEmpty, m.func, P.underlying t with
        | true, some (f, false), some (.pointer _) => none
        | true, some (f, false), some _ => some (t, f)
        | _, _, _ => none
      | none => none
    | none => none

def compBin (P : Program) (op : BinOp) (t : TypeId) (x y : Operand) : Ins :=
  match P.underlying t with
  | some (.int _) => .bin op (opdA x) (opdA y)
  | some .bool => match op with
    | .eql => .eqb false (opdA x) (opdA y)
    | .neq => .eqb true (opdA x) (opdA y)
    | _ => .bad
  | some (.struct fs) => match flatA P 0 fs.toList with
    | some ks => if !P.stoodInHeld t && !P.eqGuardType P.depth t then
      match op with
      | .eql => .eqs false ks (opdA x) (opdA y)
      | .neq => .eqs true ks (opdA x) (opdA y)
      | _ => .bad
      else .bad
    | none => .bad
  | some (.slice _) => match op, y with
    | .eql, .const (.slice none _ _) => .eqn false (opdA x)
    | .neq, .const (.slice none _ _) => .eqn true (opdA x)
    | _, _ => .bad
  | _ => .bad

def compCall (P : Program) (md : Nat → Nat) (c : Call) (ty : TypeId) : Ins :=
  match c.callee with
  | .value (.func f) => .call (md f) f (c.args.toList.map opdA)
  | .value (.tmp t) => .calld (md 1000000) (.t t) (c.args.toList.map opdA)
  | .value _ => .bad
  | .invoke r name => .callm (md 1000001) (methodTab P name) (opdA r) (c.args.toList.map opdA)
  | .builtin .len => match c.args.toList, (c.argTypes[0]?).bind P.underlying with
    | [x], some (.slice _) => .len (opdA x)
    | _, _ => .bad
  | .builtin .min => .mnx false (c.args.toList.map opdA)
  | .builtin .max => .mnx true (c.args.toList.map opdA)
  | .builtin .append => match c.args.toList, c.argTypes.toList with
    | [x, y], [t, u] => match P.underlying t, P.underlying u with
      | some (.slice e), some (.slice _) => match P.info? e with
        | some i => match i.zero with
          | some z => if i.size = 0 ∨ i.bytes = 0 ∨ z.cells.size ≠ i.size then .bad else .app i.size i.bytes (opdA x) (opdA y)
          | none => .bad
        | none => .bad
      | _, _ => .bad
    | _, _ => .bad
  | _ => .bad

def orBad (o : Option Ins) : Ins := o.getD .bad

def compOp (P : Program) (md : Nat → Nat) (o : Oper) : Ins :=
  match o.op with
  | .move x | .assign x => .mov (opdA x)
  | .pick c a b => .pick (opdA c) (opdA a) (opdA b)
  | .alloc t => orBad ((zeroA P t).map .alloc)
  | .box _ x => .box (opdA x)
  | .build t ps => orBad (match zeroA P t, P.underlying t with
    | some z, some (.struct fs) => match placesA P fs.toList with
      | some places => (partsA (fun i => places[i]?) ps.toList).map (.build z)
      | none => none
    | some z, some (.array _ e) => match sizeA P e with
      | some s => (partsA (fun i => some (i * s, s)) ps.toList).map (.build z)
      | none => none
    | _, _ => none)
  | .buildSlice t len ps => orBad (match P.underlying t with
    | some (.slice e) => match sizeA P e, zeroA P e with
      | some s, some z => if len * s ≤ 16777216 ∧ z.length = s then (partsA (fun i => some (i * s, s)) ps.toList).map (.bslice s len z) else none
      | _, _ => none
    | _ => none)
  | .load t p => orBad (match isStruct P t, sizeA P t with
    | some true, some s => some (.load (some s) (opdA p))
    | some false, _ => some (.load none (opdA p))
    | _, _ => none)
  | .store t p x => orBad ((sizeA P t).map fun s => .store s (opdA p) (opdA x))
  | .nilCheck x => .chk (opdA x)
  | .binOp op t x y _ => compBin P op t x y
  | .unOp op _ x => .un op (opdA x)
  | .convert s d x => match P.underlying s, P.underlying d with
    | some (.int _), some (.int k) => .conv k (opdA x)
    | _, _ => .bad
  | .makeInterface t x => match P.underlying t with
    | some (.interface _) => .bad
    | some _ => .mki t (opdA x)
    | none => .bad
  | .makeFunc (.func f) first caps => if first.isEmpty then .mkf f (caps.toList.map opdA) else .bad
  | .makeSlice t l c => orBad (match P.underlying t with
    | some (.slice e) => match P.info? e, zeroA P e with
      | some i, some z => some (.mks i.size i.bytes z (opdA l) (opdA c))
      | _, _ => none
    | _ => none)
  | .slice t x lo hi mx => orBad (match P.underlying t with
    | some (.slice e) => (sizeA P e).map fun s => .slice s (opdA x) (lo.map opdA) (hi.map opdA) (mx.map opdA)
    | _ => none)
  | .fieldAddr t x i => orBad (match P.underlying t with
    | some (.struct fs) => match fs[i]? with
      | some f => match sizeA P f.type with
        | some (_ + 1) => some (.fieldA f.offset (opdA x))
        | _ => none
      | none => none
    | _ => none)
  | .field t x i => orBad (match P.underlying t with
    | some (.struct fs) => match fs[i]? with
      | some f => match isStruct P f.type, sizeA P f.type with
        | some true, some s => some (.field (some s) f.offset (opdA x))
        | some false, _ => some (.field none f.offset (opdA x))
        | _, _ => none
      | none => none
    | _ => none)
  | .indexAddr t x i => orBad (match P.underlying t with
    | some (.slice e) => (sizeA P e).map fun s => .indexA s (opdA x) (opdA i)
    | some (.array n e) => (sizeA P e).map fun s => .indexP s n (opdA x) (opdA i)
    | _ => none)
  | .index t x i => orBad (match P.underlying t with
    | some (.array n e) => match isStruct P e, sizeA P e with
      | some true, some s => some (.index (some s) s n (opdA x) (opdA i))
      | some false, some s => some (.index none s n (opdA x) (opdA i))
      | _, _ => none
    | _ => none)
  | .extract x i => .ext (opdA x) i
  | .call c => compCall P md c o.type
  | _ => .bad

/-- An operation with its guard: the guard's own operation must have a place. -/
def comp1 (P : Program) (md : Nat → Nat) (ops : Array Oper) (o : Oper) : Op1 :=
  match o.guard with
  | none => ⟨none, o.dst, compOp P md o⟩
  | some (j, b) => match (ops[j]?).bind (·.dst) with
    | some t => ⟨some (t, b), o.dst, compOp P md o⟩
    | none => ⟨none, o.dst, .bad⟩

def compOps (P : Program) (md : Nat → Nat) (ops : Array Oper) : List Op1 := ops.toList.map (comp1 P md ops)

/-! ### The relation's values -/
section
variable {W0 : World} [GlobOk W0] {G : Gh} {H : Heap} {w : World}

theorem const1_spec (l : Nat) (v : Value) : VR W0 G l (const1 v) v := by
  unfold const1
  split <;> first | exact .undef _ | constructor

theorem constA_spec (l : Nat) (v : Value) : VR W0 G l (constA v) v := by
  unfold constA
  split
  · rename_i cs
    have : VR W0 G l (.agg (cs.toList.map const1)) (.agg cs.toList.toArray) := .agg _ _ (by simp) (fun j hj => by
      have hj' : j < cs.toList.length := by simpa using hj
      simp only [List.getD_eq_getElem?_getD, List.getElem?_map, List.getElem?_eq_getElem hj', Option.map_some, Option.getD_some]
      exact const1_spec l _)
    simpa using this
  · exact const1_spec l _

/-- A function's frame. -/
def FR (W0 : World) (G : Gh) (fr : List AV) (tmps : Array Value) : Prop := fr.length ≤ tmps.size ∧ ∀ i, i < fr.length → VR W0 G 0 (fr.getD i .undef) (tmps.getD i Go.undef)

theorem FR.mono {G' : Gh} {fr : List AV} {tmps : Array Value} (h : FR W0 G fr tmps) (k : Le 0 G G') : FR W0 G' fr tmps := ⟨h.1, fun i hi => (h.2 i hi).mono k⟩

theorem FR.put {fr : List AV} {a : Act} {v : AV} {c : Value} (h : FR W0 G fr a.tmps) (d : Option Nat) (hv : VR W0 G 0 v c) :
    FR W0 G (putA fr d v) (a.put d c).tmps := by
  cases d with
  | none => exact h
  | some d =>
    refine ⟨by simpa [Act.put, putA] using h.1, fun i hi => ?_⟩
    simp only [Act.put, putA, List.length_set] at hi ⊢
    have hsz : i < a.tmps.size := Nat.lt_of_lt_of_le hi h.1
    have := h.2 i hi
    simp only [List.getD_eq_getElem?_getD, Array.getD_eq_getD_getElem?, List.getElem?_set, Array.getElem?_setIfInBounds] at this ⊢
    by_cases e : d = i
    · subst e; simp [hi, hsz, hv]
    · simpa [e] using this

theorem FR.ev {fr : List AV} {a : Act} (h : FR W0 G fr a.tmps) (x : Operand) : VR W0 G 0 ((opdA x).ev fr) (a.eval x) := by
  cases x with
  | tmp t =>
    simp only [opdA, Opd.ev, Act.eval]
    by_cases ht : t < fr.length
    · exact h.2 t ht
    · rw [List.getD_eq_getElem?_getD, List.getElem?_eq_none (Nat.le_of_not_lt ht)]; exact .undef _
  | const v => exact constA_spec 0 v
  | func f => exact .fn f [] [] rfl (fun _ hj => absurd hj (by simp))
  | global g => exact (glob_ok g G).weaken (Nat.zero_le _)

theorem FR.evs {fr : List AV} {a : Act} (h : FR W0 G fr a.tmps) (xs : List Operand) : VL W0 G 0 ((xs.map opdA).map (·.ev fr)) (xs.map a.eval) := by
  induction xs with
  | nil => exact VL.nil
  | cons x xs ih => exact VL.cons (h.ev x) ih

theorem cellsOf_spec {l : Nat} {v : AV} {c : Value} (h : VR W0 G l v c) (hu : isU v = false) : VL W0 G l (cellsOf v) c.cells.toList := by
  cases h with
  | undef => simp [isU] at hu
  | agg vs cs hn r => exact ⟨by simpa [cellsOf, Value.cells] using hn, by simpa [cellsOf, Value.cells] using r⟩
  | skp => exact VL.cons .skp VL.nil
  | bool b => exact VL.cons (.bool b) VL.nil
  | int k n => exact VL.cons (.int k n) VL.nil
  | nilp => exact VL.cons .nilp VL.nil
  | nils => exact VL.cons .nils VL.nil
  | nilf => exact VL.cons .nilf VL.nil
  | nili => exact VL.cons .nili VL.nil
  | ptr id ver off a h => exact VL.cons (.ptr id ver off a h) VL.nil
  | cptr sn cells a u hl h r => exact VL.cons (.cptr sn cells a u hl h r) VL.nil
  | sl id ver esz off len cap a cc hc hcap h => exact VL.cons (.sl id ver esz off len cap a cc hc hcap h) VL.nil
  | imm sn cells len A cc u hl hc h h0 r => exact VL.cons (.imm sn cells len A cc u hl hc h h0 r) VL.nil
  | fn f caps cs hn r => exact VL.cons (.fn f caps cs hn r) VL.nil
  | iface t v c r => exact VL.cons (.iface t v c r) VL.nil
  | tup vs cs hn r => exact VL.cons (.tup vs cs hn r) VL.nil

theorem one_spec {l : Nat} {v : AV} {c : Value} (h : VR W0 G l v c) (hu : one v = true) : c.oneCell' = true := by
  cases h <;> first | rfl | simp [one] at hu

theorem putAll_length {α : Type} : ∀ (us : List α) (i : Nat) (vs : List α), (putAll vs i us).length = vs.length
  | [], _, _ => rfl
  | u :: us, i, vs => by simp [putAll, putAll_length us]

theorem VL.putAll {l : Nat} : ∀ {us : List AV} {ds : List Value} (i : Nat) {vs : List AV} {cs : List Value}, VL W0 G l vs cs → VL W0 G l us ds → VL W0 G l (putAll vs i us) (putAll cs i ds)
  | [], [], _, _, _, h, _ => h
  | [], _ :: _, _, _, _, _, k => by simpa using k.1
  | _ :: _, [], _, _, _, _, k => by simpa using k.1
  | u :: us, d :: ds, i, vs, cs, h, k => VL.putAll (i + 1) (h.set i k.head.1) k.head.2

theorem zerosA_spec {l : Nat} {zero : List AV} {z : List Value} (h : VL W0 G l zero z) (m : Nat) : VL W0 G l (zerosA zero m) (madeCells z.toArray m).toList := by
  refine ⟨by simp [zerosA, madeCells], fun j hj => ?_⟩
  have hj' : j < m := by simpa [zerosA] using hj
  by_cases h0 : zero.length = 0
  · have : zero = [] := List.eq_nil_of_length_eq_zero h0
    subst this
    simp only [zerosA, List.getD_eq_getElem?_getD, List.getElem?_map, List.getElem?_range hj', Option.map_some, Option.getD_some, List.getElem?_nil, Option.getD_none]
    exact .undef _
  · have hlt : j % zero.length < zero.length := Nat.mod_lt _ (by omega)
    have hlt' : j % z.length < z.length := by rw [← h.1]; exact hlt
    have := h.2 _ hlt
    simp only [zerosA, madeCells, List.getD_eq_getElem?_getD, List.getElem?_map, List.getElem?_range hj', Option.map_some, Option.getD_some, Array.toList_map, Array.toList_range] at this ⊢
    rw [h.1] at this ⊢
    simpa [List.size_toArray, hlt'] using this

end

/-! ### New blocks, stores -/
section
variable {W0 : World} [GlobOk W0] {G : Gh} {H : Heap} {w : World}

/-- The ghost behind a new object. -/
def Gh.add (G : Gh) (id b S : Nat) : Gh := { G with ob := fun i => if i = id then some (0, b, S) else G.ob i }

theorem Rel.alloc (h : Rel W0 G H w) {cells : List AV} {cs : List Value} (cr : List Value) (t : TypeId) (hc : VL W0 G 0 cells cs) :
    Rel W0 (G.add H.length w.heap.size (cs.length + cr.length)) (H ++ [⟨0, cells⟩]) (w.alloc (.cells (cs ++ cr).toArray t)) ∧ Ext G H w (G.add H.length w.heap.size (cs.length + cr.length)) (w.alloc (.cells (cs ++ cr).toArray t)) := by
  have hnew : G.ob H.length = none := by
    cases hq : G.ob H.length with
    | none => rfl
    | some x => obtain ⟨v, b, S⟩ := x; have := h.dom _ _ _ _ hq; omega
  have hblk : ∀ id v b S, G.ob id = some (v, b, S) → b < w.heap.size := fun id v b S hx => by
    obtain ⟨_, _, _, _, _, _, _, h4, _⟩ := h.obj _ _ _ _ hx
    rcases Nat.lt_or_ge b w.heap.size with h' | h'
    · exact h'
    · rw [Array.getElem?_eq_none h'] at h4; cases h4
  have hC : ∀ b (c : Array Value) t fr, w.heap[b]? = some (.cells c t fr) → b < w.heap.size := fun b c t fr h4 => by
    rcases Nat.lt_or_ge b w.heap.size with h' | h'
    · exact h'
    · rw [Array.getElem?_eq_none h'] at h4; cases h4
  have hle : Le 0 G (G.add H.length w.heap.size (cs.length + cr.length)) := by
    refine ⟨fun _ id v b S hx => ⟨v, b, S, ?_, Nat.le_refl _, fun _ => ⟨rfl, rfl⟩⟩, fun _ _ _ hx => hx, fun _ _ hx => hx⟩
    have : id ≠ H.length := fun e => by subst e; rw [hnew] at hx; cases hx
    simp [Gh.add, this, hx]
  have hold : ∀ b, b < w.heap.size → (w.alloc (.cells (cs ++ cr).toArray t)).heap[b]? = w.heap[b]? := fun b hb => Below.heap_alloc w _ b hb
  refine ⟨⟨h.below.alloc (by have := h.below.size; omega) _, ?_, ?_, ?_, ?_, ?_, ?_⟩, ⟨hle, rfl, ?_, ?_, fun _ _ hx => .inl hx, (by show _ ≤ (w.heap.push _).size; simp), fun b hb _ => hold b hb⟩⟩
  · intro id v b S hx
    simp only [Gh.add] at hx
    split at hx
    · rename_i e; subst e; simp
    · have := h.dom _ _ _ _ hx; simp; omega
  · intro id v b S hx
    simp only [Gh.add] at hx
    split at hx
    · rename_i e; subst e; cases hx
      refine ⟨⟨0, cells⟩, cs, cr, t, by simp, rfl, h.below.size, ?_, rfl, hc.mono hle⟩
      show (w.heap.push _)[w.heap.size]? = _
      simp
    · obtain ⟨o, cs', cr', t', h1, h2, h3, h4, h5, h6⟩ := h.obj _ _ _ _ hx
      refine ⟨o, cs', cr', t', ?_, h2, h3, ?_, h5, h6.mono hle⟩
      · rw [List.getElem?_append_left (h.dom _ _ _ _ hx)]; exact h1
      · rw [hold _ (hblk _ _ _ _ hx)]; exact h4
  · intro id id' v b S v' S' hx hx'
    simp only [Gh.add] at hx hx'
    split at hx <;> split at hx'
    · rename_i e e'; rw [e, e']
    · cases hx; have := hblk _ _ _ _ hx'; omega
    · cases hx'; have := hblk _ _ _ _ hx; omega
    · exact h.inj _ _ _ _ _ _ _ hx hx'
  · intro b s hx
    obtain ⟨h1, c, t', fr, h2, h3⟩ := h.C _ _ hx
    exact ⟨h1, c, t', fr, by rw [hold _ (hC _ _ _ _ h2)]; exact h2, h3⟩
  · intro b s hx
    obtain ⟨h1, c, t', fr, h2, h3⟩ := h.D _ _ hx
    exact ⟨h1, c, t', fr, by rw [hold _ (hC _ _ _ _ h2)]; exact h2, h3⟩
  · intro id v b S hx
    simp only [Gh.add] at hx
    split at hx
    · cases hx
      refine ⟨?_, ?_⟩
      · cases hq : (G.add H.length w.heap.size (cs.length + cr.length)).C w.heap.size with
        | none => rfl
        | some s => obtain ⟨_, c, t', fr, h2, _⟩ := h.C _ _ hq; have := hC _ _ _ _ h2; omega
      · cases hq : (G.add H.length w.heap.size (cs.length + cr.length)).D w.heap.size with
        | none => rfl
        | some s => obtain ⟨_, c, t', fr, h2, _⟩ := h.D _ _ hq; have := hC _ _ _ _ h2; omega
    · exact h.ap _ _ _ _ hx
  · intro id v b S v' b' S' h1 h2
    simp only [Gh.add] at h2
    split at h2
    · cases h2; exact .inr (Nat.le_refl _)
    · rw [h1] at h2; cases h2; exact .inl rfl
  · intro id v b S h1 h2
    simp only [Gh.add] at h1
    split at h1
    · rename_i e; subst e; cases h1; exact ⟨Nat.le_refl _, Nat.le_refl _⟩
    · rw [h2] at h1; cases h1

theorem Gr.alloc (G : Gh) (H : Heap) (o : Ob) (b S : Nat) : Gr (G.add H.length b S) H (H ++ [o]) :=
  ⟨by simp, fun id h1 h2 => ⟨(0, b, S), by simp at h2; have : id = H.length := (by omega); simp [Gh.add, this]⟩⟩

theorem setCells_heap (b : Nat) : ∀ (vs : List Value) (o : Nat) (w : World) (c : Array Value) (t : TypeId) (fr : Nat × Nat), w.heap[b]? = some (.cells c t fr) →
    (w.setCells b o vs).heap[b]? = some (.cells (putAll c.toList o vs).toArray t fr)
  | [], _, w, c, t, fr, h => by simpa [World.setCells, putAll] using h
  | v :: vs, o, w, c, t, fr, h => by
    have h' : (w.setCell ⟨b, o, none⟩ v).heap[b]? = some (.cells (c.setIfInBounds o v) t fr) := by
      simp [World.setCell, Array.getElem?_modify, h]
    have := setCells_heap b vs (o + 1) _ _ _ _ h'
    simpa [World.setCells, putAll] using this

theorem setCells_other (b : Nat) : ∀ (vs : List Value) (o : Nat) (w : World) (k : Nat), k ≠ b → (w.setCells b o vs).heap[k]? = w.heap[k]?
  | [], _, _, _, _ => rfl
  | v :: vs, o, w, k, h => by
    rw [World.setCells, setCells_other b vs _ _ k h]
    exact Below.heap_setCell w _ v k h

theorem setCells_below (b : Nat) {B : Nat} {W : World} (hb : B ≤ b) : ∀ (vs : List Value) (o : Nat) (w : World), Below B W w → Below B W (w.setCells b o vs)
  | [], _, _, h => h
  | v :: vs, o, w, h => setCells_below b hb vs (o + 1) _ (h.setCell (p := ⟨b, o, none⟩) hb v)

theorem setCells_size (b : Nat) : ∀ (vs : List Value) (o : Nat) (w : World), (w.setCells b o vs).heap.size = w.heap.size
  | [], _, _ => rfl
  | v :: vs, o, w => by rw [World.setCells, setCells_size b vs]; simp [World.setCell]

theorem putAll_append {α : Type} : ∀ (us : List α) (i : Nat) (vs ws : List α), i + us.length ≤ vs.length → putAll (vs ++ ws) i us = putAll vs i us ++ ws
  | [], _, _, _, _ => rfl
  | u :: us, i, vs, ws, h => by
    simp only [List.length_cons] at h
    simp only [putAll]
    rw [List.set_append_left _ _ (by omega), putAll_append us (i + 1) _ _ (by simp; omega)]

/-- A change of one object, at its own block. -/
def Gh.ver (G : Gh) (id v b S : Nat) : Gh := { G with ob := fun i => if i = id then some (v, b, S) else G.ob i }

/-- An object is written, or grows within its block. -/
theorem Rel.change (h : Rel W0 G H w) {id v b S v' : Nat} (hid : G.ob id = some (v, b, S)) {cells : List AV} {cs cr : List Value} {t : TypeId} {w' : World}
    (hv : v ≤ v') (hb : w'.heap[b]? = some (.cells (cs ++ cr).toArray t (0, 0))) (hS : cs.length + cr.length = S) (hc : VL W0 G 0 cells cs) (hother : ∀ k, k ≠ b → w'.heap[k]? = w.heap[k]?) (hsz : w'.heap.size = w.heap.size) (hbel : Below W0.heap.size W0 w') :
    Rel W0 (G.ver id v' b S) (H.set id ⟨v', cells⟩) w' ∧ Ext G H w (G.ver id v' b S) w' := by
  have hle : Le 0 G (G.ver id v' b S) := by
    refine ⟨fun _ i v1 b1 S1 hx => ?_, fun _ _ _ hx => hx, fun _ _ hx => hx⟩
    by_cases e : i = id
    · subst e; rw [hid] at hx; cases hx; exact ⟨v', b, S, by simp [Gh.ver], hv, fun _ => ⟨rfl, rfl⟩⟩
    · exact ⟨v1, b1, S1, by simp [Gh.ver, e, hx], Nat.le_refl _, fun _ => ⟨rfl, rfl⟩⟩
  have hlt := h.dom _ _ _ _ hid
  refine ⟨⟨hbel, ?_, ?_, ?_, ?_, ?_, ?_⟩, ⟨hle, rfl, ?_, ?_, fun _ _ hx => .inl hx, by omega, ?_⟩⟩
  · intro i v1 b1 S1 hx
    simp only [Gh.ver] at hx
    split at hx
    · rename_i e; subst e; simpa using hlt
    · simpa using h.dom _ _ _ _ hx
  · intro i v1 b1 S1 hx
    simp only [Gh.ver] at hx
    split at hx
    · rename_i e; subst e; cases hx
      obtain ⟨_, _, _, _, _, _, h3, _⟩ := h.obj _ _ _ _ hid
      exact ⟨⟨v', cells⟩, cs, cr, t, by simp [hlt], rfl, h3, hb, hS, hc.mono hle⟩
    · rename_i e
      obtain ⟨o, cs', cr', t', h1, h2, h3, h4, h5, h6⟩ := h.obj _ _ _ _ hx
      refine ⟨o, cs', cr', t', ?_, h2, h3, ?_, h5, h6.mono hle⟩
      · rw [List.getElem?_set_ne (fun e' => e e'.symm)]; exact h1
      · rw [hother]
        · exact h4
        · intro eb; subst eb; exact e (h.inj _ _ _ _ _ _ _ hx hid)
  · intro i i' v1 b1 S1 v2 S2 hx hx'
    simp only [Gh.ver] at hx hx'
    split at hx <;> split at hx'
    · rename_i e e'; rw [e, e']
    · rename_i e e'; cases hx; rw [e]; exact h.inj _ _ _ _ _ _ _ hid hx'
    · rename_i e e'; cases hx'; rw [e']; exact h.inj _ _ _ _ _ _ _ hx hid
    · exact h.inj _ _ _ _ _ _ _ hx hx'
  · intro k s hx
    obtain ⟨h1, c, t', fr, h2, h3⟩ := h.C _ _ hx
    refine ⟨h1, c, t', fr, ?_, h3⟩
    rw [hother]
    · exact h2
    · intro e; subst e; rw [show (G.ver id v' _ S).C = G.C from rfl, (h.ap _ _ _ _ hid).1] at hx; cases hx
  · intro k s hx
    obtain ⟨h1, c, t', fr, h2, h3⟩ := h.D _ _ hx
    refine ⟨h1, c, t', fr, ?_, h3⟩
    rw [hother]
    · exact h2
    · intro e; subst e; rw [show (G.ver id v' _ S).D = G.D from rfl, (h.ap _ _ _ _ hid).2] at hx; cases hx
  · intro i v1 b1 S1 hx
    simp only [Gh.ver] at hx
    split at hx
    · cases hx; exact h.ap _ _ _ _ hid
    · exact h.ap _ _ _ _ hx
  · intro i v1 b1 S1 v2 b2 S2 h1 h2
    simp only [Gh.ver] at h2
    split at h2
    · rename_i e; subst e; rw [hid] at h1; cases h1; cases h2; exact .inl rfl
    · rw [h1] at h2; cases h2; exact .inl rfl
  · intro i v1 b1 S1 h1 h2
    simp only [Gh.ver] at h1
    split at h1
    · rename_i e; subst e; rw [hid] at h2; cases h2
    · rw [h2] at h1; cases h1
  · intro k hk hn
    exact hother k (fun e => by subst e; exact hn _ _ _ hid)

theorem blk_lt' {b : Nat} {c : Array Value} {t : TypeId} {fr : Nat × Nat} (h4 : w.heap[b]? = some (.cells c t fr)) : b < w.heap.size := by
  rcases Nat.lt_or_ge b w.heap.size with h' | h'
  · exact h'
  · rw [Array.getElem?_eq_none h'] at h4; cases h4

/-- An object goes on in a new block. -/
theorem Rel.move (h : Rel W0 G H w) {id v b S v' : Nat} (hid : G.ob id = some (v, b, S)) {cells : List AV} {cs : List Value} (cr : List Value) (t : TypeId) (hv : v < v') (hc : VL W0 G 0 cells cs) :
    Rel W0 (G.ver id v' w.heap.size (cs.length + cr.length)) (H.set id ⟨v', cells⟩) (w.alloc (.cells (cs ++ cr).toArray t)) ∧ Ext G H w (G.ver id v' w.heap.size (cs.length + cr.length)) (w.alloc (.cells (cs ++ cr).toArray t)) := by
  have hle : Le 0 G (G.ver id v' w.heap.size (cs.length + cr.length)) := by
    refine ⟨fun _ i v1 b1 S1 hx => ?_, fun _ _ _ hx => hx, fun _ _ hx => hx⟩
    by_cases e : i = id
    · subst e; rw [hid] at hx; cases hx; exact ⟨v', w.heap.size, _, by simp [Gh.ver]; rfl, by omega, fun e => by omega⟩
    · exact ⟨v1, b1, S1, by simp [Gh.ver, e, hx], Nat.le_refl _, fun _ => ⟨rfl, rfl⟩⟩
  have hlt := h.dom _ _ _ _ hid
  have hold : ∀ b, b < w.heap.size → (w.alloc (.cells (cs ++ cr).toArray t)).heap[b]? = w.heap[b]? := fun b hb => Below.heap_alloc w _ b hb
  have hblk : ∀ i v1 b1 S1, G.ob i = some (v1, b1, S1) → b1 < w.heap.size := fun i v1 b1 S1 hx => by
    obtain ⟨_, _, _, _, _, _, _, h4, _⟩ := h.obj _ _ _ _ hx
    exact blk_lt' h4
  refine ⟨⟨h.below.alloc (by have := h.below.size; omega) _, ?_, ?_, ?_, ?_, ?_, ?_⟩, ⟨hle, rfl, ?_, ?_, fun _ _ hx => .inl hx, (by show _ ≤ (w.heap.push _).size; simp), fun b hb _ => hold b hb⟩⟩
  · intro i v1 b1 S1 hx
    simp only [Gh.ver] at hx
    split at hx
    · rename_i e; subst e; simpa using hlt
    · simpa using h.dom _ _ _ _ hx
  · intro i v1 b1 S1 hx
    simp only [Gh.ver] at hx
    split at hx
    · rename_i e; subst e; cases hx
      refine ⟨⟨v', cells⟩, cs, cr, t, by simp [hlt], rfl, h.below.size, ?_, rfl, hc.mono hle⟩
      show (w.heap.push _)[w.heap.size]? = _
      simp
    · rename_i e
      obtain ⟨o, cs', cr', t', h1, h2, h3, h4, h5, h6⟩ := h.obj _ _ _ _ hx
      refine ⟨o, cs', cr', t', ?_, h2, h3, ?_, h5, h6.mono hle⟩
      · rw [List.getElem?_set_ne (fun e' => e e'.symm)]; exact h1
      · rw [hold _ (hblk _ _ _ _ hx)]; exact h4
  · intro i i' v1 b1 S1 v2 S2 hx hx'
    simp only [Gh.ver] at hx hx'
    split at hx <;> split at hx'
    · rename_i e e'; rw [e, e']
    · cases hx; have := hblk _ _ _ _ hx'; omega
    · cases hx'; have := hblk _ _ _ _ hx; omega
    · exact h.inj _ _ _ _ _ _ _ hx hx'
  · intro k s hx
    obtain ⟨h1, c, t', fr, h2, h3⟩ := h.C _ _ hx
    exact ⟨h1, c, t', fr, by rw [hold _ (blk_lt' h2)]; exact h2, h3⟩
  · intro k s hx
    obtain ⟨h1, c, t', fr, h2, h3⟩ := h.D _ _ hx
    exact ⟨h1, c, t', fr, by rw [hold _ (blk_lt' h2)]; exact h2, h3⟩
  · intro i v1 b1 S1 hx
    simp only [Gh.ver] at hx
    split at hx
    · cases hx
      refine ⟨?_, ?_⟩
      · cases hq : G.C w.heap.size with
        | none => exact hq
        | some s => obtain ⟨_, c, t', fr, h2, _⟩ := h.C _ _ hq; have := blk_lt' h2; omega
      · cases hq : G.D w.heap.size with
        | none => exact hq
        | some s => obtain ⟨_, c, t', fr, h2, _⟩ := h.D _ _ hq; have := blk_lt' h2; omega
    · exact h.ap _ _ _ _ hx
  · intro i v1 b1 S1 v2 b2 S2 h1 h2
    simp only [Gh.ver] at h2
    split at h2
    · cases h2; exact .inr (Nat.le_refl _)
    · rw [h1] at h2; cases h2; exact .inl rfl
  · intro i v1 b1 S1 h1 h2
    simp only [Gh.ver] at h1
    split at h1
    · rename_i e; subst e; rw [hid] at h2; cases h2
    · rw [h2] at h1; cases h1

theorem putAll_end {α : Type} : ∀ (us cs cr : List α), us.length ≤ cr.length → putAll (cs ++ cr) cs.length us = (cs ++ us) ++ cr.drop us.length
  | [], cs, cr, _ => by simp [putAll]
  | u :: us, cs, [], h => by simp at h
  | u :: us, cs, r :: cr, h => by
    have h1 : (cs ++ r :: cr).set cs.length u = (cs ++ [u]) ++ cr := by
      rw [List.set_append_right _ _ (Nat.le_refl _)]; simp
    have := putAll_end us (cs ++ [u]) cr (by simpa using h)
    simp only [List.length_append, List.length_cons, List.length_nil] at this
    simp only [putAll, h1, this]
    simp

theorem cap_le (need old : Nat) (e : TypeId) (w : World) : need ≤ (Question.appendCap need old e).cut (w.tape w.drawn (.appendCap need old e)) := Nat.le_add_right _ _

end
end Go.X
