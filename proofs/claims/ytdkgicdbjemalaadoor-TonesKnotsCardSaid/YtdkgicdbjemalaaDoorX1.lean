import Derived.Test.YtdkgicdbjemalaaDoorGV
import Derived.Deep.AppendSrc
import Derived.Deep.MidRow
import Derived.Below
/-! How the small machine's values and heaps stand for the model's: the relation, and what it is kept by. -/
namespace Go.X
open Go Go.RowKit

/-- What is known of memory: of each object the version, the block and the block's size; blocks that never change; blocks that do not change for now. -/
structure Gh where
  ob : Nat → Option (Nat × Nat × Nat)
  C : Nat → Option (List Value)
  D : Nat → Option (List Value)

def Im (W0 : World) (G : Gh) (sn : Bool) (a : Addr) (u : Value) : Prop :=
  W0.cell? a = some u ∨ (a.spot = none ∧ ((∃ l, G.C a.block = some l ∧ l[a.off]? = some u) ∨ (sn = true ∧ ∃ l, G.D a.block = some l ∧ l[a.off]? = some u)))

def lv (sn : Bool) : Nat := if sn then 1 else 2

inductive VR (W0 : World) (G : Gh) : Nat → AV → Value → Prop where
  | undef {l} (c : Value) : VR W0 G l .undef c
  | skp {l} : VR W0 G l .skp Go.undef
  | bool {l} (b : Bool) : VR W0 G l (.bool b) (.bool b)
  | int {l} (k : IntKind) (n : Int) : VR W0 G l (.int k n) (.int k n)
  | nilp {l} : VR W0 G l .nilp (.pointer none)
  | nils {l} : VR W0 G l .nils (.slice none 0 0)
  | nilf {l} : VR W0 G l .nilf .nilFunc
  | nili {l} : VR W0 G l .nili .nilIface
  | ptr (id ver off : Nat) (a : Addr) (h : ∃ v0 b S, G.ob id = some (v0, b, S) ∧ ver ≤ v0 ∧ (ver = v0 → a = ⟨b, off, none⟩)) : VR W0 G 0 (.ptr id ver off) (.pointer (some a))
  | cptr {l} (sn : Bool) (cells : List AV) (a : Addr) (u : Nat → Value) (hl : l ≤ lv sn) (h : ∀ j, j < cells.length → Im W0 G sn (a.add j) (u j))
      (r : ∀ j, j < cells.length → VR W0 G (lv sn) (cells.getD j .undef) (u j)) : VR W0 G l (.cptr sn cells) (.pointer (some a))
  | sl (id ver esz off len : Nat) (cap : Option Nat) (a : Addr) (cc : Nat) (hc : len ≤ cc) (hcap : ∀ e, cap = some e → cc = e)
      (h : ∃ v0 b S, G.ob id = some (v0, b, S) ∧ ver ≤ v0 ∧ (ver = v0 → (0 < cc → a = ⟨b, off, none⟩) ∧ off + cc * esz ≤ S)) : VR W0 G 0 (.sl id ver esz off len cap) (.slice (some a) len cc)
  | imm {l} (sn : Bool) (cells : List AV) (len : Nat) (A : Option Addr) (cc : Nat) (u : Nat → Value) (hl : l ≤ lv sn) (hc : len ≤ cc)
      (h : ∀ a, A = some a → ∀ j, j < cells.length → Im W0 G sn (a.add j) (u j)) (h0 : A = none → len = 0 ∧ cells = [])
      (r : ∀ j, j < cells.length → VR W0 G (lv sn) (cells.getD j .undef) (u j)) : VR W0 G l (.imm sn cells len) (.slice A len cc)
  | fn {l} (f : Nat) (caps : List AV) (cs : List Value) (hn : caps.length = cs.length) (r : ∀ j, j < caps.length → VR W0 G l (caps.getD j .undef) (cs.getD j Go.undef)) :
      VR W0 G l (.fn f caps) (.func (.func f) #[] cs.toArray)
  | iface {l} (t : Nat) (v : AV) (c : Value) (r : VR W0 G l v c) : VR W0 G l (.iface t v) (.iface t c)
  | agg {l} (vs : List AV) (cs : List Value) (hn : vs.length = cs.length) (r : ∀ j, j < vs.length → VR W0 G l (vs.getD j .undef) (cs.getD j Go.undef)) : VR W0 G l (.agg vs) (.agg cs.toArray)
  | tup {l} (vs : List AV) (cs : List Value) (hn : vs.length = cs.length) (r : ∀ j, j < vs.length → VR W0 G l (vs.getD j .undef) (cs.getD j Go.undef)) : VR W0 G l (.tup vs) (.tuple cs.toArray)

/-- The package variables hold what is said of them. -/
def GlobP (W0 : World) : Prop := ∀ (g : Nat) (G : Gh), VR W0 G 2 (gval g) (.pointer (some ⟨g, 0, none⟩))
abbrev GlobOk (W0 : World) : Prop := Nonempty (PLift (GlobP W0))
theorem glob_ok {W0 : World} [h : GlobOk W0] (g : Nat) (G : Gh) : VR W0 G 2 (gval g) (.pointer (some ⟨g, 0, none⟩)) := h.elim fun p => p.down g G

/-- Lists of them. -/
def VL (W0 : World) (G : Gh) (l : Nat) (vs : List AV) (cs : List Value) : Prop :=
  vs.length = cs.length ∧ ∀ j, j < vs.length → VR W0 G l (vs.getD j .undef) (cs.getD j Go.undef)

/-- From G to G', as far as values of level l look. -/
structure Le (l : Nat) (G G' : Gh) : Prop where
  ob : l = 0 → ∀ id v b S, G.ob id = some (v, b, S) → ∃ v' b' S', G'.ob id = some (v', b', S') ∧ v ≤ v' ∧ (v = v' → b' = b ∧ S' = S)
  D : l ≤ 1 → ∀ b s, G.D b = some s → G'.D b = some s
  C : ∀ b s, G.C b = some s → G'.C b = some s

theorem Le.up {l m : Nat} {G G' : Gh} (h : Le l G G') (hm : l ≤ m) : Le m G G' := ⟨fun e => h.ob (by omega), fun e => h.D (by omega), h.C⟩

theorem Le.refl (l : Nat) (G : Gh) : Le l G G := ⟨fun _ _ v b S h => ⟨v, b, S, h, Nat.le_refl _, fun _ => ⟨rfl, rfl⟩⟩, fun _ _ _ h => h, fun _ _ h => h⟩

theorem Le.trans {l : Nat} {G G' G'' : Gh} (h : Le l G G') (k : Le l G' G'') : Le l G G'' := by
  refine ⟨fun e id v b S hb => ?_, fun e b s hb => k.D e _ _ (h.D e _ _ hb), fun b s hb => k.C _ _ (h.C _ _ hb)⟩
  obtain ⟨v1, b1, S1, h1, l1, q1⟩ := h.ob e id v b S hb
  obtain ⟨v2, b2, S2, h2, l2, q2⟩ := k.ob e id v1 b1 S1 h1
  refine ⟨v2, b2, S2, h2, Nat.le_trans l1 l2, fun e2 => ?_⟩
  obtain rfl : v1 = v := by omega
  obtain rfl : v1 = v2 := by omega
  obtain ⟨rfl, rfl⟩ := q1 rfl
  exact q2 rfl

theorem lv_le (sn : Bool) : lv sn ≤ 2 := by cases sn <;> decide

theorem Im.mono {W0 : World} {G G' : Gh} {sn : Bool} {a : Addr} {u : Value} {l : Nat} (hl : l ≤ lv sn) (h : Le l G G') (k : Im W0 G sn a u) : Im W0 G' sn a u := by
  rcases k with k | ⟨ks, ⟨s, hs, hu⟩ | ⟨hsn, s, hs, hu⟩⟩
  · exact .inl k
  · exact .inr ⟨ks, .inl ⟨s, h.C _ _ hs, hu⟩⟩
  · subst hsn; exact .inr ⟨ks, .inr ⟨rfl, s, h.D (by simpa [lv] using hl) _ _ hs, hu⟩⟩

theorem VR.mono {W0 : World} {G : Gh} {l : Nat} {v : AV} {c : Value} (h : VR W0 G l v c) : ∀ {G' : Gh}, Le l G G' → VR W0 G' l v c := by
  induction h with
  | undef c => intro G' _; exact .undef c
  | skp => intro G' _; exact .skp
  | bool b => intro G' _; exact .bool b
  | int k n => intro G' _; exact .int k n
  | nilp => intro G' _; exact .nilp
  | nils => intro G' _; exact .nils
  | nilf => intro G' _; exact .nilf
  | nili => intro G' _; exact .nili
  | ptr id ver off a h =>
    intro G' hL
    obtain ⟨v0, b, S, h1, h2, h3⟩ := h
    obtain ⟨v', b', S', k1, k2, k3⟩ := hL.ob rfl _ _ _ _ h1
    refine .ptr id ver off a ⟨v', b', S', k1, by omega, fun e => ?_⟩
    obtain ⟨rfl, rfl⟩ := k3 (by omega)
    exact h3 (by omega)
  | cptr sn cells a u hl h r ih =>
    intro G' hL
    exact .cptr sn cells a u hl (fun j hj => (h j hj).mono hl hL) (fun j hj => ih j hj (hL.up hl))
  | sl id ver esz off len cap a cc hc hcap h =>
    intro G' hL
    obtain ⟨v0, b, S, h1, h2, h3⟩ := h
    obtain ⟨v', b', S', k1, k2, k3⟩ := hL.ob rfl _ _ _ _ h1
    refine .sl id ver esz off len cap a cc hc hcap ⟨v', b', S', k1, by omega, fun e => ?_⟩
    obtain ⟨rfl, rfl⟩ := k3 (by omega)
    exact h3 (by omega)
  | imm sn cells len A cc u hl hc h h0 r ih =>
    intro G' hL
    exact .imm sn cells len A cc u hl hc (fun a ha j hj => (h a ha j hj).mono hl hL) h0 (fun j hj => ih j hj (hL.up hl))
  | fn f caps cs hn r ih => intro G' hL; exact .fn f caps cs hn (fun j hj => ih j hj hL)
  | iface t v c r ih => intro G' hL; exact .iface t v c (ih hL)
  | agg vs cs hn r ih => intro G' hL; exact .agg vs cs hn (fun j hj => ih j hj hL)
  | tup vs cs hn r ih => intro G' hL; exact .tup vs cs hn (fun j hj => ih j hj hL)

theorem VR.weaken {W0 : World} {G : Gh} {l : Nat} {v : AV} {c : Value} (h : VR W0 G l v c) : ∀ {m : Nat}, m ≤ l → VR W0 G m v c := by
  induction h with
  | undef c => intro m _; exact .undef c
  | skp => intro m _; exact .skp
  | bool b => intro m _; exact .bool b
  | int k n => intro m _; exact .int k n
  | nilp => intro m _; exact .nilp
  | nils => intro m _; exact .nils
  | nilf => intro m _; exact .nilf
  | nili => intro m _; exact .nili
  | ptr id ver off a h => intro m hm; obtain rfl : m = 0 := (by omega); exact .ptr id ver off a h
  | cptr sn cells a u hl h r ih => intro m hm; exact .cptr sn cells a u (by omega) h r
  | sl id ver esz off len cap a cc hc hcap h => intro m hm; obtain rfl : m = 0 := (by omega); exact .sl id ver esz off len cap a cc hc hcap h
  | imm sn cells len A cc u hl hc h h0 r ih => intro m hm; exact .imm sn cells len A cc u (by omega) hc h h0 r
  | fn f caps cs hn r ih => intro m hm; exact .fn f caps cs hn (fun j hj => ih j hj hm)
  | iface t v c r ih => intro m hm; exact .iface t v c (ih hm)
  | agg vs cs hn r ih => intro m hm; exact .agg vs cs hn (fun j hj => ih j hj hm)
  | tup vs cs hn r ih => intro m hm; exact .tup vs cs hn (fun j hj => ih j hj hm)

theorem VL.mono {W0 : World} {G G' : Gh} {l : Nat} {vs : List AV} {cs : List Value} (h : VL W0 G l vs cs) (hL : Le l G G') : VL W0 G' l vs cs :=
  ⟨h.1, fun j hj => (h.2 j hj).mono hL⟩

theorem VL.nil {W0 : World} {G : Gh} {l : Nat} : VL W0 G l [] [] := ⟨rfl, fun _ h => absurd h (by simp)⟩

theorem VL.cons {W0 : World} {G : Gh} {l : Nat} {v : AV} {c : Value} {vs : List AV} {cs : List Value} (h : VR W0 G l v c) (k : VL W0 G l vs cs) : VL W0 G l (v :: vs) (c :: cs) := by
  refine ⟨by simp [k.1], fun j hj => ?_⟩
  cases j with
  | zero => exact h
  | succ j => exact k.2 j (by simpa using hj)

theorem VL.head {W0 : World} {G : Gh} {l : Nat} {v : AV} {c : Value} {vs : List AV} {cs : List Value} (h : VL W0 G l (v :: vs) (c :: cs)) : VR W0 G l v c ∧ VL W0 G l vs cs := by
  refine ⟨h.2 0 (by simp), by simpa using h.1, fun j hj => ?_⟩
  exact h.2 (j + 1) (by simpa using hj)

theorem VL.append {W0 : World} {G : Gh} {l : Nat} {vs : List AV} {cs : List Value} {vs' : List AV} {cs' : List Value} (h : VL W0 G l vs cs) (k : VL W0 G l vs' cs') : VL W0 G l (vs ++ vs') (cs ++ cs') := by
  refine ⟨by simp [h.1, k.1], fun j hj => ?_⟩
  simp only [List.getD_eq_getElem?_getD, List.getElem?_append]
  by_cases hlt : j < vs.length
  · rw [if_pos hlt, if_pos (by rw [← h.1]; exact hlt)]
    simpa [List.getD_eq_getElem?_getD] using h.2 j hlt
  · rw [if_neg hlt, if_neg (by rw [← h.1]; exact hlt)]
    have := k.2 (j - vs.length) (by simp at hj; omega)
    rw [← h.1]
    simpa [List.getD_eq_getElem?_getD] using this

theorem VL.drop {W0 : World} {G : Gh} {l : Nat} {vs : List AV} {cs : List Value} (h : VL W0 G l vs cs) (n : Nat) : VL W0 G l (vs.drop n) (cs.drop n) := by
  refine ⟨by simp [h.1], fun j hj => ?_⟩
  simp only [List.getD_eq_getElem?_getD, List.getElem?_drop]
  simpa [List.getD_eq_getElem?_getD] using h.2 (n + j) (by simp at hj; omega)

theorem VL.take {W0 : World} {G : Gh} {l : Nat} {vs : List AV} {cs : List Value} (h : VL W0 G l vs cs) (n : Nat) : VL W0 G l (vs.take n) (cs.take n) := by
  refine ⟨by simp [h.1], fun j hj => ?_⟩
  have hn : j < n := by simp at hj; omega
  simp only [List.getD_eq_getElem?_getD, List.getElem?_take, if_pos hn]
  simpa [List.getD_eq_getElem?_getD] using h.2 j (by simp at hj; omega)

theorem VL.set {W0 : World} {G : Gh} {l : Nat} {vs : List AV} {cs : List Value} {v : AV} {c : Value} (h : VL W0 G l vs cs) (n : Nat) (hv : VR W0 G l v c) : VL W0 G l (vs.set n v) (cs.set n c) := by
  refine ⟨by simp [h.1], fun j hj => ?_⟩
  simp only [List.getD_eq_getElem?_getD, List.getElem?_set]
  have hj' : j < vs.length := by simpa using hj
  by_cases e : n = j
  · subst e; simp [hj', ← h.1, hv]
  · simp only [e, if_false]; simpa [List.getD_eq_getElem?_getD] using h.2 j hj'

theorem VL.weaken {W0 : World} {G : Gh} {l m : Nat} {vs : List AV} {cs : List Value} (h : VL W0 G l vs cs) (hm : m ≤ l) : VL W0 G m vs cs := ⟨h.1, fun j hj => (h.2 j hj).weaken hm⟩

theorem VL.replicate {W0 : World} {G : Gh} {l : Nat} (n : Nat) (c : Value) : VL W0 G l (List.replicate n .undef) (List.replicate n c) := by
  refine ⟨by simp, fun j hj => ?_⟩
  have hj' : j < n := by simpa using hj
  simp [List.getD_eq_getElem?_getD, hj']
  exact .undef _

/-- A heap and a world. -/
structure Rel (W0 : World) (G : Gh) (H : Heap) (w : World) : Prop where
  below : Below W0.heap.size W0 w
  dom : ∀ id v b S, G.ob id = some (v, b, S) → id < H.length
  obj : ∀ id v b S, G.ob id = some (v, b, S) → ∃ o cs cr t, H[id]? = some o ∧ o.ver = v ∧ W0.heap.size ≤ b ∧ w.heap[b]? = some (.cells (cs ++ cr).toArray t (0, 0)) ∧ cs.length + cr.length = S ∧ VL W0 G 0 o.cells cs
  inj : ∀ id id' v b S v' S', G.ob id = some (v, b, S) → G.ob id' = some (v', b, S') → id = id'
  C : ∀ b s, G.C b = some s → W0.heap.size ≤ b ∧ ∃ c t fr, w.heap[b]? = some (.cells c t fr) ∧ ∀ (j : Nat) (u : Value), s[j]? = some u → c[j]? = some u
  D : ∀ b s, G.D b = some s → W0.heap.size ≤ b ∧ ∃ c t fr, w.heap[b]? = some (.cells c t fr) ∧ ∀ (j : Nat) (u : Value), s[j]? = some u → c[j]? = some u
  ap : ∀ id v b S, G.ob id = some (v, b, S) → G.C b = none ∧ G.D b = none

/-- From one state to a later one. -/
structure Ext (G : Gh) (H : Heap) (w : World) (G' : Gh) (w' : World) : Prop where
  le : Le 0 G G'
  D : G'.D = G.D
  blk : ∀ id v b S v' b' S', G.ob id = some (v, b, S) → G'.ob id = some (v', b', S') → b' = b ∨ w.heap.size ≤ b'
  new : ∀ id v b S, G'.ob id = some (v, b, S) → G.ob id = none → H.length ≤ id ∧ w.heap.size ≤ b
  Cn : ∀ b s, G'.C b = some s → G.C b = some s ∨ w.heap.size ≤ b
  size : w.heap.size ≤ w'.heap.size
  frame : ∀ b, b < w.heap.size → (∀ id v S, G.ob id ≠ some (v, b, S)) → w'.heap[b]? = w.heap[b]?

theorem Ext.refl (G : Gh) (H : Heap) (w : World) : Ext G H w G w where
  le := Le.refl _ _
  D := rfl
  blk := fun _ _ _ _ _ _ _ h h' => by rw [h] at h'; cases h'; exact .inl rfl
  new := fun _ _ _ _ h h' => by rw [h] at h'; cases h'
  Cn := fun _ _ h => .inl h
  size := Nat.le_refl _
  frame := fun _ _ _ => rfl

theorem Ext.trans {G : Gh} {H : Heap} {w : World} {G' : Gh} {H' : Heap} {w' : World} {G'' : Gh} {w'' : World} (h : Ext G H w G' w') (hH : H.length ≤ H'.length) (k : Ext G' H' w' G'' w'') : Ext G H w G'' w'' := by
  refine ⟨h.le.trans k.le, k.D.trans h.D, fun id v b S v2 b2 S2 h1 h2 => ?_, fun id v b S h1 h2 => ?_, fun b s h1 => ?_, Nat.le_trans h.size k.size, fun b hb hn => ?_⟩
  · obtain ⟨v1, b1, S1, k1, _, _⟩ := h.le.ob rfl _ _ _ _ h1
    rcases k.blk _ _ _ _ _ _ _ k1 h2 with e | e
    · rcases h.blk _ _ _ _ _ _ _ h1 k1 with e' | e'
      · exact .inl (e.trans e')
      · exact .inr (by omega)
    · exact .inr (by have := h.size; omega)
  · cases hq : G'.ob id with
    | none => have := k.new _ _ _ _ h1 hq; have := h.size; exact ⟨by omega, by omega⟩
    | some x =>
      obtain ⟨v1, b1, S1⟩ := x
      obtain ⟨l1, l2⟩ := h.new _ _ _ _ hq h2
      rcases k.blk _ _ _ _ _ _ _ hq h1 with e | e
      · exact ⟨l1, by omega⟩
      · exact ⟨l1, by have := h.size; omega⟩
  · rcases k.Cn _ _ h1 with e | e
    · exact h.Cn _ _ e
    · exact .inr (by have := h.size; omega)
  · rw [k.frame b (by have := h.size; omega) ?_, h.frame b hb hn]
    intro id v S e
    cases hq : G.ob id with
    | none => have := (h.new _ _ _ _ e hq).2; omega
    | some x =>
      obtain ⟨v1, b1, S1⟩ := x
      rcases h.blk _ _ _ _ _ _ _ hq e with e' | e'
      · subst e'; exact hn _ _ _ hq
      · omega

/-- New objects are known. -/
structure Gr (G' : Gh) (H H' : Heap) : Prop where
  len : H.length ≤ H'.length
  tot : ∀ id, H.length ≤ id → id < H'.length → ∃ x, G'.ob id = some x

theorem Gr.same {G' : Gh} {H H' : Heap} (h : H'.length = H.length) : Gr G' H H' := ⟨by omega, fun id h1 h2 => by omega⟩

/-- A world whose memory is the same. -/
theorem Rel.heap {W0 : World} {G : Gh} {H : Heap} {w w' : World} (h : Rel W0 G H w) (he : w'.heap = w.heap) (hb : Below W0.heap.size W0 w') : Rel W0 G H w' :=
  ⟨hb, h.dom, fun id v b S hx => by rw [he]; exact h.obj id v b S hx, h.inj, fun b s hx => by rw [he]; exact h.C b s hx, fun b s hx => by rw [he]; exact h.D b s hx, h.ap⟩

theorem Rel.drew {W0 : World} {G : Gh} {H : Heap} {w : World} (h : Rel W0 G H w) : Rel W0 G H w.drew := h.heap rfl h.below.drew

theorem Ext.drew (G : Gh) (H : Heap) (w : World) : Ext G H w G w.drew := { Ext.refl G H w with size := Nat.le_refl _, frame := fun _ _ _ => rfl }

/-- What does not change is read in the world that stands. -/
theorem Rel.im {W0 : World} {G : Gh} {H : Heap} {w : World} (h : Rel W0 G H w) {sn : Bool} {a : Addr} {u : Value} (k : Im W0 G sn a u) : w.cell? a = some u := by
  rcases k with k | ⟨ks, ⟨s, hs, hu⟩ | ⟨_, s, hs, hu⟩⟩
  · have hlt : a.block < W0.heap.size := by
      unfold World.cell? at k
      rcases Nat.lt_or_ge a.block W0.heap.size with h' | h'
      · exact h'
      · rw [Array.getElem?_eq_none h'] at k; cases k
    rw [h.below.cell hlt]; exact k
  · obtain ⟨_, c, t, fr, hc, hj⟩ := h.C _ _ hs
    simp [World.cell?, hc, ks, hj _ _ hu]
  · obtain ⟨_, c, t, fr, hc, hj⟩ := h.D _ _ hs
    simp [World.cell?, hc, ks, hj _ _ hu]

theorem Addr.add_off (b o j : Nat) : (⟨b, o, none⟩ : Addr).add j = ⟨b, o + j, none⟩ := by
  unfold Addr.add; split
  · rename_i h; subst h; rfl
  · rfl

theorem Addr.add_add (a : Addr) (i j : Nat) : (a.add i).add j = a.add (i + j) := by
  unfold Addr.add
  by_cases hi : i = 0
  · subst hi; simp
  · by_cases hj : j = 0
    · subst hj; simp [hi]
    · simp [hi, hj, Nat.add_assoc]

/-- The cells that lie from a place on, in the world. -/
theorem cellsAt_spec {W0 : World} {G : Gh} {H : Heap} {w : World} (h : Rel W0 G H w) {p : AV} {c : Value} (hp : VR W0 G 0 p c) {n : Nat} {cs : List AV} (hc : cellsAt H p n = some cs) :
    ∃ a us, c = .pointer (some a) ∧ cs.length = n ∧ VL W0 G 0 cs us ∧ (∀ j, j < n → w.cell? (a.add j) = some (us.getD j Go.undef)) := by
  unfold cellsAt at hc
  split at hc
  · rename_i id ver off
    split at hc
    · rename_i o ho
      split at hc
      · rename_i hv
        obtain ⟨hv1, hv2⟩ := hv
        cases hp with
        | ptr _ _ _ a hp =>
          obtain ⟨v0, b, S, h1, h2, h3⟩ := hp
          obtain ⟨o', us, cr, t, k1, k2, k3, k4, k5, k6⟩ := h.obj _ _ _ _ h1
          rw [ho] at k1; cases k1
          subst hv1
          obtain rfl := h3 k2
          cases hc
          refine ⟨_, (us.drop off).take n, rfl, by simp; omega, (k6.drop off).take n, fun j hj => ?_⟩
          rw [Addr.add_off]
          have hlen := k6.1
          simp only [World.cell?, k4, Option.isSome_none, Bool.false_eq_true, if_false]
          have hlt : off + j < us.length := by omega
          simp [List.getD_eq_getElem?_getD, hj, List.getElem?_drop, hlt, List.getElem?_append]
      · cases hc
    · cases hc
  · rename_i sn cells
    split at hc
    · rename_i hn
      cases hc
      cases hp with
      | cptr _ _ a u hl him r =>
        refine ⟨a, (List.range n).map u, rfl, by simp; omega, ⟨by simp; omega, fun j hj => ?_⟩, fun j hj => ?_⟩
        · have hj' : j < n := by simp at hj; omega
          have := r j (by omega)
          simp only [List.getD_eq_getElem?_getD, List.getElem?_take, hj', if_true] at this ⊢
          rw [List.getElem?_map, List.getElem?_range hj']; simp only [Option.map_some, Option.getD_some]
          exact this.weaken (by omega)
        · rw [h.im (him j (by omega))]
          simp [List.getD_eq_getElem?_getD, List.getElem?_map, List.getElem?_range hj]
    · cases hc
  · cases hc

/-- A slice's cells, in the world. -/
theorem content_spec {W0 : World} {G : Gh} {H : Heap} {w : World} (h : Rel W0 G H w) {x : AV} {c : Value} (hx : VR W0 G 0 x c) {esz n : Nat} (hn : lenA x = some n) {cs : List AV} (hc : content H esz x = some cs) :
    ∃ A cc us, c = .slice A n cc ∧ n ≤ cc ∧ cs.length = n * esz ∧ VL W0 G 0 cs us ∧ (A = none → n = 0) ∧ (∀ a, A = some a → ∀ j, j < n * esz → w.cell? (a.add j) = some (us.getD j Go.undef)) := by
  cases hx with
  | nils =>
    simp [lenA] at hn; subst hn
    simp [content] at hc; subst hc
    exact ⟨none, 0, [], rfl, Nat.le_refl _, by simp, VL.nil, fun _ => rfl, fun a ha => by cases ha⟩
  | imm sn cells len A cc u hl hcc him h0 r =>
    simp [lenA] at hn; subst hn
    simp only [content] at hc
    split at hc
    · rename_i hle
      cases hc
      refine ⟨A, cc, (List.range (len * esz)).map u, rfl, hcc, by simp; omega, ⟨by simp; omega, fun j hj => ?_⟩, fun e => (h0 e).1, fun a ha j hj => ?_⟩
      · have hj' : j < len * esz := by simp at hj; omega
        have := r j (by omega)
        simp only [List.getD_eq_getElem?_getD, List.getElem?_take, hj', if_true] at this ⊢
        rw [List.getElem?_map, List.getElem?_range hj']; simp only [Option.map_some, Option.getD_some]
        exact this.weaken (by omega)
      · rw [h.im (him a ha j (by omega))]
        simp [List.getD_eq_getElem?_getD, List.getElem?_map, List.getElem?_range hj]
    · cases hc
  | sl id ver e off len cap a cc hcc hcap hob =>
    simp [lenA] at hn; subst hn
    simp only [content] at hc
    split at hc
    · rename_i o ho
      split at hc
      · rename_i hv
        obtain ⟨hv1, hv2, hv3⟩ := hv
        obtain ⟨v0, b, S, h1, h2, h3⟩ := hob
        obtain ⟨o', us, cr, t, k1, k2, k3, k4, k5, k6⟩ := h.obj _ _ _ _ h1
        rw [ho] at k1; cases k1
        subst hv1
        obtain ⟨ha, hS⟩ := h3 k2
        cases hc
        have hlen := k6.1
        refine ⟨some a, cc, (us.drop off).take (len * esz), rfl, hcc, by simp; omega, (k6.drop off).take _, (fun e => by cases e), fun a' ea j hj => ?_⟩
        cases ea
        have hl0 : 0 < len := by
          rcases Nat.eq_zero_or_pos len with e | e
          · subst e; simp at hj
          · exact e
        rw [ha (by omega), Addr.add_off]
        simp only [World.cell?, k4, Option.isSome_none, Bool.false_eq_true, if_false]
        have hlt : off + j < us.length := by omega
        simp [List.getD_eq_getElem?_getD, hj, List.getElem?_drop, hlt, List.getElem?_append]
      · cases hc
    · cases hc
  | _ => simp [lenA] at hn

end Go.X
