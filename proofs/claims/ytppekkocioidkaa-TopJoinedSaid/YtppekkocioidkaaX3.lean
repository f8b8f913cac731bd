import Derived.Test.YtppekkocioidkaaGV
import Derived.Deep.AppendSrc
import Derived.Deep.MidRow
import Derived.Below
import Derived.Laws.StructEq
import Derived.Laws.MakeOwn
import Derived.Laws.IdiomCopy
import Derived.Laws.Tables
/-! How the small machine's values and heaps stand for the model's: the relation, and what it is kept by. -/
namespace Go.X
open Go Go.RowKit

/-- What is known of memory: of each object the version, the block and the block's size; blocks that never change; blocks that do not change for now. -/
structure Gh where
  ob : Nat → Option (Nat × Nat × Nat)
  C : Nat → Option (List Value)
  D : Nat → Option (List Value)

def Im (W0 : World) (G : Gh) (sn : Bool) (a : Addr) (u : Value) : Prop :=
  W0.cell? a = some u ∨ (a.spot = none ∧ ((∃ l, G.C a.block = some l ∧ l[a.off]? = some u) ∨ (sn = true ∧ ∃ l, G.D a.block = some l ∧ l[a.off]? = some u)))

def lv (sn : Bool) : Nat := if sn then 1 else 2

inductive VR (W0 : World) (G : Gh) : Nat → AV → Value → Prop where
  | undef {l} (c : Value) : VR W0 G l .undef c
  | skp {l} : VR W0 G l .skp Go.undef
  | bool {l} (b : Bool) : VR W0 G l (.bool b) (.bool b)
  | int {l} (k : IntKind) (n : Int) : VR W0 G l (.int k n) (.int k n)
  | nilp {l} : VR W0 G l .nilp (.pointer none)
  | nils {l} : VR W0 G l .nils (.slice none 0 0)
  | nilf {l} : VR W0 G l .nilf .nilFunc
  | nili {l} : VR W0 G l .nili .nilIface
  | ptr (id ver off : Nat) (a : Addr) (h : ∃ v0 b S, G.ob id = some (v0, b, S) ∧ ver ≤ v0 ∧ (ver = v0 → a = ⟨b, off, none⟩)) : VR W0 G 0 (.ptr id ver off) (.pointer (some a))
  | cptr {l} (sn : Bool) (cells : List AV) (a : Addr) (u : Nat → Value) (hl : l ≤ lv sn) (h : ∀ j, j < cells.length → Im W0 G sn (a.add j) (u j))
      (r : ∀ j, j < cells.length → VR W0 G (lv sn) (cells.getD j .undef) (u j)) : VR W0 G l (.cptr sn cells) (.pointer (some a))
  | sl (id ver esz off len : Nat) (cap : Option Nat) (a : Addr) (cc : Nat) (hc : len ≤ cc) (hcap : ∀ e, cap = some e → cc = e)
      (h : ∃ v0 b S, G.ob id = some (v0, b, S) ∧ ver ≤ v0 ∧ (ver = v0 → (0 < cc → a = ⟨b, off, none⟩) ∧ off + cc * esz ≤ S)) : VR W0 G 0 (.sl id ver esz off len cap) (.slice (some a) len cc)
  | imm {l} (sn : Bool) (cells : List AV) (len : Nat) (A : Option Addr) (cc : Nat) (u : Nat → Value) (hl : l ≤ lv sn) (hc : len ≤ cc)
      (h : ∀ a, A = some a → ∀ j, j < cells.length → Im W0 G sn (a.add j) (u j)) (h0 : A = none → len = 0 ∧ cells = [])
      (r : ∀ j, j < cells.length → VR W0 G (lv sn) (cells.getD j .undef) (u j)) : VR W0 G l (.imm sn cells len) (.slice A len cc)
  | fn {l} (f : Nat) (caps : List AV) (cs : List Value) (hn : caps.length = cs.length) (r : ∀ j, j < caps.length → VR W0 G l (caps.getD j .undef) (cs.getD j Go.undef)) :
      VR W0 G l (.fn f caps) (.func (.func f) #[] cs.toArray)
  | iface {l} (t : Nat) (v : AV) (c : Value) (r : VR W0 G l v c) : VR W0 G l (.iface t v) (.iface t c)
  | agg {l} (vs : List AV) (cs : List Value) (hn : vs.length = cs.length) (r : ∀ j, j < vs.length → VR W0 G l (vs.getD j .undef) (cs.getD j Go.undef)) : VR W0 G l (.agg vs) (.agg cs.toArray)
  | tup {l} (vs : List AV) (cs : List Value) (hn : vs.length = cs.length) (r : ∀ j, j < vs.length → VR W0 G l (vs.getD j .undef) (cs.getD j Go.undef)) : VR W0 G l (.tup vs) (.tuple cs.toArray)

/-- The package variables hold what is said of them. -/
def GlobP (W0 : World) : Prop := ∀ (g : Nat) (G : Gh), VR W0 G 2 (gval g) (.pointer (some ⟨g, 0, none⟩))
abbrev GlobOk (W0 : World) : Prop := Nonempty (PLift (GlobP W0))
theorem glob_ok {W0 : World} [h : GlobOk W0] (g : Nat) (G : Gh) : VR W0 G 2 (gval g) (.pointer (some ⟨g, 0, none⟩)) := h.elim fun p => p.down g G

/-- Lists of them. -/
def VL (W0 : World) (G : Gh) (l : Nat) (vs : List AV) (cs : List Value) : Prop :=
  vs.length = cs.length ∧ ∀ j, j < vs.length → VR W0 G l (vs.getD j .undef) (cs.getD j Go.undef)

/-- From G to G', as far as values of level l look. -/
structure Le (l : Nat) (G G' : Gh) : Prop where
  ob : l = 0 → ∀ id v b S, G.ob id = some (v, b, S) → ∃ v' b' S', G'.ob id = some (v', b', S') ∧ v ≤ v' ∧ (v = v' → b' = b ∧ S' = S)
  D : l ≤ 1 → ∀ b s, G.D b = some s → G'.D b = some s
  C : ∀ b s, G.C b = some s → G'.C b = some s

theorem Le.up {l m : Nat} {G G' : Gh} (h : Le l G G') (hm : l ≤ m) : Le m G G' := ⟨fun e => h.ob (by omega), fun e => h.D (by omega), h.C⟩

theorem Le.refl (l : Nat) (G : Gh) : Le l G G := ⟨fun _ _ v b S h => ⟨v, b, S, h, Nat.le_refl _, fun _ => ⟨rfl, rfl⟩⟩, fun _ _ _ h => h, fun _ _ h => h⟩

theorem Le.trans {l : Nat} {G G' G'' : Gh} (h : Le l G G') (k : Le l G' G'') : Le l G G'' := by
  refine ⟨fun e id v b S hb => ?_, fun e b s hb => k.D e _ _ (h.D e _ _ hb), fun b s hb => k.C _ _ (h.C _ _ hb)⟩
  obtain ⟨v1, b1, S1, h1, l1, q1⟩ := h.ob e id v b S hb
  obtain ⟨v2, b2, S2, h2, l2, q2⟩ := k.ob e id v1 b1 S1 h1
  refine ⟨v2, b2, S2, h2, Nat.le_trans l1 l2, fun e2 => ?_⟩
  obtain rfl : v1 = v := by omega
  obtain rfl : v1 = v2 := by omega
  obtain ⟨rfl, rfl⟩ := q1 rfl
  exact q2 rfl

theorem lv_le (sn : Bool) : lv sn ≤ 2 := by cases sn <;> decide

theorem Im.mono {W0 : World} {G G' : Gh} {sn : Bool} {a : Addr} {u : Value} {l : Nat} (hl : l ≤ lv sn) (h : Le l G G') (k : Im W0 G sn a u) : Im W0 G' sn a u := by
  rcases k with k | ⟨ks, ⟨s, hs, hu⟩ | ⟨hsn, s, hs, hu⟩⟩
  · exact .inl k
  · exact .inr ⟨ks, .inl ⟨s, h.C _ _ hs, hu⟩⟩
  · subst hsn; exact .inr ⟨ks, .inr ⟨rfl, s, h.D (by simpa [lv] using hl) _ _ hs, hu⟩⟩

theorem VR.mono {W0 : World} {G : Gh} {l : Nat} {v : AV} {c : Value} (h : VR W0 G l v c) : ∀ {G' : Gh}, Le l G G' → VR W0 G' l v c := by
  induction h with
  | undef c => intro G' _; exact .undef c
  | skp => intro G' _; exact .skp
  | bool b => intro G' _; exact .bool b
  | int k n => intro G' _; exact .int k n
  | nilp => intro G' _; exact .nilp
  | nils => intro G' _; exact .nils
  | nilf => intro G' _; exact .nilf
  | nili => intro G' _; exact .nili
  | ptr id ver off a h =>
    intro G' hL
    obtain ⟨v0, b, S, h1, h2, h3⟩ := h
    obtain ⟨v', b', S', k1, k2, k3⟩ := hL.ob rfl _ _ _ _ h1
    refine .ptr id ver off a ⟨v', b', S', k1, by omega, fun e => ?_⟩
    obtain ⟨rfl, rfl⟩ := k3 (by omega)
    exact h3 (by omega)
  | cptr sn cells a u hl h r ih =>
    intro G' hL
    exact .cptr sn cells a u hl (fun j hj => (h j hj).mono hl hL) (fun j hj => ih j hj (hL.up hl))
  | sl id ver esz off len cap a cc hc hcap h =>
    intro G' hL
    obtain ⟨v0, b, S, h1, h2, h3⟩ := h
    obtain ⟨v', b', S', k1, k2, k3⟩ := hL.ob rfl _ _ _ _ h1
    refine .sl id ver esz off len cap a cc hc hcap ⟨v', b', S', k1, by omega, fun e => ?_⟩
    obtain ⟨rfl, rfl⟩ := k3 (by omega)
    exact h3 (by omega)
  | imm sn cells len A cc u hl hc h h0 r ih =>
    intro G' hL
    exact .imm sn cells len A cc u hl hc (fun a ha j hj => (h a ha j hj).mono hl hL) h0 (fun j hj => ih j hj (hL.up hl))
  | fn f caps cs hn r ih => intro G' hL; exact .fn f caps cs hn (fun j hj => ih j hj hL)
  | iface t v c r ih => intro G' hL; exact .iface t v c (ih hL)
  | agg vs cs hn r ih => intro G' hL; exact .agg vs cs hn (fun j hj => ih j hj hL)
  | tup vs cs hn r ih => intro G' hL; exact .tup vs cs hn (fun j hj => ih j hj hL)

theorem VR.weaken {W0 : World} {G : Gh} {l : Nat} {v : AV} {c : Value} (h : VR W0 G l v c) : ∀ {m : Nat}, m ≤ l → VR W0 G m v c := by
  induction h with
  | undef c => intro m _; exact .undef c
  | skp => intro m _; exact .skp
  | bool b => intro m _; exact .bool b
  | int k n => intro m _; exact .int k n
  | nilp => intro m _; exact .nilp
  | nils => intro m _; exact .nils
  | nilf => intro m _; exact .nilf
  | nili => intro m _; exact .nili
  | ptr id ver off a h => intro m hm; obtain rfl : m = 0 := (by omega); exact .ptr id ver off a h
  | cptr sn cells a u hl h r ih => intro m hm; exact .cptr sn cells a u (by omega) h r
  | sl id ver esz off len cap a cc hc hcap h => intro m hm; obtain rfl : m = 0 := (by omega); exact .sl id ver esz off len cap a cc hc hcap h
  | imm sn cells len A cc u hl hc h h0 r ih => intro m hm; exact .imm sn cells len A cc u (by omega) hc h h0 r
  | fn f caps cs hn r ih => intro m hm; exact .fn f caps cs hn (fun j hj => ih j hj hm)
  | iface t v c r ih => intro m hm; exact .iface t v c (ih hm)
  | agg vs cs hn r ih => intro m hm; exact .agg vs cs hn (fun j hj => ih j hj hm)
  | tup vs cs hn r ih => intro m hm; exact .tup vs cs hn (fun j hj => ih j hj hm)

theorem VL.mono {W0 : World} {G G' : Gh} {l : Nat} {vs : List AV} {cs : List Value} (h : VL W0 G l vs cs) (hL : Le l G G') : VL W0 G' l vs cs :=
  ⟨h.1, fun j hj => (h.2 j hj).mono hL⟩

theorem VL.nil {W0 : World} {G : Gh} {l : Nat} : VL W0 G l [] [] := ⟨rfl, fun _ h => absurd h (by simp)⟩

theorem VL.cons {W0 : World} {G : Gh} {l : Nat} {v : AV} {c : Value} {vs : List AV} {cs : List Value} (h : VR W0 G l v c) (k : VL W0 G l vs cs) : VL W0 G l (v :: vs) (c :: cs) := by
  refine ⟨by simp [k.1], fun j hj => ?_⟩
  cases j with
  | zero => exact h
  | succ j => exact k.2 j (by simpa using hj)

theorem VL.head {W0 : World} {G : Gh} {l : Nat} {v : AV} {c : Value} {vs : List AV} {cs : List Value} (h : VL W0 G l (v :: vs) (c :: cs)) : VR W0 G l v c ∧ VL W0 G l vs cs := by
  refine ⟨h.2 0 (by simp), by simpa using h.1, fun j hj => ?_⟩
  exact h.2 (j + 1) (by simpa using hj)

theorem VL.append {W0 : World} {G : Gh} {l : Nat} {vs : List AV} {cs : List Value} {vs' : List AV} {cs' : List Value} (h : VL W0 G l vs cs) (k : VL W0 G l vs' cs') : VL W0 G l (vs ++ vs') (cs ++ cs') := by
  refine ⟨by simp [h.1, k.1], fun j hj => ?_⟩
  simp only [List.getD_eq_getElem?_getD, List.getElem?_append]
  by_cases hlt : j < vs.length
  · rw [if_pos hlt, if_pos (by rw [← h.1]; exact hlt)]
    simpa [List.getD_eq_getElem?_getD] using h.2 j hlt
  · rw [if_neg hlt, if_neg (by rw [← h.1]; exact hlt)]
    have := k.2 (j - vs.length) (by simp at hj; omega)
    rw [← h.1]
    simpa [List.getD_eq_getElem?_getD] using this

theorem VL.drop {W0 : World} {G : Gh} {l : Nat} {vs : List AV} {cs : List Value} (h : VL W0 G l vs cs) (n : Nat) : VL W0 G l (vs.drop n) (cs.drop n) := by
  refine ⟨by simp [h.1], fun j hj => ?_⟩
  simp only [List.getD_eq_getElem?_getD, List.getElem?_drop]
  simpa [List.getD_eq_getElem?_getD] using h.2 (n + j) (by simp at hj; omega)

theorem VL.take {W0 : World} {G : Gh} {l : Nat} {vs : List AV} {cs : List Value} (h : VL W0 G l vs cs) (n : Nat) : VL W0 G l (vs.take n) (cs.take n) := by
  refine ⟨by simp [h.1], fun j hj => ?_⟩
  have hn : j < n := by simp at hj; omega
  simp only [List.getD_eq_getElem?_getD, List.getElem?_take, if_pos hn]
  simpa [List.getD_eq_getElem?_getD] using h.2 j (by simp at hj; omega)

theorem VL.set {W0 : World} {G : Gh} {l : Nat} {vs : List AV} {cs : List Value} {v : AV} {c : Value} (h : VL W0 G l vs cs) (n : Nat) (hv : VR W0 G l v c) : VL W0 G l (vs.set n v) (cs.set n c) := by
  refine ⟨by simp [h.1], fun j hj => ?_⟩
  simp only [List.getD_eq_getElem?_getD, List.getElem?_set]
  have hj' : j < vs.length := by simpa using hj
  by_cases e : n = j
  · subst e; simp [hj', ← h.1, hv]
  · simp only [e, if_false]; simpa [List.getD_eq_getElem?_getD] using h.2 j hj'

theorem VL.weaken {W0 : World} {G : Gh} {l m : Nat} {vs : List AV} {cs : List Value} (h : VL W0 G l vs cs) (hm : m ≤ l) : VL W0 G m vs cs := ⟨h.1, fun j hj => (h.2 j hj).weaken hm⟩

theorem VL.replicate {W0 : World} {G : Gh} {l : Nat} (n : Nat) (c : Value) : VL W0 G l (List.replicate n .undef) (List.replicate n c) := by
  refine ⟨by simp, fun j hj => ?_⟩
  have hj' : j < n := by simpa using hj
  simp [List.getD_eq_getElem?_getD, hj']
  exact .undef _

/-- A heap and a world. -/
structure Rel (W0 : World) (G : Gh) (H : Heap) (w : World) : Prop where
  below : Below W0.heap.size W0 w
  dom : ∀ id v b S, G.ob id = some (v, b, S) → id < H.length
  obj : ∀ id v b S, G.ob id = some (v, b, S) → ∃ o cs cr t, H[id]? = some o ∧ o.ver = v ∧ W0.heap.size ≤ b ∧ w.heap[b]? = some (.cells (cs ++ cr).toArray t (0, 0)) ∧ cs.length + cr.length = S ∧ VL W0 G 0 o.cells cs
  inj : ∀ id id' v b S v' S', G.ob id = some (v, b, S) → G.ob id' = some (v', b, S') → id = id'
  C : ∀ b s, G.C b = some s → W0.heap.size ≤ b ∧ ∃ c t fr, w.heap[b]? = some (.cells c t fr) ∧ ∀ (j : Nat) (u : Value), s[j]? = some u → c[j]? = some u
  D : ∀ b s, G.D b = some s → W0.heap.size ≤ b ∧ ∃ c t fr, w.heap[b]? = some (.cells c t fr) ∧ ∀ (j : Nat) (u : Value), s[j]? = some u → c[j]? = some u
  ap : ∀ id v b S, G.ob id = some (v, b, S) → G.C b = none ∧ G.D b = none

/-- From one state to a later one. -/
structure Ext (G : Gh) (H : Heap) (w : World) (G' : Gh) (w' : World) : Prop where
  le : Le 0 G G'
  D : G'.D = G.D
  blk : ∀ id v b S v' b' S', G.ob id = some (v, b, S) → G'.ob id = some (v', b', S') → b' = b ∨ w.heap.size ≤ b'
  new : ∀ id v b S, G'.ob id = some (v, b, S) → G.ob id = none → H.length ≤ id ∧ w.heap.size ≤ b
  Cn : ∀ b s, G'.C b = some s → G.C b = some s ∨ w.heap.size ≤ b
  size : w.heap.size ≤ w'.heap.size
  frame : ∀ b, b < w.heap.size → (∀ id v S, G.ob id ≠ some (v, b, S)) → w'.heap[b]? = w.heap[b]?

theorem Ext.refl (G : Gh) (H : Heap) (w : World) : Ext G H w G w where
  le := Le.refl _ _
  D := rfl
  blk := fun _ _ _ _ _ _ _ h h' => by rw [h] at h'; cases h'; exact .inl rfl
  new := fun _ _ _ _ h h' => by rw [h] at h'; cases h'
  Cn := fun _ _ h => .inl h
  size := Nat.le_refl _
  frame := fun _ _ _ => rfl

theorem Ext.trans {G : Gh} {H : Heap} {w : World} {G' : Gh} {H' : Heap} {w' : World} {G'' : Gh} {w'' : World} (h : Ext G H w G' w') (hH : H.length ≤ H'.length) (k : Ext G' H' w' G'' w'') : Ext G H w G'' w'' := by
  refine ⟨h.le.trans k.le, k.D.trans h.D, fun id v b S v2 b2 S2 h1 h2 => ?_, fun id v b S h1 h2 => ?_, fun b s h1 => ?_, Nat.le_trans h.size k.size, fun b hb hn => ?_⟩
  · obtain ⟨v1, b1, S1, k1, _, _⟩ := h.le.ob rfl _ _ _ _ h1
    rcases k.blk _ _ _ _ _ _ _ k1 h2 with e | e
    · rcases h.blk _ _ _ _ _ _ _ h1 k1 with e' | e'
      · exact .inl (e.trans e')
      · exact .inr (by omega)
    · exact .inr (by have := h.size; omega)
  · cases hq : G'.ob id with
    | none => have := k.new _ _ _ _ h1 hq; have := h.size; exact ⟨by omega, by omega⟩
    | some x =>
      obtain ⟨v1, b1, S1⟩ := x
      obtain ⟨l1, l2⟩ := h.new _ _ _ _ hq h2
      rcases k.blk _ _ _ _ _ _ _ hq h1 with e | e
      · exact ⟨l1, by omega⟩
      · exact ⟨l1, by have := h.size; omega⟩
  · rcases k.Cn _ _ h1 with e | e
    · exact h.Cn _ _ e
    · exact .inr (by have := h.size; omega)
  · rw [k.frame b (by have := h.size; omega) ?_, h.frame b hb hn]
    intro id v S e
    cases hq : G.ob id with
    | none => have := (h.new _ _ _ _ e hq).2; omega
    | some x =>
      obtain ⟨v1, b1, S1⟩ := x
      rcases h.blk _ _ _ _ _ _ _ hq e with e' | e'
      · subst e'; exact hn _ _ _ hq
      · omega

/-- New objects are known. -/
structure Gr (G' : Gh) (H H' : Heap) : Prop where
  len : H.length ≤ H'.length
  tot : ∀ id, H.length ≤ id → id < H'.length → ∃ x, G'.ob id = some x

theorem Gr.same {G' : Gh} {H H' : Heap} (h : H'.length = H.length) : Gr G' H H' := ⟨by omega, fun id h1 h2 => by omega⟩

/-- A world whose memory is the same. -/
theorem Rel.heap {W0 : World} {G : Gh} {H : Heap} {w w' : World} (h : Rel W0 G H w) (he : w'.heap = w.heap) (hb : Below W0.heap.size W0 w') : Rel W0 G H w' :=
  ⟨hb, h.dom, fun id v b S hx => by rw [he]; exact h.obj id v b S hx, h.inj, fun b s hx => by rw [he]; exact h.C b s hx, fun b s hx => by rw [he]; exact h.D b s hx, h.ap⟩

theorem Rel.drew {W0 : World} {G : Gh} {H : Heap} {w : World} (h : Rel W0 G H w) : Rel W0 G H w.drew := h.heap rfl h.below.drew

theorem Ext.drew (G : Gh) (H : Heap) (w : World) : Ext G H w G w.drew := { Ext.refl G H w with size := Nat.le_refl _, frame := fun _ _ _ => rfl }

/-- What does not change is read in the world that stands. -/
theorem Rel.im {W0 : World} {G : Gh} {H : Heap} {w : World} (h : Rel W0 G H w) {sn : Bool} {a : Addr} {u : Value} (k : Im W0 G sn a u) : w.cell? a = some u := by
  rcases k with k | ⟨ks, ⟨s, hs, hu⟩ | ⟨_, s, hs, hu⟩⟩
  · have hlt : a.block < W0.heap.size := by
      unfold World.cell? at k
      rcases Nat.lt_or_ge a.block W0.heap.size with h' | h'
      · exact h'
      · rw [Array.getElem?_eq_none h'] at k; cases k
    rw [h.below.cell hlt]; exact k
  · obtain ⟨_, c, t, fr, hc, hj⟩ := h.C _ _ hs
    simp [World.cell?, hc, ks, hj _ _ hu]
  · obtain ⟨_, c, t, fr, hc, hj⟩ := h.D _ _ hs
    simp [World.cell?, hc, ks, hj _ _ hu]

theorem Addr.add_off (b o j : Nat) : (⟨b, o, none⟩ : Addr).add j = ⟨b, o + j, none⟩ := by
  unfold Addr.add; split
  · rename_i h; subst h; rfl
  · rfl

theorem Addr.add_add (a : Addr) (i j : Nat) : (a.add i).add j = a.add (i + j) := by
  unfold Addr.add
  by_cases hi : i = 0
  · subst hi; simp
  · by_cases hj : j = 0
    · subst hj; simp [hi]
    · simp [hi, hj, Nat.add_assoc]

/-- The cells that lie from a place on, in the world. -/
theorem cellsAt_spec {W0 : World} {G : Gh} {H : Heap} {w : World} (h : Rel W0 G H w) {p : AV} {c : Value} (hp : VR W0 G 0 p c) {n : Nat} {cs : List AV} (hc : cellsAt H p n = some cs) :
    ∃ a us, c = .pointer (some a) ∧ cs.length = n ∧ VL W0 G 0 cs us ∧ (∀ j, j < n → w.cell? (a.add j) = some (us.getD j Go.undef)) := by
  unfold cellsAt at hc
  split at hc
  · rename_i id ver off
    split at hc
    · rename_i o ho
      split at hc
      · rename_i hv
        obtain ⟨hv1, hv2⟩ := hv
        cases hp with
        | ptr _ _ _ a hp =>
          obtain ⟨v0, b, S, h1, h2, h3⟩ := hp
          obtain ⟨o', us, cr, t, k1, k2, k3, k4, k5, k6⟩ := h.obj _ _ _ _ h1
          rw [ho] at k1; cases k1
          subst hv1
          obtain rfl := h3 k2
          cases hc
          refine ⟨_, (us.drop off).take n, rfl, by simp; omega, (k6.drop off).take n, fun j hj => ?_⟩
          rw [Addr.add_off]
          have hlen := k6.1
          simp only [World.cell?, k4, Option.isSome_none, Bool.false_eq_true, if_false]
          have hlt : off + j < us.length := by omega
          simp [List.getD_eq_getElem?_getD, hj, List.getElem?_drop, hlt, List.getElem?_append]
      · cases hc
    · cases hc
  · rename_i sn cells
    split at hc
    · rename_i hn
      cases hc
      cases hp with
      | cptr _ _ a u hl him r =>
        refine ⟨a, (List.range n).map u, rfl, by simp; omega, ⟨by simp; omega, fun j hj => ?_⟩, fun j hj => ?_⟩
        · have hj' : j < n := by simp at hj; omega
          have := r j (by omega)
          simp only [List.getD_eq_getElem?_getD, List.getElem?_take, hj', if_true] at this ⊢
          rw [List.getElem?_map, List.getElem?_range hj']; simp only [Option.map_some, Option.getD_some]
          exact this.weaken (by omega)
        · rw [h.im (him j (by omega))]
          simp [List.getD_eq_getElem?_getD, List.getElem?_map, List.getElem?_range hj]
    · cases hc
  · cases hc

/-- A slice's cells, in the world. -/
theorem content_spec {W0 : World} {G : Gh} {H : Heap} {w : World} (h : Rel W0 G H w) {x : AV} {c : Value} (hx : VR W0 G 0 x c) {esz n : Nat} (hn : lenA x = some n) {cs : List AV} (hc : content H esz x = some cs) :
    ∃ A cc us, c = .slice A n cc ∧ n ≤ cc ∧ cs.length = n * esz ∧ VL W0 G 0 cs us ∧ (A = none → n = 0) ∧ (∀ a, A = some a → ∀ j, j < n * esz → w.cell? (a.add j) = some (us.getD j Go.undef)) := by
  cases hx with
  | nils =>
    simp [lenA] at hn; subst hn
    simp [content] at hc; subst hc
    exact ⟨none, 0, [], rfl, Nat.le_refl _, by simp, VL.nil, fun _ => rfl, fun a ha => by cases ha⟩
  | imm sn cells len A cc u hl hcc him h0 r =>
    simp [lenA] at hn; subst hn
    simp only [content] at hc
    split at hc
    · rename_i hle
      cases hc
      refine ⟨A, cc, (List.range (len * esz)).map u, rfl, hcc, by simp; omega, ⟨by simp; omega, fun j hj => ?_⟩, fun e => (h0 e).1, fun a ha j hj => ?_⟩
      · have hj' : j < len * esz := by simp at hj; omega
        have := r j (by omega)
        simp only [List.getD_eq_getElem?_getD, List.getElem?_take, hj', if_true] at this ⊢
        rw [List.getElem?_map, List.getElem?_range hj']; simp only [Option.map_some, Option.getD_some]
        exact this.weaken (by omega)
      · rw [h.im (him a ha j (by omega))]
        simp [List.getD_eq_getElem?_getD, List.getElem?_map, List.getElem?_range hj]
    · cases hc
  | sl id ver e off len cap a cc hcc hcap hob =>
    simp [lenA] at hn; subst hn
    simp only [content] at hc
    split at hc
    · rename_i o ho
      split at hc
      · rename_i hv
        obtain ⟨hv1, hv2, hv3⟩ := hv
        obtain ⟨v0, b, S, h1, h2, h3⟩ := hob
        obtain ⟨o', us, cr, t, k1, k2, k3, k4, k5, k6⟩ := h.obj _ _ _ _ h1
        rw [ho] at k1; cases k1
        subst hv1
        obtain ⟨ha, hS⟩ := h3 k2
        cases hc
        have hlen := k6.1
        refine ⟨some a, cc, (us.drop off).take (len * esz), rfl, hcc, by simp; omega, (k6.drop off).take _, (fun e => by cases e), fun a' ea j hj => ?_⟩
        cases ea
        have hl0 : 0 < len := by
          rcases Nat.eq_zero_or_pos len with e | e
          · subst e; simp at hj
          · exact e
        rw [ha (by omega), Addr.add_off]
        simp only [World.cell?, k4, Option.isSome_none, Bool.false_eq_true, if_false]
        have hlt : off + j < us.length := by omega
        simp [List.getD_eq_getElem?_getD, hj, List.getElem?_drop, hlt, List.getElem?_append]
      · cases hc
    · cases hc
  | _ => simp [lenA] at hn

end Go.X

/-! The small machine's operations out of the model's, and what they do to the relation. -/
set_option linter.unusedSimpArgs false
set_option linter.unusedVariables false
set_option linter.unusedSectionVars false
namespace Go.X
open Go Go.RowKit

/-! ### From the model's text -/
def const1 : Value → AV
  | .bool b => .bool b
  | .int k n => .int k n
  | .pointer none => .nilp
  | .slice none 0 0 => .nils
  | .nilFunc => .nilf
  | .nilIface => .nili
  | _ => .undef

def constA : Value → AV
  | .agg cs => .agg (cs.toList.map const1)
  | v => const1 v

def opdA : Operand → Opd
  | .tmp t => .t t
  | .const v => .c (constA v)
  | .func f => .c (.fn f [])
  | .global g => .c (gval g)

def isStruct (P : Program) (t : TypeId) : Option Bool :=
  match P.underlying t with
  | some (.struct _) | some (.array _ _) => some true
  | some _ => some false
  | none => none

def sizeA (P : Program) (t : TypeId) : Option Nat := (P.info? t).map (·.size)

def zeroA (P : Program) (t : TypeId) : Option (List AV) := match (P.info? t).bind (·.zero) with
  | some z => if isU (constA z) then none else some (cellsOf (constA z))
  | none => none

def placesA (P : Program) (fs : List Field) : Option (List (Nat × Nat)) := fs.mapM (fun f => (P.info? f.type).map fun i => (f.offset, i.size))

def partsA (place : Nat → Option (Nat × Nat)) (ps : List (Nat × Operand)) : Option (List (Nat × Nat × Opd)) :=
  ps.mapM fun p => (place p.1).map fun q => (q.1, q.2, opdA p.2)

/-- A struct of whole numbers and bools, a cell each, in order. -/
def flatA (P : Program) : Nat → List Field → Option (List Bool)
  | _, [] => some []
  | i, f :: fs => if f.name != "_" && f.offset == i then
      match P.underlying f.type, flatA P (i + 1) fs with
      | some (.int _), some ks => some (true :: ks)
      | some .bool, some ks => some (false :: ks)
      | _, _ => none
    else none

def methodTab (P : Program) (name : String) : List (Nat × Nat) :=
  (List.range P.types.size).filterMap fun t => match P.info? t with
    | some i => match i.methods.find? (·.name == name) with
      | some m => match m.path.isEmpty, m.func, P.underlying t with
        | true, some (f, false), some (.pointer _) => none
        | true, some (f, false), some _ => some (t, f)
        | _, _, _ => none
      | none => none
    | none => none

def compBin (P : Program) (op : BinOp) (t : TypeId) (x y : Operand) : Ins :=
  match P.underlying t with
  | some (.int _) => .bin op (opdA x) (opdA y)
  | some .bool => match op with
    | .eql => .eqb false (opdA x) (opdA y)
    | .neq => .eqb true (opdA x) (opdA y)
    | _ => .bad
  | some (.struct fs) => match flatA P 0 fs.toList with
    | some ks => if !P.stoodInHeld t && !P.eqGuardType P.depth t then
      match op with
      | .eql => .eqs false ks (opdA x) (opdA y)
      | .neq => .eqs true ks (opdA x) (opdA y)
      | _ => .bad
      else .bad
    | none => .bad
  | some (.slice _) => match op, y with
    | .eql, .const (.slice none _ _) => .eqn false (opdA x)
    | .neq, .const (.slice none _ _) => .eqn true (opdA x)
    | _, _ => .bad
  | _ => .bad

def compCall (P : Program) (md : Nat → Nat) (c : Call) (ty : TypeId) : Ins :=
  match c.callee with
  | .value (.func f) => .call (md f) f (c.args.toList.map opdA)
  | .value (.tmp t) => .calld (md 1000000) (.t t) (c.args.toList.map opdA)
  | .value _ => .bad
  | .invoke r name => .callm (md 1000001) (methodTab P name) (opdA r) (c.args.toList.map opdA)
  | .builtin .len => match c.args.toList, (c.argTypes[0]?).bind P.underlying with
    | [x], some (.slice _) => .len (opdA x)
    | _, _ => .bad
  | .builtin .min => .mnx false (c.args.toList.map opdA)
  | .builtin .max => .mnx true (c.args.toList.map opdA)
  | .builtin .append => match c.args.toList, c.argTypes.toList with
    | [x, y], [t, u] => match P.underlying t, P.underlying u with
      | some (.slice e), some (.slice _) => match P.info? e with
        | some i => match i.zero with
          | some z => if i.size = 0 ∨ i.bytes = 0 ∨ z.cells.size ≠ i.size then .bad else .app i.size i.bytes (opdA x) (opdA y)
          | none => .bad
        | none => .bad
      | _, _ => .bad
    | _, _ => .bad
  | _ => .bad

def orBad (o : Option Ins) : Ins := o.getD .bad

def compOp (P : Program) (md : Nat → Nat) (o : Oper) : Ins :=
  match o.op with
  | .move x | .assign x => .mov (opdA x)
  | .pick c a b => .pick (opdA c) (opdA a) (opdA b)
  | .alloc t => orBad ((zeroA P t).map .alloc)
  | .box _ x => .box (opdA x)
  | .build t ps => orBad (match zeroA P t, P.underlying t with
    | some z, some (.struct fs) => match placesA P fs.toList with
      | some places => (partsA (fun i => places[i]?) ps.toList).map (.build z)
      | none => none
    | some z, some (.array _ e) => match sizeA P e with
      | some s => (partsA (fun i => some (i * s, s)) ps.toList).map (.build z)
      | none => none
    | _, _ => none)
  | .buildSlice t len ps => orBad (match P.underlying t with
    | some (.slice e) => match sizeA P e, zeroA P e with
      | some s, some z => if len * s ≤ 16777216 ∧ z.length = s then (partsA (fun i => some (i * s, s)) ps.toList).map (.bslice s len z) else none
      | _, _ => none
    | _ => none)
  | .load t p => orBad (match isStruct P t, sizeA P t with
    | some true, some s => some (.load (some s) (opdA p))
    | some false, _ => some (.load none (opdA p))
    | _, _ => none)
  | .store t p x => orBad ((sizeA P t).map fun s => .store s (opdA p) (opdA x))
  | .nilCheck x => .chk (opdA x)
  | .binOp op t x y _ => compBin P op t x y
  | .unOp op _ x => .un op (opdA x)
  | .convert s d x => match P.underlying s, P.underlying d with
    | some (.int _), some (.int k) => .conv k (opdA x)
    | _, _ => .bad
  | .makeInterface t x => match P.underlying t with
    | some (.interface _) => .bad
    | some _ => .mki t (opdA x)
    | none => .bad
  | .makeFunc (.func f) first caps => if first.isEmpty then .mkf f (caps.toList.map opdA) else .bad
  | .makeSlice t l c => orBad (match P.underlying t with
    | some (.slice e) => match P.info? e, zeroA P e with
      | some i, some z => some (.mks i.size i.bytes z (opdA l) (opdA c))
      | _, _ => none
    | _ => none)
  | .slice t x lo hi mx => orBad (match P.underlying t with
    | some (.slice e) => (sizeA P e).map fun s => .slice s (opdA x) (lo.map opdA) (hi.map opdA) (mx.map opdA)
    | _ => none)
  | .fieldAddr t x i => orBad (match P.underlying t with
    | some (.struct fs) => match fs[i]? with
      | some f => match sizeA P f.type with
        | some (_ + 1) => some (.fieldA f.offset (opdA x))
        | _ => none
      | none => none
    | _ => none)
  | .field t x i => orBad (match P.underlying t with
    | some (.struct fs) => match fs[i]? with
      | some f => match isStruct P f.type, sizeA P f.type with
        | some true, some s => some (.field (some s) f.offset (opdA x))
        | some false, _ => some (.field none f.offset (opdA x))
        | _, _ => none
      | none => none
    | _ => none)
  | .indexAddr t x i => orBad (match P.underlying t with
    | some (.slice e) => (sizeA P e).map fun s => .indexA s (opdA x) (opdA i)
    | some (.array n e) => (sizeA P e).map fun s => .indexP s n (opdA x) (opdA i)
    | _ => none)
  | .index t x i => orBad (match P.underlying t with
    | some (.array n e) => match isStruct P e, sizeA P e with
      | some true, some s => some (.index (some s) s n (opdA x) (opdA i))
      | some false, some s => some (.index none s n (opdA x) (opdA i))
      | _, _ => none
    | _ => none)
  | .extract x i => .ext (opdA x) i
  | .call c => compCall P md c o.type
  | _ => .bad

/-- An operation with its guard: the guard's own operation must have a place. -/
def comp1 (P : Program) (md : Nat → Nat) (ops : Array Oper) (o : Oper) : Op1 :=
  match o.guard with
  | none => ⟨none, o.dst, compOp P md o⟩
  | some (j, b) => match (ops[j]?).bind (·.dst) with
    | some t => ⟨some (t, b), o.dst, compOp P md o⟩
    | none => ⟨none, o.dst, .bad⟩

def compOps (P : Program) (md : Nat → Nat) (ops : Array Oper) : List Op1 := ops.toList.map (comp1 P md ops)

/-! ### The relation's values -/
section
variable {W0 : World} [GlobOk W0] {G : Gh} {H : Heap} {w : World}

theorem const1_spec (l : Nat) (v : Value) : VR W0 G l (const1 v) v := by
  unfold const1
  split <;> first | exact .undef _ | constructor

theorem constA_spec (l : Nat) (v : Value) : VR W0 G l (constA v) v := by
  unfold constA
  split
  · rename_i cs
    have : VR W0 G l (.agg (cs.toList.map const1)) (.agg cs.toList.toArray) := .agg _ _ (by simp) (fun j hj => by
      have hj' : j < cs.toList.length := by simpa using hj
      simp only [List.getD_eq_getElem?_getD, List.getElem?_map, List.getElem?_eq_getElem hj', Option.map_some, Option.getD_some]
      exact const1_spec l _)
    simpa using this
  · exact const1_spec l _

/-- A function's frame. -/
def FR (W0 : World) (G : Gh) (fr : List AV) (tmps : Array Value) : Prop := fr.length ≤ tmps.size ∧ ∀ i, i < fr.length → VR W0 G 0 (fr.getD i .undef) (tmps.getD i Go.undef)

theorem FR.mono {G' : Gh} {fr : List AV} {tmps : Array Value} (h : FR W0 G fr tmps) (k : Le 0 G G') : FR W0 G' fr tmps := ⟨h.1, fun i hi => (h.2 i hi).mono k⟩

theorem FR.put {fr : List AV} {a : Act} {v : AV} {c : Value} (h : FR W0 G fr a.tmps) (d : Option Nat) (hv : VR W0 G 0 v c) :
    FR W0 G (putA fr d v) (a.put d c).tmps := by
  cases d with
  | none => exact h
  | some d =>
    refine ⟨by simpa [Act.put, putA] using h.1, fun i hi => ?_⟩
    simp only [Act.put, putA, List.length_set] at hi ⊢
    have hsz : i < a.tmps.size := Nat.lt_of_lt_of_le hi h.1
    have := h.2 i hi
    simp only [List.getD_eq_getElem?_getD, Array.getD_eq_getD_getElem?, List.getElem?_set, Array.getElem?_setIfInBounds] at this ⊢
    by_cases e : d = i
    · subst e; simp [hi, hsz, hv]
    · simpa [e] using this

theorem FR.ev {fr : List AV} {a : Act} (h : FR W0 G fr a.tmps) (x : Operand) : VR W0 G 0 ((opdA x).ev fr) (a.eval x) := by
  cases x with
  | tmp t =>
    simp only [opdA, Opd.ev, Act.eval]
    by_cases ht : t < fr.length
    · exact h.2 t ht
    · rw [List.getD_eq_getElem?_getD, List.getElem?_eq_none (Nat.le_of_not_lt ht)]; exact .undef _
  | const v => exact constA_spec 0 v
  | func f => exact .fn f [] [] rfl (fun _ hj => absurd hj (by simp))
  | global g => exact (glob_ok g G).weaken (Nat.zero_le _)

theorem FR.evs {fr : List AV} {a : Act} (h : FR W0 G fr a.tmps) (xs : List Operand) : VL W0 G 0 ((xs.map opdA).map (·.ev fr)) (xs.map a.eval) := by
  induction xs with
  | nil => exact VL.nil
  | cons x xs ih => exact VL.cons (h.ev x) ih

theorem cellsOf_spec {l : Nat} {v : AV} {c : Value} (h : VR W0 G l v c) (hu : isU v = false) : VL W0 G l (cellsOf v) c.cells.toList := by
  cases h with
  | undef => simp [isU] at hu
  | agg vs cs hn r => exact ⟨by simpa [cellsOf, Value.cells] using hn, by simpa [cellsOf, Value.cells] using r⟩
  | skp => exact VL.cons .skp VL.nil
  | bool b => exact VL.cons (.bool b) VL.nil
  | int k n => exact VL.cons (.int k n) VL.nil
  | nilp => exact VL.cons .nilp VL.nil
  | nils => exact VL.cons .nils VL.nil
  | nilf => exact VL.cons .nilf VL.nil
  | nili => exact VL.cons .nili VL.nil
  | ptr id ver off a h => exact VL.cons (.ptr id ver off a h) VL.nil
  | cptr sn cells a u hl h r => exact VL.cons (.cptr sn cells a u hl h r) VL.nil
  | sl id ver esz off len cap a cc hc hcap h => exact VL.cons (.sl id ver esz off len cap a cc hc hcap h) VL.nil
  | imm sn cells len A cc u hl hc h h0 r => exact VL.cons (.imm sn cells len A cc u hl hc h h0 r) VL.nil
  | fn f caps cs hn r => exact VL.cons (.fn f caps cs hn r) VL.nil
  | iface t v c r => exact VL.cons (.iface t v c r) VL.nil
  | tup vs cs hn r => exact VL.cons (.tup vs cs hn r) VL.nil

theorem one_spec {l : Nat} {v : AV} {c : Value} (h : VR W0 G l v c) (hu : one v = true) : c.oneCell' = true := by
  cases h <;> first | rfl | simp [one] at hu

theorem putAll_length {α : Type} : ∀ (us : List α) (i : Nat) (vs : List α), (putAll vs i us).length = vs.length
  | [], _, _ => rfl
  | u :: us, i, vs => by simp [putAll, putAll_length us]

theorem VL.putAll {l : Nat} : ∀ {us : List AV} {ds : List Value} (i : Nat) {vs : List AV} {cs : List Value}, VL W0 G l vs cs → VL W0 G l us ds → VL W0 G l (putAll vs i us) (putAll cs i ds)
  | [], [], _, _, _, h, _ => h
  | [], _ :: _, _, _, _, _, k => by simpa using k.1
  | _ :: _, [], _, _, _, _, k => by simpa using k.1
  | u :: us, d :: ds, i, vs, cs, h, k => VL.putAll (i + 1) (h.set i k.head.1) k.head.2

theorem zerosA_spec {l : Nat} {zero : List AV} {z : List Value} (h : VL W0 G l zero z) (m : Nat) : VL W0 G l (zerosA zero m) (madeCells z.toArray m).toList := by
  refine ⟨by simp [zerosA, madeCells], fun j hj => ?_⟩
  have hj' : j < m := by simpa [zerosA] using hj
  by_cases h0 : zero.length = 0
  · have : zero = [] := List.eq_nil_of_length_eq_zero h0
    subst this
    simp only [zerosA, List.getD_eq_getElem?_getD, List.getElem?_map, List.getElem?_range hj', Option.map_some, Option.getD_some, List.getElem?_nil, Option.getD_none]
    exact .undef _
  · have hlt : j % zero.length < zero.length := Nat.mod_lt _ (by omega)
    have hlt' : j % z.length < z.length := by rw [← h.1]; exact hlt
    have := h.2 _ hlt
    simp only [zerosA, madeCells, List.getD_eq_getElem?_getD, List.getElem?_map, List.getElem?_range hj', Option.map_some, Option.getD_some, Array.toList_map, Array.toList_range] at this ⊢
    rw [h.1] at this ⊢
    simpa [List.size_toArray, hlt'] using this

end

/-! ### New blocks, stores -/
section
variable {W0 : World} [GlobOk W0] {G : Gh} {H : Heap} {w : World}

/-- The ghost behind a new object. -/
def Gh.add (G : Gh) (id b S : Nat) : Gh := { G with ob := fun i => if i = id then some (0, b, S) else G.ob i }

theorem Rel.alloc (h : Rel W0 G H w) {cells : List AV} {cs : List Value} (cr : List Value) (t : TypeId) (hc : VL W0 G 0 cells cs) :
    Rel W0 (G.add H.length w.heap.size (cs.length + cr.length)) (H ++ [⟨0, cells⟩]) (w.alloc (.cells (cs ++ cr).toArray t)) ∧ Ext G H w (G.add H.length w.heap.size (cs.length + cr.length)) (w.alloc (.cells (cs ++ cr).toArray t)) := by
  have hnew : G.ob H.length = none := by
    cases hq : G.ob H.length with
    | none => rfl
    | some x => obtain ⟨v, b, S⟩ := x; have := h.dom _ _ _ _ hq; omega
  have hblk : ∀ id v b S, G.ob id = some (v, b, S) → b < w.heap.size := fun id v b S hx => by
    obtain ⟨_, _, _, _, _, _, _, h4, _⟩ := h.obj _ _ _ _ hx
    rcases Nat.lt_or_ge b w.heap.size with h' | h'
    · exact h'
    · rw [Array.getElem?_eq_none h'] at h4; cases h4
  have hC : ∀ b (c : Array Value) t fr, w.heap[b]? = some (.cells c t fr) → b < w.heap.size := fun b c t fr h4 => by
    rcases Nat.lt_or_ge b w.heap.size with h' | h'
    · exact h'
    · rw [Array.getElem?_eq_none h'] at h4; cases h4
  have hle : Le 0 G (G.add H.length w.heap.size (cs.length + cr.length)) := by
    refine ⟨fun _ id v b S hx => ⟨v, b, S, ?_, Nat.le_refl _, fun _ => ⟨rfl, rfl⟩⟩, fun _ _ _ hx => hx, fun _ _ hx => hx⟩
    have : id ≠ H.length := fun e => by subst e; rw [hnew] at hx; cases hx
    simp [Gh.add, this, hx]
  have hold : ∀ b, b < w.heap.size → (w.alloc (.cells (cs ++ cr).toArray t)).heap[b]? = w.heap[b]? := fun b hb => Below.heap_alloc w _ b hb
  refine ⟨⟨h.below.alloc (by have := h.below.size; omega) _, ?_, ?_, ?_, ?_, ?_, ?_⟩, ⟨hle, rfl, ?_, ?_, fun _ _ hx => .inl hx, (by show _ ≤ (w.heap.push _).size; simp), fun b hb _ => hold b hb⟩⟩
  · intro id v b S hx
    simp only [Gh.add] at hx
    split at hx
    · rename_i e; subst e; simp
    · have := h.dom _ _ _ _ hx; simp; omega
  · intro id v b S hx
    simp only [Gh.add] at hx
    split at hx
    · rename_i e; subst e; cases hx
      refine ⟨⟨0, cells⟩, cs, cr, t, by simp, rfl, h.below.size, ?_, rfl, hc.mono hle⟩
      show (w.heap.push _)[w.heap.size]? = _
      simp
    · obtain ⟨o, cs', cr', t', h1, h2, h3, h4, h5, h6⟩ := h.obj _ _ _ _ hx
      refine ⟨o, cs', cr', t', ?_, h2, h3, ?_, h5, h6.mono hle⟩
      · rw [List.getElem?_append_left (h.dom _ _ _ _ hx)]; exact h1
      · rw [hold _ (hblk _ _ _ _ hx)]; exact h4
  · intro id id' v b S v' S' hx hx'
    simp only [Gh.add] at hx hx'
    split at hx <;> split at hx'
    · rename_i e e'; rw [e, e']
    · cases hx; have := hblk _ _ _ _ hx'; omega
    · cases hx'; have := hblk _ _ _ _ hx; omega
    · exact h.inj _ _ _ _ _ _ _ hx hx'
  · intro b s hx
    obtain ⟨h1, c, t', fr, h2, h3⟩ := h.C _ _ hx
    exact ⟨h1, c, t', fr, by rw [hold _ (hC _ _ _ _ h2)]; exact h2, h3⟩
  · intro b s hx
    obtain ⟨h1, c, t', fr, h2, h3⟩ := h.D _ _ hx
    exact ⟨h1, c, t', fr, by rw [hold _ (hC _ _ _ _ h2)]; exact h2, h3⟩
  · intro id v b S hx
    simp only [Gh.add] at hx
    split at hx
    · cases hx
      refine ⟨?_, ?_⟩
      · cases hq : (G.add H.length w.heap.size (cs.length + cr.length)).C w.heap.size with
        | none => rfl
        | some s => obtain ⟨_, c, t', fr, h2, _⟩ := h.C _ _ hq; have := hC _ _ _ _ h2; omega
      · cases hq : (G.add H.length w.heap.size (cs.length + cr.length)).D w.heap.size with
        | none => rfl
        | some s => obtain ⟨_, c, t', fr, h2, _⟩ := h.D _ _ hq; have := hC _ _ _ _ h2; omega
    · exact h.ap _ _ _ _ hx
  · intro id v b S v' b' S' h1 h2
    simp only [Gh.add] at h2
    split at h2
    · cases h2; exact .inr (Nat.le_refl _)
    · rw [h1] at h2; cases h2; exact .inl rfl
  · intro id v b S h1 h2
    simp only [Gh.add] at h1
    split at h1
    · rename_i e; subst e; cases h1; exact ⟨Nat.le_refl _, Nat.le_refl _⟩
    · rw [h2] at h1; cases h1

theorem Gr.alloc (G : Gh) (H : Heap) (o : Ob) (b S : Nat) : Gr (G.add H.length b S) H (H ++ [o]) :=
  ⟨by simp, fun id h1 h2 => ⟨(0, b, S), by simp at h2; have : id = H.length := (by omega); simp [Gh.add, this]⟩⟩

theorem setCells_heap (b : Nat) : ∀ (vs : List Value) (o : Nat) (w : World) (c : Array Value) (t : TypeId) (fr : Nat × Nat), w.heap[b]? = some (.cells c t fr) →
    (w.setCells b o vs).heap[b]? = some (.cells (putAll c.toList o vs).toArray t fr)
  | [], _, w, c, t, fr, h => by simpa [World.setCells, putAll] using h
  | v :: vs, o, w, c, t, fr, h => by
    have h' : (w.setCell ⟨b, o, none⟩ v).heap[b]? = some (.cells (c.setIfInBounds o v) t fr) := by
      simp [World.setCell, Array.getElem?_modify, h]
    have := setCells_heap b vs (o + 1) _ _ _ _ h'
    simpa [World.setCells, putAll] using this

theorem setCells_other (b : Nat) : ∀ (vs : List Value) (o : Nat) (w : World) (k : Nat), k ≠ b → (w.setCells b o vs).heap[k]? = w.heap[k]?
  | [], _, _, _, _ => rfl
  | v :: vs, o, w, k, h => by
    rw [World.setCells, setCells_other b vs _ _ k h]
    exact Below.heap_setCell w _ v k h

theorem setCells_below (b : Nat) {B : Nat} {W : World} (hb : B ≤ b) : ∀ (vs : List Value) (o : Nat) (w : World), Below B W w → Below B W (w.setCells b o vs)
  | [], _, _, h => h
  | v :: vs, o, w, h => setCells_below b hb vs (o + 1) _ (h.setCell (p := ⟨b, o, none⟩) hb v)

theorem setCells_size (b : Nat) : ∀ (vs : List Value) (o : Nat) (w : World), (w.setCells b o vs).heap.size = w.heap.size
  | [], _, _ => rfl
  | v :: vs, o, w => by rw [World.setCells, setCells_size b vs]; simp [World.setCell]

theorem putAll_append {α : Type} : ∀ (us : List α) (i : Nat) (vs ws : List α), i + us.length ≤ vs.length → putAll (vs ++ ws) i us = putAll vs i us ++ ws
  | [], _, _, _, _ => rfl
  | u :: us, i, vs, ws, h => by
    simp only [List.length_cons] at h
    simp only [putAll]
    rw [List.set_append_left _ _ (by omega), putAll_append us (i + 1) _ _ (by simp; omega)]

/-- A change of one object, at its own block. -/
def Gh.ver (G : Gh) (id v b S : Nat) : Gh := { G with ob := fun i => if i = id then some (v, b, S) else G.ob i }

/-- An object is written, or grows within its block. -/
theorem Rel.change (h : Rel W0 G H w) {id v b S v' : Nat} (hid : G.ob id = some (v, b, S)) {cells : List AV} {cs cr : List Value} {t : TypeId} {w' : World}
    (hv : v ≤ v') (hb : w'.heap[b]? = some (.cells (cs ++ cr).toArray t (0, 0))) (hS : cs.length + cr.length = S) (hc : VL W0 G 0 cells cs) (hother : ∀ k, k ≠ b → w'.heap[k]? = w.heap[k]?) (hsz : w'.heap.size = w.heap.size) (hbel : Below W0.heap.size W0 w') :
    Rel W0 (G.ver id v' b S) (H.set id ⟨v', cells⟩) w' ∧ Ext G H w (G.ver id v' b S) w' := by
  have hle : Le 0 G (G.ver id v' b S) := by
    refine ⟨fun _ i v1 b1 S1 hx => ?_, fun _ _ _ hx => hx, fun _ _ hx => hx⟩
    by_cases e : i = id
    · subst e; rw [hid] at hx; cases hx; exact ⟨v', b, S, by simp [Gh.ver], hv, fun _ => ⟨rfl, rfl⟩⟩
    · exact ⟨v1, b1, S1, by simp [Gh.ver, e, hx], Nat.le_refl _, fun _ => ⟨rfl, rfl⟩⟩
  have hlt := h.dom _ _ _ _ hid
  refine ⟨⟨hbel, ?_, ?_, ?_, ?_, ?_, ?_⟩, ⟨hle, rfl, ?_, ?_, fun _ _ hx => .inl hx, by omega, ?_⟩⟩
  · intro i v1 b1 S1 hx
    simp only [Gh.ver] at hx
    split at hx
    · rename_i e; subst e; simpa using hlt
    · simpa using h.dom _ _ _ _ hx
  · intro i v1 b1 S1 hx
    simp only [Gh.ver] at hx
    split at hx
    · rename_i e; subst e; cases hx
      obtain ⟨_, _, _, _, _, _, h3, _⟩ := h.obj _ _ _ _ hid
      exact ⟨⟨v', cells⟩, cs, cr, t, by simp [hlt], rfl, h3, hb, hS, hc.mono hle⟩
    · rename_i e
      obtain ⟨o, cs', cr', t', h1, h2, h3, h4, h5, h6⟩ := h.obj _ _ _ _ hx
      refine ⟨o, cs', cr', t', ?_, h2, h3, ?_, h5, h6.mono hle⟩
      · rw [List.getElem?_set_ne (fun e' => e e'.symm)]; exact h1
      · rw [hother]
        · exact h4
        · intro eb; subst eb; exact e (h.inj _ _ _ _ _ _ _ hx hid)
  · intro i i' v1 b1 S1 v2 S2 hx hx'
    simp only [Gh.ver] at hx hx'
    split at hx <;> split at hx'
    · rename_i e e'; rw [e, e']
    · rename_i e e'; cases hx; rw [e]; exact h.inj _ _ _ _ _ _ _ hid hx'
    · rename_i e e'; cases hx'; rw [e']; exact h.inj _ _ _ _ _ _ _ hx hid
    · exact h.inj _ _ _ _ _ _ _ hx hx'
  · intro k s hx
    obtain ⟨h1, c, t', fr, h2, h3⟩ := h.C _ _ hx
    refine ⟨h1, c, t', fr, ?_, h3⟩
    rw [hother]
    · exact h2
    · intro e; subst e; rw [show (G.ver id v' _ S).C = G.C from rfl, (h.ap _ _ _ _ hid).1] at hx; cases hx
  · intro k s hx
    obtain ⟨h1, c, t', fr, h2, h3⟩ := h.D _ _ hx
    refine ⟨h1, c, t', fr, ?_, h3⟩
    rw [hother]
    · exact h2
    · intro e; subst e; rw [show (G.ver id v' _ S).D = G.D from rfl, (h.ap _ _ _ _ hid).2] at hx; cases hx
  · intro i v1 b1 S1 hx
    simp only [Gh.ver] at hx
    split at hx
    · cases hx; exact h.ap _ _ _ _ hid
    · exact h.ap _ _ _ _ hx
  · intro i v1 b1 S1 v2 b2 S2 h1 h2
    simp only [Gh.ver] at h2
    split at h2
    · rename_i e; subst e; rw [hid] at h1; cases h1; cases h2; exact .inl rfl
    · rw [h1] at h2; cases h2; exact .inl rfl
  · intro i v1 b1 S1 h1 h2
    simp only [Gh.ver] at h1
    split at h1
    · rename_i e; subst e; rw [hid] at h2; cases h2
    · rw [h2] at h1; cases h1
  · intro k hk hn
    exact hother k (fun e => by subst e; exact hn _ _ _ hid)

theorem blk_lt' {b : Nat} {c : Array Value} {t : TypeId} {fr : Nat × Nat} (h4 : w.heap[b]? = some (.cells c t fr)) : b < w.heap.size := by
  rcases Nat.lt_or_ge b w.heap.size with h' | h'
  · exact h'
  · rw [Array.getElem?_eq_none h'] at h4; cases h4

/-- An object goes on in a new block. -/
theorem Rel.move (h : Rel W0 G H w) {id v b S v' : Nat} (hid : G.ob id = some (v, b, S)) {cells : List AV} {cs : List Value} (cr : List Value) (t : TypeId) (hv : v < v') (hc : VL W0 G 0 cells cs) :
    Rel W0 (G.ver id v' w.heap.size (cs.length + cr.length)) (H.set id ⟨v', cells⟩) (w.alloc (.cells (cs ++ cr).toArray t)) ∧ Ext G H w (G.ver id v' w.heap.size (cs.length + cr.length)) (w.alloc (.cells (cs ++ cr).toArray t)) := by
  have hle : Le 0 G (G.ver id v' w.heap.size (cs.length + cr.length)) := by
    refine ⟨fun _ i v1 b1 S1 hx => ?_, fun _ _ _ hx => hx, fun _ _ hx => hx⟩
    by_cases e : i = id
    · subst e; rw [hid] at hx; cases hx; exact ⟨v', w.heap.size, _, by simp [Gh.ver]; rfl, by omega, fun e => by omega⟩
    · exact ⟨v1, b1, S1, by simp [Gh.ver, e, hx], Nat.le_refl _, fun _ => ⟨rfl, rfl⟩⟩
  have hlt := h.dom _ _ _ _ hid
  have hold : ∀ b, b < w.heap.size → (w.alloc (.cells (cs ++ cr).toArray t)).heap[b]? = w.heap[b]? := fun b hb => Below.heap_alloc w _ b hb
  have hblk : ∀ i v1 b1 S1, G.ob i = some (v1, b1, S1) → b1 < w.heap.size := fun i v1 b1 S1 hx => by
    obtain ⟨_, _, _, _, _, _, _, h4, _⟩ := h.obj _ _ _ _ hx
    exact blk_lt' h4
  refine ⟨⟨h.below.alloc (by have := h.below.size; omega) _, ?_, ?_, ?_, ?_, ?_, ?_⟩, ⟨hle, rfl, ?_, ?_, fun _ _ hx => .inl hx, (by show _ ≤ (w.heap.push _).size; simp), fun b hb _ => hold b hb⟩⟩
  · intro i v1 b1 S1 hx
    simp only [Gh.ver] at hx
    split at hx
    · rename_i e; subst e; simpa using hlt
    · simpa using h.dom _ _ _ _ hx
  · intro i v1 b1 S1 hx
    simp only [Gh.ver] at hx
    split at hx
    · rename_i e; subst e; cases hx
      refine ⟨⟨v', cells⟩, cs, cr, t, by simp [hlt], rfl, h.below.size, ?_, rfl, hc.mono hle⟩
      show (w.heap.push _)[w.heap.size]? = _
      simp
    · rename_i e
      obtain ⟨o, cs', cr', t', h1, h2, h3, h4, h5, h6⟩ := h.obj _ _ _ _ hx
      refine ⟨o, cs', cr', t', ?_, h2, h3, ?_, h5, h6.mono hle⟩
      · rw [List.getElem?_set_ne (fun e' => e e'.symm)]; exact h1
      · rw [hold _ (hblk _ _ _ _ hx)]; exact h4
  · intro i i' v1 b1 S1 v2 S2 hx hx'
    simp only [Gh.ver] at hx hx'
    split at hx <;> split at hx'
    · rename_i e e'; rw [e, e']
    · cases hx; have := hblk _ _ _ _ hx'; omega
    · cases hx'; have := hblk _ _ _ _ hx; omega
    · exact h.inj _ _ _ _ _ _ _ hx hx'
  · intro k s hx
    obtain ⟨h1, c, t', fr, h2, h3⟩ := h.C _ _ hx
    exact ⟨h1, c, t', fr, by rw [hold _ (blk_lt' h2)]; exact h2, h3⟩
  · intro k s hx
    obtain ⟨h1, c, t', fr, h2, h3⟩ := h.D _ _ hx
    exact ⟨h1, c, t', fr, by rw [hold _ (blk_lt' h2)]; exact h2, h3⟩
  · intro i v1 b1 S1 hx
    simp only [Gh.ver] at hx
    split at hx
    · cases hx
      refine ⟨?_, ?_⟩
      · cases hq : G.C w.heap.size with
        | none => exact hq
        | some s => obtain ⟨_, c, t', fr, h2, _⟩ := h.C _ _ hq; have := blk_lt' h2; omega
      · cases hq : G.D w.heap.size with
        | none => exact hq
        | some s => obtain ⟨_, c, t', fr, h2, _⟩ := h.D _ _ hq; have := blk_lt' h2; omega
    · exact h.ap _ _ _ _ hx
  · intro i v1 b1 S1 v2 b2 S2 h1 h2
    simp only [Gh.ver] at h2
    split at h2
    · cases h2; exact .inr (Nat.le_refl _)
    · rw [h1] at h2; cases h2; exact .inl rfl
  · intro i v1 b1 S1 h1 h2
    simp only [Gh.ver] at h1
    split at h1
    · rename_i e; subst e; rw [hid] at h2; cases h2
    · rw [h2] at h1; cases h1

theorem putAll_end {α : Type} : ∀ (us cs cr : List α), us.length ≤ cr.length → putAll (cs ++ cr) cs.length us = (cs ++ us) ++ cr.drop us.length
  | [], cs, cr, _ => by simp [putAll]
  | u :: us, cs, [], h => by simp at h
  | u :: us, cs, r :: cr, h => by
    have h1 : (cs ++ r :: cr).set cs.length u = (cs ++ [u]) ++ cr := by
      rw [List.set_append_right _ _ (Nat.le_refl _)]; simp
    have := putAll_end us (cs ++ [u]) cr (by simpa using h)
    simp only [List.length_append, List.length_cons, List.length_nil] at this
    simp only [putAll, h1, this]
    simp

theorem cap_le (need old : Nat) (e : TypeId) (w : World) : need ≤ (Question.appendCap need old e).cut (w.tape w.drawn (.appendCap need old e)) := Nat.le_add_right _ _

end
end Go.X

/-! What each operation of the small machine says of the model's. -/
set_option linter.unusedSimpArgs false
set_option linter.unusedVariables false
set_option linter.unusedSectionVars false
namespace Go.X
open Go Go.RowKit

/-- A function that can be entered. -/
def CallOk (P : Program) (f : Nat) : Prop := ∃ fn, P.funcs[f]? = some fn ∧ (fn.name == "runtime.NumGoroutine") = false ∧ fn.body.isNone = false

def Post (W0 : World) (G : Gh) (H : Heap) (w : World) (v : AV) (H' : Heap) : Ending → World → Prop := fun e w' =>
  ∃ c G', e = .returned c ∧ VR W0 G' 0 v c ∧ Rel W0 G' H' w' ∧ Ext G H w G' w' ∧ Gr G' H H'

/-- A run of functions that is sound. -/
def CallSound (P : Program) (W0 : World) (R : Nat → List AV → Heap → Option (AV × Heap)) : Prop :=
  ∀ f args H v H', R f args H = some (v, H') → (CallOk P f ∧ (gstill f = true → H' = H)) ∧ ∀ G w cargs, Rel W0 G H w → VL W0 G 0 args cargs → Calls P f cargs.toArray w (Post W0 G H w v H')

section
variable {P : Program} {W0 : World} [GlobOk W0] {G : Gh} {H : Heap} {w : World}

theorem run_isAgg {t : TypeId} {b : Bool} (h : isStruct P t = some b) (w : World) : (isAgg t).run P w = .ok b w := by
  unfold isStruct at h
  cases hu : P.underlying t with
  | none => simp [hu] at h
  | some d =>
    unfold isAgg
    rw [Sem.run_bind, run_underlying hu w]
    cases d <;> simp_all

theorem run_sizeOf' {t : TypeId} {s : Nat} (h : sizeA P t = some s) (w : World) : (sizeOf t).run P w = .ok s w := by
  unfold sizeA at h
  cases hi : P.info? t with
  | none => simp [hi] at h
  | some i => simp [hi] at h; subst h; simp [sizeOf, typeInfo, hi]

theorem zeroA_spec {t : TypeId} {z : List AV} (h : zeroA P t = some z) : ∃ i zv, P.info? t = some i ∧ i.zero = some zv ∧ ∀ l, VL W0 G l z zv.cells.toList := by
  unfold zeroA at h
  cases hi : P.info? t with
  | none => simp [hi] at h
  | some i =>
    cases hz : i.zero with
    | none => simp [hi, hz] at h
    | some zv =>
      simp only [hi, hz, Option.bind_some] at h
      split at h
      · cases h
      · rename_i hu
        cases h
        exact ⟨i, zv, rfl, hz, fun l => cellsOf_spec (constA_spec l zv) (by simpa using hu)⟩

theorem VL.ofRange {l n : Nat} {cs : List AV} {us : List Value} (h : VL W0 G l cs us) (hn : cs.length = n) : VL W0 G l cs ((List.range n).map fun j => us.getD j Go.undef) := by
  refine ⟨by simp [hn], fun j hj => ?_⟩
  have hj' : j < n := by omega
  have := h.2 j hj
  simp only [List.getD_eq_getElem?_getD] at this ⊢
  rw [List.getElem?_map, List.getElem?_range hj']
  simpa using this

theorem VR.aggA {l : Nat} {vs : List AV} {cs : List Value} (h : VL W0 G l vs cs) : VR W0 G l (.agg vs) (.agg cs.toArray) := .agg vs cs h.1 h.2
theorem VR.tupA {l : Nat} {vs : List AV} {cs : List Value} (h : VL W0 G l vs cs) : VR W0 G l (.tup vs) (.tuple cs.toArray) := .tup vs cs h.1 h.2

/-- A load. -/
theorem load_spec (hR : Rel W0 G H w) {p : AV} {c : Value} (hp : VR W0 G 0 p c) {t : TypeId} {sz : Option Nat} {v : AV} (hl : loadA H sz p = some v)
    (ht : (sz = none ∧ isStruct P t = some false) ∨ (∃ s, sz = some s ∧ isStruct P t = some true ∧ sizeA P t = some s)) :
    ∃ u, (Instr.loadAt t c).run P w = .ok u w ∧ VR W0 G 0 v u := by
  rcases ht with ⟨rfl, ht⟩ | ⟨s, rfl, ht, hs⟩
  · simp only [loadA] at hl
    split at hl
    · rename_i v' rest hc
      cases hl
      obtain ⟨a, us, rfl, hlen, hus, hcell⟩ := cellsAt_spec hR hp hc
      have h0 := hcell 0 (by omega)
      have hv := hus.2 0 (by simp)
      refine ⟨us.getD 0 Go.undef, ?_, by simpa using hv⟩
      have hadd : a.add 0 = a := rfl
      rw [hadd] at h0
      simp only [Instr.loadAt, Instr.sureAddr, Sem.run_bind, Sem.run_pure, Result.andThen_ok, loadVar, run_isAgg ht, Bool.false_eq_true, if_false, run_load, h0]
    · cases hl
  · simp only [loadA] at hl
    cases hc : cellsAt H p s with
    | none => simp [hc] at hl
    | some cs =>
      simp [hc] at hl; subst hl
      obtain ⟨a, us, rfl, hlen, hus, hcell⟩ := cellsAt_spec hR hp hc
      refine ⟨.agg ((List.range s).map fun j => us.getD j Go.undef).toArray, ?_, VR.aggA (hus.ofRange hlen)⟩
      simp only [Instr.loadAt, Instr.sureAddr, Sem.run_bind, Sem.run_pure, Result.andThen_ok, loadVar, run_isAgg ht, if_true, run_sizeOf' hs, run_loadCells w a s (fun j => us.getD j Go.undef) hcell]

theorem all_one {l : Nat} : ∀ {vs : List AV} {cs : List Value}, VL W0 G l vs cs → vs.all one = true → ∀ u ∈ cs, u.oneCell' = true
  | [], [], _, _, u, hu => by cases hu
  | [], _ :: _, h, _, _, _ => by simpa using h.1
  | _ :: _, [], h, _, _, _ => by simpa using h.1
  | v :: vs, c :: cs, h, hall, u, hu => by
    simp only [List.all_cons, Bool.and_eq_true] at hall
    rcases List.mem_cons.1 hu with rfl | hu
    · exact one_spec h.head.1 hall.1
    · exact all_one h.head.2 hall.2 u hu

theorem isU_of_one {v : AV} (h : (cellsOf v).all one = true) : isU v = false := by
  cases v <;> first | rfl | (simp [cellsOf, one] at h)

/-- A store. -/
theorem store_spec (hR : Rel W0 G H w) {p v : AV} {c u : Value} (hp : VR W0 G 0 p c) (hv : VR W0 G 0 v u) {t : TypeId} {s : Nat} {H' : Heap} (hl : storeA H s p v = some H') (hs : sizeA P t = some s) :
    ∃ G' w', (Instr.storeAt t c u).run P w = .ok () w' ∧ Rel W0 G' H' w' ∧ Ext G H w G' w' ∧ Gr G' H H' := by
  unfold storeA at hl
  split at hl
  · rename_i id ver off
    split at hl
    · rename_i o ho
      split at hl
      · rename_i hc
        obtain ⟨h1, h2, h3, h4⟩ := hc
        cases hl
        cases hp with
        | ptr _ _ _ a hp =>
          obtain ⟨v0, b, S, k1, k2, k3⟩ := hp
          obtain ⟨o', cs, cr, ty, m1, m2, m3, m4, m5, m6⟩ := hR.obj _ _ _ _ k1
          rw [ho] at m1; cases m1
          subst h1
          have hvv : o.ver = v0 := m2
          obtain rfl := k3 hvv
          have hcells := cellsOf_spec hv (isU_of_one h4)
          have hone := all_one hcells h4
          have hlen := m6.1
          have hsz : u.cells.size = s := by have := hcells.1; simp at this; omega
          have hst := run_storeCells_cells (P := P) b off u.cells.toList 0 w (fun j hj => by
              have hj' : off + j < cs.length := by simp at hj; omega
              simp [World.cell?, m4, hj', List.getElem?_append])
            (fun j hj => by simp [World.frozen?, m4]) hone
          simp only [Nat.add_zero] at hst
          have hheap := setCells_heap b u.cells.toList off w _ _ _ m4
          have hch := hR.change (id := id) (v' := v0) (cells := putAll o.cells off (cellsOf v)) (cs := putAll cs off u.cells.toList) (cr := cr) (t := ty) (w' := w.setCells b off u.cells.toList) k1 (Nat.le_refl _)
            (by rw [hheap]; congr 2; simp only [List.toList_toArray]; rw [putAll_append _ _ _ _ (by simp; omega)]) (by rw [putAll_length]; exact m5) (m6.putAll off hcells)
            (fun k hk => setCells_other b _ off w k hk) (setCells_size b _ off w) (setCells_below b m3 _ off w hR.below)
          refine ⟨_, _, ?_, ?_, hch.2, Gr.same (by simp)⟩
          · simp only [Instr.storeAt, Instr.sureAddr, Sem.run_bind, Sem.run_pure, Result.andThen_ok, storeVar, run_sizeOf' hs, hsz, ne_eq, not_true_eq_false, if_false, hst]
          · have : ({ o with cells := putAll o.cells off (cellsOf v) } : Ob) = ⟨v0, putAll o.cells off (cellsOf v)⟩ := by rw [← m2]
            rw [this]; exact hch.1
      · cases hl
    · cases hl
  · cases hl

/-! Filling in. -/
theorem fold_put (off : Nat) : ∀ (l : List Value) (k : Nat) (cs : Array Value), ((l.zipIdx k).foldl (fun cs p => cs.setIfInBounds (off + p.2) p.1) cs).toList = putAll cs.toList (off + k) l
  | [], _, _ => rfl
  | v :: l, k, cs => by
    simp only [List.zipIdx_cons, List.foldl_cons, putAll]
    rw [fold_put off l (k + 1)]
    simp [Nat.add_assoc]

theorem fillA_length : ∀ {ps : List (Nat × Nat × AV)} {cs out : List AV}, fillA cs ps = some out → out.length = cs.length
  | [], cs, out, h => by simp [fillA] at h; rw [h]
  | (off, size, v) :: ps, cs, out, h => by
    simp only [fillA] at h
    split at h
    · rw [fillA_length h, putAll_length]
    · cases h

theorem fill_spec {fr : List AV} {a : Act} (hF : FR W0 G fr a.tmps) (place : Nat → Option (Nat × Nat)) : ∀ (ps : List (Nat × Operand)) (ps' : List (Nat × Nat × Opd)) (cs out : List AV) (c : Array Value),
    partsA place ps = some ps' → fillA cs (ps'.map fun p => (p.1, p.2.1, p.2.2.ev fr)) = some out → VL W0 G 0 cs c.toList →
    ∃ out', Instr.fill place c (ps.map fun p => (p.1, a.eval p.2)) = some out' ∧ VL W0 G 0 out out'.toList
  | [], ps', cs, out, c, h, hf, hv => by
    simp [partsA] at h; subst h
    simp [fillA] at hf; subst hf
    exact ⟨c, rfl, hv⟩
  | (i, x) :: ps, ps', cs, out, c, h, hf, hv => by
    simp only [partsA, List.mapM_cons, Option.bind_eq_bind, Option.pure_def] at h
    cases hp : place i with
    | none => simp [hp] at h
    | some q =>
      obtain ⟨off, size⟩ := q
      cases hr : ps.mapM (fun p => (place p.1).map fun q => (q.1, q.2, opdA p.2)) with
      | none => simp [hp, hr] at h
      | some rest =>
        simp [hp, hr] at h; subst h
        simp only [List.map_cons, fillA] at hf
        split at hf
        · rename_i hc
          obtain ⟨h1, h2, h3⟩ := hc
          have hx := cellsOf_spec (hF.ev x) h1
          have hsz : (a.eval x).cells.size = size := by have := hx.1; simp at this; omega
          have hle : off + size ≤ c.size := by have := hv.1; simp at this; omega
          have hput := hv.putAll off hx
          have hfold : ((a.eval x).cells.zipIdx.foldl (fun cs p => cs.setIfInBounds (off + p.2) p.1) c).toList = putAll c.toList off (a.eval x).cells.toList := by
            rw [← Array.foldl_toList, Array.toList_zipIdx, fold_put off _ 0 c, Nat.add_zero]
          rw [← hfold] at hput
          obtain ⟨out', ho, hvo⟩ := fill_spec hF place ps rest _ out _ hr hf hput
          refine ⟨out', ?_, hvo⟩
          simp only [List.map_cons, Instr.fill, hp]
          rw [if_neg (by simp; omega)]
          exact ho
        · cases hf

/-! Slices. -/
theorem natOf_spec {l n : Nat} {i : AV} {c : Value} (h : VR W0 G l i c) (hn : natOf i = some n) : ∃ k z, c = .int k z ∧ 0 ≤ z ∧ z.toNat = n := by
  cases h <;> simp [natOf] at hn
  exact ⟨_, _, rfl, hn.1, hn.2⟩

theorem lenA_spec {l n : Nat} {x : AV} {c : Value} (h : VR W0 G l x c) (hn : lenA x = some n) : ∃ A cc, c = .slice A n cc ∧ n ≤ cc := by
  cases h <;> simp [lenA] at hn
  · subst hn; exact ⟨none, 0, rfl, Nat.le_refl _⟩
  · subst hn; exact ⟨_, _, rfl, by assumption⟩
  · subst hn; exact ⟨_, _, rfl, by assumption⟩

theorem idxA_spec {t e : TypeId} {esz : Nat} (ht : P.underlying t = some (.slice e)) (hs : sizeA P e = some esz) {x i v : AV} {c d : Value} (hx : VR W0 G 0 x c) (hi : VR W0 G 0 i d) (hv : idxA esz x i = some v) :
    ∃ u, (Instr.indexAt t c d).run P w = .ok u w ∧ VR W0 G 0 v u := by
  unfold idxA at hv
  cases hn : natOf i with
  | none => simp [hn] at hv
  | some j =>
    obtain ⟨k, z, rfl, hz0, hzj⟩ := natOf_spec hi hn
    simp only [hn] at hv
    cases hx with
    | imm sn cells len A cc uu hl hc h h0 r =>
      simp only at hv
      split at hv
      · rename_i hj
        cases hv
        cases A with
        | none => have := (h0 rfl).1; omega
        | some a =>
          refine ⟨.pointer (some (a.add (j * esz))), ?_, .cptr sn _ _ (fun q => uu (j * esz + q)) (by omega) (fun q hq => ?_) (fun q hq => ?_)⟩
          · have : z < (len : Int) := by omega
            simp [Instr.indexAt, asIntOf, run_underlying ht, hz0, this, run_sizeOf' hs, hzj]
          · rw [Addr.add_add]; exact h a rfl _ (by simp at hq; omega)
          · have := r (j * esz + q) (by simp at hq; omega)
            simpa [List.getD_eq_getElem?_getD, List.getElem?_drop] using this
      · cases hv
    | sl id ver e' off len cap a cc hc hcap h =>
      simp only at hv
      split at hv
      · rename_i hj
        obtain ⟨rfl, hj⟩ := hj
        cases hv
        refine ⟨.pointer (some (a.add (j * e'))), ?_, .ptr _ _ _ _ ?_⟩
        · have : z < (len : Int) := by omega
          simp [Instr.indexAt, asIntOf, run_underlying ht, hz0, this, run_sizeOf' hs, hzj]
        · obtain ⟨v0, b, S, h1, h2, h3⟩ := h
          exact ⟨v0, b, S, h1, h2, fun e => by rw [(h3 e).1 (by omega), Addr.add_off]⟩
      · cases hv
    | _ => simp at hv

theorem idxP_spec {t e : TypeId} {esz n : Nat} (ht : P.underlying t = some (.array n e)) (hs : sizeA P e = some esz) {x i v : AV} {c d : Value} (hx : VR W0 G 0 x c) (hi : VR W0 G 0 i d) (hv : idxP esz n x i = some v) :
    ∃ u, (Instr.indexAt t c d).run P w = .ok u w ∧ VR W0 G 0 v u := by
  unfold idxP at hv
  cases hn : natOf i with
  | none => simp [hn] at hv
  | some j =>
    obtain ⟨k, z, rfl, hz0, hzj⟩ := natOf_spec hi hn
    simp only [hn] at hv
    split at hv
    · rename_i hj
      have hlt : z < (n : Int) := by omega
      cases hx with
      | ptr id ver off a h =>
        cases hv
        refine ⟨.pointer (some (a.add (j * esz))), ?_, .ptr _ _ _ _ ?_⟩
        · simp [Instr.indexAt, asIntOf, run_underlying ht, Instr.sureAddr, hz0, hlt, run_sizeOf' hs, hzj]
        · obtain ⟨v0, b, S, h1, h2, h3⟩ := h
          exact ⟨v0, b, S, h1, h2, fun e => by rw [h3 e, Addr.add_off]⟩
      | cptr sn cells a uu hl h r =>
        cases hv
        refine ⟨.pointer (some (a.add (j * esz))), ?_, .cptr sn _ _ (fun q => uu (j * esz + q)) (by omega) (fun q hq => ?_) (fun q hq => ?_)⟩
        · simp [Instr.indexAt, asIntOf, run_underlying ht, Instr.sureAddr, hz0, hlt, run_sizeOf' hs, hzj]
        · rw [Addr.add_add]; exact h _ (by simp at hq; omega)
        · have := r (j * esz + q) (by simp at hq; omega)
          simpa [List.getD_eq_getElem?_getD, List.getElem?_drop] using this
      | _ => simp at hv
    · cases hv

theorem fldA_spec {t : TypeId} {fs : Array Field} {f : Field} {i s : Nat} (ht : P.underlying t = some (.struct fs)) (hf : fs[i]? = some f) (hs : sizeA P f.type = some (s + 1)) {x v : AV} {c : Value} (hx : VR W0 G 0 x c) (hv : fldA f.offset x = some v) :
    ∃ u, (Instr.fieldAt t c i).run P w = .ok u w ∧ VR W0 G 0 v u := by
  cases hx with
  | ptr id ver off a h =>
    cases hv
    refine ⟨.pointer (some (a.add f.offset)), ?_, .ptr _ _ _ _ ?_⟩
    · simp [Instr.fieldAt, run_underlying ht, hf, Instr.sureAddr, fieldPlace, run_sizeOf' hs]
    · obtain ⟨v0, b, S, h1, h2, h3⟩ := h
      exact ⟨v0, b, S, h1, h2, fun e => by rw [h3 e, Addr.add_off]⟩
  | cptr sn cells a uu hl h r =>
    cases hv
    refine ⟨.pointer (some (a.add f.offset)), ?_, .cptr sn _ _ (fun q => uu (f.offset + q)) (by omega) (fun q hq => ?_) (fun q hq => ?_)⟩
    · simp [Instr.fieldAt, run_underlying ht, hf, Instr.sureAddr, fieldPlace, run_sizeOf' hs]
    · rw [Addr.add_add]; exact h _ (by simp at hq; omega)
    · have := r (f.offset + q) (by simp at hq; omega)
      simpa [List.getD_eq_getElem?_getD, List.getElem?_drop] using this
  | _ => simp [fldA] at hv

theorem partA_spec {t : TypeId} {off : Nat} {sz : Option Nat} (ht : (sz = none ∧ isStruct P t = some false) ∨ (∃ s, sz = some s ∧ isStruct P t = some true ∧ sizeA P t = some s)) {vs : List AV} {cs : List Value} {v : AV}
    (hx : VL W0 G 0 vs cs) (hv : partA sz off (.agg vs) = some v) : ∃ u, (part t cs.toArray off).run P w = .ok u w ∧ VR W0 G 0 v u := by
  rcases ht with ⟨rfl, ht⟩ | ⟨s, rfl, ht, hs⟩
  · simp only [partA] at hv
    have hlt : off < vs.length := by
      rcases Nat.lt_or_ge off vs.length with h | h
      · exact h
      · rw [List.getElem?_eq_none h] at hv; cases hv
    have hlt' : off < cs.length := by rw [← hx.1]; exact hlt
    have := hx.2 off hlt
    rw [List.getElem?_eq_getElem hlt] at hv; cases hv
    refine ⟨cs[off], ?_, by simpa [List.getD_eq_getElem?_getD, hlt, hlt'] using this⟩
    simp [part, run_isAgg ht, hlt']
  · simp only [partA] at hv
    split at hv
    · rename_i hle
      cases hv
      refine ⟨.agg ((cs.drop off).take s).toArray, ?_, VR.aggA ((hx.drop off).take s)⟩
      simp [part, run_isAgg ht, run_sizeOf' hs]
    · cases hv

end
end Go.X
