import Derived.RangeFuncBox
import Derived.RangeFuncNested
import Derived.RangeFuncBound
import Derived.RangeFuncCalls
import Derived.RangeFuncLeaves
import Derived.Shelf.Abstract
import Derived.Shelf.RegionOpen
import Derived.WalkKit
import Derived.OwnWalkIn
import Derived.TacticsInMore
import Derived.LoopNIn
import Derived.LoopIn
import Derived.Test.YtdkgicdbjemalaaDoorProg
import Derived.Test.YtdkgicdbjemalaaDoorTF
import Derived.Test.YtdkgicdbjemalaaDoorQC
/-! The library's iterator over a slice, from its end: its contract. -/
set_option linter.unusedSimpArgs false
set_option linter.unusedVariables false
namespace Go.Proofs
open Go.RowKit Go.Shelf

attribute [local go_sem] Oper.semAt_some

/-- Two blocks stand as they stood. -/
def KpB (B b : Nat) (W W' : World) : Prop := ∀ k, k = B ∨ k = b → W'.heap[k]? = W.heap[k]?
theorem KpB.trans {B b : Nat} {W1 W2 W3 : World} (h : KpB B b W1 W2) (k : KpB B b W2 W3) : KpB B b W1 W3 := fun j hj => (k j hj).trans (h j hj)
theorem KpB.refl (B b : Nat) (W : World) : KpB B b W W := fun _ _ => rfl
theorem KpB.cell {B b : Nat} {W W' : World} (h : KpB B b W W') {p : Addr} (hp : p.block = B ∨ p.block = b) : W'.cell? p = W.cell? p := by
  unfold World.cell?; rw [h _ hp]

set_option maxRecDepth 100000 in
set_option maxHeartbeats 2000000 in
/-- 'for i := len(s) - 1; i >= 0; i-- { if !yield(i, s[i]) { return } }': big numbers. -/
theorem back118 (F : Fence) (n : Nat) (h7 : F.fn 118) (hro : F.round = none) (hn : 1 ≤ n) (l Bs b off len cap : Nat) (zs : Nat → Int) (ds : Nat → Value) (hreach : len * 16 ≤ 140737488351232) (J : Nat → World → Prop)
    (hY : ∀ (k m : Nat) W, m + 1 + k = len → J k W → YieldAt F (n - 1) Tryd.prog l #[.int .i64 (m : Int), .agg #[.int .i64 (zs m), ds m]] W fun e W' => e = .returned (.bool true) ∧ J (k + 1) W' ∧ KpB Bs b W W')
    (W : World) (hBs : W.cell? ⟨Bs, 0, none⟩ = some (.slice (some ⟨b, off, none⟩) len cap)) (hc : ∀ j, j < len → W.cell? ⟨b, off + j * 2, none⟩ = some (.int .i64 (zs j)) ∧ W.cell? ⟨b, off + j * 2 + 1, none⟩ = some (ds j)) (h0 : J 0 W) :
    CallsIn F n Tryd.prog 118 #[.func (.yield l) #[] #[], .pointer (some ⟨Bs, 0, none⟩)] W fun e W' => (∃ v, e = .returned v) ∧ J len W' := by
  refine callsIn_of_wp Tryd.func118 rfl h7 ?_ hro
  simp only [Tryd.ntmps118, List.size_toArray, List.length_cons, List.length_nil, Nat.reduceAdd, Nat.reduceSub, Array.replicate_succ, Array.replicate_zero, List.push_toArray, List.append_toArray, List.nil_append, List.cons_append]
  gi_wp2
  gi_loopw [3] (fun i wr => ∃ k : Nat, k ≤ len ∧ i = .int .i64 ((len : Int) - 1 - k) ∧ J k wr ∧ KpB Bs b W wr)
    (fun i _ => (intOf i + 1).toNat)
  case atStart => exact ⟨0, Nat.zero_le _, by simp, h0, KpB.refl _ _ _⟩
  case round =>
    obtain ⟨k, hk, rfl, hJs, hnx⟩ := hrel
    have hBs' := (hnx.cell (p := ⟨Bs, 0, none⟩) (.inl rfl)).trans hBs
    by_cases hlt : k < len
    · obtain ⟨m, hm⟩ : ∃ m, m + 1 + k = len := ⟨len - 1 - k, by omega⟩
      have e2 : (len : Int) - 1 - k = (m : Int) := by omega
      obtain ⟨hc1, hc2⟩ := hc m (by omega)
      have hc1' := (hnx.cell (p := ⟨b, off + m * 2, none⟩) (.inr rfl)).trans hc1
      have hc2' := (hnx.cell (p := ⟨b, off + m * 2 + 1, none⟩) (.inr rfl)).trans hc2
      obtain ⟨fn, tmps, assign, body, hy, hR⟩ := hY k m wr hm hJs
      rw [e2]
      gi_wp2
      refine hR.mono ?_
      rintro e W3 ⟨rfl, hJ3, hk3⟩
      gi_wp2
      go_roundw
      case rel => exact ⟨k + 1, by omega, by congr 1; omega, hJ3, hnx.trans hk3⟩
      case measure => simp [intOf]
    · obtain rfl : k = len := by omega
      gi_wp2
      go_end0
      exact ⟨⟨_, rfl⟩, hJs⟩

set_option maxRecDepth 100000 in
set_option maxHeartbeats 1000000 in
/-- .. of an empty slice. -/
theorem back118_nil (F : Fence) (n : Nat) (h7 : F.fn 118) (hro : F.round = none) (l Bs cap : Nat) (A : Option Addr) (J : Nat → World → Prop) (W : World) (hBs : W.cell? ⟨Bs, 0, none⟩ = some (.slice A 0 cap)) (h0 : J 0 W) :
    CallsIn F n Tryd.prog 118 #[.func (.yield l) #[] #[], .pointer (some ⟨Bs, 0, none⟩)] W fun e W' => (∃ v, e = .returned v) ∧ J 0 W' := by
  refine callsIn_of_wp Tryd.func118 rfl h7 ?_ hro
  simp only [Tryd.ntmps118, List.size_toArray, List.length_cons, List.length_nil, Nat.reduceAdd, Nat.reduceSub, Array.replicate_succ, Array.replicate_zero, List.push_toArray, List.append_toArray, List.nil_append, List.cons_append]
  gi_wp2
  gi_loopw [3] (fun i wr => i = .int .i64 (-1) ∧ J 0 wr) (fun _ _ => 0)
  case atStart => exact ⟨rfl, h0⟩
  case round =>
    obtain ⟨rfl, hJs⟩ := hrel
    gi_wp2
    go_end0
    exact ⟨⟨_, rfl⟩, hJs⟩

set_option maxHeartbeats 1000000 in
/-- The slice is boxed; the function value holds the box. -/
theorem back109 (F : Fence) (n : Nat) (h5 : F.fn 109) (hro : F.round = none) (a : Option Addr) (len cap : Nat) (w : World) :
    CallsIn F n Tryd.prog 109 #[.slice a len cap] w fun e w' => e = .returned (.func (.func 118) #[] #[.pointer (some ⟨w.heap.size, 0, none⟩)]) ∧ w' = w.alloc (.cells #[.slice a len cap] 85) := by
  refine callsIn_of_wp Tryd.func109 rfl h5 ?_ hro
  simp only [Tryd.ntmps109, List.size_toArray, List.length_cons, List.length_nil, Nat.reduceAdd, Nat.reduceSub, Array.replicate_succ, Array.replicate_zero, List.push_toArray, List.append_toArray, List.nil_append, List.cons_append]
  gi_wp2
  go_ret
  exact ⟨rfl, rfl⟩
set_option maxRecDepth 100000 in
set_option maxHeartbeats 2000000 in
/-- 'for i := len(s) - 1; i >= 0; i-- { if !yield(i, s[i]) { return } }': whole numbers. -/
theorem back87 (F : Fence) (n : Nat) (h7 : F.fn 87) (hro : F.round = none) (hn : 1 ≤ n) (l Bs b off len cap : Nat) (zs : Nat → Int) (hreach : len * 8 ≤ 140737488351232) (J : Nat → World → Prop)
    (hY : ∀ (k m : Nat) W, m + 1 + k = len → J k W → YieldAt F (n - 1) Tryd.prog l #[.int .i64 (m : Int), .int .i64 (zs m)] W fun e W' => e = .returned (.bool true) ∧ J (k + 1) W' ∧ KpB Bs b W W')
    (W : World) (hBs : W.cell? ⟨Bs, 0, none⟩ = some (.slice (some ⟨b, off, none⟩) len cap)) (hc : ∀ j, j < len → W.cell? ⟨b, off + j, none⟩ = some (.int .i64 (zs j))) (h0 : J 0 W) :
    CallsIn F n Tryd.prog 87 #[.func (.yield l) #[] #[], .pointer (some ⟨Bs, 0, none⟩)] W fun e W' => (∃ v, e = .returned v) ∧ J len W' := by
  refine callsIn_of_wp Tryd.func87 rfl h7 ?_ hro
  simp only [Tryd.ntmps87, List.size_toArray, List.length_cons, List.length_nil, Nat.reduceAdd, Nat.reduceSub, Array.replicate_succ, Array.replicate_zero, List.push_toArray, List.append_toArray, List.nil_append, List.cons_append]
  gi_wp2
  gi_loopw [3] (fun i wr => ∃ k : Nat, k ≤ len ∧ i = .int .i64 ((len : Int) - 1 - k) ∧ J k wr ∧ KpB Bs b W wr)
    (fun i _ => (intOf i + 1).toNat)
  case atStart => exact ⟨0, Nat.zero_le _, by simp, h0, KpB.refl _ _ _⟩
  case round =>
    obtain ⟨k, hk, rfl, hJs, hnx⟩ := hrel
    have hBs' := (hnx.cell (p := ⟨Bs, 0, none⟩) (.inl rfl)).trans hBs
    by_cases hlt : k < len
    · obtain ⟨m, hm⟩ : ∃ m, m + 1 + k = len := ⟨len - 1 - k, by omega⟩
      have e2 : (len : Int) - 1 - k = (m : Int) := by omega
      have hc1 := hc m (by omega)
      have hc1' := (hnx.cell (p := ⟨b, off + m, none⟩) (.inr rfl)).trans hc1
      obtain ⟨fn, tmps, assign, body, hy, hR⟩ := hY k m wr hm hJs
      rw [e2]
      gi_wp2
      refine hR.mono ?_
      rintro e W3 ⟨rfl, hJ3, hk3⟩
      gi_wp2
      go_roundw
      case rel => exact ⟨k + 1, by omega, by congr 1; omega, hJ3, hnx.trans hk3⟩
      case measure => simp [intOf]
    · obtain rfl : k = len := by omega
      gi_wp2
      go_end0
      exact ⟨⟨_, rfl⟩, hJs⟩

set_option maxRecDepth 100000 in
set_option maxHeartbeats 1000000 in
/-- .. of an empty slice. -/
theorem back87_nil (F : Fence) (n : Nat) (h7 : F.fn 87) (hro : F.round = none) (l Bs cap : Nat) (A : Option Addr) (J : Nat → World → Prop) (W : World) (hBs : W.cell? ⟨Bs, 0, none⟩ = some (.slice A 0 cap)) (h0 : J 0 W) :
    CallsIn F n Tryd.prog 87 #[.func (.yield l) #[] #[], .pointer (some ⟨Bs, 0, none⟩)] W fun e W' => (∃ v, e = .returned v) ∧ J 0 W' := by
  refine callsIn_of_wp Tryd.func87 rfl h7 ?_ hro
  simp only [Tryd.ntmps87, List.size_toArray, List.length_cons, List.length_nil, Nat.reduceAdd, Nat.reduceSub, Array.replicate_succ, Array.replicate_zero, List.push_toArray, List.append_toArray, List.nil_append, List.cons_append]
  gi_wp2
  gi_loopw [3] (fun i wr => i = .int .i64 (-1) ∧ J 0 wr) (fun _ _ => 0)
  case atStart => exact ⟨rfl, h0⟩
  case round =>
    obtain ⟨rfl, hJs⟩ := hrel
    gi_wp2
    go_end0
    exact ⟨⟨_, rfl⟩, hJs⟩

set_option maxHeartbeats 1000000 in
/-- The slice is boxed; the function value holds the box. -/
theorem back66 (F : Fence) (n : Nat) (h5 : F.fn 66) (hro : F.round = none) (a : Option Addr) (len cap : Nat) (w : World) :
    CallsIn F n Tryd.prog 66 #[.slice a len cap] w fun e w' => e = .returned (.func (.func 87) #[] #[.pointer (some ⟨w.heap.size, 0, none⟩)]) ∧ w' = w.alloc (.cells #[.slice a len cap] 22) := by
  refine callsIn_of_wp Tryd.func66 rfl h5 ?_ hro
  simp only [Tryd.ntmps66, List.size_toArray, List.length_cons, List.length_nil, Nat.reduceAdd, Nat.reduceSub, Array.replicate_succ, Array.replicate_zero, List.push_toArray, List.append_toArray, List.nil_append, List.cons_append]
  gi_wp2
  go_ret
  exact ⟨rfl, rfl⟩
end Go.Proofs

/-! A loop over the library's backward iterator, in rounds that are numbered; and what the small machine's memory keeps meanwhile. -/
set_option linter.unusedSimpArgs false
set_option linter.unusedVariables false
set_option linter.unusedSectionVars false
namespace Go.X
open Go Go.RowKit Go.Proofs

abbrev wideR (l : Nat) : Fence := Fence.wide.inRound l

/-- Rounds by number: the invariant I k holds ahead of round k. -/
theorem back_loop {P : Program} {g : Operand} {ps : Array Tmp} {assign body : Code} {Q : Exit → Act → World → Prop} {a : Act} {w : World} {gf : Nat} {lb : Array Value}
    (hg : a.eval g = .func (.func gf) #[] lb) (eg : ∀ args w, (callFunc gf args).run P w = .ok (.enter gf args) w) {Bs b len : Nat} {its : Nat → Array Value} (hits : ∀ m, (its m).size = ps.size) (hBs : Bs < w.heap.size) (hb : b < w.heap.size)
    (hit : ∀ (l : Nat) (J : Nat → World → Prop) (W : World), KpB Bs b w W → (∀ (k m : Nat) (W : World), m + 1 + k = len → J k W → YieldAt Fence.wide 1 P l (its m) W fun e W' => e = .returned (.bool true) ∧ J (k + 1) W' ∧ KpB Bs b W W') → J 0 W →
      CallsIn Fence.wide 2 P gf (#[.func (.yield l) #[] #[]] ++ lb) W fun e W' => (∃ v, e = .returned v) ∧ J len W')
    (I : Nat → World → Prop) (hI : OwnFrom w.heap.size I) (h0 : I 0 w) (Ax : Nat → Act → Nat → World → Prop) (hAx : ∀ m a', OwnFrom w.heap.size (Ax m a'))
    (hasg : ∀ (l k m : Nat) (W : World), m + 1 + k = len → I k W → assign.wpIn (wideR l) 1 P (Exit.then (fun a' W' => KeepsFrom w.heap.size W W' ∧ KpB Bs b W W' ∧ Ax m a' k W') (fun _ _ _ => False)) { tmps := (ps.zip (its m)).foldl (fun t (p, v) => t.setIfInBounds p v) a.tmps, defers := [] } W)
    (hbody : ∀ (l k m : Nat) (a' : Act) (W : World), m + 1 + k = len → Ax m a' k W → body.wpIn (wideR l) 1 P (fun e _ W' => e = .normal ∧ KeepsFrom w.heap.size W W' ∧ KpB Bs b W W' ∧ I (k + 1) W') a' W)
    (hdone : ∀ (D : Nat) (W : World), w.heap.size ≤ D → I len W → W.heap[D]? = some (.deferred (some [])) → Q .normal { a with defers := { target := .collected D, args := #[] } :: a.defers } W) :
    (Code.rangeFunc g ps assign body).wpIn Fence.wide 3 P Q a w := by
  refine wpIn_rangeFunc fun fn hfn => ?_
  generalize hrec : (fun st pe => ({ state := st, pending := pe, fn, tmps := a.tmps, params := ps, assign, body, defers := w.heap.size } : Loop)) = rec
  have hr : ∀ st pe, rec st pe = { state := st, pending := pe, fn, tmps := a.tmps, params := ps, assign, body, defers := w.heap.size } := fun st pe => by rw [← hrec]
  -- the two blocks of the loop
  have hbook : ∃ W1, (w.alloc (.deferred (some []))).alloc (.loop (rec .ready none)) = W1 ∧ W1.heap[w.heap.size + 1]? = some (.loop (rec .ready none)) ∧ W1.heap[w.heap.size]? = some (.deferred (some [])) ∧ I 0 W1 ∧ KpB Bs b w W1 := by
    refine ⟨_, rfl, ?_, (Below.heap_alloc _ _ _ (by simp)).trans (World.alloc_heap_new w _), hI.alloc _ (hI.alloc _ h0), fun k hk => ?_⟩
    · have := World.alloc_heap_new (w.alloc (.deferred (some []))) (.loop (rec .ready none))
      rwa [World.size_alloc] at this
    · have : k < w.heap.size := by rcases hk with rfl | rfl <;> assumption
      rw [Below.heap_alloc _ _ _ (by simp; omega), Below.heap_alloc _ _ _ this]
  obtain ⟨W1, e1, q1, q2, q3, q4⟩ := hbook
  refine ⟨w.heap.size + 1, [{ target := .collected w.heap.size, args := #[] }], W1, { target := .fn (.func gf) lb, args := #[.func (.yield (w.heap.size + 1)) #[] #[]] }, W1, gf,
    #[.func (.yield (w.heap.size + 1)) #[] #[]] ++ lb, W1, ?_, ?_, fun _ _ => trivial, ?_, fun h => by simp [Fence.wide] at h, ?_⟩
  · rw [← e1, hr]; exact run_enterLoop_outer _ _ _ _ _
  · simp only [resolve, hg]; simp [go_sem]
  · simp [invoke, go_sem, eg]
  have kp : ∀ {W : World} {k : Nat} (o' : Obj), w.heap.size ≤ k → KpB Bs b W (W.putObj k o') := fun o' hk j hj => by
    have : j < w.heap.size := by rcases hj with rfl | rfl <;> assumption
    exact World.putObj_heap_other (by omega)
  refine (hit (w.heap.size + 1) (fun k W => I k W ∧ W.heap[w.heap.size + 1]? = some (.loop (rec .ready none)) ∧ W.heap[w.heap.size]? = some (.deferred (some []))) W1 q4 (fun k m W hm ⟨hi, hl, hk⟩ => ?_) ⟨q3, q1, q2⟩).mono ?_
  · -- a round
    have hy := run_yield (P := P) (args := its m) hl (by rw [hr]; exact hits m)
    rw [hr] at hy
    refine ⟨fn, _, assign, body, hy, roundIn_of_wpIn trivial (wpIn_mono (hasg (w.heap.size + 1) k m W hm hi) ?_)⟩
    rintro e a' Wa hp
    cases e with
    | normal =>
      obtain ⟨p1, p2, p3⟩ := hp
      have hla := p1.same _ _ (by omega) hl rfl
      have hka := p1.same _ _ (Nat.le_refl _) hk rfl
      have hlt := (Array.getElem?_eq_some_iff.1 hla).1
      refine ⟨_, run_beginRound hla (by rw [hr]), wpIn_mono (hbody (w.heap.size + 1) k m a' _ hm ((hAx m a').putObj _ p3 (by omega) hla rfl)) ?_⟩
      rintro e a3 W3 ⟨rfl, k1, k2, k3⟩
      have hl3 := k1.same (w.heap.size + 1) _ (by omega) (World.putObj_heap_same hlt) rfl
      have hk3 := k1.same w.heap.size _ (Nat.le_refl _) ((World.putObj_heap_other (by omega)).trans hka) rfl
      have he := run_endRound (P := P) none hl3
      refine ⟨_, _, he, rfl, ⟨hI.putObj _ k3 (by omega) hl3 rfl, ?_, (World.putObj_heap_other (by omega)).trans hk3⟩, ?_⟩
      · rw [World.putObj_heap_same (Array.getElem?_eq_some_iff.1 hl3).1]; simp [hr]
      · exact p2.trans ((kp _ (by omega)).trans (k2.trans (kp _ (by omega))))
    | _ => exact hp.elim
  · rintro e W2 ⟨⟨v, rfl⟩, hi, hl, hk⟩
    exact ⟨none, _, (by have := run_endLoop (P := P) hl (by rw [hr]; simp); rw [hr] at this; exact this), hdone _ _ (Nat.le_refl _) (hI.putObj _ hi (by omega) hl rfl) ((World.putObj_heap_other (by omega)).trans hk)⟩
end Go.X

/-! What a walk by hand keeps of the small machine's memory: boxes of its own, blocks that stand, and values. -/
set_option linter.unusedSimpArgs false
set_option linter.unusedVariables false
set_option linter.unusedSectionVars false
namespace Go.X
open Go Go.RowKit Go.Proofs

section
variable {P : Program} {W0 : World} [GlobOk W0] {G G0 : Gh} {H : Heap} {w0 W W' : World} {bx bx' fx : List (Nat × Obj)} {vs : List AV} {cs : List Value}

theorem Rel.other (hR : Rel W0 G H W) (hb : Below W0.heap.size W0 W') (hs : ∀ k, (∃ id v S, G.ob id = some (v, k, S)) ∨ (∃ s, G.C k = some s) ∨ (∃ s, G.D k = some s) → W'.heap[k]? = W.heap[k]?) : Rel W0 G H W' :=
  ⟨hb, hR.dom, fun id v b S hx => by rw [hs b (.inl ⟨_, _, _, hx⟩)]; exact hR.obj id v b S hx, hR.inj, fun b s hx => by rw [hs b (.inr (.inl ⟨_, hx⟩))]; exact hR.C b s hx, fun b s hx => by rw [hs b (.inr (.inr ⟨_, hx⟩))]; exact hR.D b s hx, hR.ap⟩

theorem Ext.other (hE : Ext G0 H w0 G W) (hz : W.heap.size ≤ W'.heap.size) (hs : ∀ k, k < w0.heap.size → W'.heap[k]? = W.heap[k]?) : Ext G0 H w0 G W' :=
  ⟨hE.le, hE.D, hE.blk, hE.new, hE.Cn, Nat.le_trans hE.size hz, fun b hb hn => (hs b hb).trans (hE.frame b hb hn)⟩

theorem Rel.D_lt (hR : Rel W0 G H W) {b : Nat} {s : List Value} (h : G.D b = some s) : b < W.heap.size := by
  obtain ⟨_, c, t, fr, hc, _⟩ := hR.D _ _ h
  exact blk_lt' hc

/-- The small machine's memory, boxes of the walk's own (they may change), blocks that stand, and values. -/
def Cx (W0 : World) (G0 : Gh) (H : Heap) (w0 : World) (bx fx : List (Nat × Obj)) (vs : List AV) (cs : List Value) (W : World) : Prop :=
  ∃ G, Rel W0 G H W ∧ Ext G0 H w0 G W ∧ VL W0 G 0 vs cs ∧ (∀ p ∈ bx, w0.heap.size ≤ p.1 ∧ W.heap[p.1]? = some p.2 ∧ (∀ id v S, G.ob id ≠ some (v, p.1, S)) ∧ G.C p.1 = none) ∧ ∀ p ∈ fx, W.heap[p.1]? = some p.2 ∧ ∀ id v S, G.ob id ≠ some (v, p.1, S)

theorem Cx.box (h : Cx W0 G0 H w0 bx fx vs cs W) {p : Nat × Obj} (hp : p ∈ bx) : W.heap[p.1]? = some p.2 := by
  obtain ⟨G, _, _, _, h4, _⟩ := h
  exact (h4 p hp).2.1

theorem Cx.fix (h : Cx W0 G0 H w0 bx fx vs cs W) {p : Nat × Obj} (hp : p ∈ fx) : W.heap[p.1]? = some p.2 := by
  obtain ⟨G, _, _, _, _, h5⟩ := h
  exact (h5 p hp).1

theorem Cx.low (h : Cx W0 G0 H w0 bx fx vs cs W) {p : Nat × Obj} (hp : p ∈ bx) : w0.heap.size ≤ p.1 := by
  obtain ⟨G, _, _, _, h4, _⟩ := h
  exact (h4 p hp).1

theorem Cx.below (h : Cx W0 G0 H w0 bx fx vs cs W) : Below W0.heap.size W0 W := by
  obtain ⟨G, h1, _⟩ := h
  exact h1.below

/-- A few boxes change, or new blocks come. -/
theorem Cx.to (hR0 : Rel W0 G0 H w0) (h : Cx W0 G0 H w0 bx fx vs cs W) (hz : W.heap.size ≤ W'.heap.size) (hb : Below W0.heap.size W0 W') (ch : List Nat) (hch : ∀ k ∈ ch, (∃ o, (k, o) ∈ bx) ∧ ∀ o, (k, o) ∉ fx)
    (hs : ∀ k, k < W.heap.size → k ∉ ch → W'.heap[k]? = W.heap[k]?) (hx : ∀ p ∈ bx', W'.heap[p.1]? = some p.2 ∧ (W.heap.size ≤ p.1 ∨ ∃ o, (p.1, o) ∈ bx)) : Cx W0 G0 H w0 bx' fx vs cs W' := by
  obtain ⟨G, h1, h2, h3, h4, h5⟩ := h
  have hlow : ∀ k ∈ ch, w0.heap.size ≤ k := fun k hk => by obtain ⟨⟨o, ho⟩, _⟩ := hch k hk; exact (h4 _ ho).1
  have hR : Rel W0 G H W' := h1.other hb fun k hk => by
    have hlt : k < W.heap.size := by
      rcases hk with ⟨id, v, S, hx⟩ | ⟨s, hx⟩ | ⟨s, hx⟩
      · obtain ⟨_, _, _, _, _, _, _, q, _⟩ := h1.obj _ _ _ _ hx; exact blk_lt' q
      · obtain ⟨_, c, t, fr, q, _⟩ := h1.C _ _ hx; exact blk_lt' q
      · exact h1.D_lt hx
    refine hs k hlt fun hc => ?_
    obtain ⟨⟨o, ho⟩, _⟩ := hch k hc
    obtain ⟨q1, q2, q3, q4⟩ := h4 _ ho
    rcases hk with ⟨id, v, S, hx⟩ | ⟨s, hx⟩ | ⟨s, hx⟩
    · exact q3 _ _ _ hx
    · rw [q4] at hx; cases hx
    · rw [h2.D] at hx
      have := hR0.D_lt hx
      simp only at q1; omega
  refine ⟨G, hR, h2.other hz fun k hk => hs k (by have := h2.size; omega) fun hc => by have := hlow k hc; omega, h3, fun p hp => ?_, fun p hp => ?_⟩
  · obtain ⟨e1, e2⟩ := hx p hp
    rcases e2 with e2 | ⟨o, ho⟩
    · refine ⟨by have := h2.size; omega, e1, fun id v S hx => ?_, ?_⟩
      · obtain ⟨_, _, _, _, _, _, _, q, _⟩ := h1.obj _ _ _ _ hx
        have := blk_lt' q; omega
      · cases hq : G.C p.1 with
        | none => rfl
        | some s => obtain ⟨_, c, t, fr, q, _⟩ := h1.C _ _ hq; have := blk_lt' q; omega
    · obtain ⟨q1, q2, q3, q4⟩ := h4 _ ho
      exact ⟨q1, e1, q3, q4⟩
  · obtain ⟨q1, q2⟩ := h5 p hp
    have hlt : p.1 < W.heap.size := (Array.getElem?_eq_some_iff.1 q1).1
    exact ⟨(hs p.1 hlt fun hc => (hch _ hc).2 _ hp).trans q1, q2⟩

theorem Cx.vals (h : Cx W0 G0 H w0 bx fx vs cs W) {vs' : List AV} {cs' : List Value} (hv : ∀ G, VL W0 G 0 vs cs → VL W0 G 0 vs' cs') : Cx W0 G0 H w0 bx fx vs' cs' W := by
  obtain ⟨G, h1, h2, h3, h4, h5⟩ := h
  exact ⟨G, h1, h2, hv G h3, h4, h5⟩

theorem Cx.valsG (h : Cx W0 G0 H w0 bx fx vs cs W) {vs' : List AV} {cs' : List Value} (hv : ∀ G, Le 0 G0 G → VL W0 G 0 vs cs → VL W0 G 0 vs' cs') : Cx W0 G0 H w0 bx fx vs' cs' W := by
  obtain ⟨G, h1, h2, h3, h4, h5⟩ := h
  exact ⟨G, h1, h2, hv G h2.le h3, h4, h5⟩

theorem Cx.drew (h : Cx W0 G0 H w0 bx fx vs cs W) : Cx W0 G0 H w0 bx fx vs cs W.drew := by
  obtain ⟨G, h1, h2, h3, h4, h5⟩ := h
  exact ⟨G, h1.drew, h2.other (Nat.le_refl _) fun _ _ => rfl, h3, h4, h5⟩

/-- A call that shares nothing. -/
theorem Cx.call {R : Run} (RS : CallSound P W0 R) {f : Nat} {av : List AV} {v : AV} (hc : callA R 1 f av H = some (v, H)) (h : Cx W0 G0 H w0 bx fx vs cs W) {cas : List Value} (ha : ∀ G, VL W0 G 0 vs cs → VL W0 G 0 av cas) :
    Calls P f cas.toArray W fun e W' => ∃ c, e = .returned c ∧ Cx W0 G0 H w0 bx fx (v :: vs) (c :: cs) W' ∧ KeepsOthers W W' := by
  obtain ⟨G, h1, h2, h3, h4, h5⟩ := h
  refine ((callA_spec RS hc).2 G W cas h1 (ha G h3)).mono ?_
  rintro e W' ⟨c, G', rfl, k1, k2, k3, k4⟩
  have hap : ∀ b, b < W.heap.size → (∀ id v S, G.ob id ≠ some (v, b, S)) → ∀ id v S, G'.ob id ≠ some (v, b, S) := fun b hb hn id v S hx => by
    cases hq : G.ob id with
    | none => have := (k3.new _ _ _ _ hx hq).2; omega
    | some y =>
      obtain ⟨v1, b1, S1⟩ := y
      rcases k3.blk _ _ _ _ _ _ _ hq hx with e | e
      · subst e; exact hn _ _ _ hq
      · omega
  refine ⟨c, rfl, ⟨G', k2, h2.trans (Nat.le_refl _) k3, VL.cons k1 (h3.mono k3.le), fun p hp => ?_, fun p hp => ?_⟩, ⟨k3.size, fun k o hk ho => ?_⟩⟩
  case refine_3 =>
    refine (k3.frame k (Array.getElem?_eq_some_iff.1 hk).1 fun id v S hx => ?_).trans hk
    obtain ⟨_, _, _, _, _, _, _, q, _⟩ := h1.obj _ _ _ _ hx
    rw [hk] at q; cases q; cases ho
  · obtain ⟨q1, q2, q3, q4⟩ := h4 p hp
    have hlt : p.1 < W.heap.size := (Array.getElem?_eq_some_iff.1 q2).1
    refine ⟨q1, (k3.frame _ hlt q3).trans q2, hap _ hlt q3, ?_⟩
    cases hq : G'.C p.1 with
    | none => rfl
    | some s =>
      rcases k3.Cn _ _ hq with e | e
      · rw [q4] at e; cases e
      · omega
  · obtain ⟨q1, q2⟩ := h5 p hp
    have hlt : p.1 < W.heap.size := (Array.getElem?_eq_some_iff.1 q1).1
    exact ⟨(k3.frame _ hlt q2).trans q1, hap _ hlt q2⟩

/-- Blocks that are no cells may come and go. -/
theorem Cx.own {B : Nat} (hB : w0.heap.size ≤ B) (hcells : ∀ p ∈ bx ++ fx, p.2.isCells = true) {row : Option Nat} (h : Cx W0 G0 H w0 bx fx vs cs W) (hg : W.grownBy W' row) (hr : ∀ r, row = some r → B ≤ r ∧ ∃ o : Obj, W.heap[r]? = some o ∧ o.isCells = false)
    (hW0 : W0.heap.size ≤ w0.heap.size) : Cx W0 G0 H w0 bx fx vs cs W' := by
  obtain ⟨G, h1, h2, h3, h4, h5⟩ := h
  have hkeep : ∀ {k : Nat} {o : Obj}, W.heap[k]? = some o → o.isCells = true → W'.heap[k]? = W.heap[k]? := fun hk hc => grownBy_keeps_cells hg (fun r e => (hr r e).2) hk hc
  have hlow : ∀ k, k < w0.heap.size → W'.heap[k]? = W.heap[k]? := fun k hk => hg.block k (by have := h2.size; omega) fun e => by have := (hr k e.symm).1; omega
  have hbel : Below W0.heap.size W0 W' := h1.below.grown hg h1.below.size (fun k e => by have := (hr k e).1; omega)
  refine ⟨G, h1.other hbel fun k hk => ?_, h2.other hg.size hlow, h3, fun p hp => ?_, fun p hp => ?_⟩
  · rcases hk with ⟨id, v, S, hx⟩ | ⟨s, hx⟩ | ⟨s, hx⟩
    · obtain ⟨_, _, _, _, _, _, _, q, _⟩ := h1.obj _ _ _ _ hx; exact hkeep q rfl
    · obtain ⟨_, c, t, fr, q, _⟩ := h1.C _ _ hx; exact hkeep q rfl
    · obtain ⟨_, c, t, fr, q, _⟩ := h1.D _ _ hx; exact hkeep q rfl
  · obtain ⟨q1, q2, q3, q4⟩ := h4 p hp
    exact ⟨q1, (hkeep q2 (hcells p (by simp [hp]))).trans q2, q3, q4⟩
  · obtain ⟨q1, q2⟩ := h5 p hp
    exact ⟨(hkeep q1 (hcells p (by simp [hp]))).trans q1, q2⟩
end
end Go.X

/-! The sign of a polynomial's value: a range over the backward iterator, walked by hand. -/
set_option linter.unusedSimpArgs false
set_option linter.unusedVariables false
set_option linter.unusedSectionVars false
namespace Go.X
open Go Go.RowKit Go.Proofs Go.Shelf

attribute [local go_sem] Oper.semAt_some

/-- One round of 'at': the value so far times x, and the next number more. -/
def atStep (R : Run) (x : Int) (st e : AV) (H : Heap) : Option AV :=
  match callA R 1 76 [.int .i64 x] H with
  | some (w, _) => match callA R 1 95 [st, w] H with
    | some (t, _) => (callA R 1 96 [t, e] H).map (·.1)
    | none => none
  | none => none

def isI : AV → Bool
  | .int .i64 _ => true
  | _ => false

def isS : AV → Bool
  | .nils | .imm .. => true
  | _ => false

theorem isS_slice {W0 : World} {G : Gh} {l : Nat} {v : AV} {c : Value} (h : VR W0 G l v c) (hs : isS v = true) : ∃ A n cc, c = .slice A n cc := by
  cases h <;> simp [isS] at hs <;> exact ⟨_, _, _, rfl⟩

def atFold (R : Run) (x : Int) (H : Heap) (cells : List AV) : Nat → AV → Option AV
  | 0, st => some st
  | m + 1, st => match atStep R x st (.agg [cells.getD (m * 2) .undef, cells.getD (m * 2 + 1) .undef]) H with
    | some (.agg [.int .i64 s, d]) => if isS d then atFold R x H cells m (.agg [.int .i64 s, d]) else none
    | _ => none

def atRow : AV → Option (List AV × Nat)
  | .nils => some ([], 0)
  | .imm _ cells len => if cells.length = len * 2 ∧ (List.range len).all (fun m => isI (cells.getD (m * 2) .undef) && isS (cells.getD (m * 2 + 1) .undef)) = true ∧ len * 16 ≤ 140737488351232 then some (cells, len) else none
  | _ => none

def atY (R : Run) (p : AV) (x : Int) (H : Heap) : Option (AV × Heap) :=
  match atRow p with
  | some (cells, len) => match atFold R x H cells len (.agg [.int .i64 0, .nils]) with
    | some (.agg [.int .i64 s, _]) => some (.int .i64 s, H)
    | _ => none
  | none => none

section
variable {W0 : World} [GlobOk W0] {R : Run}

theorem call1_heap {R : Run} {f : Nat} {av : List AV} {v : AV} {H H' : Heap} (h : callA R 1 f av H = some (v, H')) : H' = H := by
  rw [call_m1] at h
  unfold callX1 at h
  split at h
  · unfold freeX at h
    split at h
    · cases hf : freeA ‹_› 6 ‹_› with
      | none => rw [hf] at h; cases h
      | some u => rw [hf, pairX_some] at h; cases h; rfl
    · cases h
  · cases h

theorem at_src {p : AV} {c : Value} {G0 : Gh} {H : Heap} {w : World} (hR : Rel W0 G0 H w) (hp : VR W0 G0 0 p c) {cells : List AV} {len : Nat} (h : atRow p = some (cells, len)) :
    len * 16 ≤ 140737488351232 ∧ ∃ (A : Option Addr) (cc : Nat) (zs : Nat → Int) (ds : Nat → Value) (b off : Nat) (o : Obj), c = .slice A len cc ∧ (∀ j, j < len → cells.getD (j * 2) .undef = .int .i64 (zs j) ∧ VR W0 G0 0 (cells.getD (j * 2 + 1) .undef) (ds j) ∧ ∃ A n cc, ds j = .slice A n cc) ∧
      (0 < len → A = some ⟨b, off, none⟩ ∧ w.heap[b]? = some o ∧ o.isCells = true ∧ (∀ id v S, G0.ob id ≠ some (v, b, S)) ∧ ∀ j, j < len → w.cell? ⟨b, off + j * 2, none⟩ = some (.int .i64 (zs j)) ∧ w.cell? ⟨b, off + j * 2 + 1, none⟩ = some (ds j)) := by
  unfold atRow at h
  split at h
  · cases h
    cases hp
    exact ⟨by omega, none, 0, fun _ => 0, fun _ => Go.undef, 0, 0, .deferred none, rfl, fun j hj => by omega, fun h => by omega⟩
  · rename_i sn cs ln
    split at h
    · rename_i hh
      obtain ⟨h1, h2, h3⟩ := hh
      cases h
      refine ⟨h3, ?_⟩
      cases hp with
      | imm _ _ _ A cc u hl hc him h0 r =>
        have hz : ∀ j, j < len → ∃ z : Int, cells.getD (j * 2) .undef = .int .i64 z ∧ u (j * 2) = .int .i64 z := by
          intro j hj
          have := List.all_eq_true.1 h2 j (List.mem_range.2 hj)
          rw [Bool.and_eq_true] at this
          replace this := this.1
          have hv := (r (j * 2) (by omega)).weaken (Nat.zero_le _)
          cases hq : cells.getD (j * 2) .undef with
          | int k z =>
            rw [hq] at this hv
            cases k <;> simp [isI] at this
            refine ⟨z, rfl, ?_⟩
            cases hu : u (j * 2) <;> rw [hu] at hv <;> cases hv
            rfl
          | _ => rw [hq] at this; simp [isI] at this
        obtain ⟨zs, hzs⟩ : ∃ zs : Nat → Int, ∀ j, j < len → cells.getD (j * 2) .undef = .int .i64 (zs j) ∧ u (j * 2) = .int .i64 (zs j) :=
          ⟨fun j => if hj : j < len then Classical.choose (hz j hj) else 0, fun j hj => by
            have := Classical.choose_spec (hz j hj)
            simpa only [dif_pos hj] using this⟩
        have hd : ∀ j, j < len → VR W0 G0 0 (cells.getD (j * 2 + 1) .undef) (u (j * 2 + 1)) ∧ ∃ A n cc, u (j * 2 + 1) = .slice A n cc := fun j hj => by
          have := List.all_eq_true.1 h2 j (List.mem_range.2 hj)
          rw [Bool.and_eq_true] at this
          have hv := (r (j * 2 + 1) (by omega)).weaken (Nat.zero_le _)
          exact ⟨hv, isS_slice hv this.2⟩
        by_cases hl0 : 0 < len
        · obtain ⟨a, rfl⟩ : ∃ a, A = some a := by
            cases A with
            | none => have := (h0 rfl).1; omega
            | some a => exact ⟨a, rfl⟩
          have hcell : ∀ j, j < len * 2 → w.cell? (a.add j) = some (u j) := fun j hj => hR.im (him a rfl j (by omega))
          obtain ⟨b, off, spot⟩ := a
          have h00 := hcell 0 (by omega)
          have hadd0 : (⟨b, off, spot⟩ : Addr).add 0 = ⟨b, off, spot⟩ := rfl
          rw [hadd0] at h00
          obtain ⟨o, ho, hoc⟩ := cells_of_cell h00
          obtain rfl : spot = none := by
            unfold World.cell? at h00
            split at h00
            · cases spot with
              | none => rfl
              | some s => simp at h00
            · cases h00
          refine ⟨some ⟨b, off, none⟩, cc, zs, fun j => u (j * 2 + 1), b, off, o, rfl, fun j hj => ⟨(hzs j hj).1, hd j hj⟩, fun _ => ⟨rfl, ho, hoc, fun id v S hx => ?_, fun j hj => ⟨?_, ?_⟩⟩⟩
          · have him0 := him _ rfl 0 (by omega)
            rw [hadd0] at him0
            obtain ⟨_, _, _, _, _, _, hge, hob, _⟩ := hR.obj _ _ _ _ hx
            rcases him0 with k | ⟨_, ⟨s, hs, _⟩ | ⟨_, s, hs, _⟩⟩
            · unfold World.cell? at k
              have : b < W0.heap.size := by
                rcases Nat.lt_or_ge b W0.heap.size with h' | h'
                · exact h'
                · rw [Array.getElem?_eq_none h'] at k; cases k
              omega
            · rw [(hR.ap _ _ _ _ hx).1] at hs; cases hs
            · rw [(hR.ap _ _ _ _ hx).2] at hs; cases hs
          · have := hcell (j * 2) (by omega)
            rwa [Addr.add_off, (hzs j hj).2] at this
          · have := hcell (j * 2 + 1) (by omega)
            rwa [Addr.add_off, ← Nat.add_assoc] at this
        · exact ⟨A, cc, zs, fun j => u (j * 2 + 1), 0, 0, .deferred none, rfl, fun j hj => by omega, fun h => absurd h hl0⟩
    · cases h
  · cases h

theorem big_form {G : Gh} {l : Nat} {s : Int} {d : AV} {c : Value} (h : VR W0 G l (.agg [.int .i64 s, d]) c) (hd : isS d = true) : ∃ A n cc, c = .agg #[.int .i64 s, .slice A n cc] ∧ VR W0 G l d (.slice A n cc) := by
  cases h with
  | agg _ cs hn r =>
    match cs, hn with
    | [c1, c2], _ =>
      have h1 := r 0 (by simp)
      have h2 := r 1 (by simp)
      simp only [List.getD_cons_zero, List.getD_cons_succ] at h1 h2
      obtain ⟨A, n, cc, rfl⟩ := isS_slice h2 hd
      cases h1
      exact ⟨A, n, cc, rfl, h2⟩

theorem Cx.big {G0 : Gh} {H : Heap} {w0 W : World} {bx fx : List (Nat × Obj)} {vs : List AV} {cs : List Value} {s : Int} {d : AV} {c : Value} (h : Cx W0 G0 H w0 bx fx (.agg [.int .i64 s, d] :: vs) (c :: cs) W) (hd : isS d = true) : ∃ A n cc, c = .agg #[.int .i64 s, .slice A n cc] := by
  obtain ⟨G, _, _, q, _⟩ := h
  obtain ⟨A, n, cc, e, _⟩ := big_form q.head.1 hd
  exact ⟨A, n, cc, e⟩

set_option maxRecDepth 100000 in
set_option maxHeartbeats 4000000 in
theorem at_sound (RS : CallSound Tryd.prog W0 R) {p : AV} {x : Int} {H H' : Heap} {v : AV} (hY : atY R p x H = some (v, H')) {G0 : Gh} {w : World} {c : Value} (hR : Rel W0 G0 H w) (hp : VR W0 G0 0 p c) :
    Calls Tryd.prog 97 #[c, .int .i64 x] w (Post W0 G0 H w v H') := by
  unfold atY at hY
  split at hY
  case h_2 => cases hY
  rename_i cells len hrow
  split at hY
  case h_2 => cases hY
  rename_i sf dAf hfold
  cases hY
  obtain ⟨hreach, A, cc, zs, ds, b, off, o, rfl, hcz, hpos⟩ := at_src hR hp hrow
  have hWw : W0.heap.size ≤ w.heap.size := hR.below.size
  refine (callsIn_wide (n := 3)).1 (callsIn_of_wp_marks Tryd.func97 rfl trivial ?_)
  simp only [Tryd.ntmps97, List.size_toArray, List.length_cons, List.length_nil, Nat.reduceAdd, Nat.reduceSub, Array.replicate_succ, Array.replicate_zero, List.push_toArray, List.append_toArray, List.nil_append, List.cons_append]
  gi_wp2_with (refine ⟨trivial, ?_⟩; gi_at_call 109; refine (back109 Fence.wide 2 trivial rfl _ _ _ _).mono ?_; rintro e w' ⟨rfl, rfl⟩)
  obtain ⟨b', fx, hbf⟩ : ∃ (b' : Nat) (fx : List (Nat × Obj)), (len = 0 ∧ b' = w.heap.size + 2 ∧ fx = []) ∨ (0 < len ∧ b' = b ∧ fx = [(b, o)]) := by
    rcases Nat.eq_zero_or_pos len with h | h
    · exact ⟨_, _, .inl ⟨h, rfl, rfl⟩⟩
    · exact ⟨_, _, .inr ⟨h, rfl, rfl⟩⟩
  generalize hw3 : (((w.alloc (Obj.cells #[Value.int IntKind.i64 x] 3)).alloc (Obj.cells #[Value.int IntKind.i64 0, Value.slice none 0 0] 87)).alloc (Obj.cells #[Value.slice A len cc] 85)) = w3
  have hsz3 : w3.heap.size = w.heap.size + 3 := by rw [← hw3]; simp
  have hc3 : Cx W0 G0 H w [(w.heap.size, .cells #[.int .i64 x] 3), (w.heap.size + 1, .cells #[.int .i64 0, .slice none 0 0] 87), (w.heap.size + 2, .cells #[.slice A len cc] 85)] fx [.nils] [.slice none 0 0] w3 := by
    have h0 : Cx W0 G0 H w [] fx [.nils] [.slice none 0 0] w := ⟨G0, hR, Ext.refl _ _ _, VL.cons .nils VL.nil, fun p hp => by simp at hp, fun p hp => by
      rcases hbf with ⟨_, _, rfl⟩ | ⟨hl, _, rfl⟩
      · simp at hp
      · simp at hp; subst hp
        obtain ⟨_, q1, _, q2, _⟩ := hpos hl
        exact ⟨q1, q2⟩⟩
    have hk : ∀ k, k < w.heap.size → w3.heap[k]? = w.heap[k]? := fun k hk => by
      rw [← hw3, Below.heap_alloc _ _ _ (by simp; omega), Below.heap_alloc _ _ _ (by simp; omega), Below.heap_alloc _ _ _ hk]
    refine h0.to hR (by omega) ?_ [] (fun k hk => by simp at hk) (fun k hk' _ => hk k hk') fun p hp => ?_
    · rw [← hw3]; exact ((h0.below.alloc hWw _).alloc (by simp; omega) _).alloc (by simp; omega) _
    · simp only [List.mem_cons, List.not_mem_nil, or_false] at hp
      rcases hp with rfl | rfl | rfl
      · refine ⟨?_, .inl (Nat.le_refl _)⟩
        rw [← hw3, Below.heap_alloc _ _ _ (by simp; omega), Below.heap_alloc _ _ _ (by simp)]; exact World.alloc_heap_new _ _
      · refine ⟨?_, .inl (by simp)⟩
        rw [← hw3, Below.heap_alloc _ _ _ (by simp)]
        have := World.alloc_heap_new (w.alloc (Obj.cells #[Value.int IntKind.i64 x] 3)) (Obj.cells #[Value.int IntKind.i64 0, Value.slice none 0 0] 87)
        rwa [World.size_alloc] at this
      · refine ⟨?_, .inl (by simp)⟩
        rw [← hw3]
        have := World.alloc_heap_new ((w.alloc (Obj.cells #[Value.int IntKind.i64 x] 3)).alloc (Obj.cells #[Value.int IntKind.i64 0, Value.slice none 0 0] 87)) (Obj.cells #[Value.slice A len cc] 85)
        rwa [World.size_alloc, World.size_alloc] at this
  clear hw3
  have hbx : ∀ {s : Int} {d : Value} {q : Nat × Obj}, q ∈ ([(w.heap.size, .cells #[.int .i64 x] 3), (w.heap.size + 1, .cells #[.int .i64 s, d] 87), (w.heap.size + 2, .cells #[.slice A len cc] 85)] : List (Nat × Obj)) ++ fx → q.2.isCells = true := by
    intro s d q hq
    rcases hbf with ⟨_, _, rfl⟩ | ⟨hl, _, rfl⟩
    · simp at hq
      rcases hq with rfl | rfl | rfl <;> rfl
    · obtain ⟨_, _, q2, _⟩ := hpos hl
      simp at hq
      rcases hq with rfl | rfl | rfl | rfl <;> first | rfl | exact q2
  refine back_loop (Bs := w.heap.size + 2) (b := b') (len := len) (its := fun m => #[.int .i64 (m : Int), .agg #[.int .i64 (zs m), ds m]]) rfl (enters_of Tryd.func118 (by kernel_rfl) rfl) (fun _ => rfl) (by omega) ?_ ?_
    (fun k W => ∃ s dA d, isS dA = true ∧ atFold R x H cells (len - k) (.agg [.int .i64 s, dA]) = some (.agg [.int .i64 sf, dAf]) ∧ Cx W0 G0 H w [(w.heap.size, .cells #[.int .i64 x] 3), (w.heap.size + 1, .cells #[.int .i64 s, d] 87), (w.heap.size + 2, .cells #[.slice A len cc] 85)] fx [dA] [d] W)
    ?_ ⟨0, .nils, .slice none 0 0, rfl, hfold, hc3⟩
    (fun m a' k W => m + 1 + k = len ∧ ∃ s dA d nb, isS dA = true ∧ atFold R x H cells (m + 1) (.agg [.int .i64 s, dA]) = some (.agg [.int .i64 sf, dAf]) ∧
      a' = { tmps := #[.slice A len cc, .int .i64 x, Go.undef, .pointer (some ⟨w.heap.size, 0, none⟩), .int .i64 0, .pointer (some ⟨w.heap.size + 1, 0, none⟩), Go.undef, .pointer (some ⟨nb, 0, none⟩), .agg #[.int .i64 0, .slice none 0 0], .slice A len cc, .func (.func 118) #[] #[.pointer (some ⟨w.heap.size + 1 + 1, 0, none⟩)],
        .int .i64 (m : Int), .agg #[.int .i64 (zs m), ds m], Go.undef, Go.undef, Go.undef, Go.undef, Go.undef, Go.undef, Go.undef, Go.undef], defers := [] } ∧
      Cx W0 G0 H w [(nb, .cells #[.int .i64 (zs m), ds m] 87), (w.heap.size, .cells #[.int .i64 x] 3), (w.heap.size + 1, .cells #[.int .i64 s, d] 87), (w.heap.size + 2, .cells #[.slice A len cc] 85)] fx [dA] [d] W)
    ?_ ?_ ?_ ?_
  · -- the block
    rcases hbf with ⟨_, rfl, _⟩ | ⟨hl, rfl, _⟩
    · omega
    · obtain ⟨_, q1, _⟩ := hpos hl
      have := (Array.getElem?_eq_some_iff.1 q1).1
      omega
  · -- the iterator
    intro l J W hk hY h0
    have hbs : W.cell? ⟨w.heap.size + 2, 0, none⟩ = some (.slice A len cc) := by
      rw [hk.cell (p := ⟨w.heap.size + 2, 0, none⟩) (.inl rfl)]
      have := hc3.box (p := (w.heap.size + 2, .cells #[.slice A len cc] 85)) (by simp)
      simp only at this
      simp [World.cell?, this]
    rcases hbf with ⟨rfl, _, _⟩ | ⟨hl, hbb, hfe⟩
    · exact back118_nil Fence.wide 2 trivial rfl l _ cc A J W hbs h0
    · obtain ⟨rfl, q1, _, _, q4⟩ := hpos hl
      rw [hbb] at hY hk
      refine back118 Fence.wide 2 trivial rfl (by omega) l _ b off len cc zs ds hreach J hY W hbs (fun j hj => ?_) h0
      have hb3 : w3.heap[b]? = w.heap[b]? := (hc3.fix (p := (b, o)) (by simp [hfe])).trans q1.symm
      rw [hk.cell (p := ⟨b, off + j * 2, none⟩) (.inr rfl), hk.cell (p := ⟨b, off + j * 2 + 1, none⟩) (.inr rfl)]
      have e1 : w3.cell? ⟨b, off + j * 2, none⟩ = w.cell? ⟨b, off + j * 2, none⟩ := by unfold World.cell?; rw [hb3]
      have e2 : w3.cell? ⟨b, off + j * 2 + 1, none⟩ = w.cell? ⟨b, off + j * 2 + 1, none⟩ := by unfold World.cell?; rw [hb3]
      rw [e1, e2]
      exact q4 j hj
  · -- what the invariant abides
    rintro k W W' row ⟨s, dA, d, hd, h1, h2⟩ hg hr
    exact ⟨s, dA, d, hd, h1, h2.own (B := w3.heap.size) (by omega) (fun q hq => hbx hq) hg hr hWw⟩
  · rintro m a' k W W' row ⟨h0, s, dA, d, nb, hd, h1, h2, h3⟩ hg hr
    refine ⟨h0, s, dA, d, nb, hd, h1, h2, h3.own (B := w3.heap.size) (by omega) (fun q hq => ?_) hg hr hWw⟩
    rcases List.mem_cons.1 hq with rfl | hq
    · rfl
    · exact hbx hq
  · -- the loop's variable is boxed
    rintro l k m W hm ⟨s, dA, d, hd, h1, h2⟩
    obtain ⟨A1, n1, c1, e1⟩ := (hcz m (by omega)).2.2
    have hlk : len - k = m + 1 := by omega
    rw [hlk] at h1
    dsimp only
    rw [e1]
    gi_wp2
    have hkp : ∀ (ob : Obj), KpB (w.heap.size + 2) b' W (W.alloc ob) := fun ob j hj => Below.heap_alloc _ _ _ (by
      rcases hj with rfl | rfl
      · have := h2.box (p := (w.heap.size + 2, .cells #[.slice A len cc] 85)) (by simp)
        exact (Array.getElem?_eq_some_iff.1 this).1
      · rcases hbf with ⟨hz, _, _⟩ | ⟨_, rfl, rfl⟩
        · omega
        · exact (Array.getElem?_eq_some_iff.1 (h2.fix (p := (j, o)) (by simp))).1)
    refine ⟨(KeepsOthers.alloc _ _).from _, hkp _, hm, s, dA, d, W.heap.size, hd, h1, rfl, h2.to hR (by simp) (h2.below.alloc h2.below.size _) [] (fun k hk => by simp at hk) (fun k hk _ => Below.heap_alloc _ _ _ hk) fun q hq => ?_⟩
    rcases List.mem_cons.1 hq with rfl | hq
    · exact ⟨World.alloc_heap_new _ _, .inl (Nat.le_refl _)⟩
    · have := h2.box hq
      exact ⟨(Below.heap_alloc _ _ _ (Array.getElem?_eq_some_iff.1 this).1).trans this, .inr ⟨_, hq⟩⟩
  · -- the body
    rintro l k m a' W hm ⟨_, s, dA, d, nb, hd, h1, rfl, hC0⟩
    obtain ⟨hz1, hz2, A1, n1, c1, e1⟩ := hcz m (by omega)
    rw [e1] at hC0 ⊢
    have boxes : ∀ {vs cs W}, Cx W0 G0 H w [(nb, .cells #[.int .i64 (zs m), .slice A1 n1 c1] 87), (w.heap.size, .cells #[.int .i64 x] 3), (w.heap.size + 1, .cells #[.int .i64 s, d] 87), (w.heap.size + 2, .cells #[.slice A len cc] 85)] fx vs cs W →
        W.cell? ⟨w.heap.size, 0, none⟩ = some (.int .i64 x) ∧ W.cell? ⟨w.heap.size + 1, 0, none⟩ = some (.int .i64 s) ∧ W.cell? ⟨w.heap.size + 1, 1, none⟩ = some d ∧ W.cell? ⟨nb, 0, none⟩ = some (.int .i64 (zs m)) ∧ W.cell? ⟨nb, 1, none⟩ = some (.slice A1 n1 c1) ∧
        W.frozen? ⟨w.heap.size + 1, 0, none⟩ = false ∧ W.frozen? ⟨w.heap.size + 1, 1, none⟩ = false := fun {vs cs W} h => by
      have b1 := h.box (p := (w.heap.size, .cells #[.int .i64 x] 3)) (by simp)
      have b2 := h.box (p := (w.heap.size + 1, .cells #[.int .i64 s, d] 87)) (by simp)
      have b3 := h.box (p := (nb, .cells #[.int .i64 (zs m), .slice A1 n1 c1] 87)) (by simp)
      simp only at b1 b2 b3
      simp [World.cell?, World.frozen?, b1, b2, b3]
    simp only [atFold, hz1] at h1
    obtain ⟨wv, tv, sv, dv, h76, h95, h96, hdv, hrest⟩ : ∃ wv tv sv dv, callA R 1 76 [.int .i64 x] H = some (wv, H) ∧ callA R 1 95 [.agg [.int .i64 s, dA], wv] H = some (tv, H) ∧ callA R 1 96 [tv, .agg [.int .i64 (zs m), cells.getD (m * 2 + 1) .undef]] H = some (.agg [.int .i64 sv, dv], H) ∧ isS dv = true ∧
        atFold R x H cells m (.agg [.int .i64 sv, dv]) = some (.agg [.int .i64 sf, dAf]) := by
      split at h1
      · rename_i sv dv hst
        split at h1
        · rename_i hdv
          unfold atStep at hst
          split at hst
          · rename_i wv H1 h76
            obtain rfl : H1 = H := call1_heap h76
            split at hst
            · rename_i tv H2 h95
              obtain rfl : H2 = H1 := call1_heap h95
              cases h96 : callA R 1 96 [tv, .agg [.int .i64 (zs m), cells.getD (m * 2 + 1) .undef]] H2 with
              | none => rw [h96] at hst; cases hst
              | some q =>
                obtain ⟨v6, H3⟩ := q
                rw [h96] at hst
                simp only [Option.map_some, Option.some.injEq] at hst
                subst hst
                obtain rfl : H3 = H2 := call1_heap h96
                exact ⟨wv, tv, sv, dv, h76, h95, h96, hdv, h1⟩
            · cases hst
          · cases hst
        · cases h1
      · cases h1
    have hCd := hC0.drew
    obtain ⟨f1, f2, f3, f4, f5, f6, f7⟩ := boxes hCd
    obtain ⟨A2, n2, c2, e2⟩ : ∃ A n cc, d = .slice A n cc := by
      obtain ⟨G, _, _, q, _⟩ := hC0
      exact isS_slice (q.2 0 (by simp)) hd
    subst e2
    have hmx : Tryd.prog.follows .mixedOrders = true := by kernel_rfl
    have fin : ∀ (W3 : World) (A3 : Option Addr) (n3 c3 : Nat) (vs : List AV) (cs : List Value), Cx W0 G0 H w [(nb, .cells #[.int .i64 (zs m), .slice A1 n1 c1] 87), (w.heap.size, .cells #[.int .i64 x] 3), (w.heap.size + 1, .cells #[.int .i64 s, .slice A2 n2 c2] 87), (w.heap.size + 2, .cells #[.slice A len cc] 85)] fx (.agg [.int .i64 sv, dv] :: vs) (.agg #[.int .i64 sv, .slice A3 n3 c3] :: cs) W3 →
        KeepsOthers W.drew W3 → KeepsFrom w3.heap.size W ((W3.setCell ⟨w.heap.size + 1, 0, none⟩ (.int .i64 sv)).setCell ⟨w.heap.size + 1, 1, none⟩ (.slice A3 n3 c3)) ∧ KpB (w.heap.size + 2) b' W ((W3.setCell ⟨w.heap.size + 1, 0, none⟩ (.int .i64 sv)).setCell ⟨w.heap.size + 1, 1, none⟩ (.slice A3 n3 c3)) ∧
        ∃ s dA d, isS dA = true ∧ atFold R x H cells (len - (k + 1)) (.agg [.int .i64 s, dA]) = some (.agg [.int .i64 sf, dAf]) ∧ Cx W0 G0 H w [(w.heap.size, .cells #[.int .i64 x] 3), (w.heap.size + 1, .cells #[.int .i64 s, d] 87), (w.heap.size + 2, .cells #[.slice A len cc] 85)] fx [dA] [d] ((W3.setCell ⟨w.heap.size + 1, 0, none⟩ (.int .i64 sv)).setCell ⟨w.heap.size + 1, 1, none⟩ (.slice A3 n3 c3)) := by
      intro W3 A3 n3 c3 vs cs hC3 hko
      have hW : (W3.setCell ⟨w.heap.size + 1, 0, none⟩ (.int .i64 sv)).setCell ⟨w.heap.size + 1, 1, none⟩ (.slice A3 n3 c3) = W3.setCells (w.heap.size + 1) 0 [.int .i64 sv, .slice A3 n3 c3] := rfl
      have b2 := hC3.box (p := (w.heap.size + 1, .cells #[.int .i64 s, .slice A2 n2 c2] 87)) (by simp)
      have hnew := setCells_heap (w.heap.size + 1) [.int .i64 sv, .slice A3 n3 c3] 0 W3 _ _ _ b2
      have hoth := fun k hk => setCells_other (w.heap.size + 1) [.int .i64 sv, .slice A3 n3 c3] 0 W3 k hk
      have hxb : ∀ q ∈ fx, q.1 ≠ w.heap.size + 1 := fun q hq e => by
        rcases hbf with ⟨_, _, rfl⟩ | ⟨hl, _, rfl⟩
        · simp at hq
        · obtain ⟨_, q1, _⟩ := hpos hl
          have := (Array.getElem?_eq_some_iff.1 q1).1
          simp at hq; subst hq; simp only at e; omega
      have hdr : KeepsOthers W W.drew := ⟨Nat.le_refl _, fun _ _ h _ => h⟩
      refine ⟨((hdr.trans hko).trans ((KeepsOthers.setCell _ _ _).trans (KeepsOthers.setCell _ _ _))).from _, ?_, sv, dv, .slice A3 n3 c3, hdv, by rw [show len - (k + 1) = m by omega]; exact hrest, ?_⟩
      · rw [hW]
        intro j hj
        rcases hj with rfl | rfl
        · rw [hoth _ (by omega), hC3.box (p := (w.heap.size + 2, .cells #[.slice A len cc] 85)) (by simp), hC0.box (p := (w.heap.size + 2, .cells #[.slice A len cc] 85)) (by simp)]
        · rcases hbf with ⟨hz, _, _⟩ | ⟨_, rfl, hfe⟩
          · omega
          · rw [hoth _ (hxb (j, o) (by simp [hfe])), hC3.fix (p := (j, o)) (by simp [hfe]), hC0.fix (p := (j, o)) (by simp [hfe])]
      · rw [hW]
        have hC4 := hC3.vals (vs' := [dv]) (cs' := [.slice A3 n3 c3]) fun G q => by
          obtain ⟨A', n', c', e, q2⟩ := big_form q.head.1 hdv
          cases e
          exact VL.cons q2 VL.nil
        refine hC4.to hR (by rw [setCells_size]; exact Nat.le_refl _) (setCells_below _ (by omega) _ _ _ hC4.below) [w.heap.size + 1] (fun j hj => ?_) (fun j hj hn => hoth j (by simpa using hn)) fun q hq => ?_
        · simp only [List.mem_singleton] at hj
          subst hj
          exact ⟨⟨.cells #[.int .i64 s, .slice A2 n2 c2] 87, by simp⟩, fun o' ho' => hxb _ ho' rfl⟩
        · simp only [List.mem_cons, List.not_mem_nil, or_false] at hq
          rcases hq with rfl | rfl | rfl
          · exact ⟨(hoth _ (by simp)).trans (hC3.box (p := (w.heap.size, .cells #[.int .i64 x] 3)) (by simp)), .inr ⟨.cells #[.int .i64 x] 3, by simp⟩⟩
          · exact ⟨by simpa [putAll] using hnew, .inr ⟨.cells #[.int .i64 s, .slice A2 n2 c2] 87, by simp⟩⟩
          · exact ⟨(hoth _ (by simp)).trans (hC3.box (p := (w.heap.size + 2, .cells #[.slice A len cc] 85)) (by simp)), .inr ⟨.cells #[.slice A len cc] 85, by simp⟩⟩
    gi_wp2
    gi_region_with_o (first
      | (refine ⟨trivial, ?_⟩; gi_at_call 76; refine (CallsIn.inRound l (callsIn_wide.2 (Cx.call RS h76 hCd (cas := [.int .i64 x]) (fun G _ => VL.cons (.int _ _) VL.nil)))).mono ?_; rintro e W1 ⟨c76, rfl, hC1, o1⟩; obtain ⟨g1, g2, g3, g4, g5, g6, g7⟩ := boxes hC1)
      | (refine ⟨trivial, ?_⟩; gi_at_call 95; refine (CallsIn.inRound l (callsIn_wide.2 (Cx.call RS h95 hC1 (cas := [.agg #[.int .i64 s, .slice A2 n2 c2], c76]) (fun G q => VL.cons (.agg _ [_, _] rfl (VL.cons (.int _ _) (VL.cons q.head.2.head.1 VL.nil)).2) (VL.cons q.head.1 VL.nil))))).mono ?_; rintro e W2 ⟨c95, rfl, hC2, o2⟩; obtain ⟨k1, k2, k3, k4, k5, k6, k7⟩ := boxes hC2)
      | (refine ⟨trivial, ?_⟩; gi_at_call 96; refine (CallsIn.inRound l (callsIn_wide.2 (Cx.call RS h96 (hC2.valsG (vs' := [tv, cells.getD (m * 2 + 1) .undef]) (cs' := [c95, .slice A1 n1 c1]) (fun G hle q => VL.cons q.head.1 (VL.cons (e1 ▸ hz2.mono hle) VL.nil))) (cas := [c95, .agg #[.int .i64 (zs m), .slice A1 n1 c1]]) (fun G q => VL.cons q.head.1 (VL.cons (.agg _ [_, _] rfl (VL.cons (.int _ _) (VL.cons q.head.2.head.1 VL.nil)).2) VL.nil))))).mono ?_; rintro e W3 ⟨c96, rfl, hC3, o3⟩; obtain ⟨A3, n3, c3, rfl⟩ := hC3.big hdv; obtain ⟨l1, l2, l3, l4, l5, l6, l7⟩ := boxes hC3))
    all_goals exact ⟨rfl, fin _ _ _ _ _ _ hC3 ((o1.trans o2).trans o3)⟩
  · -- behind the loop
    rintro D W hD ⟨s, dA, d, hd, h1, h2⟩ hK
    rw [Nat.sub_self] at h1
    simp only [atFold, Option.some.injEq, AV.agg.injEq, List.cons.injEq, AV.int.injEq, true_and, and_true] at h1
    obtain ⟨rfl, rfl⟩ := h1
    have b2 := h2.box (p := (w.heap.size + 1, .cells #[.int .i64 s, d] 87)) (by simp)
    simp only at b2
    have f2 : W.cell? ⟨w.heap.size + 1, 0, none⟩ = some (.int .i64 s) := by simp [World.cell?, b2]
    gi_wp2
    refine ⟨by simp, .inl ⟨_, _, rfl, run_takeDeferred hK, ?_⟩⟩
    have h3 : Cx W0 G0 H w [(w.heap.size, .cells #[.int .i64 x] 3), (w.heap.size + 1, .cells #[.int .i64 s, d] 87), (w.heap.size + 2, .cells #[.slice A len cc] 85)] fx [dA] [d] (W.putObj D (.deferred none)) :=
      h2.own (B := w3.heap.size) (by omega) (fun q hq => hbx hq) (grownBy_putObj' W D (.deferred none)) (fun r e => by cases e; exact ⟨hD, _, hK, rfl⟩) hWw
    obtain ⟨G, q1, q2, _⟩ := h3
    exact ⟨_, results_tmp rfl _ _ _, _, G, rfl, .int _ _, q1, q2, Gr.same rfl⟩
end
end Go.X

/-! What is said of the functions that range over a function. -/
set_option linter.unusedSimpArgs false
set_option linter.unusedVariables false
set_option linter.unusedSectionVars false
namespace Go.X
open Go Go.RowKit Go.Proofs

def noR : Run := fun _ _ _ => none

theorem noR_sound {P : Program} {W : World} : CallSound P W noR := fun _ _ _ _ _ h => (by cases h)

/-- 'at', out of the functions that it calls. -/
noncomputable def yA : Run := fun f args H => if f = 97 then match args with
  | [p, .int .i64 x] => atY (callL ET noR) p x H
  | _ => none
  else none

theorem atY_heap {R : Run} {p : AV} {x : Int} {H H' : Heap} {v : AV} (h : atY R p x H = some (v, H')) : H' = H := by
  unfold atY at h
  split at h
  · split at h
    · cases h; rfl
    · cases h
  · cases h

theorem yA_sound {W : World} [GlobOk W] : CallSound Tryd.prog W yA := by
  intro f args H v H' h
  unfold yA at h
  split at h
  · rename_i hf
    subst hf
    split at h
    · rename_i p x
      refine ⟨⟨⟨Tryd.f97, Tryd.func97, by decide, by kernel_rfl⟩, fun _ => atY_heap h⟩, fun G w cargs hR ha => ?_⟩
      match cargs, ha with
      | [c, d], ha =>
        have h2 := ha.head.2.head.1
        cases h2
        exact at_sound (callL_sound ET_known noR_sound) h hR ha.head.1
      | [], ha => exact absurd ha.1 (by simp)
      | [_], ha => exact absurd ha.1 (by simp)
      | _ :: _ :: _ :: _, ha => exact absurd ha.1 (by simp)
    · cases h
  · cases h
end Go.X

/-! What every right program knows of a few frames: a closed run. -/
set_option linter.unusedSimpArgs false
set_option linter.unusedVariables false
namespace Go.X
open Go Go.RowKit Go.Proofs

theorem atStep_le {R R' : Run} (h : RLe R R') {x : Int} {st e v : AV} {H : Heap} (hs : atStep R x st e H = some v) : atStep R' x st e H = some v := by
  unfold atStep at hs ⊢
  cases h1 : callA R 1 76 [.int .i64 x] H with
  | none => rw [h1] at hs; cases hs
  | some q =>
    obtain ⟨w, H1⟩ := q
    rw [h1] at hs
    rw [callA_le h h1]
    simp only at hs ⊢
    cases h2 : callA R 1 95 [st, w] H with
    | none => rw [h2] at hs; cases hs
    | some q =>
      obtain ⟨t, H2⟩ := q
      rw [h2] at hs
      rw [callA_le h h2]
      simp only at hs ⊢
      cases h3 : callA R 1 96 [t, e] H with
      | none => rw [h3] at hs; cases hs
      | some q => rw [h3] at hs; rw [callA_le h h3]; exact hs

theorem atFold_le {R R' : Run} (h : RLe R R') {x : Int} {H : Heap} {cells : List AV} : ∀ {m : Nat} {st v : AV}, atFold R x H cells m st = some v → atFold R' x H cells m st = some v
  | 0, st, v, hs => hs
  | m + 1, st, v, hs => by
    simp only [atFold] at hs ⊢
    cases h1 : atStep R x st (.agg [cells.getD (m * 2) .undef, cells.getD (m * 2 + 1) .undef]) H with
    | none => rw [h1] at hs; cases hs
    | some q =>
      rw [h1] at hs
      rw [atStep_le h h1]
      split at hs
      · split at hs
        · rename_i hd; rw [if_pos hd]; exact atFold_le h hs
        · cases hs
      · cases hs

theorem atY_le {R R' : Run} (h : RLe R R') {p : AV} {x : Int} {H : Heap} {r : AV × Heap} (hs : atY R p x H = some r) : atY R' p x H = some r := by
  unfold atY at hs ⊢
  split at hs
  · rename_i cells len hrow
    cases h1 : atFold R x H cells len (.agg [.int .i64 0, .nils]) with
    | none => rw [h1] at hs; cases hs
    | some q => rw [h1] at hs; rw [atFold_le h h1]; exact hs
  · cases hs

/-- 'at', for the kernel. -/
noncomputable def yT (k : Nat) : Run := fun f args H => if f = 97 then match args with
  | [p, .int .i64 x] => atY (callT ET noR k) p x H
  | _ => none
  else none

theorem yT_le {Y : Run} {k : Nat} (hY : ∀ args H, Y 97 args H = yA 97 args H) : RLe (yT k) (callL ET Y) := by
  intro f args H r h
  unfold yT at h
  split at h
  · rename_i hf
    subst hf
    split at h
    · rename_i p x
      have : callL ET Y 97 [p, .int .i64 x] H = yA 97 [p, .int .i64 x] H := by
        rw [← hY]; rfl
      rw [this]
      exact atY_le (R := callT ET noR k) (fun f args H r h => memoT (E' := ET) (fun _ _ h => h) (fun _ _ _ _ h => by cases h) h) h
    · cases h
  · cases h

set_option maxRecDepth 100000 in
theorem alive17 {Y : Run} (hY : ∀ args H, Y 97 args H = yA 97 args H) {H : Heap} : freeX H (callL ET Y 17 [] []) = some (.bool true, H) :=
  memoFree (fun _ _ h => h) (yT_le (k := 1000) hY) (k := 1000) (by kernel_rfl)
end Go.X
