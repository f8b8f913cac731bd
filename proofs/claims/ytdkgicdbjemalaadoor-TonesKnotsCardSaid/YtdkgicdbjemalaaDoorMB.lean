import Derived.Test.YtdkgicdbjemalaaDoorMA
import Derived.Test.YtdkgicdbjemalaaDoorTF
/-! A loop over the library's backward iterator, in rounds that are numbered; and what the small machine's memory keeps meanwhile. -/
set_option linter.unusedSimpArgs false
set_option linter.unusedVariables false
set_option linter.unusedSectionVars false
namespace Go.X
open Go Go.RowKit Go.Proofs

abbrev wideR (l : Nat) : Fence := Fence.wide.inRound l

/-- Rounds by number: the invariant I k holds ahead of round k. -/
theorem back_loop {P : Program} {g : Operand} {ps : Array Tmp} {assign body : Code} {Q : Exit → Act → World → Prop} {a : Act} {w : World} {gf : Nat} {lb : Array Value}
    (hg : a.eval g = .func (.func gf) #[] lb) (eg : ∀ args w, (callFunc gf args).run P w = .ok (.enter gf args) w) {Bs b len : Nat} {its : Nat → Array Value} (hits : ∀ m, (its m).size = ps.size) (hBs : Bs < w.heap.size) (hb : b < w.heap.size)
    (hit : ∀ (l : Nat) (J : Nat → World → Prop) (W : World), KpB Bs b w W → (∀ (k m : Nat) (W : World), m + 1 + k = len → J k W → YieldAt Fence.wide 1 P l (its m) W fun e W' => e = .returned (.bool true) ∧ J (k + 1) W' ∧ KpB Bs b W W') → J 0 W →
      CallsIn Fence.wide 2 P gf (#[.func (.yield l) #[] #[]] ++ lb) W fun e W' => (∃ v, e = .returned v) ∧ J len W')
    (I : Nat → World → Prop) (hI : OwnFrom w.heap.size I) (h0 : I 0 w) (Ax : Nat → Act → Nat → World → Prop) (hAx : ∀ m a', OwnFrom w.heap.size (Ax m a'))
    (hasg : ∀ (l k m : Nat) (W : World), m + 1 + k = len → I k W → assign.wpIn (wideR l) 1 P (Exit.then (fun a' W' => KeepsFrom w.heap.size W W' ∧ KpB Bs b W W' ∧ Ax m a' k W') (fun _ _ _ => False)) { tmps := (ps.zip (its m)).foldl (fun t (p, v) => t.setIfInBounds p v) a.tmps, defers := [] } W)
    (hbody : ∀ (l k m : Nat) (a' : Act) (W : World), m + 1 + k = len → Ax m a' k W → body.wpIn (wideR l) 1 P (fun e _ W' => e = .normal ∧ KeepsFrom w.heap.size W W' ∧ KpB Bs b W W' ∧ I (k + 1) W') a' W)
    (hdone : ∀ (D : Nat) (W : World), w.heap.size ≤ D → I len W → W.heap[D]? = some (.deferred (some [])) → Q .normal { a with defers := { target := .collected D, args := #[] } :: a.defers } W) :
    (Code.rangeFunc g ps assign body).wpIn Fence.wide 3 P Q a w := by
  refine wpIn_rangeFunc fun fn hfn => ?_
  generalize hrec : (fun st pe => ({ state := st, pending := pe, fn, tmps := a.tmps, params := ps, assign, body, defers := w.heap.size } : Loop)) = rec
  have hr : ∀ st pe, rec st pe = { state := st, pending := pe, fn, tmps := a.tmps, params := ps, assign, body, defers := w.heap.size } := fun st pe => by rw [← hrec]
  -- the two blocks of the loop
  have hbook : ∃ W1, (w.alloc (.deferred (some []))).alloc (.loop (rec .ready none)) = W1 ∧ W1.heap[w.heap.size + 1]? = some (.loop (rec .ready none)) ∧ W1.heap[w.heap.size]? = some (.deferred (some [])) ∧ I 0 W1 ∧ KpB Bs b w W1 := by
    refine ⟨_, rfl, ?_, (Below.heap_alloc _ _ _ (by simp)).trans (World.alloc_heap_new w _), hI.alloc _ (hI.alloc _ h0), fun k hk => ?_⟩
    · have := World.alloc_heap_new (w.alloc (.deferred (some []))) (.loop (rec .ready none))
      rwa [World.size_alloc] at this
    · have : k < w.heap.size := by rcases hk with rfl | rfl <;> assumption
      rw [Below.heap_alloc _ _ _ (by simp; omega), Below.heap_alloc _ _ _ this]
  obtain ⟨W1, e1, q1, q2, q3, q4⟩ := hbook
  refine ⟨w.heap.size + 1, [{ target := .collected w.heap.size, args := #[] }], W1, { target := .fn (.func gf) lb, args := #[.func (.yield (w.heap.size + 1)) #[] #[]] }, W1, gf,
    #[.func (.yield (w.heap.size + 1)) #[] #[]] ++ lb, W1, ?_, ?_, fun _ _ => trivial, ?_, fun h => by simp [Fence.wide] at h, ?_⟩
  · rw [← e1, hr]; exact run_enterLoop_outer _ _ _ _ _
  · simp only [resolve, hg]; simp [go_sem]
  · simp [invoke, go_sem, eg]
  have kp : ∀ {W : World} {k : Nat} (o' : Obj), w.heap.size ≤ k → KpB Bs b W (W.putObj k o') := fun o' hk j hj => by
    have : j < w.heap.size := by rcases hj with rfl | rfl <;> assumption
    exact World.putObj_heap_other (by omega)
  refine (hit (w.heap.size + 1) (fun k W => I k W ∧ W.heap[w.heap.size + 1]? = some (.loop (rec .ready none)) ∧ W.heap[w.heap.size]? = some (.deferred (some []))) W1 q4 (fun k m W hm ⟨hi, hl, hk⟩ => ?_) ⟨q3, q1, q2⟩).mono ?_
  · -- a round
    have hy := run_yield (P := P) (args := its m) hl (by rw [hr]; exact hits m)
    rw [hr] at hy
    refine ⟨fn, _, assign, body, hy, roundIn_of_wpIn trivial (wpIn_mono (hasg (w.heap.size + 1) k m W hm hi) ?_)⟩
    rintro e a' Wa hp
    cases e with
    | normal =>
      obtain ⟨p1, p2, p3⟩ := hp
      have hla := p1.same _ _ (by omega) hl rfl
      have hka := p1.same _ _ (Nat.le_refl _) hk rfl
      have hlt := (Array.getElem?_eq_some_iff.1 hla).1
      refine ⟨_, run_beginRound hla (by rw [hr]), wpIn_mono (hbody (w.heap.size + 1) k m a' _ hm ((hAx m a').putObj _ p3 (by omega) hla rfl)) ?_⟩
      rintro e a3 W3 ⟨rfl, k1, k2, k3⟩
      have hl3 := k1.same (w.heap.size + 1) _ (by omega) (World.putObj_heap_same hlt) rfl
      have hk3 := k1.same w.heap.size _ (Nat.le_refl _) ((World.putObj_heap_other (by omega)).trans hka) rfl
      have he := run_endRound (P := P) none hl3
      refine ⟨_, _, he, rfl, ⟨hI.putObj _ k3 (by omega) hl3 rfl, ?_, (World.putObj_heap_other (by omega)).trans hk3⟩, ?_⟩
      · rw [World.putObj_heap_same (Array.getElem?_eq_some_iff.1 hl3).1]; simp [hr]
      · exact p2.trans ((kp _ (by omega)).trans (k2.trans (kp _ (by omega))))
    | _ => exact hp.elim
  · rintro e W2 ⟨⟨v, rfl⟩, hi, hl, hk⟩
    exact ⟨none, _, (by have := run_endLoop (P := P) hl (by rw [hr]; simp); rw [hr] at this; exact this), hdone _ _ (Nat.le_refl _) (hI.putObj _ hi (by omega) hl rfl) ((World.putObj_heap_other (by omega)).trans hk)⟩
end Go.X
