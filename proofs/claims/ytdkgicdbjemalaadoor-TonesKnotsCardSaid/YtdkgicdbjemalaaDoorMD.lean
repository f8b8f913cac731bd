import Derived.Test.YtdkgicdbjemalaaDoorMC
/-! The sign of a polynomial's value: a range over the backward iterator, walked by hand. -/
set_option linter.unusedSimpArgs false
set_option linter.unusedVariables false
set_option linter.unusedSectionVars false
namespace Go.X
open Go Go.RowKit Go.Proofs Go.Shelf

attribute [local go_sem] Oper.semAt_some

/-- One round of 'at': the value so far times x, and the next number more. -/
def atStep (R : Run) (x : Int) (st e : AV) (H : Heap) : Option AV :=
  match callA R 1 76 [.int .i64 x] H with
  | some (w, _) => match callA R 1 95 [st, w] H with
    | some (t, _) => (callA R 1 96 [t, e] H).map (·.1)
    | none => none
  | none => none

def isI : AV → Bool
  | .int .i64 _ => true
  | _ => false

def isS : AV → Bool
  | .nils | .imm .. => true
  | _ => false

theorem isS_slice {W0 : World} {G : Gh} {l : Nat} {v : AV} {c : Value} (h : VR W0 G l v c) (hs : isS v = true) : ∃ A n cc, c = .slice A n cc := by
  cases h <;> simp [isS] at hs <;> exact ⟨_, _, _, rfl⟩

def atFold (R : Run) (x : Int) (H : Heap) (cells : List AV) : Nat → AV → Option AV
  | 0, st => some st
  | m + 1, st => match atStep R x st (.agg [cells.getD (m * 2) .undef, cells.getD (m * 2 + 1) .undef]) H with
    | some (.agg [.int .i64 s, d]) => if isS d then atFold R x H cells m (.agg [.int .i64 s, d]) else none
    | _ => none

def atRow : AV → Option (List AV × Nat)
  | .nils => some ([], 0)
  | .imm _ cells len => if cells.length = len * 2 ∧ (List.range len).all (fun m => isI (cells.getD (m * 2) .undef) && isS (cells.getD (m * 2 + 1) .undef)) = true ∧ len * 16 ≤ 140737488351232 then some (cells, len) else none
  | _ => none

def atY (R : Run) (p : AV) (x : Int) (H : Heap) : Option (AV × Heap) :=
  match atRow p with
  | some (cells, len) => match atFold R x H cells len (.agg [.int .i64 0, .nils]) with
    | some (.agg [.int .i64 s, _]) => some (.int .i64 s, H)
    | _ => none
  | none => none

section
variable {W0 : World} [GlobOk W0] {R : Run}

theorem call1_heap {R : Run} {f : Nat} {av : List AV} {v : AV} {H H' : Heap} (h : callA R 1 f av H = some (v, H')) : H' = H := by
  rw [call_m1] at h
  unfold callX1 at h
  split at h
  · unfold freeX at h
    split at h
    · cases hf : freeA ‹_› 6 ‹_› with
      | none => rw [hf] at h; cases h
      | some u => rw [hf, pairX_some] at h; cases h; rfl
    · cases h
  · cases h

theorem at_src {p : AV} {c : Value} {G0 : Gh} {H : Heap} {w : World} (hR : Rel W0 G0 H w) (hp : VR W0 G0 0 p c) {cells : List AV} {len : Nat} (h : atRow p = some (cells, len)) :
    len * 16 ≤ 140737488351232 ∧ ∃ (A : Option Addr) (cc : Nat) (zs : Nat → Int) (ds : Nat → Value) (b off : Nat) (o : Obj), c = .slice A len cc ∧ (∀ j, j < len → cells.getD (j * 2) .undef = .int .i64 (zs j) ∧ VR W0 G0 0 (cells.getD (j * 2 + 1) .undef) (ds j) ∧ ∃ A n cc, ds j = .slice A n cc) ∧
      (0 < len → A = some ⟨b, off, none⟩ ∧ w.heap[b]? = some o ∧ o.isCells = true ∧ (∀ id v S, G0.ob id ≠ some (v, b, S)) ∧ ∀ j, j < len → w.cell? ⟨b, off + j * 2, none⟩ = some (.int .i64 (zs j)) ∧ w.cell? ⟨b, off + j * 2 + 1, none⟩ = some (ds j)) := by
  unfold atRow at h
  split at h
  · cases h
    cases hp
    exact ⟨by omega, none, 0, fun _ => 0, fun _ => Go.undef, 0, 0, .deferred none, rfl, fun j hj => by omega, fun h => by omega⟩
  · rename_i sn cs ln
    split at h
    · rename_i hh
      obtain ⟨h1, h2, h3⟩ := hh
      cases h
      refine ⟨h3, ?_⟩
      cases hp with
      | imm _ _ _ A cc u hl hc him h0 r =>
        have hz : ∀ j, j < len → ∃ z : Int, cells.getD (j * 2) .undef = .int .i64 z ∧ u (j * 2) = .int .i64 z := by
          intro j hj
          have := List.all_eq_true.1 h2 j (List.mem_range.2 hj)
          rw [Bool.and_eq_true] at this
          replace this := this.1
          have hv := (r (j * 2) (by omega)).weaken (Nat.zero_le _)
          cases hq : cells.getD (j * 2) .undef with
          | int k z =>
            rw [hq] at this hv
            cases k <;> simp [isI] at this
            refine ⟨z, rfl, ?_⟩
            cases hu : u (j * 2) <;> rw [hu] at hv <;> cases hv
            rfl
          | _ => rw [hq] at this; simp [isI] at this
        obtain ⟨zs, hzs⟩ : ∃ zs : Nat → Int, ∀ j, j < len → cells.getD (j * 2) .undef = .int .i64 (zs j) ∧ u (j * 2) = .int .i64 (zs j) :=
          ⟨fun j => if hj : j < len then Classical.choose (hz j hj) else 0, fun j hj => by
            have := Classical.choose_spec (hz j hj)
            simpa only [dif_pos hj] using this⟩
        have hd : ∀ j, j < len → VR W0 G0 0 (cells.getD (j * 2 + 1) .undef) (u (j * 2 + 1)) ∧ ∃ A n cc, u (j * 2 + 1) = .slice A n cc := fun j hj => by
          have := List.all_eq_true.1 h2 j (List.mem_range.2 hj)
          rw [Bool.and_eq_true] at this
          have hv := (r (j * 2 + 1) (by omega)).weaken (Nat.zero_le _)
          exact ⟨hv, isS_slice hv this.2⟩
        by_cases hl0 : 0 < len
        · obtain ⟨a, rfl⟩ : ∃ a, A = some a := by
            cases A with
            | none => have := (h0 rfl).1; omega
            | some a => exact ⟨a, rfl⟩
          have hcell : ∀ j, j < len * 2 → w.cell? (a.add j) = some (u j) := fun j hj => hR.im (him a rfl j (by omega))
          obtain ⟨b, off, spot⟩ := a
          have h00 := hcell 0 (by omega)
          have hadd0 : (⟨b, off, spot⟩ : Addr).add 0 = ⟨b, off, spot⟩ := rfl
          rw [hadd0] at h00
          obtain ⟨o, ho, hoc⟩ := cells_of_cell h00
          obtain rfl : spot = none := by
            unfold World.cell? at h00
            split at h00
            · cases spot with
              | none => rfl
              | some s => simp at h00
            · cases h00
          refine ⟨some ⟨b, off, none⟩, cc, zs, fun j => u (j * 2 + 1), b, off, o, rfl, fun j hj => ⟨(hzs j hj).1, hd j hj⟩, fun _ => ⟨rfl, ho, hoc, fun id v S hx => ?_, fun j hj => ⟨?_, ?_⟩⟩⟩
          · have him0 := him _ rfl 0 (by omega)
            rw [hadd0] at him0
            obtain ⟨_, _, _, _, _, _, hge, hob, _⟩ := hR.obj _ _ _ _ hx
            rcases him0 with k | ⟨_, ⟨s, hs, _⟩ | ⟨_, s, hs, _⟩⟩
            · unfold World.cell? at k
              have : b < W0.heap.size := by
                rcases Nat.lt_or_ge b W0.heap.size with h' | h'
                · exact h'
                · rw [Array.getElem?_eq_none h'] at k; cases k
              omega
            · rw [(hR.ap _ _ _ _ hx).1] at hs; cases hs
            · rw [(hR.ap _ _ _ _ hx).2] at hs; cases hs
          · have := hcell (j * 2) (by omega)
            rwa [Addr.add_off, (hzs j hj).2] at this
          · have := hcell (j * 2 + 1) (by omega)
            rwa [Addr.add_off, ← Nat.add_assoc] at this
        · exact ⟨A, cc, zs, fun j => u (j * 2 + 1), 0, 0, .deferred none, rfl, fun j hj => by omega, fun h => absurd h hl0⟩
    · cases h
  · cases h

theorem big_form {G : Gh} {l : Nat} {s : Int} {d : AV} {c : Value} (h : VR W0 G l (.agg [.int .i64 s, d]) c) (hd : isS d = true) : ∃ A n cc, c = .agg #[.int .i64 s, .slice A n cc] ∧ VR W0 G l d (.slice A n cc) := by
  cases h with
  | agg _ cs hn r =>
    match cs, hn with
    | [c1, c2], _ =>
      have h1 := r 0 (by simp)
      have h2 := r 1 (by simp)
      simp only [List.getD_cons_zero, List.getD_cons_succ] at h1 h2
      obtain ⟨A, n, cc, rfl⟩ := isS_slice h2 hd
      cases h1
      exact ⟨A, n, cc, rfl, h2⟩

theorem Cx.big {G0 : Gh} {H : Heap} {w0 W : World} {bx fx : List (Nat × Obj)} {vs : List AV} {cs : List Value} {s : Int} {d : AV} {c : Value} (h : Cx W0 G0 H w0 bx fx (.agg [.int .i64 s, d] :: vs) (c :: cs) W) (hd : isS d = true) : ∃ A n cc, c = .agg #[.int .i64 s, .slice A n cc] := by
  obtain ⟨G, _, _, q, _⟩ := h
  obtain ⟨A, n, cc, e, _⟩ := big_form q.head.1 hd
  exact ⟨A, n, cc, e⟩

set_option maxRecDepth 100000 in
set_option maxHeartbeats 4000000 in
theorem at_sound (RS : CallSound Tryd.prog W0 R) {p : AV} {x : Int} {H H' : Heap} {v : AV} (hY : atY R p x H = some (v, H')) {G0 : Gh} {w : World} {c : Value} (hR : Rel W0 G0 H w) (hp : VR W0 G0 0 p c) :
    Calls Tryd.prog 97 #[c, .int .i64 x] w (Post W0 G0 H w v H') := by
  unfold atY at hY
  split at hY
  case h_2 => cases hY
  rename_i cells len hrow
  split at hY
  case h_2 => cases hY
  rename_i sf dAf hfold
  cases hY
  obtain ⟨hreach, A, cc, zs, ds, b, off, o, rfl, hcz, hpos⟩ := at_src hR hp hrow
  have hWw : W0.heap.size ≤ w.heap.size := hR.below.size
  refine (callsIn_wide (n := 3)).1 (callsIn_of_wp_marks Tryd.func97 rfl trivial ?_)
  simp only [Tryd.ntmps97, List.size_toArray, List.length_cons, List.length_nil, Nat.reduceAdd, Nat.reduceSub, Array.replicate_succ, Array.replicate_zero, List.push_toArray, List.append_toArray, List.nil_append, List.cons_append]
  gi_wp2_with (refine ⟨trivial, ?_⟩; gi_at_call 109; refine (back109 Fence.wide 2 trivial rfl _ _ _ _).mono ?_; rintro e w' ⟨rfl, rfl⟩)
  obtain ⟨b', fx, hbf⟩ : ∃ (b' : Nat) (fx : List (Nat × Obj)), (len = 0 ∧ b' = w.heap.size + 2 ∧ fx = []) ∨ (0 < len ∧ b' = b ∧ fx = [(b, o)]) := by
    rcases Nat.eq_zero_or_pos len with h | h
    · exact ⟨_, _, .inl ⟨h, rfl, rfl⟩⟩
    · exact ⟨_, _, .inr ⟨h, rfl, rfl⟩⟩
  generalize hw3 : (((w.alloc (Obj.cells #[Value.int IntKind.i64 x] 3)).alloc (Obj.cells #[Value.int IntKind.i64 0, Value.slice none 0 0] 87)).alloc (Obj.cells #[Value.slice A len cc] 85)) = w3
  have hsz3 : w3.heap.size = w.heap.size + 3 := by rw [← hw3]; simp
  have hc3 : Cx W0 G0 H w [(w.heap.size, .cells #[.int .i64 x] 3), (w.heap.size + 1, .cells #[.int .i64 0, .slice none 0 0] 87), (w.heap.size + 2, .cells #[.slice A len cc] 85)] fx [.nils] [.slice none 0 0] w3 := by
    have h0 : Cx W0 G0 H w [] fx [.nils] [.slice none 0 0] w := ⟨G0, hR, Ext.refl _ _ _, VL.cons .nils VL.nil, fun p hp => by simp at hp, fun p hp => by
      rcases hbf with ⟨_, _, rfl⟩ | ⟨hl, _, rfl⟩
      · simp at hp
      · simp at hp; subst hp
        obtain ⟨_, q1, _, q2, _⟩ := hpos hl
        exact ⟨q1, q2⟩⟩
    have hk : ∀ k, k < w.heap.size → w3.heap[k]? = w.heap[k]? := fun k hk => by
      rw [← hw3, Below.heap_alloc _ _ _ (by simp; omega), Below.heap_alloc _ _ _ (by simp; omega), Below.heap_alloc _ _ _ hk]
    refine h0.to hR (by omega) ?_ [] (fun k hk => by simp at hk) (fun k hk' _ => hk k hk') fun p hp => ?_
    · rw [← hw3]; exact ((h0.below.alloc hWw _).alloc (by simp; omega) _).alloc (by simp; omega) _
    · simp only [List.mem_cons, List.not_mem_nil, or_false] at hp
      rcases hp with rfl | rfl | rfl
      · refine ⟨?_, .inl (Nat.le_refl _)⟩
        rw [← hw3, Below.heap_alloc _ _ _ (by simp; omega), Below.heap_alloc _ _ _ (by simp)]; exact World.alloc_heap_new _ _
      · refine ⟨?_, .inl (by simp)⟩
        rw [← hw3, Below.heap_alloc _ _ _ (by simp)]
        have := World.alloc_heap_new (w.alloc (Obj.cells #[Value.int IntKind.i64 x] 3)) (Obj.cells #[Value.int IntKind.i64 0, Value.slice none 0 0] 87)
        rwa [World.size_alloc] at this
      · refine ⟨?_, .inl (by simp)⟩
        rw [← hw3]
        have := World.alloc_heap_new ((w.alloc (Obj.cells #[Value.int IntKind.i64 x] 3)).alloc (Obj.cells #[Value.int IntKind.i64 0, Value.slice none 0 0] 87)) (Obj.cells #[Value.slice A len cc] 85)
        rwa [World.size_alloc, World.size_alloc] at this
  clear hw3
  have hbx : ∀ {s : Int} {d : Value} {q : Nat × Obj}, q ∈ ([(w.heap.size, .cells #[.int .i64 x] 3), (w.heap.size + 1, .cells #[.int .i64 s, d] 87), (w.heap.size + 2, .cells #[.slice A len cc] 85)] : List (Nat × Obj)) ++ fx → q.2.isCells = true := by
    intro s d q hq
    rcases hbf with ⟨_, _, rfl⟩ | ⟨hl, _, rfl⟩
    · simp at hq
      rcases hq with rfl | rfl | rfl <;> rfl
    · obtain ⟨_, _, q2, _⟩ := hpos hl
      simp at hq
      rcases hq with rfl | rfl | rfl | rfl <;> first | rfl | exact q2
  refine back_loop (Bs := w.heap.size + 2) (b := b') (len := len) (its := fun m => #[.int .i64 (m : Int), .agg #[.int .i64 (zs m), ds m]]) rfl (enters_of Tryd.func118 (by kernel_rfl) rfl) (fun _ => rfl) (by omega) ?_ ?_
    (fun k W => ∃ s dA d, isS dA = true ∧ atFold R x H cells (len - k) (.agg [.int .i64 s, dA]) = some (.agg [.int .i64 sf, dAf]) ∧ Cx W0 G0 H w [(w.heap.size, .cells #[.int .i64 x] 3), (w.heap.size + 1, .cells #[.int .i64 s, d] 87), (w.heap.size + 2, .cells #[.slice A len cc] 85)] fx [dA] [d] W)
    ?_ ⟨0, .nils, .slice none 0 0, rfl, hfold, hc3⟩
    (fun m a' k W => m + 1 + k = len ∧ ∃ s dA d nb, isS dA = true ∧ atFold R x H cells (m + 1) (.agg [.int .i64 s, dA]) = some (.agg [.int .i64 sf, dAf]) ∧
      a' = { tmps := #[.slice A len cc, .int .i64 x, Go.undef, .pointer (some ⟨w.heap.size, 0, none⟩), .int .i64 0, .pointer (some ⟨w.heap.size + 1, 0, none⟩), Go.undef, .pointer (some ⟨nb, 0, none⟩), .agg #[.int .i64 0, .slice none 0 0], .slice A len cc, .func (.func 118) #[] #[.pointer (some ⟨w.heap.size + 1 + 1, 0, none⟩)],
        .int .i64 (m : Int), .agg #[.int .i64 (zs m), ds m], Go.undef, Go.undef, Go.undef, Go.undef, Go.undef, Go.undef, Go.undef, Go.undef], defers := [] } ∧
      Cx W0 G0 H w [(nb, .cells #[.int .i64 (zs m), ds m] 87), (w.heap.size, .cells #[.int .i64 x] 3), (w.heap.size + 1, .cells #[.int .i64 s, d] 87), (w.heap.size + 2, .cells #[.slice A len cc] 85)] fx [dA] [d] W)
    ?_ ?_ ?_ ?_
  · -- the block
    rcases hbf with ⟨_, rfl, _⟩ | ⟨hl, rfl, _⟩
    · omega
    · obtain ⟨_, q1, _⟩ := hpos hl
      have := (Array.getElem?_eq_some_iff.1 q1).1
      omega
  · -- the iterator
    intro l J W hk hY h0
    have hbs : W.cell? ⟨w.heap.size + 2, 0, none⟩ = some (.slice A len cc) := by
      rw [hk.cell (p := ⟨w.heap.size + 2, 0, none⟩) (.inl rfl)]
      have := hc3.box (p := (w.heap.size + 2, .cells #[.slice A len cc] 85)) (by simp)
      simp only at this
      simp [World.cell?, this]
    rcases hbf with ⟨rfl, _, _⟩ | ⟨hl, hbb, hfe⟩
    · exact back118_nil Fence.wide 2 trivial rfl l _ cc A J W hbs h0
    · obtain ⟨rfl, q1, _, _, q4⟩ := hpos hl
      rw [hbb] at hY hk
      refine back118 Fence.wide 2 trivial rfl (by omega) l _ b off len cc zs ds hreach J hY W hbs (fun j hj => ?_) h0
      have hb3 : w3.heap[b]? = w.heap[b]? := (hc3.fix (p := (b, o)) (by simp [hfe])).trans q1.symm
      rw [hk.cell (p := ⟨b, off + j * 2, none⟩) (.inr rfl), hk.cell (p := ⟨b, off + j * 2 + 1, none⟩) (.inr rfl)]
      have e1 : w3.cell? ⟨b, off + j * 2, none⟩ = w.cell? ⟨b, off + j * 2, none⟩ := by unfold World.cell?; rw [hb3]
      have e2 : w3.cell? ⟨b, off + j * 2 + 1, none⟩ = w.cell? ⟨b, off + j * 2 + 1, none⟩ := by unfold World.cell?; rw [hb3]
      rw [e1, e2]
      exact q4 j hj
  · -- what the invariant abides
    rintro k W W' row ⟨s, dA, d, hd, h1, h2⟩ hg hr
    exact ⟨s, dA, d, hd, h1, h2.own (B := w3.heap.size) (by omega) (fun q hq => hbx hq) hg hr hWw⟩
  · rintro m a' k W W' row ⟨h0, s, dA, d, nb, hd, h1, h2, h3⟩ hg hr
    refine ⟨h0, s, dA, d, nb, hd, h1, h2, h3.own (B := w3.heap.size) (by omega) (fun q hq => ?_) hg hr hWw⟩
    rcases List.mem_cons.1 hq with rfl | hq
    · rfl
    · exact hbx hq
  · -- the loop's variable is boxed
    rintro l k m W hm ⟨s, dA, d, hd, h1, h2⟩
    obtain ⟨A1, n1, c1, e1⟩ := (hcz m (by omega)).2.2
    have hlk : len - k = m + 1 := by omega
    rw [hlk] at h1
    dsimp only
    rw [e1]
    gi_wp2
    have hkp : ∀ (ob : Obj), KpB (w.heap.size + 2) b' W (W.alloc ob) := fun ob j hj => Below.heap_alloc _ _ _ (by
      rcases hj with rfl | rfl
      · have := h2.box (p := (w.heap.size + 2, .cells #[.slice A len cc] 85)) (by simp)
        exact (Array.getElem?_eq_some_iff.1 this).1
      · rcases hbf with ⟨hz, _, _⟩ | ⟨_, rfl, rfl⟩
        · omega
        · exact (Array.getElem?_eq_some_iff.1 (h2.fix (p := (j, o)) (by simp))).1)
    refine ⟨(KeepsOthers.alloc _ _).from _, hkp _, hm, s, dA, d, W.heap.size, hd, h1, rfl, h2.to hR (by simp) (h2.below.alloc h2.below.size _) [] (fun k hk => by simp at hk) (fun k hk _ => Below.heap_alloc _ _ _ hk) fun q hq => ?_⟩
    rcases List.mem_cons.1 hq with rfl | hq
    · exact ⟨World.alloc_heap_new _ _, .inl (Nat.le_refl _)⟩
    · have := h2.box hq
      exact ⟨(Below.heap_alloc _ _ _ (Array.getElem?_eq_some_iff.1 this).1).trans this, .inr ⟨_, hq⟩⟩
  · -- the body
    rintro l k m a' W hm ⟨_, s, dA, d, nb, hd, h1, rfl, hC0⟩
    obtain ⟨hz1, hz2, A1, n1, c1, e1⟩ := hcz m (by omega)
    rw [e1] at hC0 ⊢
    have boxes : ∀ {vs cs W}, Cx W0 G0 H w [(nb, .cells #[.int .i64 (zs m), .slice A1 n1 c1] 87), (w.heap.size, .cells #[.int .i64 x] 3), (w.heap.size + 1, .cells #[.int .i64 s, d] 87), (w.heap.size + 2, .cells #[.slice A len cc] 85)] fx vs cs W →
        W.cell? ⟨w.heap.size, 0, none⟩ = some (.int .i64 x) ∧ W.cell? ⟨w.heap.size + 1, 0, none⟩ = some (.int .i64 s) ∧ W.cell? ⟨w.heap.size + 1, 1, none⟩ = some d ∧ W.cell? ⟨nb, 0, none⟩ = some (.int .i64 (zs m)) ∧ W.cell? ⟨nb, 1, none⟩ = some (.slice A1 n1 c1) ∧
        W.frozen? ⟨w.heap.size + 1, 0, none⟩ = false ∧ W.frozen? ⟨w.heap.size + 1, 1, none⟩ = false := fun {vs cs W} h => by
      have b1 := h.box (p := (w.heap.size, .cells #[.int .i64 x] 3)) (by simp)
      have b2 := h.box (p := (w.heap.size + 1, .cells #[.int .i64 s, d] 87)) (by simp)
      have b3 := h.box (p := (nb, .cells #[.int .i64 (zs m), .slice A1 n1 c1] 87)) (by simp)
      simp only at b1 b2 b3
      simp [World.cell?, World.frozen?, b1, b2, b3]
    simp only [atFold, hz1] at h1
    obtain ⟨wv, tv, sv, dv, h76, h95, h96, hdv, hrest⟩ : ∃ wv tv sv dv, callA R 1 76 [.int .i64 x] H = some (wv, H) ∧ callA R 1 95 [.agg [.int .i64 s, dA], wv] H = some (tv, H) ∧ callA R 1 96 [tv, .agg [.int .i64 (zs m), cells.getD (m * 2 + 1) .undef]] H = some (.agg [.int .i64 sv, dv], H) ∧ isS dv = true ∧
        atFold R x H cells m (.agg [.int .i64 sv, dv]) = some (.agg [.int .i64 sf, dAf]) := by
      split at h1
      · rename_i sv dv hst
        split at h1
        · rename_i hdv
          unfold atStep at hst
          split at hst
          · rename_i wv H1 h76
            obtain rfl : H1 = H := call1_heap h76
            split at hst
            · rename_i tv H2 h95
              obtain rfl : H2 = H1 := call1_heap h95
              cases h96 : callA R 1 96 [tv, .agg [.int .i64 (zs m), cells.getD (m * 2 + 1) .undef]] H2 with
              | none => rw [h96] at hst; cases hst
              | some q =>
                obtain ⟨v6, H3⟩ := q
                rw [h96] at hst
                simp only [Option.map_some, Option.some.injEq] at hst
                subst hst
                obtain rfl : H3 = H2 := call1_heap h96
                exact ⟨wv, tv, sv, dv, h76, h95, h96, hdv, h1⟩
            · cases hst
          · cases hst
        · cases h1
      · cases h1
    have hCd := hC0.drew
    obtain ⟨f1, f2, f3, f4, f5, f6, f7⟩ := boxes hCd
    obtain ⟨A2, n2, c2, e2⟩ : ∃ A n cc, d = .slice A n cc := by
      obtain ⟨G, _, _, q, _⟩ := hC0
      exact isS_slice (q.2 0 (by simp)) hd
    subst e2
    have hmx : Tryd.prog.follows .mixedOrders = true := by kernel_rfl
    have fin : ∀ (W3 : World) (A3 : Option Addr) (n3 c3 : Nat) (vs : List AV) (cs : List Value), Cx W0 G0 H w [(nb, .cells #[.int .i64 (zs m), .slice A1 n1 c1] 87), (w.heap.size, .cells #[.int .i64 x] 3), (w.heap.size + 1, .cells #[.int .i64 s, .slice A2 n2 c2] 87), (w.heap.size + 2, .cells #[.slice A len cc] 85)] fx (.agg [.int .i64 sv, dv] :: vs) (.agg #[.int .i64 sv, .slice A3 n3 c3] :: cs) W3 →
        KeepsOthers W.drew W3 → KeepsFrom w3.heap.size W ((W3.setCell ⟨w.heap.size + 1, 0, none⟩ (.int .i64 sv)).setCell ⟨w.heap.size + 1, 1, none⟩ (.slice A3 n3 c3)) ∧ KpB (w.heap.size + 2) b' W ((W3.setCell ⟨w.heap.size + 1, 0, none⟩ (.int .i64 sv)).setCell ⟨w.heap.size + 1, 1, none⟩ (.slice A3 n3 c3)) ∧
        ∃ s dA d, isS dA = true ∧ atFold R x H cells (len - (k + 1)) (.agg [.int .i64 s, dA]) = some (.agg [.int .i64 sf, dAf]) ∧ Cx W0 G0 H w [(w.heap.size, .cells #[.int .i64 x] 3), (w.heap.size + 1, .cells #[.int .i64 s, d] 87), (w.heap.size + 2, .cells #[.slice A len cc] 85)] fx [dA] [d] ((W3.setCell ⟨w.heap.size + 1, 0, none⟩ (.int .i64 sv)).setCell ⟨w.heap.size + 1, 1, none⟩ (.slice A3 n3 c3)) := by
      intro W3 A3 n3 c3 vs cs hC3 hko
      have hW : (W3.setCell ⟨w.heap.size + 1, 0, none⟩ (.int .i64 sv)).setCell ⟨w.heap.size + 1, 1, none⟩ (.slice A3 n3 c3) = W3.setCells (w.heap.size + 1) 0 [.int .i64 sv, .slice A3 n3 c3] := rfl
      have b2 := hC3.box (p := (w.heap.size + 1, .cells #[.int .i64 s, .slice A2 n2 c2] 87)) (by simp)
      have hnew := setCells_heap (w.heap.size + 1) [.int .i64 sv, .slice A3 n3 c3] 0 W3 _ _ _ b2
      have hoth := fun k hk => setCells_other (w.heap.size + 1) [.int .i64 sv, .slice A3 n3 c3] 0 W3 k hk
      have hxb : ∀ q ∈ fx, q.1 ≠ w.heap.size + 1 := fun q hq e => by
        rcases hbf with ⟨_, _, rfl⟩ | ⟨hl, _, rfl⟩
        · simp at hq
        · obtain ⟨_, q1, _⟩ := hpos hl
          have := (Array.getElem?_eq_some_iff.1 q1).1
          simp at hq; subst hq; simp only at e; omega
      have hdr : KeepsOthers W W.drew := ⟨Nat.le_refl _, fun _ _ h _ => h⟩
      refine ⟨((hdr.trans hko).trans ((KeepsOthers.setCell _ _ _).trans (KeepsOthers.setCell _ _ _))).from _, ?_, sv, dv, .slice A3 n3 c3, hdv, by rw [show len - (k + 1) = m by omega]; exact hrest, ?_⟩
      · rw [hW]
        intro j hj
        rcases hj with rfl | rfl
        · rw [hoth _ (by omega), hC3.box (p := (w.heap.size + 2, .cells #[.slice A len cc] 85)) (by simp), hC0.box (p := (w.heap.size + 2, .cells #[.slice A len cc] 85)) (by simp)]
        · rcases hbf with ⟨hz, _, _⟩ | ⟨_, rfl, hfe⟩
          · omega
          · rw [hoth _ (hxb (j, o) (by simp [hfe])), hC3.fix (p := (j, o)) (by simp [hfe]), hC0.fix (p := (j, o)) (by simp [hfe])]
      · rw [hW]
        have hC4 := hC3.vals (vs' := [dv]) (cs' := [.slice A3 n3 c3]) fun G q => by
          obtain ⟨A', n', c', e, q2⟩ := big_form q.head.1 hdv
          cases e
          exact VL.cons q2 VL.nil
        refine hC4.to hR (by rw [setCells_size]; exact Nat.le_refl _) (setCells_below _ (by omega) _ _ _ hC4.below) [w.heap.size + 1] (fun j hj => ?_) (fun j hj hn => hoth j (by simpa using hn)) fun q hq => ?_
        · simp only [List.mem_singleton] at hj
          subst hj
          exact ⟨⟨.cells #[.int .i64 s, .slice A2 n2 c2] 87, by simp⟩, fun o' ho' => hxb _ ho' rfl⟩
        · simp only [List.mem_cons, List.not_mem_nil, or_false] at hq
          rcases hq with rfl | rfl | rfl
          · exact ⟨(hoth _ (by simp)).trans (hC3.box (p := (w.heap.size, .cells #[.int .i64 x] 3)) (by simp)), .inr ⟨.cells #[.int .i64 x] 3, by simp⟩⟩
          · exact ⟨by simpa [putAll] using hnew, .inr ⟨.cells #[.int .i64 s, .slice A2 n2 c2] 87, by simp⟩⟩
          · exact ⟨(hoth _ (by simp)).trans (hC3.box (p := (w.heap.size + 2, .cells #[.slice A len cc] 85)) (by simp)), .inr ⟨.cells #[.slice A len cc] 85, by simp⟩⟩
    gi_wp2
    gi_region_with_o (first
      | (refine ⟨trivial, ?_⟩; gi_at_call 76; refine (CallsIn.inRound l (callsIn_wide.2 (Cx.call RS h76 hCd (cas := [.int .i64 x]) (fun G _ => VL.cons (.int _ _) VL.nil)))).mono ?_; rintro e W1 ⟨c76, rfl, hC1, o1⟩; obtain ⟨g1, g2, g3, g4, g5, g6, g7⟩ := boxes hC1)
      | (refine ⟨trivial, ?_⟩; gi_at_call 95; refine (CallsIn.inRound l (callsIn_wide.2 (Cx.call RS h95 hC1 (cas := [.agg #[.int .i64 s, .slice A2 n2 c2], c76]) (fun G q => VL.cons (.agg _ [_, _] rfl (VL.cons (.int _ _) (VL.cons q.head.2.head.1 VL.nil)).2) (VL.cons q.head.1 VL.nil))))).mono ?_; rintro e W2 ⟨c95, rfl, hC2, o2⟩; obtain ⟨k1, k2, k3, k4, k5, k6, k7⟩ := boxes hC2)
      | (refine ⟨trivial, ?_⟩; gi_at_call 96; refine (CallsIn.inRound l (callsIn_wide.2 (Cx.call RS h96 (hC2.valsG (vs' := [tv, cells.getD (m * 2 + 1) .undef]) (cs' := [c95, .slice A1 n1 c1]) (fun G hle q => VL.cons q.head.1 (VL.cons (e1 ▸ hz2.mono hle) VL.nil))) (cas := [c95, .agg #[.int .i64 (zs m), .slice A1 n1 c1]]) (fun G q => VL.cons q.head.1 (VL.cons (.agg _ [_, _] rfl (VL.cons (.int _ _) (VL.cons q.head.2.head.1 VL.nil)).2) VL.nil))))).mono ?_; rintro e W3 ⟨c96, rfl, hC3, o3⟩; obtain ⟨A3, n3, c3, rfl⟩ := hC3.big hdv; obtain ⟨l1, l2, l3, l4, l5, l6, l7⟩ := boxes hC3))
    all_goals exact ⟨rfl, fin _ _ _ _ _ _ hC3 ((o1.trans o2).trans o3)⟩
  · -- behind the loop
    rintro D W hD ⟨s, dA, d, hd, h1, h2⟩ hK
    rw [Nat.sub_self] at h1
    simp only [atFold, Option.some.injEq, AV.agg.injEq, List.cons.injEq, AV.int.injEq, true_and, and_true] at h1
    obtain ⟨rfl, rfl⟩ := h1
    have b2 := h2.box (p := (w.heap.size + 1, .cells #[.int .i64 s, d] 87)) (by simp)
    simp only at b2
    have f2 : W.cell? ⟨w.heap.size + 1, 0, none⟩ = some (.int .i64 s) := by simp [World.cell?, b2]
    gi_wp2
    refine ⟨by simp, .inl ⟨_, _, rfl, run_takeDeferred hK, ?_⟩⟩
    have h3 : Cx W0 G0 H w [(w.heap.size, .cells #[.int .i64 x] 3), (w.heap.size + 1, .cells #[.int .i64 s, d] 87), (w.heap.size + 2, .cells #[.slice A len cc] 85)] fx [dA] [d] (W.putObj D (.deferred none)) :=
      h2.own (B := w3.heap.size) (by omega) (fun q hq => hbx hq) (grownBy_putObj' W D (.deferred none)) (fun r e => by cases e; exact ⟨hD, _, hK, rfl⟩) hWw
    obtain ⟨G, q1, q2, _⟩ := h3
    exact ⟨_, results_tmp rfl _ _ _, _, G, rfl, .int _ _, q1, q2, Gr.same rfl⟩
end
end Go.X
