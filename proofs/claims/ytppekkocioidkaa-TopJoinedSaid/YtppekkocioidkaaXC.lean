import Derived.Test.YtppekkocioidkaaXB
/-! The small machine without a bound: equations. -/
set_option linter.unusedSimpArgs false
set_option linter.unusedVariables false
set_option linter.unusedSectionVars false
namespace Go.X
open Go Go.RowKit

/-! ### More fuel does no harm -/
def RLe (R R' : Run) : Prop := ∀ f args H r, R f args H = some r → R' f args H = some r

theorem callA_le {R R' : Run} (h : RLe R R') {m f : Nat} {args : List AV} {H : Heap} {r : AV × Heap} (hr : callA R m f args H = some r) : callA R' m f args H = some r := by
  unfold callA at hr ⊢
  split
  · exact h _ _ _ _ hr
  · cases ha : args.mapM (snapA H depth) with
    | none => simp [ha] at hr
    | some as =>
      simp only [ha] at hr ⊢
      cases hc : R f as [] with
      | none => simp [hc] at hr
      | some q => rw [hc] at hr; rw [h _ _ _ _ hc]; exact hr
  · replace hr : (if gstill f = true then (R f args H).map fun r => (r.1, H) else none) = some r := hr
    split at hr
    · rename_i hs
      rw [if_pos hs]
      cases hc : R f args H with
      | none => simp [hc] at hr
      | some q => rw [hc] at hr; rw [h _ _ _ _ hc]; exact hr
    · cases hr
  · rename_i h0 h1 h2
    simp only at hr
    cases ha : args.mapM (snapA H depth) with
    | none => simp [ha] at hr
    | some as =>
      simp only [ha] at hr ⊢
      cases hc : R f as [] with
      | none => simp [hc] at hr
      | some q => rw [hc] at hr; rw [h _ _ _ _ hc]; exact hr

theorem insA_le {R R' : Run} (h : RLe R R') {i : Ins} {fr : List AV} {H : Heap} {r : AV × Heap} (hr : insA R i fr H = some r) : insA R' i fr H = some r := by
  cases i with
  | call m f args => exact callA_le h hr
  | calld m f args =>
    simp only [insA] at hr ⊢
    split at hr
    · exact callA_le h hr
    · cases hr
  | callm m t r args =>
    simp only [insA] at hr ⊢
    split at hr
    · split at hr
      · rename_i hl; exact callA_le h hr
      · cases hr
    · cases hr
  | _ => exact hr

theorem stepA_le {R R' : Run} (h : RLe R R') {o : Op1} {fr : List AV} {H : Heap} {r : List AV × Heap} (hr : stepA R o fr H = some r) : stepA R' o fr H = some r := by
  unfold stepA at hr ⊢
  split at hr
  · rename_i hw
    skip
    cases hi : insA R o.ins fr H with
    | none => simp [hi] at hr
    | some q => rw [hi] at hr; rw [insA_le h hi]; exact hr
  · exact hr
  · cases hr

theorem opsA_le {R R' : Run} (h : RLe R R') : ∀ {ops : List Op1} {fr : List AV} {H : Heap} {r : List AV × Heap}, opsA R ops fr H = some r → opsA R' ops fr H = some r
  | [], _, _, _, hr => hr
  | o :: ops, fr, H, r, hr => by
    simp only [opsA] at hr ⊢
    cases hi : stepA R o fr H with
    | none => simp [hi] at hr
    | some q => rw [hi] at hr; rw [stepA_le h hi]; exact opsA_le h hr

theorem runX_le {E : Nat → Option XF} {Y : Run} {c c' : XC → List AV → Heap → Option (Ex × List AV × Heap)} (h : ∀ x fr H r, c x fr H = some r → c' x fr H = some r) : RLe (runX E Y c) (runX E Y c') := by
  intro f args H r hr
  unfold runX at hr ⊢
  split
  · rename_i F hF
    simp only [hF] at hr
    unfold enterX at hr ⊢
    split at hr
    · rename_i hn
      rw [if_pos hn]
      cases hc : c F.body (args ++ List.replicate (F.nt - F.np) .undef) H with
      | none => simp [hc] at hr
      | some q => rw [hc] at hr; rw [h _ _ _ _ hc]; exact hr
    · cases hr
  · rename_i hF
    simpa only [hF] using hr

theorem codeX_succ {E : Nat → Option XF} {Y : Run} : ∀ (k : Nat) (x : XC) (fr : List AV) (H : Heap) (r : Ex × List AV × Heap), codeX E Y k x fr H = some r → codeX E Y (k + 1) x fr H = some r
  | 0, x, fr, H, r, h => by simp [codeX] at h
  | k + 1, x, fr, H, r, h => by
    have ih := codeX_succ (E := E) (Y := Y) k
    cases x with
    | reg ops =>
      rw [codeX] at h ⊢
      skip
      cases hi : opsA (runX E Y (codeX E Y k)) ops fr H with
      | none => simp [hi] at h
      | some q => rw [hi] at h; rw [opsA_le (runX_le ih) hi]; exact h
    | seq a b =>
      rw [codeX] at h ⊢
      skip
      cases hi : codeX E Y k a fr H with
      | none => simp [hi] at h
      | some q =>
        obtain ⟨ex, fr1, H1⟩ := q
        rw [hi] at h; rw [ih _ _ _ _ hi]
        cases ex with
        | n => exact ih _ _ _ _ h
        | _ => exact h
    | cond o a b =>
      rw [codeX] at h ⊢
      skip
      split at h
      · exact ih _ _ _ _ h
      · exact ih _ _ _ _ h
      · cases h
    | block id live b =>
      rw [codeX] at h ⊢
      skip
      cases hi : codeX E Y k b fr H with
      | none => simp [hi] at h
      | some q => rw [hi] at h; rw [ih _ _ _ _ hi]; exact h
    | loop live b =>
      rw [codeX] at h ⊢
      skip
      cases hi : codeX E Y k b (keepA live fr) H with
      | none => simp [hi] at h
      | some q =>
        obtain ⟨ex, fr1, H1⟩ := q
        rw [hi] at h; rw [ih _ _ _ _ hi]
        cases ex with
        | n => exact ih _ _ _ _ h
        | _ => exact h
    | _ => exact h

theorem codeX_le {E : Nat → Option XF} {Y : Run} {k l : Nat} (hkl : k ≤ l) {x : XC} {fr : List AV} {H : Heap} {r : Ex × List AV × Heap} (h : codeX E Y k x fr H = some r) : codeX E Y l x fr H = some r := by
  induction hkl with
  | refl => exact h
  | step _ ih => exact codeX_succ _ _ _ _ _ ih

theorem callF_le {E : Nat → Option XF} {Y : Run} {k l : Nat} (hkl : k ≤ l) : RLe (callF E Y k) (callF E Y l) := runX_le fun _ _ _ _ h => codeX_le hkl h

/-! ### What comes in the end -/
open Classical in
noncomputable def lim {α : Type} (f : Nat → Option α) : Option α := if h : ∃ r k, f k = some r then some (Classical.choose h) else none

theorem lim_of {α : Type} {f : Nat → Option α} (hm : ∀ k l r, k ≤ l → f k = some r → f l = some r) {r : α} : lim f = some r ↔ ∃ k, f k = some r := by
  constructor
  · intro h
    unfold lim at h
    split at h
    · rename_i hx
      obtain ⟨k, hk⟩ := Classical.choose_spec hx
      exact ⟨k, by rw [hk]; exact h⟩
    · cases h
  · rintro ⟨k, hk⟩
    unfold lim
    have hx : ∃ r k, f k = some r := ⟨r, k, hk⟩
    rw [dif_pos hx]
    obtain ⟨l, hl⟩ := Classical.choose_spec hx
    have h1 := hm k (max k l) _ (Nat.le_max_left _ _) hk
    have h2 := hm l (max k l) _ (Nat.le_max_right _ _) hl
    rw [h1] at h2
    exact h2.symm

section
variable {E : Nat → Option XF} {Y : Run}

noncomputable def codeL (E : Nat → Option XF) (Y : Run) (x : XC) (fr : List AV) (H : Heap) : Option (Ex × List AV × Heap) := lim fun k => codeX E Y k x fr H
noncomputable def callL (E : Nat → Option XF) (Y : Run) : Run := runX E Y (codeL E Y)

theorem codeL_iff {x : XC} {fr : List AV} {H : Heap} {r : Ex × List AV × Heap} : codeL E Y x fr H = some r ↔ ∃ k, codeX E Y k x fr H = some r :=
  lim_of fun k l r hkl h => codeX_le hkl h

theorem callL_iff {f : Nat} {args : List AV} {H : Heap} {r : AV × Heap} : callL E Y f args H = some r ↔ ∃ k, callF E Y k f args H = some r := by
  constructor
  · intro h
    unfold callL runX at h
    cases hF : E f with
    | none => simp only [hF] at h; exact ⟨0, by simp only [callF, runX, hF]; exact h⟩
    | some F =>
      simp only [hF] at h
      unfold enterX at h
      split at h
      · rename_i hn
        cases hc : codeL E Y F.body (args ++ List.replicate (F.nt - F.np) .undef) H with
        | none => simp [hc] at h
        | some q =>
          rw [hc] at h
          obtain ⟨k, hk⟩ := codeL_iff.1 hc
          exact ⟨k, by simp only [callF, runX, hF, enterX, if_pos hn, hk]; exact h⟩
      · cases h
  · rintro ⟨k, h⟩
    exact runX_le (fun x fr H r h => codeL_iff.2 ⟨k, h⟩) f args H r h

theorem opsL_iff {ops : List Op1} {fr : List AV} {H : Heap} {r : List AV × Heap} : opsA (callL E Y) ops fr H = some r ↔ ∃ k, opsA (callF E Y k) ops fr H = some r := by
  constructor
  · have hcall : ∀ {m f : Nat} {args : List AV} {H : Heap} {r : AV × Heap}, callA (callL E Y) m f args H = some r → ∃ k, callA (callF E Y k) m f args H = some r := by
      intro m f args H r hr
      unfold callA at hr ⊢
      split at hr
      · exact callL_iff.1 hr
      · cases ha : args.mapM (snapA H depth) with
        | none => simp [ha] at hr
        | some as =>
          simp only [ha] at hr ⊢
          cases hc : callL E Y f as [] with
          | none => simp [hc] at hr
          | some q => rw [hc] at hr; obtain ⟨k, hk⟩ := callL_iff.1 hc; exact ⟨k, by rw [hk]; exact hr⟩
      · split at hr
        · rename_i hs
          cases hc : callL E Y f args H with
          | none => simp [hc] at hr
          | some q => rw [hc] at hr; obtain ⟨k, hk⟩ := callL_iff.1 hc; exact ⟨k, by rw [if_pos hs, hk]; exact hr⟩
        · cases hr
      · cases ha : args.mapM (snapA H depth) with
        | none => simp [ha] at hr
        | some as =>
          simp only [ha] at hr ⊢
          cases hc : callL E Y f as [] with
          | none => simp [hc] at hr
          | some q => rw [hc] at hr; obtain ⟨k, hk⟩ := callL_iff.1 hc; exact ⟨k, by rw [hk]; exact hr⟩
    have hins : ∀ {i : Ins} {fr : List AV} {H : Heap} {r : AV × Heap}, insA (callL E Y) i fr H = some r → ∃ k, insA (callF E Y k) i fr H = some r := by
      intro i fr H r hr
      cases i with
      | call m f args => exact hcall hr
      | calld m f args =>
        simp only [insA] at hr ⊢
        split at hr
        · exact hcall hr
        · cases hr
      | callm m t r args =>
        simp only [insA] at hr ⊢
        split at hr
        · split at hr
          · rename_i hl; exact hcall hr
          · cases hr
        · cases hr
      | _ => exact ⟨0, hr⟩
    have hstep : ∀ {o : Op1} {fr : List AV} {H : Heap} {r : List AV × Heap}, stepA (callL E Y) o fr H = some r → ∃ k, stepA (callF E Y k) o fr H = some r := by
      intro o fr H r hr
      unfold stepA at hr ⊢
      split at hr
      · skip
        cases hi : insA (callL E Y) o.ins fr H with
        | none => simp [hi] at hr
        | some q => rw [hi] at hr; obtain ⟨k, hk⟩ := hins hi; exact ⟨k, by rw [hk]; exact hr⟩
      · exact ⟨0, hr⟩
      · cases hr
    induction ops generalizing fr H with
    | nil => intro h; exact ⟨0, h⟩
    | cons o ops ih =>
      intro h
      simp only [opsA] at h ⊢
      cases hi : stepA (callL E Y) o fr H with
      | none => simp [hi] at h
      | some q =>
        rw [hi] at h
        obtain ⟨k, hk⟩ := hstep hi
        obtain ⟨l, hl⟩ := ih h
        exact ⟨max k l, by rw [stepA_le (callF_le (Nat.le_max_left k l)) hk]; exact opsA_le (callF_le (Nat.le_max_right k l)) hl⟩
  · rintro ⟨k, h⟩
    exact opsA_le (fun f args H r h => callL_iff.2 ⟨k, h⟩) h

theorem ext_iff {α : Type} {x y : Option α} (h : ∀ r, x = some r ↔ y = some r) : x = y := Option.ext h

/-- Go on where code has come to its end. -/
def thenX (r : Option (Ex × List AV × Heap)) (k : List AV → Heap → Option (Ex × List AV × Heap)) : Option (Ex × List AV × Heap) :=
  match r with
  | some (.n, fr, H) => k fr H
  | r => r

def blockX (id : Nat) (live : List Bool) (r : Option (Ex × List AV × Heap)) : Option (Ex × List AV × Heap) :=
  match r with
  | some (.n, fr', H') => some (.n, keepA live fr', H')
  | some (.x j, fr', H') => if j = id then some (.n, keepA live fr', H') else some (.x j, fr', H')
  | r => r

def condX (c : AV) (x y : Option (Ex × List AV × Heap)) : Option (Ex × List AV × Heap) :=
  match c with
  | .bool true => x
  | .bool false => y
  | _ => none

/-- Operations, and what follows. -/
noncomputable def opsL (E : Nat → Option XF) (Y : Run) (ops : List Op1) (fr : List AV) (H : Heap) : Option (Ex × List AV × Heap) := match opsA (callL E Y) ops fr H with
  | some (fr', H') => some (.n, fr', H')
  | none => none

variable {fr : List AV} {H : Heap}

theorem codeL_skip : codeL E Y .skip fr H = some (.n, fr, H) := codeL_iff.2 ⟨1, rfl⟩
theorem codeL_exit {id : Nat} {l : List Bool} : codeL E Y (.exit id l) fr H = some (.x id, keepA l fr, H) := codeL_iff.2 ⟨1, rfl⟩
theorem codeL_ret {l : List Bool} : codeL E Y (.ret l) fr H = some (.r, keepA l fr, H) := codeL_iff.2 ⟨1, rfl⟩

theorem codeL_reg {ops : List Op1} : codeL E Y (.reg ops) fr H = opsL E Y ops fr H := by
  refine ext_iff fun r => ?_
  rw [codeL_iff]
  unfold opsL
  constructor
  · rintro ⟨k, h⟩
    cases k with
    | zero => simp [codeX] at h
    | succ k =>
      simp only [codeX] at h
      cases hi : opsA (runX E Y (codeX E Y k)) ops fr H with
      | none => simp [hi] at h
      | some q => rw [hi] at h; rw [opsL_iff.2 ⟨k, hi⟩]; exact h
  · intro h
    cases hi : opsA (callL E Y) ops fr H with
    | none => simp [hi] at h
    | some q =>
      rw [hi] at h
      obtain ⟨k, hk⟩ := opsL_iff.1 hi
      refine ⟨k + 1, ?_⟩
      simp only [codeX]
      have hk' : opsA (runX E Y (codeX E Y k)) ops fr H = some q := hk
      rw [hk']; exact h

theorem codeL_seq {a b : XC} : codeL E Y (.seq a b) fr H = thenX (codeL E Y a fr H) (codeL E Y b) := by
  refine ext_iff fun r => ?_
  rw [codeL_iff]
  constructor
  · rintro ⟨k, h⟩
    cases k with
    | zero => simp [codeX] at h
    | succ k =>
      simp only [codeX] at h
      cases hi : codeX E Y k a fr H with
      | none => simp [hi] at h
      | some q =>
        rw [codeL_iff.2 ⟨k, hi⟩]
        rw [hi] at h
        obtain ⟨ex, fr1, H1⟩ := q
        cases ex with
        | n => exact codeL_iff.2 ⟨k, h⟩
        | _ => exact h
  · intro h
    cases hi : codeL E Y a fr H with
    | none => simp [hi, thenX] at h
    | some q =>
      rw [hi] at h
      obtain ⟨k, hk⟩ := codeL_iff.1 hi
      obtain ⟨ex, fr1, H1⟩ := q
      cases ex with
      | n =>
        obtain ⟨l, hl⟩ := codeL_iff.1 (show codeL E Y b fr1 H1 = some r from h)
        refine ⟨max k l + 1, ?_⟩
        simp only [codeX, codeX_le (Nat.le_max_left k l) hk]
        exact codeX_le (Nat.le_max_right k l) hl
      | x id => exact ⟨k + 1, by simp only [codeX, hk]; exact h⟩
      | r => exact ⟨k + 1, by simp only [codeX, hk]; exact h⟩

theorem codeL_cond {o : Opd} {a b : XC} : codeL E Y (.cond o a b) fr H = condX (o.ev fr) (codeL E Y a fr H) (codeL E Y b fr H) := by
  refine ext_iff fun r => ?_
  rw [codeL_iff]
  constructor
  · rintro ⟨k, h⟩
    cases k with
    | zero => simp [codeX] at h
    | succ k =>
      simp only [codeX] at h
      unfold condX
      split at h
      · rename_i hb; rw [hb]; exact codeL_iff.2 ⟨k, h⟩
      · rename_i hb; rw [hb]; exact codeL_iff.2 ⟨k, h⟩
      · cases h
  · intro h
    unfold condX at h
    split at h
    · rename_i hb; obtain ⟨k, hk⟩ := codeL_iff.1 h; exact ⟨k + 1, by simp only [codeX, hb]; exact hk⟩
    · rename_i hb; obtain ⟨k, hk⟩ := codeL_iff.1 h; exact ⟨k + 1, by simp only [codeX, hb]; exact hk⟩
    · cases h

theorem codeL_block {id : Nat} {live : List Bool} {b : XC} : codeL E Y (.block id live b) fr H = blockX id live (codeL E Y b fr H) := by
  refine ext_iff fun r => ?_
  rw [codeL_iff]
  constructor
  · rintro ⟨k, h⟩
    cases k with
    | zero => simp [codeX] at h
    | succ k =>
      simp only [codeX] at h
      cases hi : codeX E Y k b fr H with
      | none => simp [hi] at h
      | some q => rw [codeL_iff.2 ⟨k, hi⟩]; rw [hi] at h; exact h
  · intro h
    cases hi : codeL E Y b fr H with
    | none => simp [hi, blockX] at h
    | some q =>
      rw [hi] at h
      obtain ⟨k, hk⟩ := codeL_iff.1 hi
      exact ⟨k + 1, by simp only [codeX, hk]; exact h⟩

theorem codeL_loop {live : List Bool} {b : XC} : codeL E Y (.loop live b) fr H = thenX (codeL E Y b (keepA live fr) H) (codeL E Y (.loop live b)) := by
  refine ext_iff fun r => ?_
  rw [codeL_iff]
  constructor
  · rintro ⟨k, h⟩
    cases k with
    | zero => simp [codeX] at h
    | succ k =>
      simp only [codeX] at h
      cases hi : codeX E Y k b (keepA live fr) H with
      | none => simp [hi] at h
      | some q =>
        rw [codeL_iff.2 ⟨k, hi⟩]
        rw [hi] at h
        obtain ⟨ex, fr1, H1⟩ := q
        cases ex with
        | n => exact codeL_iff.2 ⟨k, h⟩
        | _ => exact h
  · intro h
    cases hi : codeL E Y b (keepA live fr) H with
    | none => simp [hi, thenX] at h
    | some q =>
      rw [hi] at h
      obtain ⟨k, hk⟩ := codeL_iff.1 hi
      obtain ⟨ex, fr1, H1⟩ := q
      cases ex with
      | n =>
        obtain ⟨l, hl⟩ := codeL_iff.1 (show codeL E Y (.loop live b) fr1 H1 = some r from h)
        refine ⟨max k l + 1, ?_⟩
        simp only [codeX, codeX_le (Nat.le_max_left k l) hk]
        exact codeX_le (Nat.le_max_right k l) hl
      | x id => exact ⟨k + 1, by simp only [codeX, hk]; exact h⟩
      | r => exact ⟨k + 1, by simp only [codeX, hk]; exact h⟩

/-- A loop, met with a frame of which only what lives is left. -/
noncomputable def lp (E : Nat → Option XF) (Y : Run) (L : XC) (fr : List AV) (H : Heap) : Option (Ex × List AV × Heap) := codeL E Y L fr H
/-- A loop, once more. -/
noncomputable def again (E : Nat → Option XF) (Y : Run) (L : XC) (live : List Bool) (fr : List AV) (H : Heap) : Option (Ex × List AV × Heap) := lp E Y L (keepA live fr) H
theorem again_in {L : XC} {live : List Bool} : again E Y L live fr H = lp E Y L (keepA live fr) H := rfl

theorem keepA_keepA : ∀ (live : List Bool) (fr : List AV), keepA live (keepA live fr) = keepA live fr
  | [], _ => by simp [keepA]
  | b :: bs, [] => by simp [keepA]
  | b :: bs, v :: vs => by cases b <;> simp [keepA, keepA_keepA bs vs]

theorem codeL_in {L : XC} {live : List Bool} {b : XC} (h : L = .loop live b) : codeL E Y L fr H = lp E Y L (keepA live fr) H := by
  subst h
  unfold lp
  rw [codeL_loop, codeL_loop (fr := keepA live fr), keepA_keepA]

theorem lp_un {L : XC} {live : List Bool} {b : XC} (h : L = .loop live b) : lp E Y L fr H = thenX (codeL E Y b (keepA live fr) H) (again E Y L live) := by
  subst h
  have hk : (codeL E Y (.loop live b) : List AV → Heap → _) = again E Y (.loop live b) live := by
    funext fr H
    unfold again lp
    rw [codeL_loop, codeL_loop (fr := keepA live fr), keepA_keepA]
  unfold lp
  rw [codeL_loop, hk]

/-- A function's end. -/
def endX (res : List Res) (r : Option (Ex × List AV × Heap)) : Option (AV × Heap) := match r with
  | some (.x _, _, _) => none
  | some (_, fr, H') => (resultA res fr H').map fun v => (v, H')
  | none => none

theorem callL_eq {f : Nat} {F : XF} (hF : E f = some F) {args : List AV} (hn : args.length = F.np) : callL E Y f args H = endX F.res (codeL E Y F.body (args ++ List.replicate (F.nt - F.np) .undef) H) := by
  simp only [callL, runX, hF, enterX, if_pos hn]
  rfl

theorem callL_sound {P : Program} {W0 : World} [GlobOk W0] (hE : Known P E) (hY : CallSound P W0 Y) : CallSound P W0 (callL E Y) := by
  intro f args H v H' h
  obtain ⟨k, hk⟩ := callL_iff.1 h
  exact call_sound hE hY k f args H v H' hk
end
end Go.X
