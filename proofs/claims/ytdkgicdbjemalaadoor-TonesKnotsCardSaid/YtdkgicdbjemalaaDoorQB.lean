import Derived.Test.YtdkgicdbjemalaaDoorQA
import Derived.Test.YtdkgicdbjemalaaDoorXS
/-! The second way comes to what the first one comes to. -/
set_option linter.unusedSimpArgs false
set_option linter.unusedVariables false
namespace Go.X
open Go Go.RowKit

theorem want_eq {n m : Nat} {fr : List AV} {T : Pl} (h : FT n fr m T) (g : Option (Nat × Bool)) : wantT g m T = wantedA g fr := by
  cases g with
  | none => rfl
  | some p => obtain ⟨t, b⟩ := p; simp only [wantT, wantedA, ← h.get t]; rfl

theorem nxt_sound {n m : Nat} {fr : List AV} {T : Pl} {H H' : Heap} {d : Option Nat} {v : AV} {k : Knt} {e : Ex} {m' : Nat} {T' : Pl} (h : FT n fr m T) (hr : nxtT d v k n m T H = .ok e m' T' H') :
    ∃ m1 T1, FT n (putA fr d v) m1 T1 ∧ k n m1 T1 H = .ok e m' T' H' := by
  cases d with
  | none => exact ⟨m, T, h, hr⟩
  | some d =>
    have hr : cond (Nat.ble (Nat.succ d) n) (k n (Nat.lor m (Nat.shiftLeft 1 d)) (tset 9 T d v) H) .no = .ok e m' T' H' := hr
    cases hb : Nat.ble (Nat.succ d) n with
    | false => rw [hb] at hr; cases hr
    | true =>
      rw [hb] at hr
      exact ⟨_, _, h.set (Nat.le_of_ble_eq_true hb), hr⟩

theorem ops_sound {R R' : Run} (hR : RLe R R') : ∀ (l : List Op1) {n m : Nat} {fr : List AV} {T : Pl} {H H' : Heap} {e : Ex} {m' : Nat} {T' : Pl}, FT n fr m T → opsT R l n m T H = .ok e m' T' H' → ∃ fr', opsA R' l fr H = some (fr', H') ∧ e = .n ∧ FT n fr' m' T'
  | [], n, m, fr, T, H, H', e, m', T', h, hr => by
    have hr : RT.ok .n m T H = .ok e m' T' H' := hr
    cases hr
    exact ⟨fr, rfl, rfl, h⟩
  | o :: l, n, m, fr, T, H, H', e, m', T', h, hr => by
    have hr : stepT R o (opsT R l) n m T H = .ok e m' T' H' := hr
    unfold stepT at hr
    rw [want_eq h] at hr
    simp only [opsA, stepA]
    cases hw : wantedA o.guard fr with
    | none => rw [hw] at hr; cases hr
    | some b =>
      cases b with
      | false =>
        rw [hw] at hr
        obtain ⟨m1, T1, h1, h2⟩ := nxt_sound h hr
        exact ops_sound hR l h1 h2
      | true =>
        rw [hw] at hr
        simp only at hr
        rw [h.ev, insT_eq] at hr
        cases hi : insA R o.ins fr H with
        | none => rw [hi] at hr; cases hr
        | some q =>
          obtain ⟨v, H1⟩ := q
          rw [hi] at hr
          obtain ⟨m1, T1, h1, h2⟩ := nxt_sound h hr
          simp only [insA_le hR hi]
          exact ops_sound hR l h1 h2

/-- What code of the one way says of the other's. -/
def CS (c : CT) (x : XC → List AV → Heap → Option (Ex × List AV × Heap)) : Prop := ∀ (b : XC) {n m : Nat} {fr : List AV} {T : Pl} {H H' : Heap} {e : Ex} {m' : Nat} {T' : Pl}, FT n fr m T → c n b m T H = .ok e m' T' H' → ∃ fr', x b fr H = some (e, fr', H') ∧ FT n fr' m' T'

theorem start_ok {n : Nat} : ∀ (args : List AV) (i m : Nat) (T : Pl) (pre : List AV), pre.length = i → i + args.length ≤ n → FT n (pre ++ List.replicate (n - i) .undef) m T →
    FT n (pre ++ args ++ List.replicate (n - i - args.length) .undef) (startT args i m T).1 (startT args i m T).2
  | [], i, m, T, pre, hp, hl, h => by
    show FT n (pre ++ [] ++ List.replicate (n - i - 0) .undef) m T
    simpa using h
  | v :: args, i, m, T, pre, hp, hl, h => by
    have hl2 : i < n := by simp at hl; omega
    have h1 := h.set (v := v) hl2
    have e : (pre ++ List.replicate (n - i) AV.undef).set i v = pre ++ [v] ++ List.replicate (n - (i + 1)) .undef := by
      rw [show n - i = (n - (i + 1)) + 1 by omega, List.replicate_succ, List.set_append_right _ _ (by omega), hp, Nat.sub_self]
      simp
    rw [e] at h1
    have h2 := start_ok args (i + 1) _ _ (pre ++ [v]) (by simp; omega) (by simp at hl; omega) h1
    have e2 : pre ++ [v] ++ args ++ List.replicate (n - (i + 1) - args.length) AV.undef = pre ++ v :: args ++ List.replicate (n - i - (v :: args).length) .undef := by
      simp; omega
    rw [e2] at h2
    exact h2

theorem res_eq {n m : Nat} {fr : List AV} {T : Pl} {H : Heap} (h : FT n fr m T) (rs : List Res) : resultT rs m T H = resultA rs fr H := by
  have e : resT1 H m T = resA H fr := by
    funext r
    cases r with
    | tmp t => simp only [resT1, resA, ← h.get t]
    | cell t sz => simp only [resT1, resA, ← h.get t]
  unfold resultT resultA
  rw [e]; rfl

theorem runT_sound {E : Nat → Option XF} {Y : Run} {c : CT} {x : XC → List AV → Heap → Option (Ex × List AV × Heap)} (h : CS c x) : RLe (runT E Y c) (runX E Y x) := by
  intro f args H r hr
  unfold runT at hr
  unfold runX
  cases hE : E f with
  | none => rw [hE] at hr; exact hr
  | some F =>
    rw [hE] at hr
    simp only at hr ⊢
    unfold enterT at hr
    unfold enterX
    cases hb : (Nat.beq args.length F.np && Nat.ble F.np F.nt && Nat.ble F.nt 511) with
    | false => rw [hb] at hr; cases hr
    | true =>
      rw [hb] at hr
      simp only [Bool.and_eq_true] at hb
      obtain ⟨⟨b1, b2⟩, b3⟩ := hb
      have b1 := Nat.eq_of_beq_eq_true b1
      have b2 := Nat.le_of_ble_eq_true b2
      have b3 := Nat.le_of_ble_eq_true b3
      rw [if_pos b1]
      have h0 : FT F.nt (List.replicate F.nt .undef) 0 .e := ⟨by simp, b3, fun i => by
        rw [rd_eq]
        simp only [Nat.zero_testBit, Bool.false_eq_true, if_false]
        rw [List.getD_eq_getElem?_getD, List.getElem?_replicate]
        split <;> rfl, fun i _ => by simp⟩
      have h1 := start_ok (n := F.nt) args 0 0 .e [] rfl (by omega) (by simpa using h0)
      rw [List.nil_append, Nat.sub_zero, b1] at h1
      simp only [cond_true] at hr
      cases hc : c F.nt F.body (startT args 0 0 .e).1 (startT args 0 0 .e).2 H with
      | no => rw [hc] at hr; cases hr
      | ok e m T H' =>
        rw [hc] at hr
        obtain ⟨fr', h2, h3⟩ := h F.body h1 hc
        rw [h2]
        cases e with
        | x j => cases hr
        | n => simp only [leaveT, res_eq h3] at hr; exact hr
        | r => simp only [leaveT, res_eq h3] at hr; exact hr

theorem keepT_sound {n m : Nat} {fr : List AV} {T : Pl} {H H' : Heap} {l : List Bool} {e e' : Ex} {m' : Nat} {T' : Pl} (h : FT n fr m T) (hr : keepT n l e m T H = .ok e' m' T' H') : e' = e ∧ H' = H ∧ FT n (keepA l fr) m' T' := by
  unfold keepT at hr
  cases hb : Nat.beq (lenL l) n with
  | false => rw [hb] at hr; cases hr
  | true => rw [hb] at hr; cases hr; exact ⟨rfl, rfl, h.keep (Nat.eq_of_beq_eq_true hb)⟩

theorem codeT_sound {E : Nat → Option XF} {Y : Run} : ∀ k, CS (codeT E Y k) (codeX E Y k)
  | 0 => fun b => by intro n m fr T H H' e m' T' h hr; cases hr
  | k + 1 => fun b => by
    have ih := codeT_sound (E := E) (Y := Y) k
    intro n m fr T H H' e m' T' h hr
    have hr : bodyT b (runT E Y) (codeT E Y k) n m T H = .ok e m' T' H' := hr
    cases b with
    | skip =>
      have hr : RT.ok .n m T H = .ok e m' T' H' := hr
      cases hr
      exact ⟨fr, rfl, h⟩
    | reg ops =>
      have hr : opsT (runT E Y (codeT E Y k)) ops n m T H = .ok e m' T' H' := hr
      obtain ⟨fr', h1, rfl, h2⟩ := ops_sound (runT_sound ih) ops h hr
      exact ⟨fr', by simp only [codeX, h1], h2⟩
    | seq a b =>
      have hr : thenT (codeT E Y k) n b (codeT E Y k n a m T H) = .ok e m' T' H' := hr
      cases ha : codeT E Y k n a m T H with
      | no => rw [ha] at hr; cases hr
      | ok e1 m1 T1 H1 =>
        rw [ha] at hr
        obtain ⟨fr1, h1, h2⟩ := ih a h ha
        cases e1 with
        | n =>
          obtain ⟨fr2, h3, h4⟩ := ih b h2 hr
          exact ⟨fr2, by simp only [codeX, h1, h3], h4⟩
        | x j => cases hr; exact ⟨fr1, by simp only [codeX, h1], h2⟩
        | r => cases hr; exact ⟨fr1, by simp only [codeX, h1], h2⟩
    | cond c a b =>
      have hr : kCond c a b (runT E Y) (codeT E Y k) n m T H = .ok e m' T' H' := hr
      unfold kCond at hr
      rw [h.ev] at hr
      simp only [codeX]
      split at hr
      · rename_i hc; rw [show c.ev fr = _ from hc]; exact ih a h hr
      · rename_i hc; rw [show c.ev fr = _ from hc]; exact ih b h hr
      · cases hr
    | block id l b =>
      have hr : blockT n id l (codeT E Y k n b m T H) = .ok e m' T' H' := hr
      cases ha : codeT E Y k n b m T H with
      | no => rw [ha] at hr; cases hr
      | ok e1 m1 T1 H1 =>
        rw [ha] at hr
        obtain ⟨fr1, h1, h2⟩ := ih b h ha
        cases e1 with
        | n =>
          obtain ⟨rfl, rfl, h3⟩ := keepT_sound h2 hr
          exact ⟨_, by simp only [codeX, h1], h3⟩
        | x j =>
          have hr : cond (Nat.beq j id) (keepT n l .n m1 T1 H1) (.ok (.x j) m1 T1 H1) = .ok e m' T' H' := hr
          cases hb : Nat.beq j id with
          | true =>
            rw [hb] at hr
            obtain ⟨rfl, rfl, h3⟩ := keepT_sound h2 hr
            exact ⟨_, by simp only [codeX, h1, if_pos (Nat.eq_of_beq_eq_true hb)], h3⟩
          | false =>
            rw [hb] at hr
            have hr : RT.ok (.x j) m1 T1 H1 = .ok e m' T' H' := hr
            cases hr
            exact ⟨_, by simp only [codeX, h1, if_neg (Nat.ne_of_beq_eq_false hb)], h2⟩
        | r => cases hr; exact ⟨fr1, by simp only [codeX, h1], h2⟩
    | loop l b =>
      have hr : cond (Nat.beq (lenL l) n) (loopT (codeT E Y k) n l b (codeT E Y k n b (Nat.land m (nOfL l)) T H)) .no = .ok e m' T' H' := hr
      cases hb : Nat.beq (lenL l) n with
      | false => rw [hb] at hr; cases hr
      | true =>
        rw [hb] at hr
        simp only [cond_true] at hr
        have hk := h.keep (Nat.eq_of_beq_eq_true hb)
        cases ha : codeT E Y k n b (Nat.land m (nOfL l)) T H with
        | no => rw [ha] at hr; cases hr
        | ok e1 m1 T1 H1 =>
          rw [ha] at hr
          obtain ⟨fr1, h1, h2⟩ := ih b hk ha
          cases e1 with
          | n =>
            obtain ⟨fr2, h3, h4⟩ := ih (.loop l b) h2 hr
            exact ⟨fr2, by simp only [codeX, h1, h3], h4⟩
          | x j => cases hr; exact ⟨fr1, by simp only [codeX, h1], h2⟩
          | r => cases hr; exact ⟨fr1, by simp only [codeX, h1], h2⟩
    | exit id l =>
      obtain ⟨rfl, rfl, h3⟩ := keepT_sound h (show keepT n l (.x id) m T H = _ from hr)
      exact ⟨_, by simp only [codeX], h3⟩
    | ret l =>
      obtain ⟨rfl, rfl, h3⟩ := keepT_sound h (show keepT n l .r m T H = _ from hr)
      exact ⟨_, by simp only [codeX], h3⟩

/-- A call that is run in the kernel. -/
theorem callT_run {E : Nat → Option XF} {Y : Run} {k f : Nat} {args : List AV} {H : Heap} {r : AV × Heap} (h : callT E Y k f args H = some r) : callL E Y f args H = some r :=
  callL_iff.2 ⟨k, runT_sound (codeT_sound k) _ _ _ _ h⟩

/-- A call that shares nothing, run in the kernel. -/
theorem freeT {E : Nat → Option XF} {Y : Run} {k f : Nat} {args : List AV} {H H0 : Heap} {r : AV × Heap} (h : freeX H (callT E Y k f args H0) = some r) : freeX H (callL E Y f args H0) = some r := by
  cases hc : callT E Y k f args H0 with
  | none => rw [hc] at h; cases h
  | some q => rw [callT_run hc]; rw [hc] at h; exact h
end Go.X
