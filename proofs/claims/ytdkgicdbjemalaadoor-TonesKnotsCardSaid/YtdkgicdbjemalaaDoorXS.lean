import Derived.Test.YtdkgicdbjemalaaDoorXD
/-! Code that is run by the kernel: a piece whose way does not hang on the numbers. -/
set_option linter.unusedSimpArgs false
set_option linter.unusedVariables false
namespace Go.X
open Go Go.RowKit
section
variable {E : Nat → Option XF} {Y : Run} {H H' : Heap} {fr fr' : List AV}

/-- The first n parts of a row of parts, and what is behind them. -/
def headC : Nat → XC → XC
  | 0, _ => .skip
  | n + 1, c => match c with
    | .seq a b => .seq a (headC n b)
    | _ => .skip
def tailC : Nat → XC → XC
  | 0, c => c
  | n + 1, c => match c with
    | .seq a b => tailC n b
    | c => c

theorem thenX_thenX {r : Option (Ex × List AV × Heap)} {k l : List AV → Heap → Option (Ex × List AV × Heap)} : thenX (thenX r k) l = thenX r fun fr H => thenX (k fr H) l := by
  cases r with
  | none => rfl
  | some q =>
    obtain ⟨e, fr, H⟩ := q
    cases e <;> rfl

theorem cut : ∀ (n : Nat) (c : XC) (fr : List AV) (H : Heap), codeL E Y c fr H = thenX (codeL E Y (headC n c) fr H) (codeL E Y (tailC n c))
  | 0, c, fr, H => by rw [headC, codeL_skip, thenX_n, tailC]
  | n + 1, c, fr, H => by
    cases c with
    | seq a b =>
      rw [headC, tailC, codeL_seq, codeL_seq, thenX_thenX]
      congr 1
      funext fr H
      exact cut n b fr H
    | skip => simp [headC, tailC, codeL_skip, thenX_n]
    | _ => show _ = thenX (codeL E Y .skip fr H) _; rw [codeL_skip]; rfl

theorem runK {k : Nat} (n : Nat) {c : XC} (h : codeX E Y k (headC n c) fr H = some (.n, fr', H')) : codeL E Y c fr H = codeL E Y (tailC n c) fr' H' := by
  rw [cut n c, codeL_iff.2 ⟨k, h⟩, thenX_n]

/-- The last part of a loop's body, an exit or a return. -/
theorem runE {k : Nat} {c : XC} {r : Ex × List AV × Heap} (h : codeX E Y k c fr H = some r) : codeL E Y c fr H = some r := codeL_iff.2 ⟨k, h⟩

/-- A call that shares nothing, run by the kernel. -/
theorem runFree {k f : Nat} {args : List AV} {H0 : Heap} {r : AV × Heap} (h : freeX H (callF E Y k f args H0) = some r) : freeX H (callL E Y f args H0) = some r := by
  cases hc : callF E Y k f args H0 with
  | none => rw [hc] at h; cases h
  | some q => rw [callL_iff.2 ⟨k, hc⟩]; rw [hc] at h; exact h
end
end Go.X
