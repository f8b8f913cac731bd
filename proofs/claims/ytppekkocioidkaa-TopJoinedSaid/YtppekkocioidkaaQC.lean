import Derived.Test.YtppekkocioidkaaXE
/-! Code that is run by the kernel: a piece whose way does not hang on the numbers. -/
set_option linter.unusedSimpArgs false
set_option linter.unusedVariables false
namespace Go.X
open Go Go.RowKit
section
variable {E : Nat → Option XF} {Y : Run} {H H' : Heap} {fr fr' : List AV}

/-- The first n parts of a row of parts, and what is behind them. -/
def headC : Nat → XC → XC
  | 0, _ => .skip
  | n + 1, c => match c with
    | .seq a b => .seq a (headC n b)
    | _ => .skip
def tailC : Nat → XC → XC
  | 0, c => c
  | n + 1, c => match c with
    | .seq a b => tailC n b
    | c => c

theorem thenX_thenX {r : Option (Ex × List AV × Heap)} {k l : List AV → Heap → Option (Ex × List AV × Heap)} : thenX (thenX r k) l = thenX r fun fr H => thenX (k fr H) l := by
  cases r with
  | none => rfl
  | some q =>
    obtain ⟨e, fr, H⟩ := q
    cases e <;> rfl

theorem cut : ∀ (n : Nat) (c : XC) (fr : List AV) (H : Heap), codeL E Y c fr H = thenX (codeL E Y (headC n c) fr H) (codeL E Y (tailC n c))
  | 0, c, fr, H => by rw [headC, codeL_skip, thenX_n, tailC]
  | n + 1, c, fr, H => by
    cases c with
    | seq a b =>
      rw [headC, tailC, codeL_seq, codeL_seq, thenX_thenX]
      congr 1
      funext fr H
      exact cut n b fr H
    | skip => simp [headC, tailC, codeL_skip, thenX_n]
    | _ => show _ = thenX (codeL E Y .skip fr H) _; rw [codeL_skip]; rfl

theorem runK {k : Nat} (n : Nat) {c : XC} (h : codeX E Y k (headC n c) fr H = some (.n, fr', H')) : codeL E Y c fr H = codeL E Y (tailC n c) fr' H' := by
  rw [cut n c, codeL_iff.2 ⟨k, h⟩, thenX_n]

/-- The last part of a loop's body, an exit or a return. -/
theorem runE {k : Nat} {c : XC} {r : Ex × List AV × Heap} (h : codeX E Y k c fr H = some r) : codeL E Y c fr H = some r := codeL_iff.2 ⟨k, h⟩

/-- A call that shares nothing, run by the kernel. -/
theorem runFree {k f : Nat} {args : List AV} {H0 : Heap} {r : AV × Heap} (h : freeX H (callF E Y k f args H0) = some r) : freeX H (callL E Y f args H0) = some r := by
  cases hc : callF E Y k f args H0 with
  | none => rw [hc] at h; cases h
  | some q => rw [callL_iff.2 ⟨k, hc⟩]; rw [hc] at h; exact h
end
end Go.X

/-! A second way to run the small machine, made for the kernel: places in a tree, each instruction a constant of its own. -/
set_option linter.unusedSimpArgs false
set_option linter.unusedVariables false
namespace Go.X
open Go Go.RowKit

/-! ### Places -/
inductive Pl where
  | e
  | n (v : AV) (l r : Pl)

noncomputable def tget (T : Pl) : Nat → AV := Pl.rec (motive := fun _ => Nat → AV) (fun _ => .undef) (fun v _ _ gl gr i => cond (Nat.beq i 0) v (cond (Nat.beq (Nat.mod i 2) 1) (gl (Nat.div i 2)) (gr (Nat.sub (Nat.div i 2) 1)))) T
noncomputable def lft (T : Pl) : Pl := Pl.casesOn T .e fun _ l _ => l
noncomputable def rgt (T : Pl) : Pl := Pl.casesOn T .e fun _ _ r => r
noncomputable def val (T : Pl) : AV := Pl.casesOn T .undef fun v _ _ => v
noncomputable def tset (d : Nat) : Pl → Nat → AV → Pl := Nat.rec (motive := fun _ => Pl → Nat → AV → Pl) (fun T _ _ => T)
  (fun _ ih T i v => cond (Nat.beq i 0) (.n v (lft T) (rgt T)) (cond (Nat.beq (Nat.mod i 2) 1) (.n (val T) (ih (lft T) (Nat.div i 2) v) (rgt T)) (.n (val T) (lft T) (ih (rgt T) (Nat.sub (Nat.div i 2) 1) v)))) d

theorem tget_e {i : Nat} : tget .e i = .undef := rfl
theorem tget_n {v : AV} {l r : Pl} {i : Nat} : tget (.n v l r) i = if i = 0 then v else if i % 2 = 1 then tget l (i / 2) else tget r (i / 2 - 1) := by
  show cond (Nat.beq i 0) v (cond (Nat.beq (Nat.mod i 2) 1) (tget l (Nat.div i 2)) (tget r (Nat.sub (Nat.div i 2) 1))) = _
  by_cases h0 : i = 0
  · subst h0; rfl
  · rw [if_neg h0, show Nat.beq i 0 = false from by cases i with | zero => exact absurd rfl h0 | succ i => rfl, cond_false]
    by_cases h1 : i % 2 = 1
    · rw [if_pos h1, show Nat.mod i 2 = 1 from h1]; rfl
    · rw [if_neg h1, show Nat.mod i 2 = 0 from (show i % 2 = 0 by omega)]; rfl
theorem tget_split {T : Pl} {i : Nat} : tget T i = if i = 0 then val T else if i % 2 = 1 then tget (lft T) (i / 2) else tget (rgt T) (i / 2 - 1) := by
  cases T with
  | e => simp only [tget_e, val, lft, rgt, ite_self]
  | n v l r => rw [tget_n]; rfl
theorem tset_s {d i : Nat} {T : Pl} {v : AV} : tset (d + 1) T i v = if i = 0 then .n v (lft T) (rgt T) else if i % 2 = 1 then .n (val T) (tset d (lft T) (i / 2) v) (rgt T) else .n (val T) (lft T) (tset d (rgt T) (i / 2 - 1) v) := by
  show cond (Nat.beq i 0) (Pl.n v (lft T) (rgt T)) (cond (Nat.beq (Nat.mod i 2) 1) (.n (val T) (tset d (lft T) (Nat.div i 2) v) (rgt T)) (.n (val T) (lft T) (tset d (rgt T) (Nat.sub (Nat.div i 2) 1) v))) = _
  by_cases h0 : i = 0
  · subst h0; rfl
  · rw [if_neg h0, show Nat.beq i 0 = false from by cases i with | zero => exact absurd rfl h0 | succ i => rfl, cond_false]
    by_cases h1 : i % 2 = 1
    · rw [if_pos h1, show Nat.mod i 2 = 1 from h1]; rfl
    · rw [if_neg h1, show Nat.mod i 2 = 0 from (show i % 2 = 0 by omega)]; rfl

theorem tget_tset {v : AV} : ∀ (d : Nat) (T : Pl) (i j : Nat), i + 1 < 2 ^ d → tget (tset d T i v) j = if i = j then v else tget T j
  | 0, T, i, j, h => by simp at h
  | d + 1, T, i, j, h => by
    have hp : 2 ^ (d + 1) = 2 * 2 ^ d := by rw [Nat.pow_succ]; omega
    rw [tset_s, tget_split (T := T) (i := j)]
    by_cases h0 : i = 0
    · rw [if_pos h0, tget_n]
      subst h0
      by_cases hj : j = 0
      · subst hj; simp
      · rw [if_neg hj, if_neg (Ne.symm hj), if_neg hj]
    · rw [if_neg h0]
      by_cases h1 : i % 2 = 1
      · rw [if_pos h1, tget_n, tget_tset d _ _ _ (by omega)]
        by_cases hj : j = 0
        · rw [if_pos hj, if_pos hj, if_neg (by omega)]
        · rw [if_neg hj, if_neg hj]
          by_cases h2 : j % 2 = 1
          · rw [if_pos h2, if_pos h2]
            by_cases e : i / 2 = j / 2
            · rw [if_pos e, if_pos (by omega)]
            · rw [if_neg e, if_neg (by omega)]
          · rw [if_neg h2, if_neg h2, if_neg (by omega)]
      · rw [if_neg h1, tget_n, tget_tset d _ _ _ (by omega)]
        by_cases hj : j = 0
        · rw [if_pos hj, if_pos hj, if_neg (by omega)]
        · rw [if_neg hj, if_neg hj]
          by_cases h2 : j % 2 = 1
          · rw [if_pos h2, if_pos h2, if_neg (by omega)]
          · rw [if_neg h2, if_neg h2]
            by_cases e : i / 2 - 1 = j / 2 - 1
            · rw [if_pos e, if_pos (by omega)]
            · rw [if_neg e, if_neg (by omega)]

/-- Which places are filled, as a number's digits. -/
noncomputable def rd (m : Nat) (T : Pl) (i : Nat) : AV := cond (Nat.beq (Nat.mod (Nat.shiftRight m i) 2) 1) (tget T i) .undef
noncomputable def evT (m : Nat) (T : Pl) (o : Opd) : AV := Opd.casesOn o (fun i => rd m T i) (fun v => v)

theorem rd_eq {m i : Nat} {T : Pl} : rd m T i = if m.testBit i = true then tget T i else .undef := by
  have e : Nat.beq (Nat.mod (Nat.shiftRight m i) 2) 1 = m.testBit i := by
    rw [Nat.testBit_eq_decide_div_mod_eq]
    show Nat.beq ((m >>> i) % 2) 1 = _
    rw [Nat.shiftRight_eq_div_pow]
    generalize m / 2 ^ i % 2 = x
    rcases x with _ | _ | x
    · rfl
    · rfl
    · simp [Nat.beq]
  unfold rd
  rw [e]
  cases m.testBit i <;> rfl

/-- A frame, and its tree. -/
structure FT (n : Nat) (fr : List AV) (m : Nat) (T : Pl) : Prop where
  len : fr.length = n
  small : n ≤ 511
  get : ∀ i, fr.getD i .undef = rd m T i
  low : ∀ i, n ≤ i → m.testBit i = false

theorem FT.ev {n m : Nat} {fr : List AV} {T : Pl} (h : FT n fr m T) : evT m T = fun o => o.ev fr := by
  funext o
  cases o with
  | t i => exact (h.get i).symm
  | c v => rfl

theorem FT.set {n m d : Nat} {fr : List AV} {T : Pl} {v : AV} (h : FT n fr m T) (hd : d < n) : FT n (fr.set d v) (Nat.lor m (Nat.shiftLeft 1 d)) (tset 9 T d v) := by
  have e : ∀ i, (Nat.lor m (Nat.shiftLeft 1 d)).testBit i = (m.testBit i || decide (d = i)) := by
    intro i
    show (m ||| (1 <<< d)).testBit i = _
    rw [Nat.testBit_or, Nat.shiftLeft_eq, Nat.one_mul, Nat.testBit_two_pow]
  refine ⟨by simpa using h.len, h.small, fun i => ?_, fun i hi => ?_⟩
  · have hs := h.small
    rw [rd_eq, e, tget_tset 9 T d i (by omega)]
    by_cases hi : d = i
    · subst hi
      rw [if_pos rfl, List.getD_eq_getElem?_getD, List.getElem?_set_self (by have := h.len; omega)]
      simp
    · have := h.get i
      rw [rd_eq] at this
      rw [if_neg hi, List.getD_eq_getElem?_getD, List.getElem?_set_ne hi, ← List.getD_eq_getElem?_getD, this]
      simp [hi]
  · rw [e, h.low i hi]
    simp; omega

/-- What stays, as a number. -/
noncomputable def nOfL (l : List Bool) : Nat := List.rec (motive := fun _ => Nat) 0 (fun b _ s => Nat.add (Nat.mul 2 s) (cond b 1 0)) l
noncomputable def lenL (l : List Bool) : Nat := List.rec (motive := fun _ => Nat) 0 (fun _ _ s => Nat.succ s) l
theorem lenL_eq : ∀ l : List Bool, lenL l = l.length
  | [] => rfl
  | b :: l => by show Nat.succ (lenL l) = _; rw [lenL_eq l]; rfl
theorem nOfL_bit : ∀ (l : List Bool) (i : Nat), (nOfL l).testBit i = l.getD i false
  | [], i => by show Nat.testBit 0 i = _; simp
  | b :: l, 0 => by
    show Nat.testBit (2 * nOfL l + cond b 1 0) 0 = b
    rw [Nat.testBit_zero]
    cases b <;> simp <;> omega
  | b :: l, i + 1 => by
    show Nat.testBit (2 * nOfL l + cond b 1 0) (i + 1) = _
    rw [Nat.testBit_succ]
    have : (2 * nOfL l + cond b 1 0) / 2 = nOfL l := by cases b <;> simp <;> omega
    rw [this, nOfL_bit l i]
    rfl

theorem keepT_get : ∀ (l : List Bool) (fr : List AV) (i : Nat), l.length = fr.length → (keepA l fr).getD i .undef = if l.getD i false = true then fr.getD i .undef else .undef
  | [], fr, i, h => by
    have : fr = [] := List.eq_nil_of_length_eq_zero h.symm
    subst this; simp [keepA]
  | b :: l, [], i, h => by simp at h
  | b :: l, v :: fr, 0, h => by cases b <;> simp [keepA]
  | b :: l, v :: fr, i + 1, h => by
    have := keepT_get l fr i (by simpa using h)
    simpa [keepA] using this

theorem keepT_len : ∀ (l : List Bool) (fr : List AV), (keepA l fr).length = fr.length
  | [], fr => by simp [keepA]
  | b :: l, [] => by simp [keepA]
  | b :: l, v :: fr => by simp [keepA, keepT_len l fr]

theorem FT.keep {n m : Nat} {fr : List AV} {T : Pl} {l : List Bool} (h : FT n fr m T) (hl : lenL l = n) : FT n (keepA l fr) (Nat.land m (nOfL l)) T := by
  have e : ∀ i, (Nat.land m (nOfL l)).testBit i = (m.testBit i && l.getD i false) := by
    intro i
    show (m &&& nOfL l).testBit i = _
    rw [Nat.testBit_and, nOfL_bit]
  rw [lenL_eq] at hl
  refine ⟨by rw [keepT_len]; exact h.len, h.small, fun i => ?_, fun i hi => by rw [e, h.low i hi]; rfl⟩
  rw [keepT_get _ _ _ (by rw [hl, h.len]), h.get i, rd_eq, rd_eq, e]
  cases m.testBit i <;> cases l.getD i false <;> rfl

/-! ### Instructions -/
abbrev EvT := Opd → AV
abbrev InsT := Run → EvT → Heap → Option (AV × Heap)
noncomputable def outT (H : Heap) (o : Option AV) : Option (AV × Heap) := o.map fun v => (v, H)

noncomputable def bAdd (x y : AV) : Option AV := match x, y with | .int k a, .int k' b => if k = k' then some (.int k (k.wrap (a + b))) else none | _, _ => none
noncomputable def bSub (x y : AV) : Option AV := match x, y with | .int k a, .int k' b => if k = k' then some (.int k (k.wrap (a - b))) else none | _, _ => none
noncomputable def bMul (x y : AV) : Option AV := match x, y with | .int k a, .int k' b => if k = k' then some (.int k (k.wrap (a * b))) else none | _, _ => none
noncomputable def bEql (x y : AV) : Option AV := match x, y with | .int k a, .int k' b => if k = k' then some (.bool (a == b)) else none | _, _ => none
noncomputable def bNeq (x y : AV) : Option AV := match x, y with | .int k a, .int k' b => if k = k' then some (.bool (a != b)) else none | _, _ => none
noncomputable def bLss (x y : AV) : Option AV := match x, y with | .int k a, .int k' b => if k = k' then some (.bool (decide (a < b))) else none | _, _ => none
noncomputable def bLeq (x y : AV) : Option AV := match x, y with | .int k a, .int k' b => if k = k' then some (.bool (decide (a ≤ b))) else none | _, _ => none
noncomputable def bGtr (x y : AV) : Option AV := match x, y with | .int k a, .int k' b => if k = k' then some (.bool (decide (a > b))) else none | _, _ => none
noncomputable def bGeq (x y : AV) : Option AV := match x, y with | .int k a, .int k' b => if k = k' then some (.bool (decide (a ≥ b))) else none | _, _ => none

noncomputable def gMov (x : Opd) : InsT := fun _ ev H => some (ev x, H)
noncomputable def gPick (c a b : Opd) : InsT := fun _ ev H => match ev c with | .bool t => some (if t then ev a else ev b, H) | _ => none
noncomputable def gAlloc (zero : List AV) : InsT := fun _ _ H => some (.ptr H.length 0 0, H ++ [⟨0, zero⟩])
noncomputable def gBox (x : Opd) : InsT := fun _ ev H => if isU (ev x) then none else some (.ptr H.length 0 0, H ++ [⟨0, cellsOf (ev x)⟩])
noncomputable def gBuild (zero : List AV) (parts : List (Nat × Nat × Opd)) : InsT := fun _ ev H => outT H ((fillA zero (parts.map fun p => (p.1, p.2.1, ev p.2.2))).map .agg)
noncomputable def gBslice (esz len : Nat) (zero : List AV) (parts : List (Nat × Nat × Opd)) : InsT := fun _ ev H => match fillA (zerosA zero (len * esz)) (parts.map fun p => (p.1, p.2.1, ev p.2.2)) with
  | some cs => some (.sl H.length 0 esz 0 len none, H ++ [⟨0, cs⟩])
  | none => none
noncomputable def gLoad (sz : Option Nat) (p : Opd) : InsT := fun _ ev H => outT H (loadA H sz (ev p))
noncomputable def gStore (sz : Nat) (p x : Opd) : InsT := fun _ ev H => (storeA H sz (ev p) (ev x)).map fun H' => (.skp, H')
noncomputable def gChk (x : Opd) : InsT := fun _ ev H => outT H (chkA (ev x))
noncomputable def bAll (op : BinOp) : AV → AV → Option AV := match op with
  | .add => bAdd | .sub => bSub | .mul => bMul | .eql => bEql | .neq => bNeq | .lss => bLss | .leq => bLeq | .gtr => bGtr | .geq => bGeq
  | op => binA op
noncomputable def gBin (op : BinOp) (x y : Opd) : InsT := fun _ ev H => outT H (bAll op (ev x) (ev y))
noncomputable def gEqb (neg : Bool) (x y : Opd) : InsT := fun _ ev H => outT H (eqbA neg (ev x) (ev y))
noncomputable def gEqs (neg : Bool) (ks : List Bool) (x y : Opd) : InsT := fun _ ev H => outT H (eqsA neg ks (ev x) (ev y))
noncomputable def gEqn (neg : Bool) (x : Opd) : InsT := fun _ ev H => outT H (eqnA neg (ev x))
noncomputable def gUn (op : UnOp) (x : Opd) : InsT := fun _ ev H => outT H (unA op (ev x))
noncomputable def gConv (k : IntKind) (x : Opd) : InsT := fun _ ev H => match ev x with | .int _ n => some (.int k (k.wrap n), H) | _ => none
noncomputable def gMki (t : Nat) (x : Opd) : InsT := fun _ ev H => some (.iface t (ev x), H)
noncomputable def gMkf (f : Nat) (caps : List Opd) : InsT := fun _ ev H => some (.fn f (caps.map ev), H)
noncomputable def gMks (esz bytes : Nat) (zero : List AV) (l c : Opd) : InsT := fun _ ev H => match ev l, ev c with
  | .int .i64 n, .int .i64 m => if n = m ∧ 0 ≤ n ∧ n * bytes ≤ 140737488355328 ∧ n ≤ 9223372036854775807 ∧ zero.length = esz then
      some (.sl H.length 0 esz 0 n.toNat none, H ++ [⟨0, zerosA zero (n.toNat * esz)⟩]) else none
  | _, _ => none
noncomputable def gSlice (esz : Nat) (x : Opd) (lo hi mx : Option Opd) : InsT := fun _ ev H => outT H (sliceA esz (ev x) (lo.map ev) (hi.map ev) (mx.map ev))
noncomputable def gFieldA (off : Nat) (x : Opd) : InsT := fun _ ev H => outT H (fldA off (ev x))
noncomputable def gField (sz : Option Nat) (off : Nat) (x : Opd) : InsT := fun _ ev H => outT H (partA sz off (ev x))
noncomputable def gIndexA (esz : Nat) (x i : Opd) : InsT := fun _ ev H => outT H (idxA esz (ev x) (ev i))
noncomputable def gIndexP (esz n : Nat) (x i : Opd) : InsT := fun _ ev H => outT H (idxP esz n (ev x) (ev i))
noncomputable def gIndex (sz : Option Nat) (esz n : Nat) (x i : Opd) : InsT := fun _ ev H => match natOf (ev i) with
  | some j => if j < n then outT H (partA sz (j * esz) (ev x)) else none
  | none => none
noncomputable def gExt (x : Opd) (i : Nat) : InsT := fun _ ev H => match ev x with | .tup vs => outT H vs[i]? | _ => none
noncomputable def gLen (x : Opd) : InsT := fun _ ev H => outT H ((lenA (ev x)).map fun n => .int .i64 n)
noncomputable def gMnx (isMax : Bool) (xs : List Opd) : InsT := fun _ ev H => outT H (mnxA isMax (xs.map ev))
noncomputable def gApp (esz bytes : Nat) (x y : Opd) : InsT := fun _ ev H => appA H esz bytes (ev x) (ev y)
noncomputable def gCall (mode f : Nat) (args : List Opd) : InsT := fun run ev H => callA run mode f (args.map ev) H
noncomputable def gCalld (mode : Nat) (f : Opd) (args : List Opd) : InsT := fun run ev H => match ev f with | .fn g caps => callA run mode g (args.map ev ++ caps) H | _ => none
noncomputable def gCallm (mode : Nat) (tab : List (Nat × Nat)) (r : Opd) (args : List Opd) : InsT := fun run ev H => match ev r with
  | .iface t v => match tab.lookup t with
    | some g => callA run mode g (v :: args.map ev) H
    | none => none
  | _ => none
noncomputable def gApt (x y : Opd) : InsT := fun _ ev H => outT H (if apartV (ev x) (ev y) then some .skp else none)
noncomputable def gBad : InsT := fun _ _ _ => none

noncomputable def insT (i : Ins) : InsT := Ins.casesOn (motive := fun _ => InsT) i gMov gPick gAlloc gBox gBuild gBslice gLoad gStore gChk gBin gEqb gEqs gEqn gUn gConv gMki gMkf gMks gSlice gFieldA gField gIndexA gIndexP gIndex gExt gLen gMnx gApp gCall gCalld gCallm gApt gBad

theorem bAll_eq (op : BinOp) : bAll op = binA op := by
  funext x y
  cases op <;> first | rfl | (cases x <;> first | rfl | (cases y <;> rfl))

theorem insT_eq {R : Run} {fr : List AV} {H : Heap} (i : Ins) : insT i R (fun o => o.ev fr) H = insA R i fr H := by
  cases i with
  | bin op x y => show outT H (bAll op _ _) = _; rw [bAll_eq]; rfl
  | _ => rfl

/-! ### Code -/
inductive RT where
  | no
  | ok (e : Ex) (m : Nat) (T : Pl) (H : Heap)

noncomputable def wantT (g : Option (Nat × Bool)) (m : Nat) (T : Pl) : Option Bool := match g with
  | none => some true
  | some (t, b) => match rd m T t with
    | .bool c => some (c == b)
    | .skp => some false
    | _ => none

abbrev Knt := Nat → Nat → Pl → Heap → RT

/-- On with what comes out of an instruction. -/
noncomputable def nxtT (d : Option Nat) (v : AV) (k : Knt) : Knt := fun n m T H => Option.casesOn d (k n m T H) fun d => cond (Nat.ble (Nat.succ d) n) (k n (Nat.lor m (Nat.shiftLeft 1 d)) (tset 9 T d v) H) .no
noncomputable def aftT (d : Option Nat) (k : Option Nat → AV → Knt → Knt) (ks : Knt) (n m : Nat) (T : Pl) (r : Option (AV × Heap)) : RT := match r with
  | some (v, H') => k d v ks n m T H'
  | none => .no
noncomputable def stepT (R : Run) (o : Op1) (ks : Knt) : Knt := fun n m T H => match wantT o.guard m T with
  | some true => aftT o.dst nxtT ks n m T (insT o.ins R (evT m T) H)
  | some false => nxtT o.dst .skp ks n m T H
  | none => .no
noncomputable def endT : Knt := fun _ m T H => .ok .n m T H
noncomputable def opsT (R : Run) (l : List Op1) : Knt := List.rec (motive := fun _ => Knt) endT (fun o _ ks => stepT R o ks) l

abbrev CT := Nat → XC → Nat → Pl → Heap → RT
abbrev BT := (CT → Run) → CT → Nat → Nat → Pl → Heap → RT
noncomputable def kSkip : BT := fun _ _ _ m T H => .ok .n m T H
noncomputable def kReg (ops : List Op1) : BT := fun run ih n m T H => opsT (run ih) ops n m T H
noncomputable def thenT (ih : CT) (n : Nat) (b : XC) (r : RT) : RT := match r with
  | .ok .n m T H => ih n b m T H
  | r => r
noncomputable def kSeq (a b : XC) : BT := fun _ ih n m T H => thenT ih n b (ih n a m T H)
noncomputable def kCond (c : Opd) (a b : XC) : BT := fun _ ih n m T H => match evT m T c with
  | .bool true => ih n a m T H
  | .bool false => ih n b m T H
  | _ => .no
noncomputable def keepT (n : Nat) (l : List Bool) (e : Ex) (m : Nat) (T : Pl) (H : Heap) : RT := cond (Nat.beq (lenL l) n) (.ok e (Nat.land m (nOfL l)) T H) .no
noncomputable def blockT (n id : Nat) (l : List Bool) (r : RT) : RT := match r with
  | .ok .n m T H => keepT n l .n m T H
  | .ok (.x j) m T H => cond (Nat.beq j id) (keepT n l .n m T H) (.ok (.x j) m T H)
  | r => r
noncomputable def kBlock (id : Nat) (l : List Bool) (b : XC) : BT := fun _ ih n m T H => blockT n id l (ih n b m T H)
noncomputable def loopT (ih : CT) (n : Nat) (l : List Bool) (b : XC) (r : RT) : RT := match r with
  | .ok .n m T H => ih n (.loop l b) m T H
  | r => r
noncomputable def kLoop (l : List Bool) (b : XC) : BT := fun _ ih n m T H => cond (Nat.beq (lenL l) n) (loopT ih n l b (ih n b (Nat.land m (nOfL l)) T H)) .no
noncomputable def kExit (id : Nat) (l : List Bool) : BT := fun _ _ n m T H => keepT n l (.x id) m T H
noncomputable def kRet (l : List Bool) : BT := fun _ _ n m T H => keepT n l .r m T H

noncomputable def bodyT (c : XC) : BT := XC.casesOn (motive := fun _ => BT) c kSkip kReg kSeq kCond kBlock kLoop kExit kRet

noncomputable def startT (args : List AV) : Nat → Nat → Pl → Nat × Pl := List.rec (motive := fun _ => Nat → Nat → Pl → Nat × Pl) (fun _ m T => (m, T)) (fun v _ ih i m T => ih (Nat.succ i) (Nat.lor m (Nat.shiftLeft 1 i)) (tset 9 T i v)) args

noncomputable def resT1 (H : Heap) (m : Nat) (T : Pl) : Res → Option AV
  | .tmp t => some (rd m T t)
  | .cell t sz => loadA H sz (rd m T t)
noncomputable def resultT (rs : List Res) (m : Nat) (T : Pl) (H : Heap) : Option AV := match rs with
  | [r] => resT1 H m T r
  | _ => (rs.mapM (resT1 H m T)).map .tup
noncomputable def leaveT (rs : List Res) (r : RT) : Option (AV × Heap) := match r with
  | .ok (.x _) _ _ _ => none
  | .ok _ m T H => (resultT rs m T H).map fun v => (v, H)
  | .no => none
noncomputable def enterT (F : XF) (code : CT) (args : List AV) (H : Heap) : Option (AV × Heap) :=
  cond (Nat.beq args.length F.np && Nat.ble F.np F.nt && Nat.ble F.nt 511) (leaveT F.res (code F.nt F.body (startT args 0 0 .e).1 (startT args 0 0 .e).2 H)) none
noncomputable def runT (E : Nat → Option XF) (Y : Run) (code : CT) : Run := fun f args H => match E f with
  | some F => enterT F code args H
  | none => Y f args H
noncomputable def codeT (E : Nat → Option XF) (Y : Run) (k : Nat) : CT := Nat.rec (motive := fun _ => CT) (fun _ _ _ _ _ => .no) (fun _ ih n c m T H => bodyT c (runT E Y) ih n m T H) k
noncomputable def callT (E : Nat → Option XF) (Y : Run) (k : Nat) : Run := runT E Y (codeT E Y k)
end Go.X

/-! The second way comes to what the first one comes to. -/
set_option linter.unusedSimpArgs false
set_option linter.unusedVariables false
namespace Go.X
open Go Go.RowKit

theorem want_eq {n m : Nat} {fr : List AV} {T : Pl} (h : FT n fr m T) (g : Option (Nat × Bool)) : wantT g m T = wantedA g fr := by
  cases g with
  | none => rfl
  | some p => obtain ⟨t, b⟩ := p; simp only [wantT, wantedA, ← h.get t]; rfl

theorem nxt_sound {n m : Nat} {fr : List AV} {T : Pl} {H H' : Heap} {d : Option Nat} {v : AV} {k : Knt} {e : Ex} {m' : Nat} {T' : Pl} (h : FT n fr m T) (hr : nxtT d v k n m T H = .ok e m' T' H') :
    ∃ m1 T1, FT n (putA fr d v) m1 T1 ∧ k n m1 T1 H = .ok e m' T' H' := by
  cases d with
  | none => exact ⟨m, T, h, hr⟩
  | some d =>
    have hr : cond (Nat.ble (Nat.succ d) n) (k n (Nat.lor m (Nat.shiftLeft 1 d)) (tset 9 T d v) H) .no = .ok e m' T' H' := hr
    cases hb : Nat.ble (Nat.succ d) n with
    | false => rw [hb] at hr; cases hr
    | true =>
      rw [hb] at hr
      exact ⟨_, _, h.set (Nat.le_of_ble_eq_true hb), hr⟩

theorem ops_sound {R R' : Run} (hR : RLe R R') : ∀ (l : List Op1) {n m : Nat} {fr : List AV} {T : Pl} {H H' : Heap} {e : Ex} {m' : Nat} {T' : Pl}, FT n fr m T → opsT R l n m T H = .ok e m' T' H' → ∃ fr', opsA R' l fr H = some (fr', H') ∧ e = .n ∧ FT n fr' m' T'
  | [], n, m, fr, T, H, H', e, m', T', h, hr => by
    have hr : RT.ok .n m T H = .ok e m' T' H' := hr
    cases hr
    exact ⟨fr, rfl, rfl, h⟩
  | o :: l, n, m, fr, T, H, H', e, m', T', h, hr => by
    have hr : stepT R o (opsT R l) n m T H = .ok e m' T' H' := hr
    unfold stepT at hr
    rw [want_eq h] at hr
    simp only [opsA, stepA]
    cases hw : wantedA o.guard fr with
    | none => rw [hw] at hr; cases hr
    | some b =>
      cases b with
      | false =>
        rw [hw] at hr
        obtain ⟨m1, T1, h1, h2⟩ := nxt_sound h hr
        exact ops_sound hR l h1 h2
      | true =>
        rw [hw] at hr
        simp only at hr
        rw [h.ev, insT_eq] at hr
        cases hi : insA R o.ins fr H with
        | none => rw [hi] at hr; cases hr
        | some q =>
          obtain ⟨v, H1⟩ := q
          rw [hi] at hr
          obtain ⟨m1, T1, h1, h2⟩ := nxt_sound h hr
          simp only [insA_le hR hi]
          exact ops_sound hR l h1 h2

/-- What code of the one way says of the other's. -/
def CS (c : CT) (x : XC → List AV → Heap → Option (Ex × List AV × Heap)) : Prop := ∀ (b : XC) {n m : Nat} {fr : List AV} {T : Pl} {H H' : Heap} {e : Ex} {m' : Nat} {T' : Pl}, FT n fr m T → c n b m T H = .ok e m' T' H' → ∃ fr', x b fr H = some (e, fr', H') ∧ FT n fr' m' T'

theorem start_ok {n : Nat} : ∀ (args : List AV) (i m : Nat) (T : Pl) (pre : List AV), pre.length = i → i + args.length ≤ n → FT n (pre ++ List.replicate (n - i) .undef) m T →
    FT n (pre ++ args ++ List.replicate (n - i - args.length) .undef) (startT args i m T).1 (startT args i m T).2
  | [], i, m, T, pre, hp, hl, h => by
    show FT n (pre ++ [] ++ List.replicate (n - i - 0) .undef) m T
    simpa using h
  | v :: args, i, m, T, pre, hp, hl, h => by
    have hl2 : i < n := by simp at hl; omega
    have h1 := h.set (v := v) hl2
    have e : (pre ++ List.replicate (n - i) AV.undef).set i v = pre ++ [v] ++ List.replicate (n - (i + 1)) .undef := by
      rw [show n - i = (n - (i + 1)) + 1 by omega, List.replicate_succ, List.set_append_right _ _ (by omega), hp, Nat.sub_self]
      simp
    rw [e] at h1
    have h2 := start_ok args (i + 1) _ _ (pre ++ [v]) (by simp; omega) (by simp at hl; omega) h1
    have e2 : pre ++ [v] ++ args ++ List.replicate (n - (i + 1) - args.length) AV.undef = pre ++ v :: args ++ List.replicate (n - i - (v :: args).length) .undef := by
      simp; omega
    rw [e2] at h2
    exact h2

theorem res_eq {n m : Nat} {fr : List AV} {T : Pl} {H : Heap} (h : FT n fr m T) (rs : List Res) : resultT rs m T H = resultA rs fr H := by
  have e : resT1 H m T = resA H fr := by
    funext r
    cases r with
    | tmp t => simp only [resT1, resA, ← h.get t]
    | cell t sz => simp only [resT1, resA, ← h.get t]
  unfold resultT resultA
  rw [e]; rfl

theorem runT_sound {E : Nat → Option XF} {Y : Run} {c : CT} {x : XC → List AV → Heap → Option (Ex × List AV × Heap)} (h : CS c x) : RLe (runT E Y c) (runX E Y x) := by
  intro f args H r hr
  unfold runT at hr
  unfold runX
  cases hE : E f with
  | none => rw [hE] at hr; exact hr
  | some F =>
    rw [hE] at hr
    simp only at hr ⊢
    unfold enterT at hr
    unfold enterX
    cases hb : (Nat.beq args.length F.np && Nat.ble F.np F.nt && Nat.ble F.nt 511) with
    | false => rw [hb] at hr; cases hr
    | true =>
      rw [hb] at hr
      simp only [Bool.and_eq_true] at hb
      obtain ⟨⟨b1, b2⟩, b3⟩ := hb
      have b1 := Nat.eq_of_beq_eq_true b1
      have b2 := Nat.le_of_ble_eq_true b2
      have b3 := Nat.le_of_ble_eq_true b3
      rw [if_pos b1]
      have h0 : FT F.nt (List.replicate F.nt .undef) 0 .e := ⟨by simp, b3, fun i => by
        rw [rd_eq]
        simp only [Nat.zero_testBit, Bool.false_eq_true, if_false]
        rw [List.getD_eq_getElem?_getD, List.getElem?_replicate]
        split <;> rfl, fun i _ => by simp⟩
      have h1 := start_ok (n := F.nt) args 0 0 .e [] rfl (by omega) (by simpa using h0)
      rw [List.nil_append, Nat.sub_zero, b1] at h1
      simp only [cond_true] at hr
      cases hc : c F.nt F.body (startT args 0 0 .e).1 (startT args 0 0 .e).2 H with
      | no => rw [hc] at hr; cases hr
      | ok e m T H' =>
        rw [hc] at hr
        obtain ⟨fr', h2, h3⟩ := h F.body h1 hc
        rw [h2]
        cases e with
        | x j => cases hr
        | n => simp only [leaveT, res_eq h3] at hr; exact hr
        | r => simp only [leaveT, res_eq h3] at hr; exact hr

theorem keepT_sound {n m : Nat} {fr : List AV} {T : Pl} {H H' : Heap} {l : List Bool} {e e' : Ex} {m' : Nat} {T' : Pl} (h : FT n fr m T) (hr : keepT n l e m T H = .ok e' m' T' H') : e' = e ∧ H' = H ∧ FT n (keepA l fr) m' T' := by
  unfold keepT at hr
  cases hb : Nat.beq (lenL l) n with
  | false => rw [hb] at hr; cases hr
  | true => rw [hb] at hr; cases hr; exact ⟨rfl, rfl, h.keep (Nat.eq_of_beq_eq_true hb)⟩

theorem codeT_sound {E : Nat → Option XF} {Y : Run} : ∀ k, CS (codeT E Y k) (codeX E Y k)
  | 0 => fun b => by intro n m fr T H H' e m' T' h hr; cases hr
  | k + 1 => fun b => by
    have ih := codeT_sound (E := E) (Y := Y) k
    intro n m fr T H H' e m' T' h hr
    have hr : bodyT b (runT E Y) (codeT E Y k) n m T H = .ok e m' T' H' := hr
    cases b with
    | skip =>
      have hr : RT.ok .n m T H = .ok e m' T' H' := hr
      cases hr
      exact ⟨fr, rfl, h⟩
    | reg ops =>
      have hr : opsT (runT E Y (codeT E Y k)) ops n m T H = .ok e m' T' H' := hr
      obtain ⟨fr', h1, rfl, h2⟩ := ops_sound (runT_sound ih) ops h hr
      exact ⟨fr', by simp only [codeX, h1], h2⟩
    | seq a b =>
      have hr : thenT (codeT E Y k) n b (codeT E Y k n a m T H) = .ok e m' T' H' := hr
      cases ha : codeT E Y k n a m T H with
      | no => rw [ha] at hr; cases hr
      | ok e1 m1 T1 H1 =>
        rw [ha] at hr
        obtain ⟨fr1, h1, h2⟩ := ih a h ha
        cases e1 with
        | n =>
          obtain ⟨fr2, h3, h4⟩ := ih b h2 hr
          exact ⟨fr2, by simp only [codeX, h1, h3], h4⟩
        | x j => cases hr; exact ⟨fr1, by simp only [codeX, h1], h2⟩
        | r => cases hr; exact ⟨fr1, by simp only [codeX, h1], h2⟩
    | cond c a b =>
      have hr : kCond c a b (runT E Y) (codeT E Y k) n m T H = .ok e m' T' H' := hr
      unfold kCond at hr
      rw [h.ev] at hr
      simp only [codeX]
      split at hr
      · rename_i hc; rw [show c.ev fr = _ from hc]; exact ih a h hr
      · rename_i hc; rw [show c.ev fr = _ from hc]; exact ih b h hr
      · cases hr
    | block id l b =>
      have hr : blockT n id l (codeT E Y k n b m T H) = .ok e m' T' H' := hr
      cases ha : codeT E Y k n b m T H with
      | no => rw [ha] at hr; cases hr
      | ok e1 m1 T1 H1 =>
        rw [ha] at hr
        obtain ⟨fr1, h1, h2⟩ := ih b h ha
        cases e1 with
        | n =>
          obtain ⟨rfl, rfl, h3⟩ := keepT_sound h2 hr
          exact ⟨_, by simp only [codeX, h1], h3⟩
        | x j =>
          have hr : cond (Nat.beq j id) (keepT n l .n m1 T1 H1) (.ok (.x j) m1 T1 H1) = .ok e m' T' H' := hr
          cases hb : Nat.beq j id with
          | true =>
            rw [hb] at hr
            obtain ⟨rfl, rfl, h3⟩ := keepT_sound h2 hr
            exact ⟨_, by simp only [codeX, h1, if_pos (Nat.eq_of_beq_eq_true hb)], h3⟩
          | false =>
            rw [hb] at hr
            have hr : RT.ok (.x j) m1 T1 H1 = .ok e m' T' H' := hr
            cases hr
            exact ⟨_, by simp only [codeX, h1, if_neg (Nat.ne_of_beq_eq_false hb)], h2⟩
        | r => cases hr; exact ⟨fr1, by simp only [codeX, h1], h2⟩
    | loop l b =>
      have hr : cond (Nat.beq (lenL l) n) (loopT (codeT E Y k) n l b (codeT E Y k n b (Nat.land m (nOfL l)) T H)) .no = .ok e m' T' H' := hr
      cases hb : Nat.beq (lenL l) n with
      | false => rw [hb] at hr; cases hr
      | true =>
        rw [hb] at hr
        simp only [cond_true] at hr
        have hk := h.keep (Nat.eq_of_beq_eq_true hb)
        cases ha : codeT E Y k n b (Nat.land m (nOfL l)) T H with
        | no => rw [ha] at hr; cases hr
        | ok e1 m1 T1 H1 =>
          rw [ha] at hr
          obtain ⟨fr1, h1, h2⟩ := ih b hk ha
          cases e1 with
          | n =>
            obtain ⟨fr2, h3, h4⟩ := ih (.loop l b) h2 hr
            exact ⟨fr2, by simp only [codeX, h1, h3], h4⟩
          | x j => cases hr; exact ⟨fr1, by simp only [codeX, h1], h2⟩
          | r => cases hr; exact ⟨fr1, by simp only [codeX, h1], h2⟩
    | exit id l =>
      obtain ⟨rfl, rfl, h3⟩ := keepT_sound h (show keepT n l (.x id) m T H = _ from hr)
      exact ⟨_, by simp only [codeX], h3⟩
    | ret l =>
      obtain ⟨rfl, rfl, h3⟩ := keepT_sound h (show keepT n l .r m T H = _ from hr)
      exact ⟨_, by simp only [codeX], h3⟩

/-- A call that is run in the kernel. -/
theorem callT_run {E : Nat → Option XF} {Y : Run} {k f : Nat} {args : List AV} {H : Heap} {r : AV × Heap} (h : callT E Y k f args H = some r) : callL E Y f args H = some r :=
  callL_iff.2 ⟨k, runT_sound (codeT_sound k) _ _ _ _ h⟩

/-- A call that shares nothing, run in the kernel. -/
theorem freeT {E : Nat → Option XF} {Y : Run} {k f : Nat} {args : List AV} {H H0 : Heap} {r : AV × Heap} (h : freeX H (callT E Y k f args H0) = some r) : freeX H (callL E Y f args H0) = some r := by
  cases hc : callT E Y k f args H0 with
  | none => rw [hc] at h; cases h
  | some q => rw [callT_run hc]; rw [hc] at h; exact h
end Go.X

/-! A run in which some calls are known beforehand. -/
set_option linter.unusedSimpArgs false
set_option linter.unusedVariables false
namespace Go.X
open Go Go.RowKit
section
variable {E E' : Nat → Option XF} {Y Y' : Run}

theorem runX_memo (hE : ∀ f F, E' f = some F → E f = some F) (hY : RLe Y' (callL E Y)) {c : XC → List AV → Heap → Option (Ex × List AV × Heap)} (hc : ∀ x fr H r, c x fr H = some r → codeL E Y x fr H = some r) : RLe (runX E' Y' c) (callL E Y) := by
  intro f args H r hr
  unfold runX at hr
  cases h : E' f with
  | none => rw [h] at hr; exact hY _ _ _ _ hr
  | some F =>
    rw [h] at hr
    simp only at hr
    unfold callL runX
    rw [hE _ _ h]
    simp only
    unfold enterX at hr ⊢
    split at hr
    · rename_i hn
      rw [if_pos hn]
      cases hq : c F.body (args ++ List.replicate (F.nt - F.np) .undef) H with
      | none => simp [hq] at hr
      | some q => rw [hq] at hr; rw [hc _ _ _ _ hq]; exact hr
    · cases hr

theorem codeX_memo (hE : ∀ f F, E' f = some F → E f = some F) (hY : RLe Y' (callL E Y)) : ∀ (k : Nat) (x : XC) (fr : List AV) (H : Heap) (r : Ex × List AV × Heap), codeX E' Y' k x fr H = some r → codeL E Y x fr H = some r
  | 0, x, fr, H, r, hr => by simp [codeX] at hr
  | k + 1, x, fr, H, r, hr => by
    have ih := codeX_memo hE hY k
    cases x with
    | skip => simp only [codeX] at hr; rw [codeL_skip]; exact hr
    | exit id l => simp only [codeX] at hr; rw [codeL_exit]; exact hr
    | ret l => simp only [codeX] at hr; rw [codeL_ret]; exact hr
    | reg ops =>
      rw [codeX] at hr
      rw [codeL_reg]
      unfold opsL
      cases hi : opsA (runX E' Y' (codeX E' Y' k)) ops fr H with
      | none => simp [hi] at hr
      | some q => rw [hi] at hr; rw [opsA_le (runX_memo hE hY ih) hi]; exact hr
    | seq a b =>
      rw [codeX] at hr
      rw [codeL_seq]
      cases hi : codeX E' Y' k a fr H with
      | none => simp [hi] at hr
      | some q =>
        obtain ⟨ex, fr1, H1⟩ := q
        rw [hi] at hr; rw [ih _ _ _ _ hi]
        cases ex with
        | n => exact ih _ _ _ _ hr
        | _ => exact hr
    | cond o a b =>
      rw [codeX] at hr
      rw [codeL_cond]
      split at hr
      · rename_i hb; rw [hb]; exact ih _ _ _ _ hr
      · rename_i hb; rw [hb]; exact ih _ _ _ _ hr
      · cases hr
    | block id live b =>
      rw [codeX] at hr
      rw [codeL_block]
      cases hi : codeX E' Y' k b fr H with
      | none => simp [hi] at hr
      | some q => rw [hi] at hr; rw [ih _ _ _ _ hi]; exact hr
    | loop live b =>
      rw [codeX] at hr
      rw [codeL_loop]
      cases hi : codeX E' Y' k b (keepA live fr) H with
      | none => simp [hi] at hr
      | some q =>
        obtain ⟨ex, fr1, H1⟩ := q
        rw [hi] at hr; rw [ih _ _ _ _ hi]
        cases ex with
        | n => exact ih _ _ _ _ hr
        | _ => exact hr

/-- A run in the kernel, with calls that are known. -/
theorem memoT (hE : ∀ f F, E' f = some F → E f = some F) (hY : RLe Y' (callL E Y)) {k f : Nat} {args : List AV} {H : Heap} {r : AV × Heap} (h : callT E' Y' k f args H = some r) : callL E Y f args H = some r :=
  runX_memo hE hY (codeX_memo hE hY k) _ _ _ _ (runT_sound (codeT_sound k) _ _ _ _ h)

theorem memoFree (hE : ∀ f F, E' f = some F → E f = some F) (hY : RLe Y' (callL E Y)) {k f : Nat} {args : List AV} {H H0 : Heap} {r : AV × Heap} (h : freeX H (callT E' Y' k f args H0) = some r) : freeX H (callL E Y f args H0) = some r := by
  cases hc : callT E' Y' k f args H0 with
  | none => rw [hc] at h; cases h
  | some q => rw [memoT hE hY hc]; rw [hc] at h; exact h

/-- A call that is known to share nothing: its result may stand in for it where no heap is handed in. -/
theorem free_raw {R : Run} {f : Nat} {args : List AV} {v : AV} (h : ∀ H, freeX H (R f args []) = some (v, H)) : ∃ v0 H0, R f args [] = some (v0, H0) ∧ freeA H0 6 v0 = some v := by
  have := h []
  cases hc : R f args [] with
  | none => rw [hc] at this; cases this
  | some q =>
    obtain ⟨v0, H0⟩ := q
    rw [hc] at this
    refine ⟨v0, H0, rfl, ?_⟩
    simp only [freeX, pairX] at this
    cases hf : freeA H0 6 v0 with
    | none => rw [hf] at this; cases this
    | some w => rw [hf] at this; simp at this; rw [this]
end
end Go.X
