import Derived.Test.YtdkgicdbjemalaaDoorXS
/-! A second way to run the small machine, made for the kernel: places in a tree, each instruction a constant of its own. -/
set_option linter.unusedSimpArgs false
set_option linter.unusedVariables false
namespace Go.X
open Go Go.RowKit

/-! ### Places -/
inductive Pl where
  | e
  | n (v : AV) (l r : Pl)

noncomputable def tget (T : Pl) : Nat → AV := Pl.rec (motive := fun _ => Nat → AV) (fun _ => .undef) (fun v _ _ gl gr i => cond (Nat.beq i 0) v (cond (Nat.beq (Nat.mod i 2) 1) (gl (Nat.div i 2)) (gr (Nat.sub (Nat.div i 2) 1)))) T
noncomputable def lft (T : Pl) : Pl := Pl.casesOn T .e fun _ l _ => l
noncomputable def rgt (T : Pl) : Pl := Pl.casesOn T .e fun _ _ r => r
noncomputable def val (T : Pl) : AV := Pl.casesOn T .undef fun v _ _ => v
noncomputable def tset (d : Nat) : Pl → Nat → AV → Pl := Nat.rec (motive := fun _ => Pl → Nat → AV → Pl) (fun T _ _ => T)
  (fun _ ih T i v => cond (Nat.beq i 0) (.n v (lft T) (rgt T)) (cond (Nat.beq (Nat.mod i 2) 1) (.n (val T) (ih (lft T) (Nat.div i 2) v) (rgt T)) (.n (val T) (lft T) (ih (rgt T) (Nat.sub (Nat.div i 2) 1) v)))) d

theorem tget_e {i : Nat} : tget .e i = .undef := rfl
theorem tget_n {v : AV} {l r : Pl} {i : Nat} : tget (.n v l r) i = if i = 0 then v else if i % 2 = 1 then tget l (i / 2) else tget r (i / 2 - 1) := by
  show cond (Nat.beq i 0) v (cond (Nat.beq (Nat.mod i 2) 1) (tget l (Nat.div i 2)) (tget r (Nat.sub (Nat.div i 2) 1))) = _
  by_cases h0 : i = 0
  · subst h0; rfl
  · rw [if_neg h0, show Nat.beq i 0 = false from by cases i with | zero => exact absurd rfl h0 | succ i => rfl, cond_false]
    by_cases h1 : i % 2 = 1
    · rw [if_pos h1, show Nat.mod i 2 = 1 from h1]; rfl
    · rw [if_neg h1, show Nat.mod i 2 = 0 from (show i % 2 = 0 by omega)]; rfl
theorem tget_split {T : Pl} {i : Nat} : tget T i = if i = 0 then val T else if i % 2 = 1 then tget (lft T) (i / 2) else tget (rgt T) (i / 2 - 1) := by
  cases T with
  | e => simp only [tget_e, val, lft, rgt, ite_self]
  | n v l r => rw [tget_n]; rfl
theorem tset_s {d i : Nat} {T : Pl} {v : AV} : tset (d + 1) T i v = if i = 0 then .n v (lft T) (rgt T) else if i % 2 = 1 then .n (val T) (tset d (lft T) (i / 2) v) (rgt T) else .n (val T) (lft T) (tset d (rgt T) (i / 2 - 1) v) := by
  show cond (Nat.beq i 0) (Pl.n v (lft T) (rgt T)) (cond (Nat.beq (Nat.mod i 2) 1) (.n (val T) (tset d (lft T) (Nat.div i 2) v) (rgt T)) (.n (val T) (lft T) (tset d (rgt T) (Nat.sub (Nat.div i 2) 1) v))) = _
  by_cases h0 : i = 0
  · subst h0; rfl
  · rw [if_neg h0, show Nat.beq i 0 = false from by cases i with | zero => exact absurd rfl h0 | succ i => rfl, cond_false]
    by_cases h1 : i % 2 = 1
    · rw [if_pos h1, show Nat.mod i 2 = 1 from h1]; rfl
    · rw [if_neg h1, show Nat.mod i 2 = 0 from (show i % 2 = 0 by omega)]; rfl

theorem tget_tset {v : AV} : ∀ (d : Nat) (T : Pl) (i j : Nat), i + 1 < 2 ^ d → tget (tset d T i v) j = if i = j then v else tget T j
  | 0, T, i, j, h => by simp at h
  | d + 1, T, i, j, h => by
    have hp : 2 ^ (d + 1) = 2 * 2 ^ d := by rw [Nat.pow_succ]; omega
    rw [tset_s, tget_split (T := T) (i := j)]
    by_cases h0 : i = 0
    · rw [if_pos h0, tget_n]
      subst h0
      by_cases hj : j = 0
      · subst hj; simp
      · rw [if_neg hj, if_neg (Ne.symm hj), if_neg hj]
    · rw [if_neg h0]
      by_cases h1 : i % 2 = 1
      · rw [if_pos h1, tget_n, tget_tset d _ _ _ (by omega)]
        by_cases hj : j = 0
        · rw [if_pos hj, if_pos hj, if_neg (by omega)]
        · rw [if_neg hj, if_neg hj]
          by_cases h2 : j % 2 = 1
          · rw [if_pos h2, if_pos h2]
            by_cases e : i / 2 = j / 2
            · rw [if_pos e, if_pos (by omega)]
            · rw [if_neg e, if_neg (by omega)]
          · rw [if_neg h2, if_neg h2, if_neg (by omega)]
      · rw [if_neg h1, tget_n, tget_tset d _ _ _ (by omega)]
        by_cases hj : j = 0
        · rw [if_pos hj, if_pos hj, if_neg (by omega)]
        · rw [if_neg hj, if_neg hj]
          by_cases h2 : j % 2 = 1
          · rw [if_pos h2, if_pos h2, if_neg (by omega)]
          · rw [if_neg h2, if_neg h2]
            by_cases e : i / 2 - 1 = j / 2 - 1
            · rw [if_pos e, if_pos (by omega)]
            · rw [if_neg e, if_neg (by omega)]

/-- Which places are filled, as a number's digits. -/
noncomputable def rd (m : Nat) (T : Pl) (i : Nat) : AV := cond (Nat.beq (Nat.mod (Nat.shiftRight m i) 2) 1) (tget T i) .undef
noncomputable def evT (m : Nat) (T : Pl) (o : Opd) : AV := Opd.casesOn o (fun i => rd m T i) (fun v => v)

theorem rd_eq {m i : Nat} {T : Pl} : rd m T i = if m.testBit i = true then tget T i else .undef := by
  have e : Nat.beq (Nat.mod (Nat.shiftRight m i) 2) 1 = m.testBit i := by
    rw [Nat.testBit_eq_decide_div_mod_eq]
    show Nat.beq ((m >>> i) % 2) 1 = _
    rw [Nat.shiftRight_eq_div_pow]
    generalize m / 2 ^ i % 2 = x
    rcases x with _ | _ | x
    · rfl
    · rfl
    · simp [Nat.beq]
  unfold rd
  rw [e]
  cases m.testBit i <;> rfl

/-- A frame, and its tree. -/
structure FT (n : Nat) (fr : List AV) (m : Nat) (T : Pl) : Prop where
  len : fr.length = n
  small : n ≤ 511
  get : ∀ i, fr.getD i .undef = rd m T i
  low : ∀ i, n ≤ i → m.testBit i = false

theorem FT.ev {n m : Nat} {fr : List AV} {T : Pl} (h : FT n fr m T) : evT m T = fun o => o.ev fr := by
  funext o
  cases o with
  | t i => exact (h.get i).symm
  | c v => rfl

theorem FT.set {n m d : Nat} {fr : List AV} {T : Pl} {v : AV} (h : FT n fr m T) (hd : d < n) : FT n (fr.set d v) (Nat.lor m (Nat.shiftLeft 1 d)) (tset 9 T d v) := by
  have e : ∀ i, (Nat.lor m (Nat.shiftLeft 1 d)).testBit i = (m.testBit i || decide (d = i)) := by
    intro i
    show (m ||| (1 <<< d)).testBit i = _
    rw [Nat.testBit_or, Nat.shiftLeft_eq, Nat.one_mul, Nat.testBit_two_pow]
  refine ⟨by simpa using h.len, h.small, fun i => ?_, fun i hi => ?_⟩
  · have hs := h.small
    rw [rd_eq, e, tget_tset 9 T d i (by omega)]
    by_cases hi : d = i
    · subst hi
      rw [if_pos rfl, List.getD_eq_getElem?_getD, List.getElem?_set_self (by have := h.len; omega)]
      simp
    · have := h.get i
      rw [rd_eq] at this
      rw [if_neg hi, List.getD_eq_getElem?_getD, List.getElem?_set_ne hi, ← List.getD_eq_getElem?_getD, this]
      simp [hi]
  · rw [e, h.low i hi]
    simp; omega

/-- What stays, as a number. -/
noncomputable def nOfL (l : List Bool) : Nat := List.rec (motive := fun _ => Nat) 0 (fun b _ s => Nat.add (Nat.mul 2 s) (cond b 1 0)) l
noncomputable def lenL (l : List Bool) : Nat := List.rec (motive := fun _ => Nat) 0 (fun _ _ s => Nat.succ s) l
theorem lenL_eq : ∀ l : List Bool, lenL l = l.length
  | [] => rfl
  | b :: l => by show Nat.succ (lenL l) = _; rw [lenL_eq l]; rfl
theorem nOfL_bit : ∀ (l : List Bool) (i : Nat), (nOfL l).testBit i = l.getD i false
  | [], i => by show Nat.testBit 0 i = _; simp
  | b :: l, 0 => by
    show Nat.testBit (2 * nOfL l + cond b 1 0) 0 = b
    rw [Nat.testBit_zero]
    cases b <;> simp <;> omega
  | b :: l, i + 1 => by
    show Nat.testBit (2 * nOfL l + cond b 1 0) (i + 1) = _
    rw [Nat.testBit_succ]
    have : (2 * nOfL l + cond b 1 0) / 2 = nOfL l := by cases b <;> simp <;> omega
    rw [this, nOfL_bit l i]
    rfl

theorem keepT_get : ∀ (l : List Bool) (fr : List AV) (i : Nat), l.length = fr.length → (keepA l fr).getD i .undef = if l.getD i false = true then fr.getD i .undef else .undef
  | [], fr, i, h => by
    have : fr = [] := List.eq_nil_of_length_eq_zero h.symm
    subst this; simp [keepA]
  | b :: l, [], i, h => by simp at h
  | b :: l, v :: fr, 0, h => by cases b <;> simp [keepA]
  | b :: l, v :: fr, i + 1, h => by
    have := keepT_get l fr i (by simpa using h)
    simpa [keepA] using this

theorem keepT_len : ∀ (l : List Bool) (fr : List AV), (keepA l fr).length = fr.length
  | [], fr => by simp [keepA]
  | b :: l, [] => by simp [keepA]
  | b :: l, v :: fr => by simp [keepA, keepT_len l fr]

theorem FT.keep {n m : Nat} {fr : List AV} {T : Pl} {l : List Bool} (h : FT n fr m T) (hl : lenL l = n) : FT n (keepA l fr) (Nat.land m (nOfL l)) T := by
  have e : ∀ i, (Nat.land m (nOfL l)).testBit i = (m.testBit i && l.getD i false) := by
    intro i
    show (m &&& nOfL l).testBit i = _
    rw [Nat.testBit_and, nOfL_bit]
  rw [lenL_eq] at hl
  refine ⟨by rw [keepT_len]; exact h.len, h.small, fun i => ?_, fun i hi => by rw [e, h.low i hi]; rfl⟩
  rw [keepT_get _ _ _ (by rw [hl, h.len]), h.get i, rd_eq, rd_eq, e]
  cases m.testBit i <;> cases l.getD i false <;> rfl

/-! ### Instructions -/
abbrev EvT := Opd → AV
abbrev InsT := Run → EvT → Heap → Option (AV × Heap)
noncomputable def outT (H : Heap) (o : Option AV) : Option (AV × Heap) := o.map fun v => (v, H)

noncomputable def bAdd (x y : AV) : Option AV := match x, y with | .int k a, .int k' b => if k = k' then some (.int k (k.wrap (a + b))) else none | _, _ => none
noncomputable def bSub (x y : AV) : Option AV := match x, y with | .int k a, .int k' b => if k = k' then some (.int k (k.wrap (a - b))) else none | _, _ => none
noncomputable def bMul (x y : AV) : Option AV := match x, y with | .int k a, .int k' b => if k = k' then some (.int k (k.wrap (a * b))) else none | _, _ => none
noncomputable def bEql (x y : AV) : Option AV := match x, y with | .int k a, .int k' b => if k = k' then some (.bool (a == b)) else none | _, _ => none
noncomputable def bNeq (x y : AV) : Option AV := match x, y with | .int k a, .int k' b => if k = k' then some (.bool (a != b)) else none | _, _ => none
noncomputable def bLss (x y : AV) : Option AV := match x, y with | .int k a, .int k' b => if k = k' then some (.bool (decide (a < b))) else none | _, _ => none
noncomputable def bLeq (x y : AV) : Option AV := match x, y with | .int k a, .int k' b => if k = k' then some (.bool (decide (a ≤ b))) else none | _, _ => none
noncomputable def bGtr (x y : AV) : Option AV := match x, y with | .int k a, .int k' b => if k = k' then some (.bool (decide (a > b))) else none | _, _ => none
noncomputable def bGeq (x y : AV) : Option AV := match x, y with | .int k a, .int k' b => if k = k' then some (.bool (decide (a ≥ b))) else none | _, _ => none

noncomputable def gMov (x : Opd) : InsT := fun _ ev H => some (ev x, H)
noncomputable def gPick (c a b : Opd) : InsT := fun _ ev H => match ev c with | .bool t => some (if t then ev a else ev b, H) | _ => none
noncomputable def gAlloc (zero : List AV) : InsT := fun _ _ H => some (.ptr H.length 0 0, H ++ [⟨0, zero⟩])
noncomputable def gBox (x : Opd) : InsT := fun _ ev H => if isU (ev x) then none else some (.ptr H.length 0 0, H ++ [⟨0, cellsOf (ev x)⟩])
noncomputable def gBuild (zero : List AV) (parts : List (Nat × Nat × Opd)) : InsT := fun _ ev H => outT H ((fillA zero (parts.map fun p => (p.1, p.2.1, ev p.2.2))).map .agg)
noncomputable def gBslice (esz len : Nat) (zero : List AV) (parts : List (Nat × Nat × Opd)) : InsT := fun _ ev H => match fillA (zerosA zero (len * esz)) (parts.map fun p => (p.1, p.2.1, ev p.2.2)) with
  | some cs => some (.sl H.length 0 esz 0 len none, H ++ [⟨0, cs⟩])
  | none => none
noncomputable def gLoad (sz : Option Nat) (p : Opd) : InsT := fun _ ev H => outT H (loadA H sz (ev p))
noncomputable def gStore (sz : Nat) (p x : Opd) : InsT := fun _ ev H => (storeA H sz (ev p) (ev x)).map fun H' => (.skp, H')
noncomputable def gChk (x : Opd) : InsT := fun _ ev H => outT H (chkA (ev x))
noncomputable def bAll (op : BinOp) : AV → AV → Option AV := match op with
  | .add => bAdd | .sub => bSub | .mul => bMul | .eql => bEql | .neq => bNeq | .lss => bLss | .leq => bLeq | .gtr => bGtr | .geq => bGeq
  | op => binA op
noncomputable def gBin (op : BinOp) (x y : Opd) : InsT := fun _ ev H => outT H (bAll op (ev x) (ev y))
noncomputable def gEqb (neg : Bool) (x y : Opd) : InsT := fun _ ev H => outT H (eqbA neg (ev x) (ev y))
noncomputable def gEqs (neg : Bool) (ks : List Bool) (x y : Opd) : InsT := fun _ ev H => outT H (eqsA neg ks (ev x) (ev y))
noncomputable def gEqn (neg : Bool) (x : Opd) : InsT := fun _ ev H => outT H (eqnA neg (ev x))
noncomputable def gUn (op : UnOp) (x : Opd) : InsT := fun _ ev H => outT H (unA op (ev x))
noncomputable def gConv (k : IntKind) (x : Opd) : InsT := fun _ ev H => match ev x with | .int _ n => some (.int k (k.wrap n), H) | _ => none
noncomputable def gMki (t : Nat) (x : Opd) : InsT := fun _ ev H => some (.iface t (ev x), H)
noncomputable def gMkf (f : Nat) (caps : List Opd) : InsT := fun _ ev H => some (.fn f (caps.map ev), H)
noncomputable def gMks (esz bytes : Nat) (zero : List AV) (l c : Opd) : InsT := fun _ ev H => match ev l, ev c with
  | .int .i64 n, .int .i64 m => if n = m ∧ 0 ≤ n ∧ n * bytes ≤ 140737488355328 ∧ n ≤ 9223372036854775807 ∧ zero.length = esz then
      some (.sl H.length 0 esz 0 n.toNat none, H ++ [⟨0, zerosA zero (n.toNat * esz)⟩]) else none
  | _, _ => none
noncomputable def gSlice (esz : Nat) (x : Opd) (lo hi mx : Option Opd) : InsT := fun _ ev H => outT H (sliceA esz (ev x) (lo.map ev) (hi.map ev) (mx.map ev))
noncomputable def gFieldA (off : Nat) (x : Opd) : InsT := fun _ ev H => outT H (fldA off (ev x))
noncomputable def gField (sz : Option Nat) (off : Nat) (x : Opd) : InsT := fun _ ev H => outT H (partA sz off (ev x))
noncomputable def gIndexA (esz : Nat) (x i : Opd) : InsT := fun _ ev H => outT H (idxA esz (ev x) (ev i))
noncomputable def gIndexP (esz n : Nat) (x i : Opd) : InsT := fun _ ev H => outT H (idxP esz n (ev x) (ev i))
noncomputable def gIndex (sz : Option Nat) (esz n : Nat) (x i : Opd) : InsT := fun _ ev H => match natOf (ev i) with
  | some j => if j < n then outT H (partA sz (j * esz) (ev x)) else none
  | none => none
noncomputable def gExt (x : Opd) (i : Nat) : InsT := fun _ ev H => match ev x with | .tup vs => outT H vs[i]? | _ => none
noncomputable def gLen (x : Opd) : InsT := fun _ ev H => outT H ((lenA (ev x)).map fun n => .int .i64 n)
noncomputable def gMnx (isMax : Bool) (xs : List Opd) : InsT := fun _ ev H => outT H (mnxA isMax (xs.map ev))
noncomputable def gApp (esz bytes : Nat) (x y : Opd) : InsT := fun _ ev H => appA H esz bytes (ev x) (ev y)
noncomputable def gCall (mode f : Nat) (args : List Opd) : InsT := fun run ev H => callA run mode f (args.map ev) H
noncomputable def gCalld (mode : Nat) (f : Opd) (args : List Opd) : InsT := fun run ev H => match ev f with | .fn g caps => callA run mode g (args.map ev ++ caps) H | _ => none
noncomputable def gCallm (mode : Nat) (tab : List (Nat × Nat)) (r : Opd) (args : List Opd) : InsT := fun run ev H => match ev r with
  | .iface t v => match tab.lookup t with
    | some g => callA run mode g (v :: args.map ev) H
    | none => none
  | _ => none
noncomputable def gApt (x y : Opd) : InsT := fun _ ev H => outT H (if apartV (ev x) (ev y) then some .skp else none)
noncomputable def gBad : InsT := fun _ _ _ => none

noncomputable def insT (i : Ins) : InsT := Ins.casesOn (motive := fun _ => InsT) i gMov gPick gAlloc gBox gBuild gBslice gLoad gStore gChk gBin gEqb gEqs gEqn gUn gConv gMki gMkf gMks gSlice gFieldA gField gIndexA gIndexP gIndex gExt gLen gMnx gApp gCall gCalld gCallm gApt gBad

theorem bAll_eq (op : BinOp) : bAll op = binA op := by
  funext x y
  cases op <;> first | rfl | (cases x <;> first | rfl | (cases y <;> rfl))

theorem insT_eq {R : Run} {fr : List AV} {H : Heap} (i : Ins) : insT i R (fun o => o.ev fr) H = insA R i fr H := by
  cases i with
  | bin op x y => show outT H (bAll op _ _) = _; rw [bAll_eq]; rfl
  | _ => rfl

/-! ### Code -/
inductive RT where
  | no
  | ok (e : Ex) (m : Nat) (T : Pl) (H : Heap)

noncomputable def wantT (g : Option (Nat × Bool)) (m : Nat) (T : Pl) : Option Bool := match g with
  | none => some true
  | some (t, b) => match rd m T t with
    | .bool c => some (c == b)
    | .skp => some false
    | _ => none

abbrev Knt := Nat → Nat → Pl → Heap → RT

/-- On with what comes out of an instruction. -/
noncomputable def nxtT (d : Option Nat) (v : AV) (k : Knt) : Knt := fun n m T H => Option.casesOn d (k n m T H) fun d => cond (Nat.ble (Nat.succ d) n) (k n (Nat.lor m (Nat.shiftLeft 1 d)) (tset 9 T d v) H) .no
noncomputable def aftT (d : Option Nat) (k : Option Nat → AV → Knt → Knt) (ks : Knt) (n m : Nat) (T : Pl) (r : Option (AV × Heap)) : RT := match r with
  | some (v, H') => k d v ks n m T H'
  | none => .no
noncomputable def stepT (R : Run) (o : Op1) (ks : Knt) : Knt := fun n m T H => match wantT o.guard m T with
  | some true => aftT o.dst nxtT ks n m T (insT o.ins R (evT m T) H)
  | some false => nxtT o.dst .skp ks n m T H
  | none => .no
noncomputable def endT : Knt := fun _ m T H => .ok .n m T H
noncomputable def opsT (R : Run) (l : List Op1) : Knt := List.rec (motive := fun _ => Knt) endT (fun o _ ks => stepT R o ks) l

abbrev CT := Nat → XC → Nat → Pl → Heap → RT
abbrev BT := (CT → Run) → CT → Nat → Nat → Pl → Heap → RT
noncomputable def kSkip : BT := fun _ _ _ m T H => .ok .n m T H
noncomputable def kReg (ops : List Op1) : BT := fun run ih n m T H => opsT (run ih) ops n m T H
noncomputable def thenT (ih : CT) (n : Nat) (b : XC) (r : RT) : RT := match r with
  | .ok .n m T H => ih n b m T H
  | r => r
noncomputable def kSeq (a b : XC) : BT := fun _ ih n m T H => thenT ih n b (ih n a m T H)
noncomputable def kCond (c : Opd) (a b : XC) : BT := fun _ ih n m T H => match evT m T c with
  | .bool true => ih n a m T H
  | .bool false => ih n b m T H
  | _ => .no
noncomputable def keepT (n : Nat) (l : List Bool) (e : Ex) (m : Nat) (T : Pl) (H : Heap) : RT := cond (Nat.beq (lenL l) n) (.ok e (Nat.land m (nOfL l)) T H) .no
noncomputable def blockT (n id : Nat) (l : List Bool) (r : RT) : RT := match r with
  | .ok .n m T H => keepT n l .n m T H
  | .ok (.x j) m T H => cond (Nat.beq j id) (keepT n l .n m T H) (.ok (.x j) m T H)
  | r => r
noncomputable def kBlock (id : Nat) (l : List Bool) (b : XC) : BT := fun _ ih n m T H => blockT n id l (ih n b m T H)
noncomputable def loopT (ih : CT) (n : Nat) (l : List Bool) (b : XC) (r : RT) : RT := match r with
  | .ok .n m T H => ih n (.loop l b) m T H
  | r => r
noncomputable def kLoop (l : List Bool) (b : XC) : BT := fun _ ih n m T H => cond (Nat.beq (lenL l) n) (loopT ih n l b (ih n b (Nat.land m (nOfL l)) T H)) .no
noncomputable def kExit (id : Nat) (l : List Bool) : BT := fun _ _ n m T H => keepT n l (.x id) m T H
noncomputable def kRet (l : List Bool) : BT := fun _ _ n m T H => keepT n l .r m T H

noncomputable def bodyT (c : XC) : BT := XC.casesOn (motive := fun _ => BT) c kSkip kReg kSeq kCond kBlock kLoop kExit kRet

noncomputable def startT (args : List AV) : Nat → Nat → Pl → Nat × Pl := List.rec (motive := fun _ => Nat → Nat → Pl → Nat × Pl) (fun _ m T => (m, T)) (fun v _ ih i m T => ih (Nat.succ i) (Nat.lor m (Nat.shiftLeft 1 i)) (tset 9 T i v)) args

noncomputable def resT1 (H : Heap) (m : Nat) (T : Pl) : Res → Option AV
  | .tmp t => some (rd m T t)
  | .cell t sz => loadA H sz (rd m T t)
noncomputable def resultT (rs : List Res) (m : Nat) (T : Pl) (H : Heap) : Option AV := match rs with
  | [r] => resT1 H m T r
  | _ => (rs.mapM (resT1 H m T)).map .tup
noncomputable def leaveT (rs : List Res) (r : RT) : Option (AV × Heap) := match r with
  | .ok (.x _) _ _ _ => none
  | .ok _ m T H => (resultT rs m T H).map fun v => (v, H)
  | .no => none
noncomputable def enterT (F : XF) (code : CT) (args : List AV) (H : Heap) : Option (AV × Heap) :=
  cond (Nat.beq args.length F.np && Nat.ble F.np F.nt && Nat.ble F.nt 511) (leaveT F.res (code F.nt F.body (startT args 0 0 .e).1 (startT args 0 0 .e).2 H)) none
noncomputable def runT (E : Nat → Option XF) (Y : Run) (code : CT) : Run := fun f args H => match E f with
  | some F => enterT F code args H
  | none => Y f args H
noncomputable def codeT (E : Nat → Option XF) (Y : Run) (k : Nat) : CT := Nat.rec (motive := fun _ => CT) (fun _ _ _ _ _ => .no) (fun _ ih n c m T H => bodyT c (runT E Y) ih n m T H) k
noncomputable def callT (E : Nat → Option XF) (Y : Run) (k : Nat) : Run := runT E Y (codeT E Y k)
end Go.X
