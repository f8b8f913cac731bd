import Derived.Test.YtppekkocioidkaaXC
/-! How the small machine is worked out, step by step. -/
set_option linter.unusedSimpArgs false
set_option linter.unusedVariables false
namespace Go.X
open Go Go.RowKit

/-- A mask. -/
def m : Nat → Nat → List Bool
  | 0, _ => []
  | n + 1, k => (k % 2 == 1) :: m n (k / 2)

def contX (r : Option (List AV × Heap)) (k : List AV → Heap → Option (Ex × List AV × Heap)) : Option (Ex × List AV × Heap) :=
  match r with
  | some (fr, H) => k fr H
  | none => none

def putX (fr : List AV) (d : Option Nat) (r : Option (AV × Heap)) : Option (List AV × Heap) :=
  match r with
  | some (v, H) => some (putA fr d v, H)
  | none => none

def wantX (w : Option Bool) (x y : Option (List AV × Heap)) : Option (List AV × Heap) :=
  match w with
  | some true => x
  | some false => y
  | none => none

section
variable {E : Nat → Option XF} {Y : Run} {fr : List AV} {H : Heap}

theorem opsL_nil : opsL E Y [] fr H = some (.n, fr, H) := rfl
theorem opsL_cons {o : Op1} {ops : List Op1} : opsL E Y (o :: ops) fr H = contX (stepA (callL E Y) o fr H) (opsL E Y ops) := by
  unfold opsL
  simp only [opsA]
  cases stepA (callL E Y) o fr H <;> rfl

theorem step_plain {R : Run} {d : Option Nat} {i : Ins} : stepA R ⟨none, d, i⟩ fr H = putX fr d (insA R i fr H) := by
  simp only [stepA, wantedA, putX]
  cases insA R i fr H <;> rfl

theorem step_guard {R : Run} {d : Option Nat} {i : Ins} {t : Nat} {b : Bool} : stepA R ⟨some (t, b), d, i⟩ fr H = wantX (wantedA (some (t, b)) fr) (putX fr d (insA R i fr H)) (some (putA fr d .skp, H)) := by
  unfold stepA
  simp only
  split <;> rename_i h <;> rw [h] <;> simp only [wantX]
  simp only [putX]
  cases insA R i fr H <;> rfl

theorem contX_some {k : List AV → Heap → Option (Ex × List AV × Heap)} : contX (some (fr, H)) k = k fr H := rfl
theorem contX_none {k : List AV → Heap → Option (Ex × List AV × Heap)} : contX none k = none := rfl
theorem contX_ite {p : Prop} [Decidable p] {x y : Option (List AV × Heap)} {k : List AV → Heap → Option (Ex × List AV × Heap)} : contX (if p then x else y) k = if p then contX x k else contX y k := by split <;> rfl
theorem putX_some {d : Option Nat} {v : AV} : putX fr d (some (v, H)) = some (putA fr d v, H) := rfl
theorem putX_ite {p : Prop} [Decidable p] {d : Option Nat} {x y : Option (AV × Heap)} : putX fr d (if p then x else y) = if p then putX fr d x else putX fr d y := by split <;> rfl
theorem putX_none {d : Option Nat} : putX fr d none = none := rfl
theorem wantX_true {x y : Option (List AV × Heap)} : wantX (some true) x y = x := rfl
theorem wantX_false {x y : Option (List AV × Heap)} : wantX (some false) x y = y := rfl
theorem wantX_bool {b : Bool} {x y : Option (List AV × Heap)} : wantX (some b) x y = if b = true then x else y := by cases b <;> rfl
theorem wanted_bool {t : Nat} {b c : Bool} (h : fr.getD t .undef = .bool c) : wantedA (some (t, b)) fr = some (c == b) := by
  simp only [wantedA]; rw [h]
theorem thenX_n {k : List AV → Heap → Option (Ex × List AV × Heap)} : thenX (some (.n, fr, H)) k = k fr H := rfl
theorem thenX_x {id : Nat} {k : List AV → Heap → Option (Ex × List AV × Heap)} : thenX (some (.x id, fr, H)) k = some (.x id, fr, H) := rfl
theorem thenX_r {k : List AV → Heap → Option (Ex × List AV × Heap)} : thenX (some (.r, fr, H)) k = some (.r, fr, H) := rfl
theorem thenX_none {k : List AV → Heap → Option (Ex × List AV × Heap)} : thenX none k = none := rfl
theorem thenX_ite {p : Prop} [Decidable p] {x y : Option (Ex × List AV × Heap)} {k : List AV → Heap → Option (Ex × List AV × Heap)} : thenX (if p then x else y) k = if p then thenX x k else thenX y k := by split <;> rfl
theorem blockX_n {id : Nat} {live : List Bool} : blockX id live (some (.n, fr, H)) = some (.n, keepA live fr, H) := rfl
theorem blockX_x {id j : Nat} {live : List Bool} : blockX id live (some (.x j, fr, H)) = if j = id then some (.n, keepA live fr, H) else some (.x j, fr, H) := rfl
theorem blockX_r {id : Nat} {live : List Bool} : blockX id live (some (.r, fr, H)) = some (.r, fr, H) := rfl
theorem blockX_ite {p : Prop} [Decidable p] {x y : Option (Ex × List AV × Heap)} {id : Nat} {live : List Bool} : blockX id live (if p then x else y) = if p then blockX id live x else blockX id live y := by split <;> rfl
theorem condX_true {x y : Option (Ex × List AV × Heap)} : condX (.bool true) x y = x := rfl
theorem condX_false {x y : Option (Ex × List AV × Heap)} : condX (.bool false) x y = y := rfl
theorem condX_bool {b : Bool} {x y : Option (Ex × List AV × Heap)} : condX (.bool b) x y = if b = true then x else y := by cases b <;> rfl
theorem endX_n {res : List Res} : endX res (some (.n, fr, H)) = (resultA res fr H).map fun v => (v, H) := rfl
theorem endX_r {res : List Res} : endX res (some (.r, fr, H)) = (resultA res fr H).map fun v => (v, H) := rfl
theorem endX_ite {p : Prop} [Decidable p] {res : List Res} {x y : Option (Ex × List AV × Heap)} : endX res (if p then x else y) = if p then endX res x else endX res y := by split <;> rfl

theorem keep_m {n k : Nat} {v : AV} {vs : List AV} : keepA (m (n + 1) k) (v :: vs) = (if (k % 2 == 1) = true then v else .undef) :: keepA (m n (k / 2)) vs := rfl
theorem keep_0 {k : Nat} {vs : List AV} : keepA (m 0 k) vs = vs := rfl

theorem beq_bt {b : Bool} : (b == true) = b := by cases b <;> rfl
theorem beq_bf {b : Bool} : (b == false) = !b := by cases b <;> rfl
theorem av_ite_bool {p : Prop} [Decidable p] {x y : Bool} : (if p then AV.bool x else AV.bool y) = AV.bool (if p then x else y) := by split <;> rfl
theorem av_ite_int {p : Prop} [Decidable p] {k : IntKind} {x y : Int} : (if p then AV.int k x else AV.int k y) = AV.int k (if p then x else y) := by split <;> rfl
/-! Calls. -/
def pairX (H : Heap) (v : Option AV) : Option (AV × Heap) := v.map fun v => (v, H)
def freeX (H : Heap) (r : Option (AV × Heap)) : Option (AV × Heap) := match r with
  | some (v, H') => pairX H (freeA H' 6 v)
  | none => none
def callX1 (R : Run) (f : Nat) (H : Heap) (as : Option (List AV)) : Option (AV × Heap) := match as with
  | some as => freeX H (R f as [])
  | none => none
theorem call_m0 {R : Run} {f : Nat} {args : List AV} : callA R 0 f args H = R f args H := rfl
theorem call_m1 {R : Run} {f : Nat} {args : List AV} : callA R 1 f args H = callX1 R f H (args.mapM (snapA H 6)) := by
  simp only [callA, callX1, freeX, pairX, depth]
  cases List.mapM (snapA H 6) args with
  | none => rfl
  | some as => simp only; cases R f as [] <;> rfl
theorem callX1_some {R : Run} {f : Nat} {as : List AV} : callX1 R f H (some as) = freeX H (R f as []) := rfl
theorem freeX_some {v : AV} {H' : Heap} : freeX H (some (v, H')) = pairX H (freeA H' 6 v) := rfl
theorem freeX_ite {p : Prop} [Decidable p] {x y : Option (AV × Heap)} : freeX H (if p then x else y) = if p then freeX H x else freeX H y := by split <;> rfl
theorem pairX_some {v : AV} : pairX H (some v) = some (v, H) := rfl
theorem snap_int {n : Nat} {k : IntKind} {i : Int} : snapA H (n + 1) (.int k i) = some (.int k i) := rfl
theorem snap_bool {n : Nat} {b : Bool} : snapA H (n + 1) (.bool b) = some (.bool b) := rfl
theorem snap_nils {n : Nat} : snapA H (n + 1) .nils = some .nils := rfl
theorem snap_imm {n : Nat} {sn : Bool} {cs : List AV} {l : Nat} : snapA H (n + 1) (.imm sn cs l) = some (.imm sn cs l) := rfl
theorem snap_agg {n : Nat} {cs : List AV} : snapA H (n + 1) (.agg cs) = (cs.mapM (snapA H n)).map .agg := rfl
theorem snap_fn {n : Nat} {f : Nat} : snapA H (n + 1) (.fn f []) = some (.fn f []) := rfl
theorem free_int {n : Nat} {k : IntKind} {i : Int} : freeA H (n + 1) (.int k i) = some (.int k i) := rfl
theorem free_bool {n : Nat} {b : Bool} : freeA H (n + 1) (.bool b) = some (.bool b) := rfl
theorem free_nils {n : Nat} : freeA H (n + 1) .nils = some .nils := rfl
theorem free_imm {n : Nat} {cs : List AV} {l : Nat} : freeA H (n + 1) (.imm false cs l) = some (.imm false cs l) := rfl
theorem free_agg {n : Nat} {cs : List AV} : freeA H (n + 1) (.agg cs) = (cs.mapM (freeA H n)).map .agg := rfl
theorem free_tup {n : Nat} {cs : List AV} : freeA H (n + 1) (.tup cs) = (cs.mapM (freeA H n)).map .tup := rfl
theorem isU_bool {b : Bool} : isU (.bool b) = false := rfl
theorem cells_bool {b : Bool} : cellsOf (.bool b) = [.bool b] := rfl
theorem one_bool {b : Bool} : one (.bool b) = true := rfl
theorem isU_int {k : IntKind} {n : Int} : isU (.int k n) = false := rfl
theorem cells_int {k : IntKind} {n : Int} : cellsOf (.int k n) = [.int k n] := rfl
theorem one_int {k : IntKind} {n : Int} : one (.int k n) = true := rfl
theorem isU_nils  : isU (.nils) = false := rfl
theorem cells_nils  : cellsOf (.nils) = [.nils] := rfl
theorem one_nils  : one (.nils) = true := rfl
theorem isU_imm {sn : Bool} {cs : List AV} {l : Nat} : isU (.imm sn cs l) = false := rfl
theorem cells_imm {sn : Bool} {cs : List AV} {l : Nat} : cellsOf (.imm sn cs l) = [.imm sn cs l] := rfl
theorem one_imm {sn : Bool} {cs : List AV} {l : Nat} : one (.imm sn cs l) = true := rfl
theorem isU_sl {id ver e off l : Nat} {c : Option Nat} : isU (.sl id ver e off l c) = false := rfl
theorem cells_sl {id ver e off l : Nat} {c : Option Nat} : cellsOf (.sl id ver e off l c) = [.sl id ver e off l c] := rfl
theorem one_sl {id ver e off l : Nat} {c : Option Nat} : one (.sl id ver e off l c) = true := rfl
theorem isU_ptr {a b c : Nat} : isU (.ptr a b c) = false := rfl
theorem cells_ptr {a b c : Nat} : cellsOf (.ptr a b c) = [.ptr a b c] := rfl
theorem one_ptr {a b c : Nat} : one (.ptr a b c) = true := rfl
theorem isU_cptr {sn : Bool} {cs : List AV} : isU (.cptr sn cs) = false := rfl
theorem cells_cptr {sn : Bool} {cs : List AV} : cellsOf (.cptr sn cs) = [.cptr sn cs] := rfl
theorem one_cptr {sn : Bool} {cs : List AV} : one (.cptr sn cs) = true := rfl
theorem isU_fn {f : Nat} {cs : List AV} : isU (.fn f cs) = false := rfl
theorem cells_fn {f : Nat} {cs : List AV} : cellsOf (.fn f cs) = [.fn f cs] := rfl
theorem one_fn {f : Nat} {cs : List AV} : one (.fn f cs) = true := rfl
theorem isU_agg {cs : List AV} : isU (.agg cs) = false := rfl
theorem cells_agg {cs : List AV} : cellsOf (.agg cs) = cs := rfl
theorem len_nils : lenA .nils = some 0 := rfl
theorem len_imm {sn : Bool} {cs : List AV} {l : Nat} : lenA (.imm sn cs l) = some l := rfl
theorem len_sl {id ver e off l : Nat} {c : Option Nat} : lenA (.sl id ver e off l c) = some l := rfl
theorem nat_int {k : IntKind} {n : Int} : natOf (.int k n) = if 0 ≤ n then some n.toNat else none := rfl
def idxN (j : Option Nat) (k : Nat → Option AV) : Option AV := match j with
  | some j => k j
  | none => none
theorem idxN_some {j : Nat} {k : Nat → Option AV} : idxN (some j) k = k j := rfl
theorem idx_imm {e : Nat} {sn : Bool} {cs : List AV} {l : Nat} {k : IntKind} {i : Int} : idxA e (.imm sn cs l) (.int k i) = idxN (natOf (.int k i)) fun j => if j < l then some (.cptr sn (cs.drop (j * e))) else none := by
  simp only [idxA]; cases natOf (.int k i) <;> rfl
theorem idx_slice {e id ver e' off l : Nat} {c : Option Nat} {k : IntKind} {i : Int} : idxA e (.sl id ver e' off l c) (.int k i) = idxN (natOf (.int k i)) fun j => if e' = e ∧ j < l then some (.ptr id ver (off + j * e)) else none := by
  simp only [idxA]; cases natOf (.int k i) <;> rfl
def firstX (o : Option (List AV)) : Option AV := match o with
  | some (v :: _) => some v
  | _ => none
theorem firstX_some {v : AV} {l : List AV} : firstX (some (v :: l)) = some v := rfl
theorem load_ptr {id ver off : Nat} : loadA H none (.ptr id ver off) = firstX (cellsAt H (.ptr id ver off) 1) := by
  simp only [loadA, firstX]; split <;> rename_i h <;> simp_all
theorem load_cptr {sn : Bool} {cs : List AV} : loadA H none (.cptr sn cs) = firstX (cellsAt H (.cptr sn cs) 1) := by
  simp only [loadA, firstX]; split <;> rename_i h <;> simp_all
theorem loads_ptr {n id ver off : Nat} : loadA H (some n) (.ptr id ver off) = (cellsAt H (.ptr id ver off) n).map .agg := rfl
theorem loads_cptr {n : Nat} {sn : Bool} {cs : List AV} : loadA H (some n) (.cptr sn cs) = (cellsAt H (.cptr sn cs) n).map .agg := rfl
def snapB (len : Nat) (o : Option (List AV)) : Option AV := o.map fun cs => .imm true cs len
def snapS (H : Heap) (n ver off len e : Nat) (o : Option Ob) : Option AV := match o with
  | some o => if o.ver = ver ∧ off + len * e ≤ o.cells.length then snapB len (((o.cells.drop off).take (len * e)).mapM (snapA H n)) else none
  | none => none
theorem snap_sl {n id ver e off len : Nat} {c : Option Nat} : snapA H (n + 1) (.sl id ver e off len c) = snapS H n ver off len e H[id]? := by
  simp only [snapA, snapS, snapB]
  cases H[id]? <;> rfl
theorem snapS_some {n ver off len e v : Nat} {cs : List AV} : snapS H n ver off len e (some ⟨v, cs⟩) = if v = ver ∧ off + len * e ≤ cs.length then snapB len (((cs.drop off).take (len * e)).mapM (snapA H n)) else none := rfl
theorem snapB_some {len : Nat} {cs : List AV} : snapB len (some cs) = some (.imm true cs len) := rfl
def freeB (n len : Nat) (o : Option (List AV)) : Option AV := o.map fun cs => .imm false cs len
def freeS (H : Heap) (n ver off len e : Nat) (o : Option Ob) : Option AV := match o with
  | some o => if o.ver = ver ∧ off + len * e ≤ o.cells.length then freeB n len (((o.cells.drop off).take (len * e)).mapM (freeA H n)) else none
  | none => none
theorem free_sl {n id ver e off len : Nat} {c : Option Nat} : freeA H (n + 1) (.sl id ver e off len c) = freeS H n ver off len e H[id]? := by
  simp only [freeA, freeS, freeB]
  cases H[id]? <;> rfl
theorem freeS_some {n ver off len e v : Nat} {cs : List AV} : freeS H n ver off len e (some ⟨v, cs⟩) = if v = ver ∧ off + len * e ≤ cs.length then freeB n len (((cs.drop off).take (len * e)).mapM (freeA H n)) else none := rfl
theorem freeB_some {n len : Nat} {cs : List AV} : freeB n len (some cs) = some (.imm false cs len) := rfl
theorem freeB_ite {n len : Nat} {p : Prop} [Decidable p] {x y : Option (List AV)} : freeB n len (if p then x else y) = if p then freeB n len x else freeB n len y := by split <;> rfl
theorem mapM_none' {α : Type} {f : α → Option AV} : List.mapM f [] = some [] := rfl
def consO (x : Option AV) (l : Option (List AV)) : Option (List AV) := match x, l with
  | some x, some l => some (x :: l)
  | _, _ => none
theorem mapM_cons' {α : Type} {f : α → Option AV} {x : α} {l : List α} : List.mapM f (x :: l) = consO (f x) (List.mapM f l) := by
  rw [List.mapM_cons]; cases f x <;> simp [consO]
  cases List.mapM f l <;> simp [consO]
theorem consO_some {x : AV} {l : List AV} : consO (some x) (some l) = some (x :: l) := rfl

/-- What a list of places holds. -/
def fget : List (Nat × AV) → Nat → AV
  | [], _ => .undef
  | (e, w) :: l, t => if t = e then w else fget l t
def fins (d : Nat) (v : AV) : List (Nat × AV) → List (Nat × AV)
  | [] => [(d, v)]
  | (e, w) :: l => if e < d then (d, v) :: (e, w) :: l else if d = e then (d, v) :: l else (e, w) :: fins d v l
def fkeep (k : Nat) : List (Nat × AV) → List (Nat × AV)
  | [] => []
  | (e, w) :: l => if k / 2 ^ e % 2 = 1 then (e, w) :: fkeep k l else fkeep k l

/-- A frame of which few places are filled. -/
def sp (n : Nat) (l : List (Nat × AV)) : List AV := (List.range n).map (fget l)

theorem fget_nil {t : Nat} : fget [] t = .undef := rfl
theorem fget_cons {e t : Nat} {w : AV} {l : List (Nat × AV)} : fget ((e, w) :: l) t = if t = e then w else fget l t := rfl
theorem fins_nil {d : Nat} {v : AV} : fins d v [] = [(d, v)] := rfl
theorem fins_cons {d e : Nat} {v w : AV} {l : List (Nat × AV)} : fins d v ((e, w) :: l) = if e < d then (d, v) :: (e, w) :: l else if d = e then (d, v) :: l else (e, w) :: fins d v l := rfl
theorem fkeep_nil {k : Nat} : fkeep k [] = [] := rfl
theorem fkeep_cons {k e : Nat} {w : AV} {l : List (Nat × AV)} : fkeep k ((e, w) :: l) = if k / 2 ^ e % 2 = 1 then (e, w) :: fkeep k l else fkeep k l := rfl

theorem fget_fins {d t : Nat} {v : AV} : ∀ (l : List (Nat × AV)), fget (fins d v l) t = if t = d then v else fget l t
  | [] => rfl
  | (e, w) :: l => by
    rw [fins_cons]
    split
    · rfl
    · split
      · rename_i h; subst h; simp only [fget_cons]; split <;> rfl
      · rename_i h
        simp only [fget_cons, fget_fins l]
        by_cases h1 : t = e
        · rw [if_pos h1, if_pos h1, if_neg (by omega)]
        · rw [if_neg h1, if_neg h1]
theorem fget_fkeep {k t : Nat} : ∀ (l : List (Nat × AV)), fget (fkeep k l) t = if k / 2 ^ t % 2 = 1 then fget l t else .undef
  | [] => by simp [fkeep, fget]
  | (e, w) :: l => by
    rw [fkeep_cons]
    by_cases h1 : t = e
    · subst h1
      by_cases h2 : k / 2 ^ t % 2 = 1
      · rw [if_pos h2, if_pos h2]; simp [fget]
      · rw [if_neg h2, if_neg h2, fget_fkeep l, if_neg h2]
    · have h3 : fget ((e, w) :: l) t = fget l t := by rw [fget_cons, if_neg h1]
      rw [h3]
      split
      · rw [fget_cons, if_neg h1]; exact fget_fkeep l
      · exact fget_fkeep l

theorem st_length {n : Nat} {l : List (Nat × AV)} : (sp n l).length = n := by simp [sp]
theorem st_get {n t : Nat} {l : List (Nat × AV)} (h : t < (sp n l).length) : (sp n l)[t] = fget l t := by simp [sp]
theorem st_getD {n t : Nat} {l : List (Nat × AV)} (h : t < n) : (sp n l).getD t .undef = fget l t := by simp [sp, List.getD_eq_getElem?_getD, h]
theorem st_set {n d : Nat} {v : AV} {l : List (Nat × AV)} (h : d < n) : (sp n l).set d v = sp n (fins d v l) := by
  apply List.ext_getElem
  · simp [sp]
  · intro t h1 h2
    rw [List.getElem_set, st_get, st_get, fget_fins]
    by_cases e : d = t
    · subst e; simp
    · rw [if_neg e, if_neg (fun x => e x.symm)]
theorem keep_get : ∀ (n k : Nat) (vs : List AV) (t : Nat), vs.length = n → (keepA (m n k) vs).getD t .undef = if k / 2 ^ t % 2 = 1 then vs.getD t .undef else .undef
  | 0, k, vs, t, h => by
    have : vs = [] := List.eq_nil_of_length_eq_zero h
    subst this
    simp [keepA, m]
  | n + 1, k, [], t, h => by simp at h
  | n + 1, k, v :: vs, 0, h => by simp [m, keepA]
  | n + 1, k, v :: vs, t + 1, h => by
    have := keep_get n (k / 2) vs t (by simpa using h)
    rw [keep_m, List.getD_cons_succ, List.getD_cons_succ, this, Nat.div_div_eq_div_mul, Nat.pow_succ, Nat.mul_comm 2]
theorem keep_len : ∀ (n k : Nat) (vs : List AV), (keepA (m n k) vs).length = vs.length
  | 0, k, vs => by simp [m, keepA]
  | n + 1, k, [] => by simp [m, keepA]
  | n + 1, k, v :: vs => by simp [m, keepA, keep_len n]
theorem st_keep {n k : Nat} {l : List (Nat × AV)} : keepA (m n k) (sp n l) = sp n (fkeep k l) := by
  apply List.ext_getElem
  · rw [keep_len, st_length, st_length]
  · intro t h1 h2
    have h3 := keep_get n k (sp n l) t st_length
    rw [st_length] at h2
    rw [List.getD_eq_getElem?_getD, List.getElem?_eq_getElem h1, Option.getD_some, st_getD h2] at h3
    rw [h3, st_get, fget_fkeep]

theorem st_getI {n t : Nat} {l : List (Nat × AV)} : (sp n l).getD t .undef = if t < n then fget l t else .undef := by
  split
  · rename_i h; exact st_getD h
  · rename_i h; rw [List.getD_eq_getElem?_getD, List.getElem?_eq_none (by rw [st_length]; omega)]; rfl
theorem st_setI {n d : Nat} {v : AV} {l : List (Nat × AV)} : (sp n l).set d v = if d < n then sp n (fins d v l) else sp n l := by
  split
  · rename_i h; exact st_set h
  · rename_i h; exact List.set_eq_of_length_le (by rw [st_length]; omega)

/-- The same, by ascending places. -/
def st (n : Nat) (l : List (Nat × AV)) : List AV := sp n l.reverse

theorem st_in0 {n : Nat} : [] ++ List.replicate n .undef = sp (0 + n) [] := by
  apply List.ext_getElem
  · simp [sp]; try omega
  · intro t h1 h2
    rw [st_get]
    match t with
    | t => simp [fget]
theorem st_in1 {a0 : AV} {n : Nat} : [a0] ++ List.replicate n .undef = sp (1 + n) [(0, a0)] := by
  apply List.ext_getElem
  · simp [sp]; try omega
  · intro t h1 h2
    rw [st_get]
    match t with
    | 0 => rfl
    | t + 1 => simp [fget]
theorem st_in2 {a0 a1 : AV} {n : Nat} : [a0, a1] ++ List.replicate n .undef = sp (2 + n) [(1, a1), (0, a0)] := by
  apply List.ext_getElem
  · simp [sp]; try omega
  · intro t h1 h2
    rw [st_get]
    match t with
    | 0 => rfl
    | 1 => rfl
    | t + 2 => simp [fget]
theorem st_in3 {a0 a1 a2 : AV} {n : Nat} : [a0, a1, a2] ++ List.replicate n .undef = sp (3 + n) [(2, a2), (1, a1), (0, a0)] := by
  apply List.ext_getElem
  · simp [sp]; try omega
  · intro t h1 h2
    rw [st_get]
    match t with
    | 0 => rfl
    | 1 => rfl
    | 2 => rfl
    | t + 3 => simp [fget]
theorem st_in4 {a0 a1 a2 a3 : AV} {n : Nat} : [a0, a1, a2, a3] ++ List.replicate n .undef = sp (4 + n) [(3, a3), (2, a2), (1, a1), (0, a0)] := by
  apply List.ext_getElem
  · simp [sp]; try omega
  · intro t h1 h2
    rw [st_get]
    match t with
    | 0 => rfl
    | 1 => rfl
    | 2 => rfl
    | 3 => rfl
    | t + 4 => simp [fget]
theorem st_in5 {a0 a1 a2 a3 a4 : AV} {n : Nat} : [a0, a1, a2, a3, a4] ++ List.replicate n .undef = sp (5 + n) [(4, a4), (3, a3), (2, a2), (1, a1), (0, a0)] := by
  apply List.ext_getElem
  · simp [sp]; try omega
  · intro t h1 h2
    rw [st_get]
    match t with
    | 0 => rfl
    | 1 => rfl
    | 2 => rfl
    | 3 => rfl
    | 4 => rfl
    | t + 5 => simp [fget]
theorem st_in6 {a0 a1 a2 a3 a4 a5 : AV} {n : Nat} : [a0, a1, a2, a3, a4, a5] ++ List.replicate n .undef = sp (6 + n) [(5, a5), (4, a4), (3, a3), (2, a2), (1, a1), (0, a0)] := by
  apply List.ext_getElem
  · simp [sp]; try omega
  · intro t h1 h2
    rw [st_get]
    match t with
    | 0 => rfl
    | 1 => rfl
    | 2 => rfl
    | 3 => rfl
    | 4 => rfl
    | 5 => rfl
    | t + 6 => simp [fget]

/-! ### Whole numbers of the usual size -/
abbrev vI (n : Int) : AV := .int .i64 n

theorem wrap_id {n : Int} (h1 : -9223372036854775808 ≤ n) (h2 : n < 9223372036854775808) : IntKind.wrap .i64 n = n := by
  rw [IntKind.wrap_i64]
  omega

theorem wrap_succ {n : Nat} (h : n < 4611686018427387904) : IntKind.wrap .i64 ((n : Int) + 1) = ((n + 1 : Nat) : Int) := by
  rw [wrap_id (by omega) (by omega)]; rfl

theorem mnx_min {a b : Int} : mnxA false [.int .i64 a, .int .i64 b] = some (vI (min a b)) := by
  simp only [mnxA]
  have : (if b < a then b else a) = min a b := by omega
  simp [this]
theorem mnx_max {a b : Int} : mnxA true [.int .i64 a, .int .i64 b] = some (vI (max a b)) := by
  simp only [mnxA]
  have : (if b > a then b else a) = max a b := by omega
  simp [this]

theorem natOf_nat {k : IntKind} {n : Nat} : natOf (.int k (n : Int)) = some n := by
  simp [natOf]

theorem load_cell {sn : Bool} {cells : List AV} {i : Nat} (h : i < cells.length) : loadA H none (.cptr sn (cells.drop i)) = some (cells.getD i .undef) := by
  have : cells.drop i = cells[i] :: cells.drop (i + 1) := List.drop_eq_getElem_cons h
  simp only [loadA, cellsAt, List.length_drop]
  have h2 : (cells.drop i).take 1 = [cells[i]] := by rw [this]; rfl
  rw [if_pos (by omega), h2]
  simp [List.getD_eq_getElem?_getD, h]

abbrev row (s : Bool) (l : List Int) : AV := .imm s (l.map vI) l.length
/-- Rows of numbers. -/
inductive IsRow : AV → List Int → Prop where
  | nil : IsRow .nils []
  | imm (sn : Bool) (l : List Int) : IsRow (.imm sn (l.map vI) l.length) l

/-- Rows of rows. -/
inductive IsTab : AV → List (List Int) → Prop where
  | nil : IsTab .nils []
  | imm (sn : Bool) (vs : List AV) (t : List (List Int)) (h : vs.length = t.length) (hr : ∀ i, i < t.length → IsRow (vs.getD i .undef) (t.getD i [])) : IsTab (.imm sn vs t.length) t

theorem IsRow.len {v : AV} {l : List Int} (h : IsRow v l) : lenA v = some l.length := by cases h <;> rfl
theorem IsTab.len {v : AV} {t : List (List Int)} (h : IsTab v t) : lenA v = some t.length := by cases h <;> rfl

/-- The place of an element of a slice that does not change. -/
def ptrAt (v : AV) (i : Nat) : AV := match v with
  | .imm sn cells _ => .cptr sn (cells.drop i)
  | _ => .undef
def cellAt (v : AV) (i : Nat) : AV := match v with
  | .imm _ cells _ => cells.getD i .undef
  | _ => .undef

theorem IsRow.snap {v : AV} {l : List Int} (h : IsRow v l) {n : Nat} : snapA H (n + 1) v = some v := by cases h <;> rfl
theorem IsTab.snap {v : AV} {t : List (List Int)} (h : IsTab v t) {n : Nat} : snapA H (n + 1) v = some v := by cases h <;> rfl

theorem IsRow.idx {v : AV} {l : List Int} (h : IsRow v l) {i : Nat} (hi : i < l.length) : idxA 1 v (.int .i64 i) = some (ptrAt v i) := by
  cases h with
  | nil => simp at hi
  | imm sn l => simp [idxA, natOf_nat, hi, ptrAt]
theorem IsTab.idx {v : AV} {t : List (List Int)} (h : IsTab v t) {i : Nat} (hi : i < t.length) : idxA 1 v (.int .i64 i) = some (ptrAt v i) := by
  cases h with
  | nil => simp at hi
  | imm sn vs t hl hr => simp [idxA, natOf_nat, hi, ptrAt]
theorem IsRow.load {v : AV} {l : List Int} (h : IsRow v l) {i : Nat} (hi : i < l.length) : loadA H none (ptrAt v i) = some (vI (l.getD i 0)) := by
  cases h with
  | nil => simp at hi
  | imm sn l => simp [ptrAt, load_cell, hi]
theorem IsTab.load {v : AV} {t : List (List Int)} (h : IsTab v t) {i : Nat} (hi : i < t.length) : loadA H none (ptrAt v i) = some (cellAt v i) := by
  cases h with
  | nil => simp at hi
  | imm sn vs t hl hr => simp only [ptrAt, cellAt]; exact load_cell (by omega)
theorem IsTab.row {v : AV} {t : List (List Int)} (h : IsTab v t) {i : Nat} (hi : i < t.length) : IsRow (cellAt v i) (t.getD i []) := by
  cases h with
  | nil => simp at hi
  | imm sn vs t hl hr => exact hr i hi
end
end Go.X

/-! The rules by which the machine is worked out, as one theorem each. -/
set_option linter.unusedVariables false
set_option maxRecDepth 10000
namespace Go.X
open Go Go.RowKit

theorem SS :
    (∀ {E : Nat → Option XF} {Y : Run} {fr : List AV} {H : Heap}, codeL E Y XC.skip fr H = some (Ex.n, fr, H)) ∧
    (∀ {E : Nat → Option XF} {Y : Run} {fr : List AV} {H : Heap} {id : Nat} {l : List Bool}, codeL E Y (XC.exit id l) fr H = some (Ex.x id, keepA l fr, H)) ∧
    (∀ {E : Nat → Option XF} {Y : Run} {fr : List AV} {H : Heap} {l : List Bool}, codeL E Y (XC.ret l) fr H = some (Ex.r, keepA l fr, H)) ∧
    (∀ {E : Nat → Option XF} {Y : Run} {fr : List AV} {H : Heap} {ops : List Op1}, codeL E Y (XC.reg ops) fr H = opsL E Y ops fr H) ∧
    (∀ {E : Nat → Option XF} {Y : Run} {fr : List AV} {H : Heap} {a b : XC}, codeL E Y (a.seq b) fr H = thenX (codeL E Y a fr H) (codeL E Y b)) ∧
    (∀ {E : Nat → Option XF} {Y : Run} {fr : List AV} {H : Heap} {o : Opd} {a b : XC}, codeL E Y (XC.cond o a b) fr H = condX (Opd.ev fr o) (codeL E Y a fr H) (codeL E Y b fr H)) ∧
    (∀ {E : Nat → Option XF} {Y : Run} {fr : List AV} {H : Heap} {id : Nat} {live : List Bool} {b : XC}, codeL E Y (XC.block id live b) fr H = blockX id live (codeL E Y b fr H)) ∧
    (∀ {E : Nat → Option XF} {Y : Run} {fr : List AV} {H : Heap}, opsL E Y [] fr H = some (Ex.n, fr, H)) ∧
    (∀ {E : Nat → Option XF} {Y : Run} {fr : List AV} {H : Heap} {o : Op1} {ops : List Op1}, opsL E Y (o :: ops) fr H = contX (stepA (callL E Y) o fr H) (opsL E Y ops)) ∧
    (∀ {fr : List AV} {H : Heap} {R : Run} {d : Option Nat} {i : Ins}, stepA R { guard := none, dst := d, ins := i } fr H = putX fr d (insA R i fr H)) ∧
    (∀ {fr : List AV} {H : Heap} {R : Run} {d : Option Nat} {i : Ins} {t : Nat} {b : Bool}, stepA R { guard := some (t, b), dst := d, ins := i } fr H = wantX (wantedA (some (t, b)) fr) (putX fr d (insA R i fr H)) (some (putA fr d AV.skp, H))) ∧
    (∀ {fr : List AV} {H : Heap} {k : List AV → Heap → Option (Ex × List AV × Heap)}, contX (some (fr, H)) k = k fr H) ∧
    (∀ {k : List AV → Heap → Option (Ex × List AV × Heap)}, contX none k = none) ∧
    (∀ {p : Prop} [inst : Decidable p] {x y : Option (List AV × Heap)} {k : List AV → Heap → Option (Ex × List AV × Heap)}, contX (if p then x else y) k = if p then contX x k else contX y k) ∧
    (∀ {fr : List AV} {H : Heap} {d : Option Nat} {v : AV}, putX fr d (some (v, H)) = some (putA fr d v, H)) ∧
    (∀ {fr : List AV} {p : Prop} [inst : Decidable p] {d : Option Nat} {x y : Option (AV × Heap)}, putX fr d (if p then x else y) = if p then putX fr d x else putX fr d y) ∧
    (∀ {fr : List AV} {d : Option Nat}, putX fr d none = none) ∧
    (∀ {x y : Option (List AV × Heap)}, wantX (some Bool.true) x y = x) ∧
    (∀ {x y : Option (List AV × Heap)}, wantX (some Bool.false) x y = y) ∧
    (∀ {b : Bool} {x y : Option (List AV × Heap)}, wantX (some b) x y = if b = Bool.true then x else y) ∧
    (∀ {fr : List AV} {H : Heap} {k : List AV → Heap → Option (Ex × List AV × Heap)}, thenX (some (Ex.n, fr, H)) k = k fr H) ∧
    (∀ {fr : List AV} {H : Heap} {id : Nat} {k : List AV → Heap → Option (Ex × List AV × Heap)}, thenX (some (Ex.x id, fr, H)) k = some (Ex.x id, fr, H)) ∧
    (∀ {fr : List AV} {H : Heap} {k : List AV → Heap → Option (Ex × List AV × Heap)}, thenX (some (Ex.r, fr, H)) k = some (Ex.r, fr, H)) ∧
    (∀ {k : List AV → Heap → Option (Ex × List AV × Heap)}, thenX none k = none) ∧
    (∀ {p : Prop} [inst : Decidable p] {x y : Option (Ex × List AV × Heap)} {k : List AV → Heap → Option (Ex × List AV × Heap)}, thenX (if p then x else y) k = if p then thenX x k else thenX y k) ∧
    (∀ {fr : List AV} {H : Heap} {id : Nat} {live : List Bool}, blockX id live (some (Ex.n, fr, H)) = some (Ex.n, keepA live fr, H)) ∧
    (∀ {fr : List AV} {H : Heap} {id j : Nat} {live : List Bool}, blockX id live (some (Ex.x j, fr, H)) = if j = id then some (Ex.n, keepA live fr, H) else some (Ex.x j, fr, H)) ∧
    (∀ {fr : List AV} {H : Heap} {id : Nat} {live : List Bool}, blockX id live (some (Ex.r, fr, H)) = some (Ex.r, fr, H)) ∧
    (∀ {p : Prop} [inst : Decidable p] {x y : Option (Ex × List AV × Heap)} {id : Nat} {live : List Bool}, blockX id live (if p then x else y) = if p then blockX id live x else blockX id live y) ∧
    (∀ {x y : Option (Ex × List AV × Heap)}, condX (AV.bool Bool.true) x y = x) ∧
    (∀ {x y : Option (Ex × List AV × Heap)}, condX (AV.bool Bool.false) x y = y) ∧
    (∀ {b : Bool} {x y : Option (Ex × List AV × Heap)}, condX (AV.bool b) x y = if b = Bool.true then x else y) ∧
    (∀ {fr : List AV} {H : Heap} {res : List Res}, endX res (some (Ex.n, fr, H)) = Option.map (fun (v : AV) => (v, H)) (resultA res fr H)) ∧
    (∀ {fr : List AV} {H : Heap} {res : List Res}, endX res (some (Ex.r, fr, H)) = Option.map (fun (v : AV) => (v, H)) (resultA res fr H)) ∧
    (∀ {p : Prop} [inst : Decidable p] {res : List Res} {x y : Option (Ex × List AV × Heap)}, endX res (if p then x else y) = if p then endX res x else endX res y) ∧
    (∀ {α : Type} {β : Type} {f : α → β} {a : α} {l : List α}, List.map f (a :: l) = f a :: List.map f l) ∧
    (∀ {α : Type} {β : Type} {f : α → β}, List.map f [] = []) ∧
    (∀ {α : Type} {β : Type} (a : α) (f : α → β), Option.map f (some a) = some (f a)) ∧
    (∀ {α : Type} {β : Type} (f : α → β), Option.map f none = none) ∧
    (∀ {α : Type} {x : Decidable True} (t e : α), (if True then t else e) = t) ∧
    (∀ {α : Type} {x : Decidable False} (t e : α), (if False then t else e) = e) ∧
    (∀ {α : Type} {c : Prop} {d : Decidable c} (a : α), (if c then a else a) = a) ∧
    (∀ {p : Prop} [inst : Decidable p], (Decidable.decide p = Bool.true) = p) ∧
    ((Bool.false = Bool.true) = False) ∧
    (∀ {α : Type} (a : α), (a = a) = True) ∧
    (∀ {α : Type} {β : Type} (a : α) (f : α → Option β), (some a).bind f = f a) ∧
    (∀ {α : Type} [inst : BEq α] [ReflBEq α] (a : α), (a == a) = Bool.true) ∧
    (∀ {E : Nat → Option XF} {Y : Run} {fr : List AV} {H : Heap} {L : XC} {live : List Bool}, again E Y L live fr H = lp E Y L (keepA live fr) H) ∧
    (∀ {α : Type} {a : α} {«as» bs : List α}, a :: «as» ++ bs = a :: («as» ++ bs)) ∧
    (∀ {α : Type} («as» : List α), [] ++ «as» = «as») ∧
    (∀ {α : Type} [inst : BEq α] [LawfulBEq α] {a b : α}, (a != b) = Bool.true ↔ a ≠ b) ∧
    (∀ {α : Type} [inst : BEq α] [LawfulBEq α] {a b : α}, (a == b) = Bool.true ↔ a = b) ∧
    (∀ {α : Type} (a b : α), (a ≠ b) = ¬a = b) ∧
    ((¬False) = True) ∧
    ((¬True) = False) ∧
    (∀ (p : Prop), (True ∧ p) = p) ∧
    (∀ (p : Prop), (p ∧ True) = p) ∧
    (∀ (p : Prop), (p ∧ p) = p) ∧
    ((Bool.true = Bool.false) = False) ∧
    (∀ {α : Type} {a : α} {«as» : List α}, (a :: «as»).length = «as».length + (1 : Nat)) ∧
    (∀ {H : Heap} {R : Run} {f : Nat} {args : List AV}, callA R (0 : Nat) f args H = R f args H) ∧
    (∀ {H : Heap} {R : Run} {f : Nat} {args : List AV}, callA R (1 : Nat) f args H = callX1 R f H (List.mapM (snapA H (6 : Nat)) args)) ∧
    (∀ {H : Heap} {R : Run} {f : Nat} {«as» : List AV}, callX1 R f H (some «as») = freeX H (R f «as» [])) ∧
    (∀ {H : Heap} {v : AV} {H' : Heap}, freeX H (some (v, H')) = pairX H (freeA H' (6 : Nat) v)) ∧
    (∀ {H : Heap} {p : Prop} [inst : Decidable p] {x y : Option (AV × Heap)}, freeX H (if p then x else y) = if p then freeX H x else freeX H y) ∧
    (∀ {H : Heap} {v : AV}, pairX H (some v) = some (v, H)) ∧
    (∀ {H : Heap} {n : Nat} {k : Go.IntKind} {i : Int}, snapA H (n + (1 : Nat)) (AV.int k i) = some (AV.int k i)) ∧
    (∀ {H : Heap} {n : Nat} {b : Bool}, snapA H (n + (1 : Nat)) (AV.bool b) = some (AV.bool b)) ∧
    (∀ {H : Heap} {n : Nat}, snapA H (n + (1 : Nat)) AV.nils = some AV.nils) ∧
    (∀ {H : Heap} {n : Nat} {sn : Bool} {cs : List AV} {l : Nat}, snapA H (n + (1 : Nat)) (AV.imm sn cs l) = some (AV.imm sn cs l)) ∧
    (∀ {H : Heap} {n : Nat} {cs : List AV}, snapA H (n + (1 : Nat)) (AV.agg cs) = Option.map AV.agg (List.mapM (snapA H n) cs)) ∧
    (∀ {H : Heap} {n f : Nat}, snapA H (n + (1 : Nat)) (AV.fn f []) = some (AV.fn f [])) ∧
    (∀ {H : Heap} {n : Nat} {k : Go.IntKind} {i : Int}, freeA H (n + (1 : Nat)) (AV.int k i) = some (AV.int k i)) ∧
    (∀ {H : Heap} {n : Nat} {b : Bool}, freeA H (n + (1 : Nat)) (AV.bool b) = some (AV.bool b)) ∧
    (∀ {H : Heap} {n : Nat}, freeA H (n + (1 : Nat)) AV.nils = some AV.nils) ∧
    (∀ {H : Heap} {n : Nat} {cs : List AV} {l : Nat}, freeA H (n + (1 : Nat)) (AV.imm Bool.false cs l) = some (AV.imm Bool.false cs l)) ∧
    (∀ {H : Heap} {n : Nat} {cs : List AV}, freeA H (n + (1 : Nat)) (AV.agg cs) = Option.map AV.agg (List.mapM (freeA H n) cs)) ∧
    (∀ {H : Heap} {n : Nat} {cs : List AV}, freeA H (n + (1 : Nat)) (AV.tup cs) = Option.map AV.tup (List.mapM (freeA H n) cs)) ∧
    (∀ {α : Type} {f : α → Option AV}, List.mapM f [] = some []) ∧
    (∀ {α : Type} {f : α → Option AV} {x : α} {l : List α}, List.mapM f (x :: l) = consO (f x) (List.mapM f l)) ∧
    (∀ {x : AV} {l : List AV}, consO (some x) (some l) = some (x :: l)) ∧
    (∀ {n t : Nat} {l : List (Nat × AV)}, (sp n l).getD t AV.undef = if t < n then fget l t else AV.undef) ∧
    (∀ {n d : Nat} {v : AV} {l : List (Nat × AV)}, (sp n l).set d v = if d < n then sp n (fins d v l) else sp n l) ∧
    (∀ {n k : Nat} {l : List (Nat × AV)}, keepA (m n k) (sp n l) = sp n (fkeep k l)) ∧
    (∀ {e t : Nat} {w : AV} {l : List (Nat × AV)}, fget ((e, w) :: l) t = if t = e then w else fget l t) ∧
    (∀ {t : Nat}, fget [] t = AV.undef) ∧
    (∀ {d : Nat} {v : AV}, fins d v [] = [(d, v)]) ∧
    (∀ {d e : Nat} {v w : AV} {l : List (Nat × AV)}, fins d v ((e, w) :: l) = if e < d then (d, v) :: (e, w) :: l else if d = e then (d, v) :: l else (e, w) :: fins d v l) ∧
    (∀ {k : Nat}, fkeep k [] = []) ∧
    (∀ {k e : Nat} {w : AV} {l : List (Nat × AV)}, fkeep k ((e, w) :: l) = if k / (2 : Nat) ^ e % (2 : Nat) = (1 : Nat) then (e, w) :: fkeep k l else fkeep k l) ∧
    (∀ {α : Type} {β : Type} {a : α} {l : List α} {f : β → α → β} {b : β}, List.foldl f b (a :: l) = List.foldl f (f b a) l) ∧
    (∀ {α : Type} {β : Type} {f : α → β → α} {b : α}, List.foldl f b [] = b) ∧
    (∀ {α : Type} {x : α} {xs : List α} {d : α}, (x :: xs).getD (0 : Nat) d = x) ∧
    (∀ {α : Type} {x : α} {xs : List α} {n : Nat} {d : α}, (x :: xs).getD (n + (1 : Nat)) d = xs.getD n d) ∧
    (∀ {α : Type} {x : α} {xs : List α} {i : Nat} {a : α}, (x :: xs).set (i + (1 : Nat)) a = x :: xs.set i a) ∧
    (∀ {α : Type} {x : α} {xs : List α} {a : α}, (x :: xs).set (0 : Nat) a = a :: xs) ∧
    (∀ {α : Type} {a : α} {«as» : List α}, (a :: «as»).reverse = «as».reverse ++ [a]) :=
  ⟨@codeL_skip, @codeL_exit, @codeL_ret, @codeL_reg, @codeL_seq, @codeL_cond, @codeL_block, @opsL_nil, @opsL_cons, @step_plain, @step_guard, @contX_some, @contX_none, @contX_ite, @putX_some, @putX_ite, @putX_none, @wantX_true, @wantX_false, @wantX_bool, @thenX_n, @thenX_x, @thenX_r, @thenX_none, @thenX_ite, @blockX_n, @blockX_x, @blockX_r, @blockX_ite, @condX_true, @condX_false, @condX_bool, @endX_n, @endX_r, @endX_ite, @List.map_cons, @List.map_nil, @Option.map_some, @Option.map_none, @if_true, @if_false, @ite_self, @decide_eq_true_eq, @Bool.false_eq_true, @eq_self, @Option.bind_some, @beq_self_eq_true, @again_in, @List.cons_append, @List.nil_append, @bne_iff_ne, @beq_iff_eq, @ne_eq, @not_false_eq_true, @not_true_eq_false, @true_and, @and_true, @and_self, @Bool.true_eq_false, @List.length_cons, @call_m0, @call_m1, @callX1_some, @freeX_some, @freeX_ite, @pairX_some, @snap_int, @snap_bool, @snap_nils, @snap_imm, @snap_agg, @snap_fn, @free_int, @free_bool, @free_nils, @free_imm, @free_agg, @free_tup, @mapM_none', @mapM_cons', @consO_some, @st_getI, @st_setI, @st_keep, @fget_cons, @fget_nil, @fins_nil, @fins_cons, @fkeep_nil, @fkeep_cons, @List.foldl_cons, @List.foldl_nil, @List.getD_cons_zero, @List.getD_cons_succ, @List.set_cons_succ, @List.set_cons_zero, @List.reverse_cons⟩

theorem UU :
    (∀ {b : Bool}, isU (AV.bool b) = Bool.false) ∧
    (∀ {b : Bool}, cellsOf (AV.bool b) = [AV.bool b]) ∧
    (∀ {b : Bool}, one (AV.bool b) = Bool.true) ∧
    (∀ {k : Go.IntKind} {n : Int}, isU (AV.int k n) = Bool.false) ∧
    (∀ {k : Go.IntKind} {n : Int}, cellsOf (AV.int k n) = [AV.int k n]) ∧
    (∀ {k : Go.IntKind} {n : Int}, one (AV.int k n) = Bool.true) ∧
    (isU AV.nils = Bool.false) ∧
    (cellsOf AV.nils = [AV.nils]) ∧
    (one AV.nils = Bool.true) ∧
    (∀ {sn : Bool} {cs : List AV} {l : Nat}, isU (AV.imm sn cs l) = Bool.false) ∧
    (∀ {sn : Bool} {cs : List AV} {l : Nat}, cellsOf (AV.imm sn cs l) = [AV.imm sn cs l]) ∧
    (∀ {sn : Bool} {cs : List AV} {l : Nat}, one (AV.imm sn cs l) = Bool.true) ∧
    (∀ {id ver e off l : Nat} {c : Option Nat}, isU (AV.sl id ver e off l c) = Bool.false) ∧
    (∀ {id ver e off l : Nat} {c : Option Nat}, cellsOf (AV.sl id ver e off l c) = [AV.sl id ver e off l c]) ∧
    (∀ {id ver e off l : Nat} {c : Option Nat}, one (AV.sl id ver e off l c) = Bool.true) ∧
    (∀ {a b c : Nat}, isU (AV.ptr a b c) = Bool.false) ∧
    (∀ {a b c : Nat}, cellsOf (AV.ptr a b c) = [AV.ptr a b c]) ∧
    (∀ {a b c : Nat}, one (AV.ptr a b c) = Bool.true) ∧
    (∀ {sn : Bool} {cs : List AV}, isU (AV.cptr sn cs) = Bool.false) ∧
    (∀ {sn : Bool} {cs : List AV}, cellsOf (AV.cptr sn cs) = [AV.cptr sn cs]) ∧
    (∀ {sn : Bool} {cs : List AV}, one (AV.cptr sn cs) = Bool.true) ∧
    (∀ {f : Nat} {cs : List AV}, isU (AV.fn f cs) = Bool.false) ∧
    (∀ {f : Nat} {cs : List AV}, cellsOf (AV.fn f cs) = [AV.fn f cs]) ∧
    (∀ {f : Nat} {cs : List AV}, one (AV.fn f cs) = Bool.true) ∧
    (∀ {cs : List AV}, isU (AV.agg cs) = Bool.false) ∧
    (∀ {cs : List AV}, cellsOf (AV.agg cs) = cs) ∧
    (lenA AV.nils = some (0 : Nat)) ∧
    (∀ {sn : Bool} {cs : List AV} {l : Nat}, lenA (AV.imm sn cs l) = some l) ∧
    (∀ {id ver e off l : Nat} {c : Option Nat}, lenA (AV.sl id ver e off l c) = some l) ∧
    (∀ {k : Go.IntKind} {n : Int}, natOf (AV.int k n) = if (0 : Int) ≤ n then some n.toNat else none) ∧
    (∀ {j : Nat} {k : Nat → Option AV}, idxN (some j) k = k j) ∧
    (∀ {e : Nat} {sn : Bool} {cs : List AV} {l : Nat} {k : Go.IntKind} {i : Int}, idxA e (AV.imm sn cs l) (AV.int k i) = idxN (natOf (AV.int k i)) fun (j : Nat) => if j < l then some (AV.cptr sn (List.drop (j * e) cs)) else none) ∧
    (∀ {e id ver e' off l : Nat} {c : Option Nat} {k : Go.IntKind} {i : Int}, idxA e (AV.sl id ver e' off l c) (AV.int k i) = idxN (natOf (AV.int k i)) fun (j : Nat) => if e' = e ∧ j < l then some (AV.ptr id ver (off + j * e)) else none) ∧
    (∀ {v : AV} {l : List AV}, firstX (some (v :: l)) = some v) ∧
    (∀ {H : Heap} {id ver off : Nat}, loadA H none (AV.ptr id ver off) = firstX (cellsAt H (AV.ptr id ver off) (1 : Nat))) ∧
    (∀ {H : Heap} {sn : Bool} {cs : List AV}, loadA H none (AV.cptr sn cs) = firstX (cellsAt H (AV.cptr sn cs) (1 : Nat))) ∧
    (∀ {H : Heap} {n id ver off : Nat}, loadA H (some n) (AV.ptr id ver off) = Option.map AV.agg (cellsAt H (AV.ptr id ver off) n)) ∧
    (∀ {H : Heap} {n : Nat} {sn : Bool} {cs : List AV}, loadA H (some n) (AV.cptr sn cs) = Option.map AV.agg (cellsAt H (AV.cptr sn cs) n)) ∧
    (∀ {α : Type} {a : α} {l : List α} {i : Nat}, List.drop (i + (1 : Nat)) (a :: l) = List.drop i l) ∧
    (∀ {α : Type} {l : List α}, List.drop (0 : Nat) l = l) ∧
    (∀ {α : Type} {a : α} {«as» : List α} {i : Nat}, List.take (i + (1 : Nat)) (a :: «as») = a :: List.take i «as») ∧
    (∀ {α : Type} {l : List α}, List.take (0 : Nat) l = []) ∧
    (∀ {α : Type} {a : α} {l : List α}, (a :: l)[(0 : Nat)]? = some a) ∧
    (∀ {α : Type} {a : α} {i : Nat} {l : List α}, (a :: l)[i + (1 : Nat)]? = l[i]?) ∧
    (∀ {α : Type} {a : α} {l : List α} {f : α → Bool}, (a :: l).all f = (f a && l.all f)) ∧
    (∀ {α : Type} {f : α → Bool}, [].all f = Bool.true) ∧
    (∀ {α : Type} {«as» bs : List α}, («as» ++ bs).length = «as».length + bs.length) ∧
    (∀ {α : Type} {«as» : List α} {i : Nat} {a : α}, («as».set i a).length = «as».length) ∧
    (∀ (b : Bool), (b && b) = b) ∧
    (∀ (b : Bool), (b && Bool.true) = b) ∧
    (∀ (b : Bool), (Bool.true && b) = b) ∧
    (∀ (b : Bool), (b || Bool.false) = b) ∧
    (∀ (b : Bool), (b || Bool.true) = Bool.true) ∧
    (∀ (h : Decidable True), Decidable.decide True = Bool.true) ∧
    (∀ (h : Decidable False), Decidable.decide False = Bool.false) ∧
    (∀ (n : Nat), n * (1 : Nat) = n) ∧
    (∀ (n : Nat), (0 : Nat) * n = (0 : Nat)) ∧
    (∀ (n : Nat), (1 : Nat) * n = n) ∧
    (∀ (n : Nat), (0 : Nat) + n = n) ∧
    (∀ (n : Nat), n + (0 : Nat) = n) ∧
    (∀ (n : Nat), n - (0 : Nat) = n) ∧
    (∀ {α : Type} {a : α}, (some a).isSome = Bool.true) ∧
    (∀ {α : Type} (val val_1 : α), (some val = some val_1) = (val = val_1)) ∧
    (∀ {a b : Int}, mnxA Bool.false [AV.int Go.IntKind.i64 a, AV.int Go.IntKind.i64 b] = some (vI (Min.min a b))) ∧
    (∀ {a b : Int}, mnxA Bool.true [AV.int Go.IntKind.i64 a, AV.int Go.IntKind.i64 b] = some (vI (Max.max a b))) ∧
    (∀ {α : Type} («as» bs cs : List α), «as» ++ bs ++ cs = «as» ++ (bs ++ cs)) ∧
    (∀ {n : Nat}, List.range n.succ = List.range n ++ [n]) ∧
    (List.range (0 : Nat) = []) ∧
    (∀ {H : Heap} {n id ver e off len : Nat} {c : Option Nat}, freeA H (n + (1 : Nat)) (AV.sl id ver e off len c) = freeS H n ver off len e H[id]?) ∧
    (∀ {n len : Nat} {cs : List AV}, freeB n len (some cs) = some (AV.imm Bool.false cs len)) ∧
    (∀ (n : Nat), n ≤ n) ∧
    (∀ {α : Type} {n : Nat} {a : α}, (List.replicate n a).length = n) ∧
    (Int.toNat (0 : Int) = (0 : Nat)) ∧
    (∀ {n len : Nat} {p : Prop} [inst : Decidable p] {x y : Option (List AV)}, freeB n len (if p then x else y) = if p then freeB n len x else freeB n len y) ∧
    (∀ {H : Heap} {n ver off len e v : Nat} {cs : List AV}, freeS H n ver off len e (some { ver := v, cells := cs }) = if v = ver ∧ off + len * e ≤ cs.length then freeB n len (List.mapM (freeA H n) (List.take (len * e) (List.drop off cs))) else none) ∧
    ((!Bool.true) = Bool.false) ∧
    ((!Bool.false) = Bool.true) ∧
    (∀ {p : Prop} {x : Decidable p}, Decidable.decide p = Bool.false ↔ ¬p) ∧
    (∀ {α : Type} [inst : BEq α] [LawfulBEq α] {a b : α}, (a == b) = Bool.false ↔ a ≠ b) ∧
    (∀ (b : Bool), (¬b = Bool.true) = (b = Bool.false)) ∧
    (∀ {b : Bool}, (b == Bool.true) = b) ∧
    (∀ {b : Bool}, (b == Bool.false) = !b) ∧
    (∀ {a b : Bool}, (!a) = b ↔ a = !b) ∧
    (∀ {H : Heap} {n id ver e off len : Nat} {c : Option Nat}, snapA H (n + (1 : Nat)) (AV.sl id ver e off len c) = snapS H n ver off len e H[id]?) ∧
    (∀ {H : Heap} {n ver off len e v : Nat} {cs : List AV}, snapS H n ver off len e (some { ver := v, cells := cs }) = if v = ver ∧ off + len * e ≤ cs.length then snapB len (List.mapM (snapA H n) (List.take (len * e) (List.drop off cs))) else none) ∧
    (∀ {len : Nat} {cs : List AV}, snapB len (some cs) = some (AV.imm Bool.true cs len)) ∧
    (∀ {α : Type} {x : α} {xs : List α} {d : α}, (x :: xs).getD (0 : Nat) d = x) ∧
    (∀ {α : Type} {x : α} {xs : List α} {n : Nat} {d : α}, (x :: xs).getD (n + (1 : Nat)) d = xs.getD n d) ∧
    (∀ {α : Type} {x : α} {xs : List α} {i : Nat} {a : α}, (x :: xs).set (i + (1 : Nat)) a = x :: xs.set i a) ∧
    (∀ {α : Type} {x : α} {xs : List α} {a : α}, (x :: xs).set (0 : Nat) a = a :: xs) ∧
    (∀ {α : Type} {a : α} {n : Nat}, List.replicate (n + (1 : Nat)) a = a :: List.replicate n a) ∧
    (∀ {α : Type} {a : α}, List.replicate (0 : Nat) a = []) :=
  ⟨@isU_bool, @cells_bool, @one_bool, @isU_int, @cells_int, @one_int, @isU_nils, @cells_nils, @one_nils, @isU_imm, @cells_imm, @one_imm, @isU_sl, @cells_sl, @one_sl, @isU_ptr, @cells_ptr, @one_ptr, @isU_cptr, @cells_cptr, @one_cptr, @isU_fn, @cells_fn, @one_fn, @isU_agg, @cells_agg, @len_nils, @len_imm, @len_sl, @nat_int, @idxN_some, @idx_imm, @idx_slice, @firstX_some, @load_ptr, @load_cptr, @loads_ptr, @loads_cptr, @List.drop_succ_cons, @List.drop_zero, @List.take_succ_cons, @List.take_zero, @List.getElem?_cons_zero, @List.getElem?_cons_succ, @List.all_cons, @List.all_nil, @List.length_append, @List.length_set, @Bool.and_self, @Bool.and_true, @Bool.true_and, @Bool.or_false, @Bool.or_true, @decide_true, @decide_false, @Nat.mul_one, @Nat.zero_mul, @Nat.one_mul, @Nat.zero_add, @Nat.add_zero, @Nat.sub_zero, @Option.isSome_some, @Option.some.injEq, @mnx_min, @mnx_max, @List.append_assoc, @List.range_succ, @List.range_zero, @free_sl, @freeB_some, @Nat.le_refl, @List.length_replicate, @Int.toNat_zero, @freeB_ite, @freeS_some, @Bool.not_true, @Bool.not_false, @decide_eq_false_iff_not, @beq_eq_false_iff_ne, @Bool.not_eq_true, @beq_bt, @beq_bf, @Bool.not_eq_eq_eq_not, @snap_sl, @snapS_some, @snapB_some, @List.getD_cons_zero, @List.getD_cons_succ, @List.set_cons_succ, @List.set_cons_zero, @List.replicate_succ, @List.replicate_zero⟩

end Go.X
