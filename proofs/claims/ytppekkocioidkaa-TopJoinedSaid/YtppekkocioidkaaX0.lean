import Derived.WalkKit
import Derived.Test.YtppekkocioidkaaGS
/-! A small machine beside the model: values, instructions, and what they do. It has no tape and no addresses. -/
namespace Go.X

/-- A value. 'ptr', 'sl': into an object of this machine's own; 'cptr', 'imm': into memory that does not change. -/
inductive AV where
  | undef
  | skp
  | bool (b : Bool)
  | int (k : IntKind) (n : Int)
  | nilp
  | ptr (id ver off : Nat)
  | cptr (sn : Bool) (cells : List AV)
  | nils
  | sl (id ver esz off len : Nat) (cap : Option Nat)
  | imm (sn : Bool) (cells : List AV) (len : Nat)
  | fn (f : Nat) (caps : List AV)
  | nilf
  | iface (t : Nat) (v : AV)
  | nili
  | agg (cells : List AV)
  | tup (vs : List AV)

structure Ob where
  ver : Nat
  cells : List AV

abbrev Heap := List Ob

inductive Opd where
  | t (i : Nat)
  | c (v : AV)

def Opd.ev (fr : List AV) : Opd → AV
  | .t i => fr.getD i .undef
  | .c v => v

inductive Ins where
  | mov (x : Opd)
  | pick (c a b : Opd)
  | alloc (zero : List AV)
  | box (x : Opd)
  | build (zero : List AV) (parts : List (Nat × Nat × Opd))
  | bslice (esz len : Nat) (zero : List AV) (parts : List (Nat × Nat × Opd))
  | load (sz : Option Nat) (p : Opd)
  | store (sz : Nat) (p x : Opd)
  | chk (x : Opd)
  | bin (op : BinOp) (x y : Opd)
  | eqb (neg : Bool) (x y : Opd)
  | eqs (neg : Bool) (ks : List Bool) (x y : Opd)
  | eqn (neg : Bool) (x : Opd)
  | un (op : UnOp) (x : Opd)
  | conv (k : IntKind) (x : Opd)
  | mki (t : Nat) (x : Opd)
  | mkf (f : Nat) (caps : List Opd)
  | mks (esz bytes : Nat) (zero : List AV) (len cap : Opd)
  | slice (esz : Nat) (x : Opd) (lo hi mx : Option Opd)
  | fieldA (off : Nat) (x : Opd)
  | field (sz : Option Nat) (off : Nat) (x : Opd)
  | indexA (esz : Nat) (x i : Opd)
  | indexP (esz n : Nat) (x i : Opd)
  | index (sz : Option Nat) (esz n : Nat) (x i : Opd)
  | ext (x : Opd) (i : Nat)
  | len (x : Opd)
  | mnx (isMax : Bool) (xs : List Opd)
  | app (esz bytes : Nat) (x y : Opd)
  | call (mode : Nat) (f : Nat) (args : List Opd)
  | calld (mode : Nat) (f : Opd) (args : List Opd)
  | callm (mode : Nat) (tab : List (Nat × Nat)) (r : Opd) (args : List Opd)
  | apt (x y : Opd)
  | bad

structure Op1 where
  guard : Option (Nat × Bool)
  dst : Option Nat
  ins : Ins

inductive XC where
  | skip
  | reg (ops : List Op1)
  | seq (a b : XC)
  | cond (c : Opd) (a b : XC)
  | block (id : Nat) (live : List Bool) (b : XC)
  | loop (live : List Bool) (b : XC)
  | exit (id : Nat) (live : List Bool)
  | ret (live : List Bool)

inductive Res where
  | tmp (t : Nat)
  | cell (t : Nat) (sz : Option Nat)

structure XF where
  np : Nat
  nt : Nat
  res : List Res
  body : XC

inductive Ex where
  | n
  | x (id : Nat)
  | r

def cellsOf : AV → List AV
  | .agg cs => cs
  | v => [v]

def one : AV → Bool
  | .agg _ | .tup _ | .undef | .skp => false
  | _ => true

def isU : AV → Bool
  | .undef => true
  | _ => false

def putAll {α : Type} : List α → Nat → List α → List α
  | cs, _, [] => cs
  | cs, i, v :: vs => putAll (cs.set i v) (i + 1) vs

def fillA : List AV → List (Nat × Nat × AV) → Option (List AV)
  | cs, [] => some cs
  | cs, (off, size, v) :: rest => if isU v = false ∧ (cellsOf v).length = size ∧ off + size ≤ cs.length then fillA (putAll cs off (cellsOf v)) rest else none

/-- What lies from a place on, at least 'n' cells. -/
def cellsAt (H : Heap) : AV → Nat → Option (List AV)
  | .ptr id ver off, n => match H[id]? with
    | some o => if o.ver = ver ∧ off + n ≤ o.cells.length then some ((o.cells.drop off).take n) else none
    | none => none
  | .cptr _ cells, n => if n ≤ cells.length then some (cells.take n) else none
  | _, _ => none

def loadA (H : Heap) (sz : Option Nat) (p : AV) : Option AV :=
  match sz with
  | none => match cellsAt H p 1 with
    | some (v :: _) => some v
    | _ => none
  | some n => (cellsAt H p n).map .agg

def storeA (H : Heap) (sz : Nat) (p v : AV) : Option Heap :=
  match p with
  | .ptr id ver off => match H[id]? with
    | some o => if o.ver = ver ∧ (cellsOf v).length = sz ∧ off + sz ≤ o.cells.length ∧ (cellsOf v).all one = true then some (H.set id { o with cells := putAll o.cells off (cellsOf v) }) else none
    | none => none
  | _ => none

/-- The cells of a slice. -/
def content (H : Heap) (esz : Nat) : AV → Option (List AV)
  | .nils => some []
  | .imm _ cells len => if len * esz ≤ cells.length then some (cells.take (len * esz)) else none
  | .sl id ver e off len _ => match H[id]? with
    | some o => if o.ver = ver ∧ e = esz ∧ off + len * esz ≤ o.cells.length then some ((o.cells.drop off).take (len * esz)) else none
    | none => none
  | _ => none

def lenA : AV → Option Nat
  | .nils => some 0
  | .imm _ _ len => some len
  | .sl _ _ _ _ len _ => some len
  | _ => none

def natOf : AV → Option Nat
  | .int _ n => if 0 ≤ n then some n.toNat else none
  | _ => none

def appA (H : Heap) (esz bytes : Nat) (x y : AV) : Option (AV × Heap) :=
  match lenA x, lenA y, content H esz y with
  | some m, some n, some ys =>
    if n = 0 then some (x, H) else
    if (m + n) * bytes ≤ 140737488355328 ∧ m + n ≤ 9223372036854775807 ∧ ys.all one = true then
      match x with
      | .nils => some (.sl H.length 0 esz 0 n none, H ++ [⟨0, ys⟩])
      | .sl id ver e off len none => match H[id]? with
        | some o => if o.ver = ver ∧ e = esz ∧ off = 0 ∧ len * esz = o.cells.length then some (.sl id (ver + 1) esz 0 (len + n) none, H.set id ⟨ver + 1, o.cells ++ ys⟩) else none
        | none => none
      | .sl _ _ _ _ len (some c) => if c < len + n then
          match content H esz x with
          | some xs => some (.sl H.length 0 esz 0 (len + n) none, H ++ [⟨0, xs ++ ys⟩])
          | none => none
        else none
      | _ => none
    else none
  | _, _, _ => none

def optNat (o : Option AV) (d : Nat) : Option Nat :=
  match o with
  | none => some d
  | some v => natOf v

def sliceA (esz : Nat) (x : AV) (lo hi mx : Option AV) : Option AV :=
  match x with
  | .nils => match optNat lo 0, optNat hi 0, mx with
    | some 0, some 0, none => some .nils
    | _, _, _ => none
  | .imm sn cells len => match optNat lo 0, optNat hi len, mx with
    | some l, some h, none => if l ≤ h ∧ h ≤ len then some (.imm sn ((cells.drop (l * esz)).take ((h - l) * esz)) (h - l)) else none
    | _, _, _ => none
  | .sl id ver e off len cap => match optNat lo 0, optNat hi len, mx with
    | some l, some h, none => if e = esz ∧ l ≤ h ∧ h ≤ len then some (.sl id ver esz (off + l * esz) (h - l) (cap.map (· - l))) else none
    | some l, some h, some m => match (if hi.isSome then natOf m else none) with
      | some m => if e = esz ∧ l ≤ h ∧ h ≤ m ∧ m ≤ len then some (.sl id ver esz (off + l * esz) (h - l) (some (m - l))) else none
      | none => none
    | _, _, _ => none
  | _ => none

def idxA (esz : Nat) (x i : AV) : Option AV :=
  match natOf i with
  | none => none
  | some j => match x with
    | .imm sn cells len => if j < len then some (.cptr sn (cells.drop (j * esz))) else none
    | .sl id ver e off len _ => if e = esz ∧ j < len then some (.ptr id ver (off + j * esz)) else none
    | _ => none

def idxP (esz n : Nat) (x i : AV) : Option AV :=
  match natOf i with
  | none => none
  | some j => if j < n then
      match x with
      | .ptr id ver off => some (.ptr id ver (off + j * esz))
      | .cptr sn cells => some (.cptr sn (cells.drop (j * esz)))
      | _ => none
    else none

def fldA (off : Nat) : AV → Option AV
  | .ptr id ver o => some (.ptr id ver (o + off))
  | .cptr sn cells => some (.cptr sn (cells.drop off))
  | _ => none

def partA (sz : Option Nat) (off : Nat) : AV → Option AV
  | .agg cs => match sz with
    | none => cs[off]?
    | some n => if off + n ≤ cs.length then some (.agg ((cs.drop off).take n)) else none
  | _ => none

def bitsA (op : BinOp) (k : IntKind) (x y : Int) : Option AV :=
  match op with
  | .and => some (.int k (k.wrap (BitVec.ofInt k.bits x &&& BitVec.ofInt k.bits y).toNat))
  | .or => some (.int k (k.wrap (BitVec.ofInt k.bits x ||| BitVec.ofInt k.bits y).toNat))
  | .xor => some (.int k (k.wrap (BitVec.ofInt k.bits x ^^^ BitVec.ofInt k.bits y).toNat))
  | .andNot => some (.int k (k.wrap (BitVec.ofInt k.bits x &&& ~~~ BitVec.ofInt k.bits y).toNat))
  | _ => none

def binA (op : BinOp) (x y : AV) : Option AV :=
  match x, y with
  | .int k a, .int k' b =>
    match op with
    | .shl => if 0 ≤ b then some (.int k (k.wrap (a * 2 ^ min b.toNat k.bits))) else none
    | .shr => if 0 ≤ b then some (.int k (a.fdiv (2 ^ min b.toNat k.bits))) else none
    | .add => if k = k' then some (.int k (k.wrap (a + b))) else none
    | .sub => if k = k' then some (.int k (k.wrap (a - b))) else none
    | .mul => if k = k' then some (.int k (k.wrap (a * b))) else none
    | .quo => if k = k' ∧ b ≠ 0 then some (.int k (k.wrap (a.tdiv b))) else none
    | .rem => if k = k' ∧ b ≠ 0 then some (.int k (a.tmod b)) else none
    | .eql => if k = k' then some (.bool (a == b)) else none
    | .neq => if k = k' then some (.bool (a != b)) else none
    | .lss => if k = k' then some (.bool (decide (a < b))) else none
    | .leq => if k = k' then some (.bool (decide (a ≤ b))) else none
    | .gtr => if k = k' then some (.bool (decide (a > b))) else none
    | .geq => if k = k' then some (.bool (decide (a ≥ b))) else none
    | _ => if k = k' then bitsA op k a b else none
  | _, _ => none

def eqbA (neg : Bool) (x y : AV) : Option AV :=
  match x, y with
  | .bool a, .bool b => some (.bool ((a == b) != neg))
  | _, _ => none

def zerosA (zero : List AV) (m : Nat) : List AV := (List.range m).map fun j => zero.getD (j % zero.length) .undef

/-- Whole numbers of one kind, or bools, cell by cell. -/
def eqCells : List Bool → List AV → List AV → Option Bool
  | [], [], [] => some true
  | true :: ks, .int k a :: xs, .int k' b :: ys => if k = k' then (eqCells ks xs ys).map (fun r => (a == b) && r) else none
  | false :: ks, .bool a :: xs, .bool b :: ys => (eqCells ks xs ys).map (fun r => (a == b) && r)
  | _, _, _ => none

def eqsA (neg : Bool) (ks : List Bool) (x y : AV) : Option AV :=
  match x, y with
  | .agg xs, .agg ys => (eqCells ks xs ys).map (fun r => .bool (r != neg))
  | _, _ => none

def eqnA (neg : Bool) : AV → Option AV
  | .nils => some (.bool (!neg))
  | .imm _ _ (_ + 1) => some (.bool neg)
  | .sl _ _ _ _ _ _ => some (.bool neg)
  | _ => none

def unA (op : UnOp) (x : AV) : Option AV :=
  match op, x with
  | .neg, .int k n => some (.int k (k.wrap (0 - n)))
  | .not, .bool b => some (.bool !b)
  | _, _ => none

def mnxA (isMax : Bool) : List AV → Option AV
  | [] => none
  | [.int k a] => some (.int k a)
  | .int k a :: .int _ b :: rest => mnxA isMax (.int k (if isMax then (if b > a then b else a) else (if b < a then b else a)) :: rest)
  | _ => none
termination_by l => l.length

def chkA : AV → Option AV
  | .ptr a b c => some (.ptr a b c)
  | .cptr a b => some (.cptr a b)
  | .fn f c => some (.fn f c)
  | .iface t v => some (.iface t v)
  | _ => none

/-- A value for a call that shares no objects: rows become what they hold. -/
def snapA (H : Heap) : Nat → AV → Option AV
  | 0, _ => none
  | d + 1, v => match v with
    | .undef => some .undef
    | .bool b => some (.bool b)
    | .int k n => some (.int k n)
    | .nilp => some .nilp
    | .nils => some .nils
    | .nilf => some .nilf
    | .nili => some .nili
    | .imm sn cells len => some (.imm sn cells len)
    | .fn f caps => (caps.mapM (snapA H d)).map (.fn f)
    | .cptr sn cells => some (.cptr sn cells)
    | .ptr id ver off => match H[id]? with
      | some o => if o.ver = ver ∧ off ≤ o.cells.length then ((o.cells.drop off).mapM (snapA H d)).map (.cptr true) else none
      | none => none
    | .sl id ver e off len _ => match H[id]? with
      | some o => if o.ver = ver ∧ off + len * e ≤ o.cells.length then (((o.cells.drop off).take (len * e)).mapM (snapA H d)).map (fun cs => .imm true cs len) else none
      | none => none
    | .agg cells => (cells.mapM (snapA H d)).map .agg
    | .tup cells => (cells.mapM (snapA H d)).map .tup
    | .iface t v => (snapA H d v).map (.iface t)
    | _ => none

/-- A result that shares no objects. -/
def freeA (H : Heap) : Nat → AV → Option AV
  | 0, _ => none
  | d + 1, v => match v with
    | .undef => some .undef
    | .bool b => some (.bool b)
    | .int k n => some (.int k n)
    | .nilp => some .nilp
    | .nils => some .nils
    | .nilf => some .nilf
    | .nili => some .nili
    | .imm false cells len => some (.imm false cells len)
    | .fn f [] => some (.fn f [])
    | .sl id ver e off len _ => match H[id]? with
      | some o => if o.ver = ver ∧ off + len * e ≤ o.cells.length then (((o.cells.drop off).take (len * e)).mapM (freeA H d)).map (fun cs => .imm false cs len) else none
      | none => none
    | .agg cells => (cells.mapM (freeA H d)).map .agg
    | .tup cells => (cells.mapM (freeA H d)).map .tup
    | .iface t v => (freeA H d v).map (.iface t)
    | _ => none

/-- A value whose objects are counted on by n; nothing in it may hang on what lies beside. -/
def shiftA (n : Nat) : Nat → AV → Option AV
  | 0, _ => none
  | d + 1, v => match v with
    | .undef => some .undef
    | .bool b => some (.bool b)
    | .int k n => some (.int k n)
    | .nilp => some .nilp
    | .nils => some .nils
    | .nilf => some .nilf
    | .nili => some .nili
    | .imm false cells len => some (.imm false cells len)
    | .fn f [] => some (.fn f [])
    | .sl id ver e off len cap => some (.sl (id + n) ver e off len cap)
    | .ptr id ver off => some (.ptr (id + n) ver off)
    | .agg cells => (cells.mapM (shiftA n d)).map .agg
    | .tup cells => (cells.mapM (shiftA n d)).map .tup
    | .iface t v => (shiftA n d v).map (.iface t)
    | _ => none

def depth : Nat := 6

def shiftO (n : Nat) (o : Ob) : Option Ob := some (match o.cells.mapM (shiftA n depth) with
  | some cs => ⟨o.ver, cs⟩
  | none => ⟨o.ver, o.cells.map fun c => (shiftA n depth c).getD .undef⟩)

/-- How a call is made, out of how a function runs on a heap. -/
def callA (run : Nat → List AV → Heap → Option (AV × Heap)) (mode f : Nat) (args : List AV) (H : Heap) : Option (AV × Heap) :=
  match mode with
  | 0 => run f args H
  | 1 => match args.mapM (snapA H depth) with
    | some as => match run f as [] with
      | some (v, H') => (freeA H' depth v).map fun v' => (v', H)
      | none => none
    | none => none
  | 3 => if gstill f then (run f args H).map fun r => (r.1, H) else none
  | _ => match args.mapM (snapA H depth) with
    | some as => match run f as [] with
      | some (v, H') => match shiftA H.length depth v, H'.mapM (shiftO H.length) with
        | some v', some H'' => some (v', H ++ H'')
        | _, _ => none
      | none => none
    | none => none

/-- An operation that changes no memory. -/
def stillI : Ins → Bool
  | .alloc _ | .box _ | .bslice .. | .store .. | .mks .. | .app .. | .call .. | .calld .. | .callm .. => false
  | _ => true

def stillC : XC → Bool
  | .reg ops => ops.all fun o => stillI o.ins
  | .seq a b | .cond _ a b => stillC a && stillC b
  | .block _ _ b | .loop _ b => stillC b
  | _ => true

/-- Two places that lie in objects apart. -/
def apartV : AV → AV → Bool
  | .ptr id _ _, .ptr id' _ _ => id != id'
  | _, _ => true

def insA (run : Nat → List AV → Heap → Option (AV × Heap)) (i : Ins) (fr : List AV) (H : Heap) : Option (AV × Heap) :=
  let pure (o : Option AV) : Option (AV × Heap) := o.map fun v => (v, H)
  match i with
  | .mov x => some (x.ev fr, H)
  | .pick c a b => match c.ev fr with
    | .bool t => some (if t then a.ev fr else b.ev fr, H)
    | _ => none
  | .alloc zero => some (.ptr H.length 0 0, H ++ [⟨0, zero⟩])
  | .box x => if isU (x.ev fr) then none else some (.ptr H.length 0 0, H ++ [⟨0, cellsOf (x.ev fr)⟩])
  | .build zero parts => pure ((fillA zero (parts.map fun p => (p.1, p.2.1, p.2.2.ev fr))).map .agg)
  | .bslice esz len zero parts => match fillA (zerosA zero (len * esz)) (parts.map fun p => (p.1, p.2.1, p.2.2.ev fr)) with
    | some cs => some (.sl H.length 0 esz 0 len none, H ++ [⟨0, cs⟩])
    | none => none
  | .load sz p => pure (loadA H sz (p.ev fr))
  | .store sz p x => (storeA H sz (p.ev fr) (x.ev fr)).map fun H' => (.skp, H')
  | .chk x => pure (chkA (x.ev fr))
  | .bin op x y => pure (binA op (x.ev fr) (y.ev fr))
  | .eqb neg x y => pure (eqbA neg (x.ev fr) (y.ev fr))
  | .eqs neg ks x y => pure (eqsA neg ks (x.ev fr) (y.ev fr))
  | .eqn neg x => pure (eqnA neg (x.ev fr))
  | .un op x => pure (unA op (x.ev fr))
  | .conv k x => match x.ev fr with
    | .int _ n => some (.int k (k.wrap n), H)
    | _ => none
  | .mki t x => some (.iface t (x.ev fr), H)
  | .mkf f caps => some (.fn f (caps.map (·.ev fr)), H)
  | .mks esz bytes zero l c => match l.ev fr, c.ev fr with
    | .int .i64 n, .int .i64 m => if n = m ∧ 0 ≤ n ∧ n * bytes ≤ 140737488355328 ∧ n ≤ 9223372036854775807 ∧ zero.length = esz then
        some (.sl H.length 0 esz 0 n.toNat none, H ++ [⟨0, zerosA zero (n.toNat * esz)⟩]) else none
    | _, _ => none
  | .slice esz x lo hi mx => pure (sliceA esz (x.ev fr) (lo.map (·.ev fr)) (hi.map (·.ev fr)) (mx.map (·.ev fr)))
  | .fieldA off x => pure (fldA off (x.ev fr))
  | .field sz off x => pure (partA sz off (x.ev fr))
  | .indexA esz x i => pure (idxA esz (x.ev fr) (i.ev fr))
  | .indexP esz n x i => pure (idxP esz n (x.ev fr) (i.ev fr))
  | .index sz esz n x i => match natOf (i.ev fr) with
    | some j => if j < n then pure (partA sz (j * esz) (x.ev fr)) else none
    | none => none
  | .ext x i => match x.ev fr with
    | .tup vs => pure vs[i]?
    | _ => none
  | .len x => pure ((lenA (x.ev fr)).map fun n => .int .i64 n)
  | .mnx isMax xs => pure (mnxA isMax (xs.map (·.ev fr)))
  | .app esz bytes x y => appA H esz bytes (x.ev fr) (y.ev fr)
  | .call mode f args => callA run mode f (args.map (·.ev fr)) H
  | .calld mode f args => match f.ev fr with
    | .fn g caps => callA run mode g (args.map (·.ev fr) ++ caps) H
    | _ => none
  | .callm mode tab r args => match r.ev fr with
    | .iface t v => match tab.lookup t with
      | some g => callA run mode g (v :: args.map (·.ev fr)) H
      | none => none
    | _ => none
  | .apt x y => pure (if apartV (x.ev fr) (y.ev fr) then some .skp else none)
  | .bad => none

/-- Is an operation made at all? -/
def wantedA (g : Option (Nat × Bool)) (fr : List AV) : Option Bool :=
  match g with
  | none => some true
  | some (t, b) => match fr.getD t .undef with
    | .bool c => some (c == b)
    | .skp => some false
    | _ => none

def putA (fr : List AV) (d : Option Nat) (v : AV) : List AV := match d with
  | some d => fr.set d v
  | none => fr

def stepA (run : Nat → List AV → Heap → Option (AV × Heap)) (o : Op1) (fr : List AV) (H : Heap) : Option (List AV × Heap) :=
  match wantedA o.guard fr with
  | some true => match insA run o.ins fr H with
    | some (v, H') => some (putA fr o.dst v, H')
    | none => none
  | some false => some (putA fr o.dst .skp, H)
  | none => none

def opsA (run : Nat → List AV → Heap → Option (AV × Heap)) : List Op1 → List AV → Heap → Option (List AV × Heap)
  | [], fr, H => some (fr, H)
  | o :: rest, fr, H => match stepA run o fr H with
    | some (fr', H') => opsA run rest fr' H'
    | none => none

def keepA : List Bool → List AV → List AV
  | b :: bs, v :: vs => (if b then v else .undef) :: keepA bs vs
  | _, vs => vs

def resA (H : Heap) (fr : List AV) : Res → Option AV
  | .tmp t => some (fr.getD t .undef)
  | .cell t sz => loadA H sz (fr.getD t .undef)

def resultA (rs : List Res) (fr : List AV) (H : Heap) : Option AV :=
  match rs with
  | [r] => resA H fr r
  | _ => (rs.mapM (resA H fr)).map .tup

end Go.X
