import Derived.Test.YtdkgicdbjemalaaDoorXD
/-! The rules by which the machine is worked out, as one theorem each. -/
set_option linter.unusedVariables false
set_option maxRecDepth 10000
namespace Go.X
open Go Go.RowKit

theorem SS :
    (∀ {E : Nat → Option XF} {Y : Run} {fr : List AV} {H : Heap}, codeL E Y XC.skip fr H = some (Ex.n, fr, H)) ∧
    (∀ {E : Nat → Option XF} {Y : Run} {fr : List AV} {H : Heap} {id : Nat} {l : List Bool}, codeL E Y (XC.exit id l) fr H = some (Ex.x id, keepA l fr, H)) ∧
    (∀ {E : Nat → Option XF} {Y : Run} {fr : List AV} {H : Heap} {l : List Bool}, codeL E Y (XC.ret l) fr H = some (Ex.r, keepA l fr, H)) ∧
    (∀ {E : Nat → Option XF} {Y : Run} {fr : List AV} {H : Heap} {ops : List Op1}, codeL E Y (XC.reg ops) fr H = opsL E Y ops fr H) ∧
    (∀ {E : Nat → Option XF} {Y : Run} {fr : List AV} {H : Heap} {a b : XC}, codeL E Y (a.seq b) fr H = thenX (codeL E Y a fr H) (codeL E Y b)) ∧
    (∀ {E : Nat → Option XF} {Y : Run} {fr : List AV} {H : Heap} {o : Opd} {a b : XC}, codeL E Y (XC.cond o a b) fr H = condX (Opd.ev fr o) (codeL E Y a fr H) (codeL E Y b fr H)) ∧
    (∀ {E : Nat → Option XF} {Y : Run} {fr : List AV} {H : Heap} {id : Nat} {live : List Bool} {b : XC}, codeL E Y (XC.block id live b) fr H = blockX id live (codeL E Y b fr H)) ∧
    (∀ {E : Nat → Option XF} {Y : Run} {fr : List AV} {H : Heap}, opsL E Y [] fr H = some (Ex.n, fr, H)) ∧
    (∀ {E : Nat → Option XF} {Y : Run} {fr : List AV} {H : Heap} {o : Op1} {ops : List Op1}, opsL E Y (o :: ops) fr H = contX (stepA (callL E Y) o fr H) (opsL E Y ops)) ∧
    (∀ {fr : List AV} {H : Heap} {R : Run} {d : Option Nat} {i : Ins}, stepA R { guard := none, dst := d, ins := i } fr H = putX fr d (insA R i fr H)) ∧
    (∀ {fr : List AV} {H : Heap} {R : Run} {d : Option Nat} {i : Ins} {t : Nat} {b : Bool}, stepA R { guard := some (t, b), dst := d, ins := i } fr H = wantX (wantedA (some (t, b)) fr) (putX fr d (insA R i fr H)) (some (putA fr d AV.skp, H))) ∧
    (∀ {fr : List AV} {H : Heap} {k : List AV → Heap → Option (Ex × List AV × Heap)}, contX (some (fr, H)) k = k fr H) ∧
    (∀ {k : List AV → Heap → Option (Ex × List AV × Heap)}, contX none k = none) ∧
    (∀ {p : Prop} [inst : Decidable p] {x y : Option (List AV × Heap)} {k : List AV → Heap → Option (Ex × List AV × Heap)}, contX (if p then x else y) k = if p then contX x k else contX y k) ∧
    (∀ {fr : List AV} {H : Heap} {d : Option Nat} {v : AV}, putX fr d (some (v, H)) = some (putA fr d v, H)) ∧
    (∀ {fr : List AV} {p : Prop} [inst : Decidable p] {d : Option Nat} {x y : Option (AV × Heap)}, putX fr d (if p then x else y) = if p then putX fr d x else putX fr d y) ∧
    (∀ {fr : List AV} {d : Option Nat}, putX fr d none = none) ∧
    (∀ {x y : Option (List AV × Heap)}, wantX (some Bool.true) x y = x) ∧
    (∀ {x y : Option (List AV × Heap)}, wantX (some Bool.false) x y = y) ∧
    (∀ {b : Bool} {x y : Option (List AV × Heap)}, wantX (some b) x y = if b = Bool.true then x else y) ∧
    (∀ {fr : List AV} {H : Heap} {k : List AV → Heap → Option (Ex × List AV × Heap)}, thenX (some (Ex.n, fr, H)) k = k fr H) ∧
    (∀ {fr : List AV} {H : Heap} {id : Nat} {k : List AV → Heap → Option (Ex × List AV × Heap)}, thenX (some (Ex.x id, fr, H)) k = some (Ex.x id, fr, H)) ∧
    (∀ {fr : List AV} {H : Heap} {k : List AV → Heap → Option (Ex × List AV × Heap)}, thenX (some (Ex.r, fr, H)) k = some (Ex.r, fr, H)) ∧
    (∀ {k : List AV → Heap → Option (Ex × List AV × Heap)}, thenX none k = none) ∧
    (∀ {p : Prop} [inst : Decidable p] {x y : Option (Ex × List AV × Heap)} {k : List AV → Heap → Option (Ex × List AV × Heap)}, thenX (if p then x else y) k = if p then thenX x k else thenX y k) ∧
    (∀ {fr : List AV} {H : Heap} {id : Nat} {live : List Bool}, blockX id live (some (Ex.n, fr, H)) = some (Ex.n, keepA live fr, H)) ∧
    (∀ {fr : List AV} {H : Heap} {id j : Nat} {live : List Bool}, blockX id live (some (Ex.x j, fr, H)) = if j = id then some (Ex.n, keepA live fr, H) else some (Ex.x j, fr, H)) ∧
    (∀ {fr : List AV} {H : Heap} {id : Nat} {live : List Bool}, blockX id live (some (Ex.r, fr, H)) = some (Ex.r, fr, H)) ∧
    (∀ {p : Prop} [inst : Decidable p] {x y : Option (Ex × List AV × Heap)} {id : Nat} {live : List Bool}, blockX id live (if p then x else y) = if p then blockX id live x else blockX id live y) ∧
    (∀ {x y : Option (Ex × List AV × Heap)}, condX (AV.bool Bool.true) x y = x) ∧
    (∀ {x y : Option (Ex × List AV × Heap)}, condX (AV.bool Bool.false) x y = y) ∧
    (∀ {b : Bool} {x y : Option (Ex × List AV × Heap)}, condX (AV.bool b) x y = if b = Bool.true then x else y) ∧
    (∀ {fr : List AV} {H : Heap} {res : List Res}, endX res (some (Ex.n, fr, H)) = Option.map (fun (v : AV) => (v, H)) (resultA res fr H)) ∧
    (∀ {fr : List AV} {H : Heap} {res : List Res}, endX res (some (Ex.r, fr, H)) = Option.map (fun (v : AV) => (v, H)) (resultA res fr H)) ∧
    (∀ {p : Prop} [inst : Decidable p] {res : List Res} {x y : Option (Ex × List AV × Heap)}, endX res (if p then x else y) = if p then endX res x else endX res y) ∧
    (∀ {α : Type} {β : Type} {f : α → β} {a : α} {l : List α}, List.map f (a :: l) = f a :: List.map f l) ∧
    (∀ {α : Type} {β : Type} {f : α → β}, List.map f [] = []) ∧
    (∀ {α : Type} {β : Type} (a : α) (f : α → β), Option.map f (some a) = some (f a)) ∧
    (∀ {α : Type} {β : Type} (f : α → β), Option.map f none = none) ∧
    (∀ {α : Type} {x : Decidable True} (t e : α), (if True then t else e) = t) ∧
    (∀ {α : Type} {x : Decidable False} (t e : α), (if False then t else e) = e) ∧
    (∀ {α : Type} {c : Prop} {d : Decidable c} (a : α), (if c then a else a) = a) ∧
    (∀ {p : Prop} [inst : Decidable p], (Decidable.decide p = Bool.true) = p) ∧
    ((Bool.false = Bool.true) = False) ∧
    (∀ {α : Type} (a : α), (a = a) = True) ∧
    (∀ {α : Type} {β : Type} (a : α) (f : α → Option β), (some a).bind f = f a) ∧
    (∀ {α : Type} [inst : BEq α] [ReflBEq α] (a : α), (a == a) = Bool.true) ∧
    (∀ {E : Nat → Option XF} {Y : Run} {fr : List AV} {H : Heap} {L : XC} {live : List Bool}, again E Y L live fr H = lp E Y L (keepA live fr) H) ∧
    (∀ {α : Type} {a : α} {«as» bs : List α}, a :: «as» ++ bs = a :: («as» ++ bs)) ∧
    (∀ {α : Type} («as» : List α), [] ++ «as» = «as») ∧
    (∀ {α : Type} [inst : BEq α] [LawfulBEq α] {a b : α}, (a != b) = Bool.true ↔ a ≠ b) ∧
    (∀ {α : Type} [inst : BEq α] [LawfulBEq α] {a b : α}, (a == b) = Bool.true ↔ a = b) ∧
    (∀ {α : Type} (a b : α), (a ≠ b) = ¬a = b) ∧
    ((¬False) = True) ∧
    ((¬True) = False) ∧
    (∀ (p : Prop), (True ∧ p) = p) ∧
    (∀ (p : Prop), (p ∧ True) = p) ∧
    (∀ (p : Prop), (p ∧ p) = p) ∧
    ((Bool.true = Bool.false) = False) ∧
    (∀ {α : Type} {a : α} {«as» : List α}, (a :: «as»).length = «as».length + (1 : Nat)) ∧
    (∀ {H : Heap} {R : Run} {f : Nat} {args : List AV}, callA R (0 : Nat) f args H = R f args H) ∧
    (∀ {H : Heap} {R : Run} {f : Nat} {args : List AV}, callA R (1 : Nat) f args H = callX1 R f H (List.mapM (snapA H (6 : Nat)) args)) ∧
    (∀ {H : Heap} {R : Run} {f : Nat} {«as» : List AV}, callX1 R f H (some «as») = freeX H (R f «as» [])) ∧
    (∀ {H : Heap} {v : AV} {H' : Heap}, freeX H (some (v, H')) = pairX H (freeA H' (6 : Nat) v)) ∧
    (∀ {H : Heap} {p : Prop} [inst : Decidable p] {x y : Option (AV × Heap)}, freeX H (if p then x else y) = if p then freeX H x else freeX H y) ∧
    (∀ {H : Heap} {v : AV}, pairX H (some v) = some (v, H)) ∧
    (∀ {H : Heap} {n : Nat} {k : Go.IntKind} {i : Int}, snapA H (n + (1 : Nat)) (AV.int k i) = some (AV.int k i)) ∧
    (∀ {H : Heap} {n : Nat} {b : Bool}, snapA H (n + (1 : Nat)) (AV.bool b) = some (AV.bool b)) ∧
    (∀ {H : Heap} {n : Nat}, snapA H (n + (1 : Nat)) AV.nils = some AV.nils) ∧
    (∀ {H : Heap} {n : Nat} {sn : Bool} {cs : List AV} {l : Nat}, snapA H (n + (1 : Nat)) (AV.imm sn cs l) = some (AV.imm sn cs l)) ∧
    (∀ {H : Heap} {n : Nat} {cs : List AV}, snapA H (n + (1 : Nat)) (AV.agg cs) = Option.map AV.agg (List.mapM (snapA H n) cs)) ∧
    (∀ {H : Heap} {n f : Nat}, snapA H (n + (1 : Nat)) (AV.fn f []) = some (AV.fn f [])) ∧
    (∀ {H : Heap} {n : Nat} {k : Go.IntKind} {i : Int}, freeA H (n + (1 : Nat)) (AV.int k i) = some (AV.int k i)) ∧
    (∀ {H : Heap} {n : Nat} {b : Bool}, freeA H (n + (1 : Nat)) (AV.bool b) = some (AV.bool b)) ∧
    (∀ {H : Heap} {n : Nat}, freeA H (n + (1 : Nat)) AV.nils = some AV.nils) ∧
    (∀ {H : Heap} {n : Nat} {cs : List AV} {l : Nat}, freeA H (n + (1 : Nat)) (AV.imm Bool.false cs l) = some (AV.imm Bool.false cs l)) ∧
    (∀ {H : Heap} {n : Nat} {cs : List AV}, freeA H (n + (1 : Nat)) (AV.agg cs) = Option.map AV.agg (List.mapM (freeA H n) cs)) ∧
    (∀ {H : Heap} {n : Nat} {cs : List AV}, freeA H (n + (1 : Nat)) (AV.tup cs) = Option.map AV.tup (List.mapM (freeA H n) cs)) ∧
    (∀ {α : Type} {f : α → Option AV}, List.mapM f [] = some []) ∧
    (∀ {α : Type} {f : α → Option AV} {x : α} {l : List α}, List.mapM f (x :: l) = consO (f x) (List.mapM f l)) ∧
    (∀ {x : AV} {l : List AV}, consO (some x) (some l) = some (x :: l)) ∧
    (∀ {n t : Nat} {l : List (Nat × AV)}, (sp n l).getD t AV.undef = if t < n then fget l t else AV.undef) ∧
    (∀ {n d : Nat} {v : AV} {l : List (Nat × AV)}, (sp n l).set d v = if d < n then sp n (fins d v l) else sp n l) ∧
    (∀ {n k : Nat} {l : List (Nat × AV)}, keepA (m n k) (sp n l) = sp n (fkeep k l)) ∧
    (∀ {e t : Nat} {w : AV} {l : List (Nat × AV)}, fget ((e, w) :: l) t = if t = e then w else fget l t) ∧
    (∀ {t : Nat}, fget [] t = AV.undef) ∧
    (∀ {d : Nat} {v : AV}, fins d v [] = [(d, v)]) ∧
    (∀ {d e : Nat} {v w : AV} {l : List (Nat × AV)}, fins d v ((e, w) :: l) = if e < d then (d, v) :: (e, w) :: l else if d = e then (d, v) :: l else (e, w) :: fins d v l) ∧
    (∀ {k : Nat}, fkeep k [] = []) ∧
    (∀ {k e : Nat} {w : AV} {l : List (Nat × AV)}, fkeep k ((e, w) :: l) = if k / (2 : Nat) ^ e % (2 : Nat) = (1 : Nat) then (e, w) :: fkeep k l else fkeep k l) ∧
    (∀ {α : Type} {β : Type} {a : α} {l : List α} {f : β → α → β} {b : β}, List.foldl f b (a :: l) = List.foldl f (f b a) l) ∧
    (∀ {α : Type} {β : Type} {f : α → β → α} {b : α}, List.foldl f b [] = b) ∧
    (∀ {α : Type} {x : α} {xs : List α} {d : α}, (x :: xs).getD (0 : Nat) d = x) ∧
    (∀ {α : Type} {x : α} {xs : List α} {n : Nat} {d : α}, (x :: xs).getD (n + (1 : Nat)) d = xs.getD n d) ∧
    (∀ {α : Type} {x : α} {xs : List α} {i : Nat} {a : α}, (x :: xs).set (i + (1 : Nat)) a = x :: xs.set i a) ∧
    (∀ {α : Type} {x : α} {xs : List α} {a : α}, (x :: xs).set (0 : Nat) a = a :: xs) ∧
    (∀ {α : Type} {a : α} {«as» : List α}, (a :: «as»).reverse = «as».reverse ++ [a]) :=
  ⟨@codeL_skip, @codeL_exit, @codeL_ret, @codeL_reg, @codeL_seq, @codeL_cond, @codeL_block, @opsL_nil, @opsL_cons, @step_plain, @step_guard, @contX_some, @contX_none, @contX_ite, @putX_some, @putX_ite, @putX_none, @wantX_true, @wantX_false, @wantX_bool, @thenX_n, @thenX_x, @thenX_r, @thenX_none, @thenX_ite, @blockX_n, @blockX_x, @blockX_r, @blockX_ite, @condX_true, @condX_false, @condX_bool, @endX_n, @endX_r, @endX_ite, @List.map_cons, @List.map_nil, @Option.map_some, @Option.map_none, @if_true, @if_false, @ite_self, @decide_eq_true_eq, @Bool.false_eq_true, @eq_self, @Option.bind_some, @beq_self_eq_true, @again_in, @List.cons_append, @List.nil_append, @bne_iff_ne, @beq_iff_eq, @ne_eq, @not_false_eq_true, @not_true_eq_false, @true_and, @and_true, @and_self, @Bool.true_eq_false, @List.length_cons, @call_m0, @call_m1, @callX1_some, @freeX_some, @freeX_ite, @pairX_some, @snap_int, @snap_bool, @snap_nils, @snap_imm, @snap_agg, @snap_fn, @free_int, @free_bool, @free_nils, @free_imm, @free_agg, @free_tup, @mapM_none', @mapM_cons', @consO_some, @st_getI, @st_setI, @st_keep, @fget_cons, @fget_nil, @fins_nil, @fins_cons, @fkeep_nil, @fkeep_cons, @List.foldl_cons, @List.foldl_nil, @List.getD_cons_zero, @List.getD_cons_succ, @List.set_cons_succ, @List.set_cons_zero, @List.reverse_cons⟩

theorem UU :
    (∀ {b : Bool}, isU (AV.bool b) = Bool.false) ∧
    (∀ {b : Bool}, cellsOf (AV.bool b) = [AV.bool b]) ∧
    (∀ {b : Bool}, one (AV.bool b) = Bool.true) ∧
    (∀ {k : Go.IntKind} {n : Int}, isU (AV.int k n) = Bool.false) ∧
    (∀ {k : Go.IntKind} {n : Int}, cellsOf (AV.int k n) = [AV.int k n]) ∧
    (∀ {k : Go.IntKind} {n : Int}, one (AV.int k n) = Bool.true) ∧
    (isU AV.nils = Bool.false) ∧
    (cellsOf AV.nils = [AV.nils]) ∧
    (one AV.nils = Bool.true) ∧
    (∀ {sn : Bool} {cs : List AV} {l : Nat}, isU (AV.imm sn cs l) = Bool.false) ∧
    (∀ {sn : Bool} {cs : List AV} {l : Nat}, cellsOf (AV.imm sn cs l) = [AV.imm sn cs l]) ∧
    (∀ {sn : Bool} {cs : List AV} {l : Nat}, one (AV.imm sn cs l) = Bool.true) ∧
    (∀ {id ver e off l : Nat} {c : Option Nat}, isU (AV.sl id ver e off l c) = Bool.false) ∧
    (∀ {id ver e off l : Nat} {c : Option Nat}, cellsOf (AV.sl id ver e off l c) = [AV.sl id ver e off l c]) ∧
    (∀ {id ver e off l : Nat} {c : Option Nat}, one (AV.sl id ver e off l c) = Bool.true) ∧
    (∀ {a b c : Nat}, isU (AV.ptr a b c) = Bool.false) ∧
    (∀ {a b c : Nat}, cellsOf (AV.ptr a b c) = [AV.ptr a b c]) ∧
    (∀ {a b c : Nat}, one (AV.ptr a b c) = Bool.true) ∧
    (∀ {sn : Bool} {cs : List AV}, isU (AV.cptr sn cs) = Bool.false) ∧
    (∀ {sn : Bool} {cs : List AV}, cellsOf (AV.cptr sn cs) = [AV.cptr sn cs]) ∧
    (∀ {sn : Bool} {cs : List AV}, one (AV.cptr sn cs) = Bool.true) ∧
    (∀ {f : Nat} {cs : List AV}, isU (AV.fn f cs) = Bool.false) ∧
    (∀ {f : Nat} {cs : List AV}, cellsOf (AV.fn f cs) = [AV.fn f cs]) ∧
    (∀ {f : Nat} {cs : List AV}, one (AV.fn f cs) = Bool.true) ∧
    (∀ {cs : List AV}, isU (AV.agg cs) = Bool.false) ∧
    (∀ {cs : List AV}, cellsOf (AV.agg cs) = cs) ∧
    (lenA AV.nils = some (0 : Nat)) ∧
    (∀ {sn : Bool} {cs : List AV} {l : Nat}, lenA (AV.imm sn cs l) = some l) ∧
    (∀ {id ver e off l : Nat} {c : Option Nat}, lenA (AV.sl id ver e off l c) = some l) ∧
    (∀ {k : Go.IntKind} {n : Int}, natOf (AV.int k n) = if (0 : Int) ≤ n then some n.toNat else none) ∧
    (∀ {j : Nat} {k : Nat → Option AV}, idxN (some j) k = k j) ∧
    (∀ {e : Nat} {sn : Bool} {cs : List AV} {l : Nat} {k : Go.IntKind} {i : Int}, idxA e (AV.imm sn cs l) (AV.int k i) = idxN (natOf (AV.int k i)) fun (j : Nat) => if j < l then some (AV.cptr sn (List.drop (j * e) cs)) else none) ∧
    (∀ {e id ver e' off l : Nat} {c : Option Nat} {k : Go.IntKind} {i : Int}, idxA e (AV.sl id ver e' off l c) (AV.int k i) = idxN (natOf (AV.int k i)) fun (j : Nat) => if e' = e ∧ j < l then some (AV.ptr id ver (off + j * e)) else none) ∧
    (∀ {v : AV} {l : List AV}, firstX (some (v :: l)) = some v) ∧
    (∀ {H : Heap} {id ver off : Nat}, loadA H none (AV.ptr id ver off) = firstX (cellsAt H (AV.ptr id ver off) (1 : Nat))) ∧
    (∀ {H : Heap} {sn : Bool} {cs : List AV}, loadA H none (AV.cptr sn cs) = firstX (cellsAt H (AV.cptr sn cs) (1 : Nat))) ∧
    (∀ {H : Heap} {n id ver off : Nat}, loadA H (some n) (AV.ptr id ver off) = Option.map AV.agg (cellsAt H (AV.ptr id ver off) n)) ∧
    (∀ {H : Heap} {n : Nat} {sn : Bool} {cs : List AV}, loadA H (some n) (AV.cptr sn cs) = Option.map AV.agg (cellsAt H (AV.cptr sn cs) n)) ∧
    (∀ {α : Type} {a : α} {l : List α} {i : Nat}, List.drop (i + (1 : Nat)) (a :: l) = List.drop i l) ∧
    (∀ {α : Type} {l : List α}, List.drop (0 : Nat) l = l) ∧
    (∀ {α : Type} {a : α} {«as» : List α} {i : Nat}, List.take (i + (1 : Nat)) (a :: «as») = a :: List.take i «as») ∧
    (∀ {α : Type} {l : List α}, List.take (0 : Nat) l = []) ∧
    (∀ {α : Type} {a : α} {l : List α}, (a :: l)[(0 : Nat)]? = some a) ∧
    (∀ {α : Type} {a : α} {i : Nat} {l : List α}, (a :: l)[i + (1 : Nat)]? = l[i]?) ∧
    (∀ {α : Type} {a : α} {l : List α} {f : α → Bool}, (a :: l).all f = (f a && l.all f)) ∧
    (∀ {α : Type} {f : α → Bool}, [].all f = Bool.true) ∧
    (∀ {α : Type} {«as» bs : List α}, («as» ++ bs).length = «as».length + bs.length) ∧
    (∀ {α : Type} {«as» : List α} {i : Nat} {a : α}, («as».set i a).length = «as».length) ∧
    (∀ (b : Bool), (b && b) = b) ∧
    (∀ (b : Bool), (b && Bool.true) = b) ∧
    (∀ (b : Bool), (Bool.true && b) = b) ∧
    (∀ (b : Bool), (b || Bool.false) = b) ∧
    (∀ (b : Bool), (b || Bool.true) = Bool.true) ∧
    (∀ (h : Decidable True), Decidable.decide True = Bool.true) ∧
    (∀ (h : Decidable False), Decidable.decide False = Bool.false) ∧
    (∀ (n : Nat), n * (1 : Nat) = n) ∧
    (∀ (n : Nat), (0 : Nat) * n = (0 : Nat)) ∧
    (∀ (n : Nat), (1 : Nat) * n = n) ∧
    (∀ (n : Nat), (0 : Nat) + n = n) ∧
    (∀ (n : Nat), n + (0 : Nat) = n) ∧
    (∀ (n : Nat), n - (0 : Nat) = n) ∧
    (∀ {α : Type} {a : α}, (some a).isSome = Bool.true) ∧
    (∀ {α : Type} (val val_1 : α), (some val = some val_1) = (val = val_1)) ∧
    (∀ {a b : Int}, mnxA Bool.false [AV.int Go.IntKind.i64 a, AV.int Go.IntKind.i64 b] = some (vI (Min.min a b))) ∧
    (∀ {a b : Int}, mnxA Bool.true [AV.int Go.IntKind.i64 a, AV.int Go.IntKind.i64 b] = some (vI (Max.max a b))) ∧
    (∀ {α : Type} («as» bs cs : List α), «as» ++ bs ++ cs = «as» ++ (bs ++ cs)) ∧
    (∀ {n : Nat}, List.range n.succ = List.range n ++ [n]) ∧
    (List.range (0 : Nat) = []) ∧
    (∀ {H : Heap} {n id ver e off len : Nat} {c : Option Nat}, freeA H (n + (1 : Nat)) (AV.sl id ver e off len c) = freeS H n ver off len e H[id]?) ∧
    (∀ {n len : Nat} {cs : List AV}, freeB n len (some cs) = some (AV.imm Bool.false cs len)) ∧
    (∀ (n : Nat), n ≤ n) ∧
    (∀ {α : Type} {n : Nat} {a : α}, (List.replicate n a).length = n) ∧
    (Int.toNat (0 : Int) = (0 : Nat)) ∧
    (∀ {n len : Nat} {p : Prop} [inst : Decidable p] {x y : Option (List AV)}, freeB n len (if p then x else y) = if p then freeB n len x else freeB n len y) ∧
    (∀ {H : Heap} {n ver off len e v : Nat} {cs : List AV}, freeS H n ver off len e (some { ver := v, cells := cs }) = if v = ver ∧ off + len * e ≤ cs.length then freeB n len (List.mapM (freeA H n) (List.take (len * e) (List.drop off cs))) else none) ∧
    ((!Bool.true) = Bool.false) ∧
    ((!Bool.false) = Bool.true) ∧
    (∀ {p : Prop} {x : Decidable p}, Decidable.decide p = Bool.false ↔ ¬p) ∧
    (∀ {α : Type} [inst : BEq α] [LawfulBEq α] {a b : α}, (a == b) = Bool.false ↔ a ≠ b) ∧
    (∀ (b : Bool), (¬b = Bool.true) = (b = Bool.false)) ∧
    (∀ {b : Bool}, (b == Bool.true) = b) ∧
    (∀ {b : Bool}, (b == Bool.false) = !b) ∧
    (∀ {a b : Bool}, (!a) = b ↔ a = !b) ∧
    (∀ {H : Heap} {n id ver e off len : Nat} {c : Option Nat}, snapA H (n + (1 : Nat)) (AV.sl id ver e off len c) = snapS H n ver off len e H[id]?) ∧
    (∀ {H : Heap} {n ver off len e v : Nat} {cs : List AV}, snapS H n ver off len e (some { ver := v, cells := cs }) = if v = ver ∧ off + len * e ≤ cs.length then snapB len (List.mapM (snapA H n) (List.take (len * e) (List.drop off cs))) else none) ∧
    (∀ {len : Nat} {cs : List AV}, snapB len (some cs) = some (AV.imm Bool.true cs len)) ∧
    (∀ {α : Type} {x : α} {xs : List α} {d : α}, (x :: xs).getD (0 : Nat) d = x) ∧
    (∀ {α : Type} {x : α} {xs : List α} {n : Nat} {d : α}, (x :: xs).getD (n + (1 : Nat)) d = xs.getD n d) ∧
    (∀ {α : Type} {x : α} {xs : List α} {i : Nat} {a : α}, (x :: xs).set (i + (1 : Nat)) a = x :: xs.set i a) ∧
    (∀ {α : Type} {x : α} {xs : List α} {a : α}, (x :: xs).set (0 : Nat) a = a :: xs) ∧
    (∀ {α : Type} {a : α} {n : Nat}, List.replicate (n + (1 : Nat)) a = a :: List.replicate n a) ∧
    (∀ {α : Type} {a : α}, List.replicate (0 : Nat) a = []) :=
  ⟨@isU_bool, @cells_bool, @one_bool, @isU_int, @cells_int, @one_int, @isU_nils, @cells_nils, @one_nils, @isU_imm, @cells_imm, @one_imm, @isU_sl, @cells_sl, @one_sl, @isU_ptr, @cells_ptr, @one_ptr, @isU_cptr, @cells_cptr, @one_cptr, @isU_fn, @cells_fn, @one_fn, @isU_agg, @cells_agg, @len_nils, @len_imm, @len_sl, @nat_int, @idxN_some, @idx_imm, @idx_slice, @firstX_some, @load_ptr, @load_cptr, @loads_ptr, @loads_cptr, @List.drop_succ_cons, @List.drop_zero, @List.take_succ_cons, @List.take_zero, @List.getElem?_cons_zero, @List.getElem?_cons_succ, @List.all_cons, @List.all_nil, @List.length_append, @List.length_set, @Bool.and_self, @Bool.and_true, @Bool.true_and, @Bool.or_false, @Bool.or_true, @decide_true, @decide_false, @Nat.mul_one, @Nat.zero_mul, @Nat.one_mul, @Nat.zero_add, @Nat.add_zero, @Nat.sub_zero, @Option.isSome_some, @Option.some.injEq, @mnx_min, @mnx_max, @List.append_assoc, @List.range_succ, @List.range_zero, @free_sl, @freeB_some, @Nat.le_refl, @List.length_replicate, @Int.toNat_zero, @freeB_ite, @freeS_some, @Bool.not_true, @Bool.not_false, @decide_eq_false_iff_not, @beq_eq_false_iff_ne, @Bool.not_eq_true, @beq_bt, @beq_bf, @Bool.not_eq_eq_eq_not, @snap_sl, @snapS_some, @snapB_some, @List.getD_cons_zero, @List.getD_cons_succ, @List.set_cons_succ, @List.set_cons_zero, @List.replicate_succ, @List.replicate_zero⟩

end Go.X
