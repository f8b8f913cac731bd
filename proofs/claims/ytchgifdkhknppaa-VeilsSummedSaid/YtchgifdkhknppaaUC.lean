import Derived.Test.YtchgifdkhknppaaUA
/-! Veils: all veils of a size are handed to a function, place by place. -/
set_option linter.unusedSimpArgs false
set_option linter.unusedVariables false
set_option maxHeartbeats 8000000
set_option maxRecDepth 10000
namespace Go.X
open Go Go.RowKit
section
variable {Y : Run} {H : Heap}

/-! ### slices.Min -/
def minI (m : Int) : List Int → Int
  | [] => m
  | x :: l => minI (min m x) l
theorem L79_0 {w : AV} {l : List Int} (hw : IsRow w l) (hl : l.length ≤ 100) (d : Nat) : ∀ (i : Nat) (m : Int), i + d = l.length →
    lp EV Y F79L0 (sp 25 [(4, vI i), (3, vI m), (0, w)]) H = some (.x 0, sp 25 [(3, vI (minI m (l.drop i)))], H) := by
  induction d with
  | zero =>
    intro i m hi
    have : ¬ ((i : Int) < (l.length : Int)) := by omega
    rw [un79_0, List.drop_eq_nil_of_le (by omega)]
    simp only [F79L0b, SS, insA, wantedA, Opd.ev, putA, binA, eqbA, unA, fldA, partA, reduceIte, reduceCtorEq, Nat.reduceMod, Nat.reduceDiv, Nat.reduceBEq, resultA, resA, vI, Nat.reduceMul, Nat.reduceAdd, Nat.reduceSub, Nat.reduceEqDiff, Nat.reduceLT, Nat.reducePow, Nat.reduceLeDiff, st, Option.bind_eq_bind, Option.pure_def, List.length_nil, Int.cast_ofNat_Int, List.reverse_nil, UU, idxP, cellsAt, storeA, fillA, zerosA, putAll, optNat, sliceA, row, Int.reduceLT, Int.reduceLE, Int.reduceGT, Int.reduceGE, Int.reduceEq, Int.reduceNe, Int.reduceToNat, Int.reduceBEq, Int.reduceBNe, Nat.reduceLeDiff, Nat.reduceLT, Nat.reduceBNe, Nat.reduceGT, List.drop_nil, List.take_nil, Option.isSome_none, Int.ofNat_one, Int.ofNat_zero, hw.len, this, minI]
  | succ d ih =>
    intro i m hi
    have hc : (i : Int) < (l.length : Int) := by omega
    have hww := wrap_succ (n := i) (by omega)
    have hil : i < l.length := by omega
    have ih := ih (i + 1) (min m l[i]) (by omega)
    have g : l.getD i 0 = l[i] := getD_get hil
    rw [un79_0, List.drop_eq_getElem_cons hil, minI]
    simp only [SS, insA, wantedA, Opd.ev, putA, binA, eqbA, unA, fldA, partA, reduceIte, reduceCtorEq, Nat.reduceMod, Nat.reduceDiv, Nat.reduceBEq, resultA, resA, vI, Nat.reduceMul, Nat.reduceAdd, Nat.reduceSub, Nat.reduceEqDiff, Nat.reduceLT, Nat.reducePow, Nat.reduceLeDiff, st, Option.bind_eq_bind, Option.pure_def, List.length_nil, Int.cast_ofNat_Int, List.reverse_nil] at ih
    simp only [F79L0b, SS, insA, wantedA, Opd.ev, putA, binA, eqbA, unA, fldA, partA, reduceIte, reduceCtorEq, Nat.reduceMod, Nat.reduceDiv, Nat.reduceBEq, resultA, resA, vI, Nat.reduceMul, Nat.reduceAdd, Nat.reduceSub, Nat.reduceEqDiff, Nat.reduceLT, Nat.reducePow, Nat.reduceLeDiff, st, Option.bind_eq_bind, Option.pure_def, List.length_nil, Int.cast_ofNat_Int, List.reverse_nil, UU, idxP, cellsAt, storeA, fillA, zerosA, putAll, optNat, sliceA, row, Int.reduceLT, Int.reduceLE, Int.reduceGT, Int.reduceGE, Int.reduceEq, Int.reduceNe, Int.reduceToNat, Int.reduceBEq, Int.reduceBNe, Nat.reduceLeDiff, Nat.reduceLT, Nat.reduceBNe, Nat.reduceGT, List.drop_nil, List.take_nil, Option.isSome_none, Int.ofNat_one, Int.ofNat_zero, hw.len, hc, hw.idx hil, hw.load hil, g, hww, ih]
theorem min79 {w : AV} {x : Int} {l : List Int} (hw : IsRow w (x :: l)) (hl : l.length ≤ 50) : freeX H (callL EV Y 79 [w] []) = some (vI (minI x l), H) := by
  have h := L79_0 (Y := Y) (H := []) hw (by simp; omega) l.length 1 x (by simp; omega)
  have hlen : lenA w = some (l.length + 1) := hw.len
  have c : ¬ (((l.length + 1 : Nat) : Int) < 1) := by omega
  have i0 : idxA 1 w (.int .i64 0) = some (ptrAt w 0) := hw.idx (i := 0) (by simp)
  have i1 : ∀ H, loadA H none (ptrAt w 0) = some (vI x) := fun H => hw.load (i := 0) (by simp)
  rw [call79 rfl]
  rw [List.drop_succ_cons, List.drop_zero] at h
  simp only [SS, insA, wantedA, Opd.ev, putA, binA, eqbA, unA, fldA, partA, reduceIte, reduceCtorEq, Nat.reduceMod, Nat.reduceDiv, Nat.reduceBEq, resultA, resA, vI, Nat.reduceMul, Nat.reduceAdd, Nat.reduceSub, Nat.reduceEqDiff, Nat.reduceLT, Nat.reducePow, Nat.reduceLeDiff, st, Option.bind_eq_bind, Option.pure_def, List.length_nil, Int.cast_ofNat_Int, List.reverse_nil, Int.ofNat_one] at h i1
  simp only [F79B, F79T0, in79_0, SS, insA, wantedA, Opd.ev, putA, binA, eqbA, unA, fldA, partA, reduceIte, reduceCtorEq, Nat.reduceMod, Nat.reduceDiv, Nat.reduceBEq, resultA, resA, vI, Nat.reduceMul, Nat.reduceAdd, Nat.reduceSub, Nat.reduceEqDiff, Nat.reduceLT, Nat.reducePow, Nat.reduceLeDiff, st, Option.bind_eq_bind, Option.pure_def, List.length_nil, Int.cast_ofNat_Int, List.reverse_nil, UU, idxP, cellsAt, storeA, fillA, zerosA, putAll, optNat, sliceA, row, Int.reduceLT, Int.reduceLE, Int.reduceGT, Int.reduceGE, Int.reduceEq, Int.reduceNe, Int.reduceToNat, Int.reduceBEq, Int.reduceBNe, Nat.reduceLeDiff, Nat.reduceLT, Nat.reduceBNe, Nat.reduceGT, List.drop_nil, List.take_nil, Option.isSome_none, Int.ofNat_one, Int.ofNat_zero, hlen, c, i0, i1, h]

/-! ### the state -/
def onCaps (L M : Nat) : List AV := [.ptr L 0 0, .ptr (M + 4) 0 0, .ptr (L + 1) 0 0, .ptr M 0 0, .ptr (M + 3) 0 0, .ptr (M + 5) 0 0]

structure Ast (L M n g : Nat) (caps : List AV) (vr vc : AV) (R : Heap) (v : AV) (t : List (List Int)) (cells : List AV) (rs cs : List Int) : Prop where
  lm : L + 2 ≤ M
  len : M + 6 ≤ R.length
  n0 : R[L]? = some ⟨0, [.int .i64 n]⟩
  f0 : R[L + 1]? = some ⟨0, [.fn g caps]⟩
  tab : HTab (L + 2) R v t cells
  idv : ∀ i, idOf v = some i → i < M
  idr : ∀ j i, j < t.length → idOf (cells.getD j .undef) = some i → i < M
  v0 : R[M]? = some ⟨0, [v]⟩
  gr : Gro (M + 1) 1 R vr rs.length (rs.map vI)
  ir : idOf vr = some (M + 1)
  gc : Gro (M + 2) 1 R vc cs.length (cs.map vI)
  ic : idOf vc = some (M + 2)
  pr : R[M + 3]? = some ⟨0, [vr]⟩
  pc : R[M + 4]? = some ⟨0, [vc]⟩
  on : R[M + 5]? = some ⟨0, [.fn 78 (onCaps L M)]⟩

section
variable {L M n g : Nat} {caps : List AV} {vr vc v : AV} {R R' : Heap} {t : List (List Int)} {cells : List AV} {rs cs : List Int}

theorem Ast.keep (h : Ast L M n g caps vr vc R v t cells rs cs) (hk : ∀ i, L ≤ i → i < M + 6 → R'[i]? = R[i]?) (hl : R.length ≤ R'.length) : Ast L M n g caps vr vc R' v t cells rs cs := by
  have lm := h.lm
  refine ⟨h.lm, by have := h.len; omega, by rw [hk _ (by omega) (by omega)]; exact h.n0, by rw [hk _ (by omega) (by omega)]; exact h.f0,
    h.tab.keep (fun i hi => hk i (by have := h.tab.gro.ge hi; omega) (by have := h.idv i hi; omega)) (fun j i hj hi => hk i (by have := (h.tab.row j hj).ge hi; omega) (by have := h.idr j i hj hi; omega)),
    h.idv, h.idr, by rw [hk _ (by omega) (by omega)]; exact h.v0, h.gr.keep (fun i hi => by rw [h.ir] at hi; cases hi; exact hk _ (by omega) (by omega)), h.ir,
    h.gc.keep (fun i hi => by rw [h.ic] at hi; cases hi; exact hk _ (by omega) (by omega)), h.ic, by rw [hk _ (by omega) (by omega)]; exact h.pr, by rw [hk _ (by omega) (by omega)]; exact h.pc, by rw [hk _ (by omega) (by omega)]; exact h.on⟩

theorem Ast.store (h : Ast L M n g caps vr vc R v t cells rs cs) {i j : Nat} {x : Int} (hi : i < t.length) (hj : j < t[i].length) :
    ∃ id o, storeA R 1 (gptr 1 (cells.getD i .undef) j) (vI x) = some (R.set id o) ∧ L ≤ id ∧ id < M + 6 ∧ Ast L M n g caps vr vc (R.set id o) v (t.set i (t[i].set j x)) cells rs cs := by
  obtain ⟨id, o, h1, h2, h3⟩ := h.tab.store3 (x := x) hi hj
  have lm := h.lm
  have a1 := (h.tab.row i hi).ge h1
  have a2 := h.idr i id hi h1
  have ne : ∀ a, a ≠ id → (R.set id o)[a]? = R[a]? := fun a ha => List.getElem?_set_ne (Ne.symm ha)
  refine ⟨id, o, h2, by omega, by omega, ⟨h.lm, by rw [List.length_set]; exact h.len, by rw [ne _ (by omega)]; exact h.n0, by rw [ne _ (by omega)]; exact h.f0, h3, h.idv, fun m a hm ha => h.idr m a (by simpa using hm) ha,
    by rw [ne _ (by omega)]; exact h.v0, h.gr.keep (fun i hi => by rw [h.ir] at hi; cases hi; exact ne _ (by omega)), h.ir, h.gc.keep (fun i hi => by rw [h.ic] at hi; cases hi; exact ne _ (by omega)), h.ic,
    by rw [ne _ (by omega)]; exact h.pr, by rw [ne _ (by omega)]; exact h.pc, by rw [ne _ (by omega)]; exact h.on⟩⟩

theorem Ast.storeR (h : Ast L M n g caps vr vc R v t cells rs cs) {i : Nat} {x : Int} (hi : i < rs.length) :
    ∃ o, storeA R 1 (gptr 1 vr i) (vI x) = some (R.set (M + 1) o) ∧ Ast L M n g caps vr vc (R.set (M + 1) o) v t cells (rs.set i x) cs := by
  obtain ⟨id, ver, h1, h2, h3, h4⟩ := h.gr.store (x := x) hi
  rw [h.ir] at h1; cases h1
  have lm := h.lm
  have ne : ∀ a o, a ≠ M + 1 → (R.set (M + 1) o)[a]? = R[a]? := fun a o ha => List.getElem?_set_ne (Ne.symm ha)
  refine ⟨_, h3, ⟨h.lm, by rw [List.length_set]; exact h.len, by rw [ne _ _ (by omega)]; exact h.n0, by rw [ne _ _ (by omega)]; exact h.f0,
    h.tab.keep (fun i hi => ne _ _ (by have := h.idv i hi; omega)) (fun j i hj hi => ne _ _ (by have := h.idr j i hj hi; omega)), h.idv, h.idr,
    by rw [ne _ _ (by omega)]; exact h.v0, by rw [List.length_set]; exact h4, h.ir, h.gc.keep (fun i hi => by rw [h.ic] at hi; cases hi; exact ne _ _ (by omega)), h.ic,
    by rw [ne _ _ (by omega)]; exact h.pr, by rw [ne _ _ (by omega)]; exact h.pc, by rw [ne _ _ (by omega)]; exact h.on⟩⟩

theorem Ast.storeC (h : Ast L M n g caps vr vc R v t cells rs cs) {i : Nat} {x : Int} (hi : i < cs.length) :
    ∃ o, storeA R 1 (gptr 1 vc i) (vI x) = some (R.set (M + 2) o) ∧ Ast L M n g caps vr vc (R.set (M + 2) o) v t cells rs (cs.set i x) := by
  obtain ⟨id, ver, h1, h2, h3, h4⟩ := h.gc.store (x := x) hi
  rw [h.ic] at h1; cases h1
  have lm := h.lm
  have ne : ∀ a o, a ≠ M + 2 → (R.set (M + 2) o)[a]? = R[a]? := fun a o ha => List.getElem?_set_ne (Ne.symm ha)
  refine ⟨_, h3, ⟨h.lm, by rw [List.length_set]; exact h.len, by rw [ne _ _ (by omega)]; exact h.n0, by rw [ne _ _ (by omega)]; exact h.f0,
    h.tab.keep (fun i hi => ne _ _ (by have := h.idv i hi; omega)) (fun j i hj hi => ne _ _ (by have := h.idr j i hj hi; omega)), h.idv, h.idr,
    by rw [ne _ _ (by omega)]; exact h.v0, h.gr.keep (fun i hi => by rw [h.ir] at hi; cases hi; exact ne _ _ (by omega)), h.ir, by rw [List.length_set]; exact h4, h.ic,
    by rw [ne _ _ (by omega)]; exact h.pr, by rw [ne _ _ (by omega)]; exact h.pc, by rw [ne _ _ (by omega)]; exact h.on⟩⟩

theorem Ast.ldR (h : Ast L M n g caps vr vc R v t cells rs cs) {i : Nat} (hi : i < rs.length) : loadA R none (gptr 1 vr i) = some (vI rs[i]) := by
  rw [h.gr.load hi]; simp [List.getD_eq_getElem?_getD, hi]
theorem Ast.ldC (h : Ast L M n g caps vr vc R v t cells rs cs) {i : Nat} (hi : i < cs.length) : loadA R none (gptr 1 vc i) = some (vI cs[i]) := by
  rw [h.gc.load hi]; simp [List.getD_eq_getElem?_getD, hi]
theorem Ast.apt (h : Ast L M n g caps vr vc R v t cells rs cs) {i : Nat} : apartV (.ptr (M + 4) 0 0) (gptr 1 vr i) = true := by
  have e := h.ir
  cases vr <;> simp [idOf] at e
  subst e
  simp [apartV, gptr]
end

/-! ### what is found -/
def okW (n k : Nat) (r c : Int) : Bool := decide (0 ≤ r) && (decide (r ≤ 1) && (decide (0 ≤ c) && (decide (c ≤ 1) && decide (k + 1 = n → r = 1))))
def minOf : List Int → Int
  | [] => 0
  | x :: l => minI x l

def onP (n : Nat) : Nat → Nat → List (List Int) → List Int → List Int → List (List Int) × List (List (List Int))
  | 0, _, t, _, cs => (t, if minOf cs = 1 then [t] else [])
  | d + 1, a, t, rs, cs =>
    let go := fun (x : Int) (s : List (List Int) × List (List (List Int))) =>
      if okW n (a % n) (rs.getD (a / n) 0 + x) (cs.getD (a % n) 0 + x) = true then
        let p := onP n d (a + 1) (setAt s.1 (a / n) (a % n) x) (rs.set (a / n) (rs.getD (a / n) 0 + x)) (cs.set (a % n) (cs.getD (a % n) 0 + x))
        (p.1, s.2 ++ p.2)
      else s
    go 1 (go 0 (go (-1) (t, [])))

def onTry (n d a : Nat) (rs cs : List Int) (x : Int) (s : List (List Int) × List (List (List Int))) : List (List Int) × List (List (List Int)) :=
  if okW n (a % n) (rs.getD (a / n) 0 + x) (cs.getD (a % n) 0 + x) = true then
    ((onP n d (a + 1) (setAt s.1 (a / n) (a % n) x) (rs.set (a / n) (rs.getD (a / n) 0 + x)) (cs.set (a % n) (cs.getD (a % n) 0 + x))).1,
      s.2 ++ (onP n d (a + 1) (setAt s.1 (a / n) (a % n) x) (rs.set (a / n) (rs.getD (a / n) 0 + x)) (cs.set (a % n) (cs.getD (a % n) 0 + x))).2)
  else s
theorem onP_try {n d a : Nat} {t : List (List Int)} {rs cs : List Int} : onP n (d + 1) a t rs cs = onTry n d a rs cs 1 (onTry n d a rs cs 0 (onTry n d a rs cs (-1) (t, []))) := rfl

/-- A function that is handed tables: what it keeps (Q), what it makes of it (F), and how far (B). -/
structure Found {σ : Type} (Y : Run) (L M n g : Nat) (caps : List AV) (Q : Heap → σ → Prop) (F : σ → List (List Int) → σ) (B : σ → Prop) (V : List (List Int) → Prop) : Prop where
  back : ∀ s t, B (F s t) → B s
  keep : ∀ R R' s, Q R s → (∀ i, ¬ (L ≤ i ∧ i < M + 6) → R'[i]? = R[i]?) → R'.length = R.length → Q R' s
  call : ∀ {vr vc v R t cells rs cs s}, Ast L M n g caps vr vc R v t cells rs cs → Sq n t → V t → Q R s → B (F s t) → ∃ R', callL EV Y g (v :: caps) R = some (.tup [], R') ∧ Q R' (F s t) ∧ (∀ i, L ≤ i → i < M + 6 → R'[i]? = R[i]?) ∧ R.length ≤ R'.length

theorem back_all {σ : Type} {F : σ → List (List Int) → σ} {B : σ → Prop} (hb : ∀ s t, B (F s t) → B s) : ∀ (l : List (List (List Int))) (s : σ), B (l.foldl F s) → B s
  | [], _, h => h
  | t :: l, s, h => hb s t (back_all hb l (F s t) h)

/-- Sums that are 0 or 1. -/
def Bits (n : Nat) (l : List Int) : Prop := l.length = n ∧ ∀ x ∈ l, 0 ≤ x ∧ x ≤ 1
theorem Bits.set {n i : Nat} {l : List Int} {x : Int} (h : Bits n l) (hx : 0 ≤ x ∧ x ≤ 1) : Bits n (l.set i x) :=
  ⟨by rw [List.length_set]; exact h.1, fun y hy => by
    rcases List.mem_or_eq_of_mem_set hy with h1 | h1
    · exact h.2 y h1
    · rw [h1]; exact hx⟩

def Ons {σ : Type} (Y : Run) (L M n g : Nat) (caps : List AV) (Q : Heap → σ → Prop) (F : σ → List (List Int) → σ) (B : σ → Prop) (V : List (List Int) → Prop) (vr vc v : AV) (d a : Nat) : Prop :=
  ∀ {R : Heap} {t : List (List Int)} {cells : List AV} {rs cs : List Int} {s : σ}, Ast L M n g caps vr vc R v t cells rs cs → Sq n t → Bits n rs → Bits n cs → Q R s → (∀ u ∈ (onP n d a t rs cs).2, V u) → B ((onP n d a t rs cs).2.foldl F s) →
    ∃ R', callL EV Y 78 (.int .i64 a :: onCaps L M) R = some (.tup [], R') ∧ Ast L M n g caps vr vc R' v (onP n d a t rs cs).1 cells rs cs ∧ Sq n (onP n d a t rs cs).1 ∧ Q R' ((onP n d a t rs cs).2.foldl F s)

theorem step78 {σ : Type} {L M n g : Nat} {caps : List AV} {Q : Heap → σ → Prop} {F : σ → List (List Int) → σ} {B : σ → Prop} {V : List (List Int) → Prop} {vr vc v : AV} {d a : Nat}
    (K : Found Y L M n g caps Q F B V) (I : Ons Y L M n g caps Q F B V vr vc v d (a + 1)) {R : Heap} {t : List (List Int)} {cells : List AV} {rs cs : List Int} {s : σ} {l : List (List (List Int))}
    (h : Ast L M n g caps vr vc R v t cells rs cs) (q : Sq n t) (br : Bits n rs) (bc : Bits n cs) (hQ : Q R (l.foldl F s)) (h5 : n ≤ 5) (ha : a < n * n) {x : Int} (hx : -1 ≤ x ∧ x ≤ 1)
    (hV : ∀ u ∈ (onTry n d a rs cs x (t, l)).2, V u) (hB : B ((onTry n d a rs cs x (t, l)).2.foldl F s)) :
    ∃ R', lp EV Y F78L0 (sp 101 [(10, .int .i64 x), (9, .int .i64 (a % n : Nat)), (8, .int .i64 (a / n : Nat)), (6, .ptr (M + 5) 0 0), (5, .ptr (M + 3) 0 0), (4, .ptr M 0 0), (2, .ptr (M + 4) 0 0), (1, .ptr L 0 0), (0, .int .i64 a)]) R =
        lp EV Y F78L0 (sp 101 [(10, .int .i64 (x + 1)), (9, .int .i64 (a % n : Nat)), (8, .int .i64 (a / n : Nat)), (6, .ptr (M + 5) 0 0), (5, .ptr (M + 3) 0 0), (4, .ptr M 0 0), (2, .ptr (M + 4) 0 0), (1, .ptr L 0 0), (0, .int .i64 a)]) R' ∧
      Ast L M n g caps vr vc R' v (onTry n d a rs cs x (t, l)).1 cells rs cs ∧ Sq n (onTry n d a rs cs x (t, l)).1 ∧ Q R' ((onTry n d a rs cs x (t, l)).2.foldl F s) := by
  have hnn : n * n ≤ 25 := Nat.mul_le_mul h5 h5
  have hi : a / n < n := Nat.div_lt_of_lt_mul ha
  have hn : 0 < n := Nat.pos_of_ne_zero fun e => by subst e; omega
  have hk : a % n < n := Nat.mod_lt _ hn
  have hil : a / n < rs.length := by rw [br.1]; exact hi
  have hkl : a % n < cs.length := by rw [bc.1]; exact hk
  have r0 := br.2 _ (List.getElem_mem hil)
  have c0 := bc.2 _ (List.getElem_mem hkl)
  have er : rs.getD (a / n) 0 = rs[a / n] := getD_get hil
  have ec : cs.getD (a % n) 0 = cs[a % n] := getD_get hkl
  have l1 : x ≤ 1 := hx.2
  have w0 : IntKind.wrap .i64 (x + 1) = x + 1 := wrap_id (by omega) (by omega)
  have w1 : IntKind.wrap .i64 (rs[a / n] + x) = rs[a / n] + x := wrap_id (by omega) (by omega)
  have w2 : IntKind.wrap .i64 (cs[a % n] + x) = cs[a % n] + x := wrap_id (by omega) (by omega)
  have w3 : IntKind.wrap .i64 ((n : Int) - 1) = (n : Int) - 1 := wrap_id (by omega) (by omega)
  have w4 := wrap_succ (n := a) (by omega)
  have ldr := h.ldR hil
  have ldc := h.ldC hkl
  unfold onTry at hV hB ⊢
  rw [er, ec] at hV hB ⊢
  rw [un78_0]
  generalize hri : rs[a / n] = ri at *
  generalize hck : cs[a % n] = ck at *
  have no : okW n (a % n) (ri + x) (ck + x) = false → ∀ {f g : List (List Int) × List (List (List Int))}, (if okW n (a % n) (ri + x) (ck + x) = true then f else g) = g := fun e f g => by rw [e, if_neg (by decide)]
  simp only [SS, insA, wantedA, Opd.ev, putA, binA, eqbA, unA, fldA, partA, reduceIte, reduceCtorEq, Nat.reduceMod, Nat.reduceDiv, Nat.reduceBEq, resultA, resA, vI, Nat.reduceMul, Nat.reduceAdd, Nat.reduceSub, Nat.reduceEqDiff, Nat.reduceLT, Nat.reducePow, Nat.reduceLeDiff, st, Option.bind_eq_bind, Option.pure_def, List.length_nil, Int.cast_ofNat_Int, List.reverse_nil] at ldr ldc
  by_cases c1 : ri + x < 0
  · have e : okW n (a % n) (ri + x) (ck + x) = false := by unfold okW; rw [decide_eq_false (by omega), Bool.false_and]
    rw [no e]
    refine ⟨R, ?_, h, q, hQ⟩
    simp only [F78L0b, SS, insA, wantedA, Opd.ev, putA, binA, eqbA, unA, fldA, partA, reduceIte, reduceCtorEq, Nat.reduceMod, Nat.reduceDiv, Nat.reduceBEq, resultA, resA, vI, Nat.reduceMul, Nat.reduceAdd, Nat.reduceSub, Nat.reduceEqDiff, Nat.reduceLT, Nat.reducePow, Nat.reduceLeDiff, st, Option.bind_eq_bind, Option.pure_def, List.length_nil, Int.cast_ofNat_Int, List.reverse_nil, UU, idxP, cellsAt, fillA, zerosA, putAll, row, Int.reduceLT, Int.reduceLE, Int.reduceGT, Int.reduceGE, Int.reduceEq, Int.reduceNe, Int.reduceToNat, Int.reduceBEq, Int.reduceBNe, Nat.reduceLeDiff, Nat.reduceLT, Nat.reduceBNe, Nat.reduceGT, List.drop_nil, List.take_nil, Option.isSome_none, Int.ofNat_one, Int.ofNat_zero, h.n0, h.v0, h.pr, h.pc, h.gr.idx hil, h.gc.idx hkl, ldr, ldc, l1, w0, w1, w2, w3, c1]
  by_cases c2 : ri + x > 1
  · have e : okW n (a % n) (ri + x) (ck + x) = false := by unfold okW; rw [decide_eq_false (show ¬ ri + x ≤ 1 by omega), Bool.false_and, Bool.and_false]
    rw [no e]
    refine ⟨R, ?_, h, q, hQ⟩
    simp only [F78L0b, SS, insA, wantedA, Opd.ev, putA, binA, eqbA, unA, fldA, partA, reduceIte, reduceCtorEq, Nat.reduceMod, Nat.reduceDiv, Nat.reduceBEq, resultA, resA, vI, Nat.reduceMul, Nat.reduceAdd, Nat.reduceSub, Nat.reduceEqDiff, Nat.reduceLT, Nat.reducePow, Nat.reduceLeDiff, st, Option.bind_eq_bind, Option.pure_def, List.length_nil, Int.cast_ofNat_Int, List.reverse_nil, UU, idxP, cellsAt, fillA, zerosA, putAll, row, Int.reduceLT, Int.reduceLE, Int.reduceGT, Int.reduceGE, Int.reduceEq, Int.reduceNe, Int.reduceToNat, Int.reduceBEq, Int.reduceBNe, Nat.reduceLeDiff, Nat.reduceLT, Nat.reduceBNe, Nat.reduceGT, List.drop_nil, List.take_nil, Option.isSome_none, Int.ofNat_one, Int.ofNat_zero, h.n0, h.v0, h.pr, h.pc, h.gr.idx hil, h.gc.idx hkl, ldr, ldc, l1, w0, w1, w2, w3, c1, c2]
  by_cases c3 : ck + x < 0
  · have e : okW n (a % n) (ri + x) (ck + x) = false := by unfold okW; rw [decide_eq_false (show ¬ 0 ≤ ck + x by omega)]; simp
    rw [no e]
    refine ⟨R, ?_, h, q, hQ⟩
    simp only [F78L0b, SS, insA, wantedA, Opd.ev, putA, binA, eqbA, unA, fldA, partA, reduceIte, reduceCtorEq, Nat.reduceMod, Nat.reduceDiv, Nat.reduceBEq, resultA, resA, vI, Nat.reduceMul, Nat.reduceAdd, Nat.reduceSub, Nat.reduceEqDiff, Nat.reduceLT, Nat.reducePow, Nat.reduceLeDiff, st, Option.bind_eq_bind, Option.pure_def, List.length_nil, Int.cast_ofNat_Int, List.reverse_nil, UU, idxP, cellsAt, fillA, zerosA, putAll, row, Int.reduceLT, Int.reduceLE, Int.reduceGT, Int.reduceGE, Int.reduceEq, Int.reduceNe, Int.reduceToNat, Int.reduceBEq, Int.reduceBNe, Nat.reduceLeDiff, Nat.reduceLT, Nat.reduceBNe, Nat.reduceGT, List.drop_nil, List.take_nil, Option.isSome_none, Int.ofNat_one, Int.ofNat_zero, h.n0, h.v0, h.pr, h.pc, h.gr.idx hil, h.gc.idx hkl, ldr, ldc, l1, w0, w1, w2, w3, c1, c2, c3]
  by_cases c4 : ck + x > 1
  · have e : okW n (a % n) (ri + x) (ck + x) = false := by unfold okW; rw [decide_eq_false (show ¬ ck + x ≤ 1 by omega)]; simp
    rw [no e]
    refine ⟨R, ?_, h, q, hQ⟩
    simp only [F78L0b, SS, insA, wantedA, Opd.ev, putA, binA, eqbA, unA, fldA, partA, reduceIte, reduceCtorEq, Nat.reduceMod, Nat.reduceDiv, Nat.reduceBEq, resultA, resA, vI, Nat.reduceMul, Nat.reduceAdd, Nat.reduceSub, Nat.reduceEqDiff, Nat.reduceLT, Nat.reducePow, Nat.reduceLeDiff, st, Option.bind_eq_bind, Option.pure_def, List.length_nil, Int.cast_ofNat_Int, List.reverse_nil, UU, idxP, cellsAt, fillA, zerosA, putAll, row, Int.reduceLT, Int.reduceLE, Int.reduceGT, Int.reduceGE, Int.reduceEq, Int.reduceNe, Int.reduceToNat, Int.reduceBEq, Int.reduceBNe, Nat.reduceLeDiff, Nat.reduceLT, Nat.reduceBNe, Nat.reduceGT, List.drop_nil, List.take_nil, Option.isSome_none, Int.ofNat_one, Int.ofNat_zero, h.n0, h.v0, h.pr, h.pc, h.gr.idx hil, h.gc.idx hkl, ldr, ldc, l1, w0, w1, w2, w3, c1, c2, c3, c4]
  have e0 : okW n (a % n) (ri + x) (ck + x) = decide (a % n + 1 = n → ri + x = 1) := by
    unfold okW
    rw [decide_eq_true (show 0 ≤ ri + x by omega), decide_eq_true (show ri + x ≤ 1 by omega), decide_eq_true (show 0 ≤ ck + x by omega), decide_eq_true (show ck + x ≤ 1 by omega)]; simp
  rw [e0] at hV hB ⊢
  have good : decide (a % n + 1 = n → ri + x = 1) = true → ∃ R1 o2 o3 R4 o5 o6, storeA R 1 (gptr 1 (cells.getD (a / n) .undef) (a % n)) (vI x) = some R1 ∧ R1[M + 3]? = some ⟨0, [vr]⟩ ∧ R1[M + 4]? = some ⟨0, [vc]⟩ ∧
      storeA R1 1 (gptr 1 vr (a / n)) (vI (ri + x)) = some (R1.set (M + 1) o2) ∧ storeA (R1.set (M + 1) o2) 1 (gptr 1 vc (a % n)) (vI (ck + x)) = some ((R1.set (M + 1) o2).set (M + 2) o3) ∧
      ((R1.set (M + 1) o2).set (M + 2) o3)[M + 5]? = some ⟨0, [.fn 78 (onCaps L M)]⟩ ∧
      callL EV Y 78 (.int .i64 (a + 1 : Nat) :: onCaps L M) ((R1.set (M + 1) o2).set (M + 2) o3) = some (.tup [], R4) ∧ R4[M + 3]? = some ⟨0, [vr]⟩ ∧ R4[M + 4]? = some ⟨0, [vc]⟩ ∧
      storeA R4 1 (gptr 1 vr (a / n)) (vI ri) = some (R4.set (M + 1) o5) ∧ storeA (R4.set (M + 1) o5) 1 (gptr 1 vc (a % n)) (vI ck) = some ((R4.set (M + 1) o5).set (M + 2) o6) ∧
      Ast L M n g caps vr vc ((R4.set (M + 1) o5).set (M + 2) o6) v (onP n d (a + 1) (setAt t (a / n) (a % n) x) (rs.set (a / n) (ri + x)) (cs.set (a % n) (ck + x))).1 cells rs cs ∧
      Sq n (onP n d (a + 1) (setAt t (a / n) (a % n) x) (rs.set (a / n) (ri + x)) (cs.set (a % n) (ck + x))).1 ∧
      Q ((R4.set (M + 1) o5).set (M + 2) o6) ((l ++ (onP n d (a + 1) (setAt t (a / n) (a % n) x) (rs.set (a / n) (ri + x)) (cs.set (a % n) (ck + x))).2).foldl F s) := fun e => by
    rw [e, if_pos rfl] at hV hB
    have til : a / n < t.length := by rw [q.len]; exact hi
    have tkl : a % n < t[a / n].length := by rw [q.rl til]; exact hk
    obtain ⟨id, o, s1, i1, i2, a1⟩ := h.store (x := x) til tkl
    rw [← setAt_eq til] at a1
    have q1 : Sq n (setAt t (a / n) (a % n) x) := by rw [setAt_eq til]; exact q.set til hx
    obtain ⟨o2, s2, a2⟩ := a1.storeR (x := ri + x) hil
    obtain ⟨o3, s3, a3⟩ := a2.storeC (x := ck + x) hkl
    have lm := h.lm
    have k3 : Q (((R.set id o).set (M + 1) o2).set (M + 2) o3) (l.foldl F s) := by
      refine K.keep R _ _ hQ (fun i hi => ?_) (by simp)
      rw [List.getElem?_set_ne (by omega), List.getElem?_set_ne (by omega), List.getElem?_set_ne (by omega)]
    rw [List.foldl_append] at hB
    obtain ⟨R4, f1, f2, f3, f4⟩ := I a3 q1 (br.set (by omega)) (bc.set (by omega)) k3 (fun u hu => hV u (List.mem_append_right _ hu)) hB
    obtain ⟨o5, s5, a5⟩ := f2.storeR (i := a / n) (x := ri) (by rw [List.length_set]; exact hil)
    obtain ⟨o6, s6, a6⟩ := a5.storeC (i := a % n) (x := ck) (by rw [List.length_set]; exact hkl)
    rw [List.set_set, List.set_set, ← hri, ← hck, List.set_getElem_self, List.set_getElem_self] at a6
    refine ⟨_, o2, o3, R4, o5, o6, s1, a1.pr, a1.pc, s2, s3, a3.on, f1, f2.pr, f2.pc, s5, s6, by rw [← hri, ← hck]; exact a6, f3, ?_⟩
    rw [List.foldl_append]
    refine K.keep R4 _ _ f4 (fun i hi => ?_) (by simp)
    rw [List.getElem?_set_ne (by omega), List.getElem?_set_ne (by omega)]
  have wr : IntKind.wrap .i64 (ri + x - x) = ri := by rw [wrap_id (by omega) (by omega)]; omega
  have wc : IntKind.wrap .i64 (ck + x - x) = ck := by rw [wrap_id (by omega) (by omega)]; omega
  have hap : apartV (.ptr (M + 4) 0 0) (gptr 1 vr (a / n)) = true := h.apt
  have til : a / n < t.length := by rw [q.len]; exact hi
  have tkl : a % n < t[a / n].length := by rw [q.rl til]; exact hk
  by_cases c5 : ((a % n : Nat) : Int) = (n : Int) - 1
  · have d1 : (((a % n : Nat) : Int) == (n : Int) - 1) = true := by rw [c5]; exact BEq.rfl
    by_cases c6 : ri + x = 1
    · have e : decide (a % n + 1 = n → ri + x = 1) = true := decide_eq_true fun _ => c6
      obtain ⟨R1, o2, o3, R4, o5, o6, g1, g2, g3, g4, g5, g6, g7, g8, g9, g10, g11, g12, g13, g14⟩ := good e
      rw [e, if_pos rfl]
      refine ⟨_, ?_, g12, g13, g14⟩
      have d2 : (ri + x != 1) = false := by rw [c6]; rfl
      simp only [SS, insA, wantedA, Opd.ev, putA, binA, eqbA, unA, fldA, partA, reduceIte, reduceCtorEq, Nat.reduceMod, Nat.reduceDiv, Nat.reduceBEq, resultA, resA, vI, Nat.reduceMul, Nat.reduceAdd, Nat.reduceSub, Nat.reduceEqDiff, Nat.reduceLT, Nat.reducePow, Nat.reduceLeDiff, st, Option.bind_eq_bind, Option.pure_def, List.length_nil, Int.cast_ofNat_Int, List.reverse_nil] at g1 g4 g5 g7 g10 g11
      simp only [F78L0b, SS, insA, wantedA, Opd.ev, putA, binA, eqbA, unA, fldA, partA, reduceIte, reduceCtorEq, Nat.reduceMod, Nat.reduceDiv, Nat.reduceBEq, resultA, resA, vI, Nat.reduceMul, Nat.reduceAdd, Nat.reduceSub, Nat.reduceEqDiff, Nat.reduceLT, Nat.reducePow, Nat.reduceLeDiff, st, Option.bind_eq_bind, Option.pure_def, List.length_nil, Int.cast_ofNat_Int, List.reverse_nil, UU, idxP, cellsAt, fillA, zerosA, putAll, row, Int.reduceLT, Int.reduceLE, Int.reduceGT, Int.reduceGE, Int.reduceEq, Int.reduceNe, Int.reduceToNat, Int.reduceBEq, Int.reduceBNe, Nat.reduceLeDiff, Nat.reduceLT, Nat.reduceBNe, Nat.reduceGT, List.drop_nil, List.take_nil, Option.isSome_none, Int.ofNat_one, Int.ofNat_zero, h.n0, h.v0, h.pr, h.pc, h.gr.idx hil, h.gc.idx hkl, ldr, ldc, l1, w0, w1, w2, w3, w4, c1, c2, c3, c4, d1, d2, h.tab.idx til, h.tab.load til, h.tab.idx2 til tkl, g1, g2, g3, g4, g5, hap, g6, g7, g8, g9, wr, wc, g10, g11]
    · have e : decide (a % n + 1 = n → ri + x = 1) = false := decide_eq_false fun f => c6 (f (by omega))
      rw [e, if_neg (by decide)]
      refine ⟨R, ?_, h, q, hQ⟩
      have d2 : (ri + x != 1) = true := by rw [bne_iff_ne]; exact c6
      simp only [F78L0b, SS, insA, wantedA, Opd.ev, putA, binA, eqbA, unA, fldA, partA, reduceIte, reduceCtorEq, Nat.reduceMod, Nat.reduceDiv, Nat.reduceBEq, resultA, resA, vI, Nat.reduceMul, Nat.reduceAdd, Nat.reduceSub, Nat.reduceEqDiff, Nat.reduceLT, Nat.reducePow, Nat.reduceLeDiff, st, Option.bind_eq_bind, Option.pure_def, List.length_nil, Int.cast_ofNat_Int, List.reverse_nil, UU, idxP, cellsAt, fillA, zerosA, putAll, row, Int.reduceLT, Int.reduceLE, Int.reduceGT, Int.reduceGE, Int.reduceEq, Int.reduceNe, Int.reduceToNat, Int.reduceBEq, Int.reduceBNe, Nat.reduceLeDiff, Nat.reduceLT, Nat.reduceBNe, Nat.reduceGT, List.drop_nil, List.take_nil, Option.isSome_none, Int.ofNat_one, Int.ofNat_zero, h.n0, h.v0, h.pr, h.pc, h.gr.idx hil, h.gc.idx hkl, ldr, ldc, l1, w0, w1, w2, w3, c1, c2, c3, c4, d1, d2]
  · have d1 : (((a % n : Nat) : Int) == (n : Int) - 1) = false := by simpa using c5
    have e : decide (a % n + 1 = n → ri + x = 1) = true := decide_eq_true fun f => absurd f (by omega)
    obtain ⟨R1, o2, o3, R4, o5, o6, g1, g2, g3, g4, g5, g6, g7, g8, g9, g10, g11, g12, g13, g14⟩ := good e
    rw [e, if_pos rfl]
    refine ⟨_, ?_, g12, g13, g14⟩
    simp only [SS, insA, wantedA, Opd.ev, putA, binA, eqbA, unA, fldA, partA, reduceIte, reduceCtorEq, Nat.reduceMod, Nat.reduceDiv, Nat.reduceBEq, resultA, resA, vI, Nat.reduceMul, Nat.reduceAdd, Nat.reduceSub, Nat.reduceEqDiff, Nat.reduceLT, Nat.reducePow, Nat.reduceLeDiff, st, Option.bind_eq_bind, Option.pure_def, List.length_nil, Int.cast_ofNat_Int, List.reverse_nil] at g1 g4 g5 g7 g10 g11
    simp only [F78L0b, SS, insA, wantedA, Opd.ev, putA, binA, eqbA, unA, fldA, partA, reduceIte, reduceCtorEq, Nat.reduceMod, Nat.reduceDiv, Nat.reduceBEq, resultA, resA, vI, Nat.reduceMul, Nat.reduceAdd, Nat.reduceSub, Nat.reduceEqDiff, Nat.reduceLT, Nat.reducePow, Nat.reduceLeDiff, st, Option.bind_eq_bind, Option.pure_def, List.length_nil, Int.cast_ofNat_Int, List.reverse_nil, UU, idxP, cellsAt, fillA, zerosA, putAll, row, Int.reduceLT, Int.reduceLE, Int.reduceGT, Int.reduceGE, Int.reduceEq, Int.reduceNe, Int.reduceToNat, Int.reduceBEq, Int.reduceBNe, Nat.reduceLeDiff, Nat.reduceLT, Nat.reduceBNe, Nat.reduceGT, List.drop_nil, List.take_nil, Option.isSome_none, Int.ofNat_one, Int.ofNat_zero, h.n0, h.v0, h.pr, h.pc, h.gr.idx hil, h.gc.idx hkl, ldr, ldc, l1, w0, w1, w2, w3, w4, c1, c2, c3, c4, d1, h.tab.idx til, h.tab.load til, h.tab.idx2 til tkl, g1, g2, g3, g4, g5, hap, g6, g7, g8, g9, wr, wc, g10, g11]
end
end Go.X
