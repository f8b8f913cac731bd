import Derived.Test.YtdkgicdbjemalaaDoorX5
/-! Each operation that is made is sound. -/
set_option linter.unusedSimpArgs false
set_option linter.unusedVariables false
set_option linter.unusedSectionVars false
namespace Go.X
open Go Go.RowKit

section
variable {P : Program} {W0 : World} [GlobOk W0] {G : Gh} {H : Heap} {w : World}

theorem eqGuard_int (op : BinOp) (t : TypeId) (x y : Operand) (k k' : IntKind) (a b : Int) (w : World) : (eqGuard op t x y (.int k a) (.int k' b)).run P w = .ok () w := by
  unfold eqGuard; split <;> rfl

theorem eqGuard_bool (op : BinOp) (t : TypeId) (x y : Operand) (a b : Bool) (w : World) : (eqGuard op t x y (.bool a) (.bool b)).run P w = .ok () w := by
  unfold eqGuard; split <;> rfl

theorem eqGuard_slice (op : BinOp) (t : TypeId) (x y : Operand) (A B : Option Addr) (n m c d : Nat) (w : World) : (eqGuard op t x y (.slice A n c) (.slice B m d)).run P w = .ok () w := by
  unfold eqGuard; split <;> rfl

theorem binA_spec {op : BinOp} {t : TypeId} {x y v : AV} {c d : Value} (hx : VR W0 G 0 x c) (hy : VR W0 G 0 y d) (hv : binA op x y = some v) :
    ∃ u, (binOp op t c d).run P w = .ok u w ∧ VR W0 G 0 v u := by
  cases hx with
  | int k a =>
    cases hy with
    | int k' b =>
      cases op <;> simp only [binA] at hv <;> (try split at hv) <;> (try (cases hv; done)) <;>
        first
          | (rename_i h; cases hv; refine ⟨_, ?_, .int _ _⟩; simp [binOp, Op.shift, Int.not_lt.2 h]; done)
          | (rename_i h; subst h; cases hv; refine ⟨_, ?_, .int _ _⟩; simp [binOp, Op.intArith]; done)
          | (rename_i h; obtain ⟨rfl, h⟩ := h; cases hv; refine ⟨_, ?_, .int _ _⟩; simp [binOp, Op.intDiv, h]; done)
          | (rename_i h; subst h; cases hv; refine ⟨_, ?_, .bool _⟩; simp [binOp, Op.intCmp]; done)
          | (rename_i h; subst h; simp only [bitsA] at hv; cases hv; refine ⟨_, ?_, .int _ _⟩; simp [binOp, Op.intBits]; done)
          | (rename_i h; subst h; simp only [bitsA] at hv; cases hv)
    | _ => simp [binA] at hv
  | _ => simp [binA] at hv

theorem eql_bool {t : TypeId} (ht : P.underlying t = some .bool) (a b : Bool) (w : World) : (binOp .eql t (.bool a) (.bool b)).run P w = .ok (.bool (a == b)) w := by
  have := run_equalIn_bool' (P := P) w 9999 t a b ht
  show ((Op.equal t (.bool a) (.bool b)).bind fun r => Sem.pure (Value.bool r)).run P w = _
  rw [Sem.run_bind']
  show (((Op.equalIn (9999 + 1) t (.bool a) (.bool b)).run P w).andThen _) = _
  rw [this]; rfl

theorem neq_bool {t : TypeId} (ht : P.underlying t = some .bool) (a b : Bool) (w : World) : (binOp .neq t (.bool a) (.bool b)).run P w = .ok (.bool (!(a == b))) w := by
  have := run_equalIn_bool' (P := P) w 9999 t a b ht
  show ((Op.equal t (.bool a) (.bool b)).bind fun r => Sem.pure (Value.bool (!r))).run P w = _
  rw [Sem.run_bind']
  show (((Op.equalIn (9999 + 1) t (.bool a) (.bool b)).run P w).andThen _) = _
  rw [this]; rfl

theorem eqbA_spec {t : TypeId} (ht : P.underlying t = some .bool) {neg : Bool} {x y v : AV} {c d : Value} (hx : VR W0 G 0 x c) (hy : VR W0 G 0 y d) (hv : eqbA neg x y = some v) :
    ∃ u, (binOp (if neg then .neq else .eql) t c d).run P w = .ok u w ∧ VR W0 G 0 v u ∧ (∃ a b, c = .bool a ∧ d = .bool b) := by
  cases hx with
  | bool a =>
    cases hy with
    | bool b =>
      simp only [eqbA] at hv; cases hv
      cases neg
      · exact ⟨_, eql_bool ht a b w, by have := VR.bool (W0 := W0) (G := G) (l := 0) (a == b); simpa using this, a, b, rfl, rfl⟩
      · exact ⟨_, neq_bool ht a b w, by have := VR.bool (W0 := W0) (G := G) (l := 0) (!(a == b)); simpa using this, a, b, rfl, rfl⟩
    | _ => simp [eqbA] at hv
  | _ => simp [eqbA] at hv

theorem eqCells_spec (d : Nat) : ∀ (fs : List Field) (i : Nat) (ks : List Bool) (xs ys : List AV) (cs ds : List Value) (r : Bool), flatA P i fs = some ks → VL W0 G 0 xs cs → VL W0 G 0 ys ds →
    eqCells ks (xs.drop i) (ys.drop i) = some r → (Op.eqFields (d + 1) cs.toArray ds.toArray fs).run P w = .ok r w
  | [], i, ks, xs, ys, cs, ds, r, hf, hx, hy, he => by
    simp [flatA] at hf; subst hf
    cases h1 : xs.drop i with
    | nil => cases h2 : ys.drop i with
      | nil => rw [h1, h2] at he; simp [eqCells] at he; subst he; rfl
      | cons y l => rw [h1, h2] at he; simp [eqCells] at he
    | cons x l => rw [h1] at he; simp [eqCells] at he
  | f :: fs, i, ks, xs, ys, cs, ds, r, hf, hx, hy, he => by
    simp only [flatA] at hf
    split at hf
    · rename_i hn
      simp only [Bool.and_eq_true, bne_iff_ne, ne_eq, beq_iff_eq] at hn
      obtain ⟨hname, hoff⟩ := hn
      have hlt : ∀ {l : List AV} {b ks'}, ks = b :: ks' → l.drop i ≠ [] → i < l.length := fun {l b ks'} _ h => by
        rcases Nat.lt_or_ge i l.length with h' | h'
        · exact h'
        · exact absurd (List.drop_eq_nil_of_le h') h
      have main : ∀ (b : Bool) (ks' : List Bool), ks = b :: ks' → flatA P (i + 1) fs = some ks' → (∀ p q r', i < cs.length → i < ds.length → (h1 : i < xs.length) → (h2 : i < ys.length) → eqCells ks (xs[i] :: p) (ys[i] :: q) = some r' →
          ∃ e r'', r' = (e && r'') ∧ eqCells ks' p q = some r'' ∧ (∀ u v, VR W0 G 0 xs[i] u → VR W0 G 0 ys[i] v → (Op.equalIn (d + 1) f.type u v).run P w = .ok e w)) → (isAgg f.type).run P w = .ok false w →
          (Op.eqFields (d + 1) cs.toArray ds.toArray (f :: fs)).run P w = .ok r w := by
        intro b ks' hks hrest hcell hagg
        have hi : i < xs.length := by
          refine hlt hks (fun e => ?_)
          rw [e, hks] at he; cases b <;> simp [eqCells] at he
        have hi' : i < ys.length := by
          refine hlt hks (fun e => ?_)
          rw [List.drop_eq_getElem_cons hi, e, hks] at he; cases b <;> cases xs[i] <;> simp [eqCells] at he
        have hic : i < cs.length := by rw [← hx.1]; exact hi
        have hid : i < ds.length := by rw [← hy.1]; exact hi'
        rw [List.drop_eq_getElem_cons hi, List.drop_eq_getElem_cons hi'] at he
        obtain ⟨e, r'', hr, hr2, hrun⟩ := hcell _ _ _ hic hid hi hi' he
        have hxv := hx.2 i hi
        have hyv := hy.2 i hi'
        simp only [List.getD_eq_getElem?_getD, List.getElem?_eq_getElem hi, List.getElem?_eq_getElem hi', List.getElem?_eq_getElem hic, List.getElem?_eq_getElem hid, Option.getD_some] at hxv hyv
        have hp1 : (part f.type cs.toArray f.offset).run P w = .ok cs[i] w := by simp [part, hagg, hoff, hic]
        have hp2 : (part f.type ds.toArray f.offset).run P w = .ok ds[i] w := by simp [part, hagg, hoff, hid]
        simp only [Op.eqFields, hname, not_false_eq_true, if_true, ne_eq, Sem.run_bind, hp1, hp2, hrun _ _ hxv hyv, Result.andThen_ok]
        cases e with
        | false => rw [hr]; simp
        | true =>
          rw [hr]
          simp only [Bool.not_true, Bool.false_eq_true, if_false, Bool.true_and]
          exact eqCells_spec d fs (i + 1) ks' xs ys cs ds r'' hrest hx hy hr2
      split at hf
      · rename_i kd ks' hu hrest
        cases hf
        refine main true ks' rfl hrest (fun p q r' _ _ h1 h2 h => ?_) (by unfold isAgg; rw [Sem.run_bind, run_underlying hu w]; rfl)
        generalize xs[i] = x at h
        generalize ys[i] = y at h
        cases x <;> cases y <;> simp only [eqCells, reduceCtorEq] at h
        split at h
        · rename_i hk
          subst hk
          cases hr : eqCells ks' p q with
          | none => simp [hr] at h
          | some r'' =>
            simp [hr] at h
            refine ⟨_, r'', h.symm, rfl, fun u v hu' hv' => ?_⟩
            cases hu'; cases hv'
            exact run_equalIn_int (P := P) w d f.type _ _ _ _ hu
        · cases h
      · rename_i ks' hu hrest
        cases hf
        refine main false ks' rfl hrest (fun p q r' _ _ h1 h2 h => ?_) (by unfold isAgg; rw [Sem.run_bind, run_underlying hu w]; rfl)
        generalize xs[i] = x at h
        generalize ys[i] = y at h
        cases x <;> cases y <;> simp only [eqCells, reduceCtorEq] at h
        cases hr : eqCells ks' p q with
        | none => simp [hr] at h
        | some r'' =>
          simp [hr] at h
          refine ⟨_, r'', h.symm, rfl, fun u v hu' hv' => ?_⟩
          cases hu'; cases hv'
          exact run_equalIn_bool' (P := P) w d f.type _ _ hu
      · cases hf
    · cases hf

theorem eqsA_spec {t : TypeId} {fs : Array Field} {ks : List Bool} (ht : P.underlying t = some (.struct fs)) (hf : flatA P 0 fs.toList = some ks) (hp : P.stoodInHeld t = false) {neg : Bool} {x y v : AV} {c d : Value} (hx : VR W0 G 0 x c) (hy : VR W0 G 0 y d)
    (hv : eqsA neg ks x y = some v) : ∃ xs ys u, c = .agg xs ∧ d = .agg ys ∧ (binOp (if neg then .neq else .eql) t c d).run P w = .ok u w ∧ VR W0 G 0 v u := by
  cases hx with
  | agg vs cs hn r =>
    cases hy with
    | agg us ds hn' r' =>
      simp only [eqsA] at hv
      cases he : eqCells ks vs us with
      | none => simp [he] at hv
      | some q =>
        simp [he] at hv; subst hv
        have hfo : P.fieldsOf t = fs := by simp [Program.fieldsOf, ht]
        have h1 := run_equalIn_struct (P := P) w 9999 t cs.toArray ds.toArray (by rw [hfo]; exact ht) hp
        rw [hfo, eqCells_spec (P := P) (w := w) 9998 fs.toList 0 ks vs us cs ds q hf ⟨hn, r⟩ ⟨hn', r'⟩ (by simpa using he)] at h1
        refine ⟨cs.toArray, ds.toArray, .bool (q != neg), rfl, rfl, ?_, .bool _⟩
        cases neg
        · show ((Op.equal t _ _).bind fun r => Sem.pure (Value.bool r)).run P w = _
          rw [Sem.run_bind']
          show (((Op.equalIn (9999 + 1) t _ _).run P w).andThen _) = _
          rw [h1]; simp
        · show ((Op.equal t _ _).bind fun r => Sem.pure (Value.bool (!r))).run P w = _
          rw [Sem.run_bind']
          show (((Op.equalIn (9999 + 1) t _ _).run P w).andThen _) = _
          rw [h1]; simp
    | _ => simp [eqsA] at hv
  | _ => simp [eqsA] at hv

theorem equalIn_slice {t e : TypeId} (ht : P.underlying t = some (.slice e)) (d : Nat) (A : Option Addr) (n c m k : Nat) (w : World) : (Op.equalIn (d + 1) t (.slice A n c) (.slice none m k)).run P w = .ok A.isNone w := by
  cases A <;> simp [Op.equalIn, run_underlying ht]

theorem eql_slice {t e : TypeId} (ht : P.underlying t = some (.slice e)) (A : Option Addr) (n c m k : Nat) (w : World) : (binOp .eql t (.slice A n c) (.slice none m k)).run P w = .ok (.bool A.isNone) w := by
  show ((Op.equal t _ _).bind fun r => Sem.pure (Value.bool r)).run P w = _
  rw [Sem.run_bind']
  show (((Op.equalIn (9999 + 1) t _ _).run P w).andThen _) = _
  rw [equalIn_slice ht]; rfl

theorem neq_slice {t e : TypeId} (ht : P.underlying t = some (.slice e)) (A : Option Addr) (n c m k : Nat) (w : World) : (binOp .neq t (.slice A n c) (.slice none m k)).run P w = .ok (.bool (!A.isNone)) w := by
  show ((Op.equal t _ _).bind fun r => Sem.pure (Value.bool (!r))).run P w = _
  rw [Sem.run_bind']
  show (((Op.equalIn (9999 + 1) t _ _).run P w).andThen _) = _
  rw [equalIn_slice ht]; rfl

theorem eqnA_spec {t e : TypeId} (ht : P.underlying t = some (.slice e)) {neg : Bool} {x v : AV} {c : Value} (m k : Nat) (hx : VR W0 G 0 x c) (hv : eqnA neg x = some v) :
    ∃ A n cc u, c = .slice A n cc ∧ (binOp (if neg then .neq else .eql) t c (.slice none m k)).run P w = .ok u w ∧ VR W0 G 0 v u := by
  cases hx with
  | nils =>
    simp [eqnA] at hv; subst hv
    cases neg
    · exact ⟨none, 0, 0, _, rfl, eql_slice ht _ _ _ _ _ w, .bool _⟩
    · exact ⟨none, 0, 0, _, rfl, neq_slice ht _ _ _ _ _ w, .bool _⟩
  | imm sn cells len A cc u hl hc h h0 r =>
    cases len with
    | zero => simp [eqnA] at hv
    | succ len =>
      simp [eqnA] at hv; subst hv
      cases A with
      | none => exact absurd (h0 rfl).1 (by omega)
      | some a =>
        cases neg
        · exact ⟨some a, _, cc, _, rfl, eql_slice ht _ _ _ _ _ w, .bool _⟩
        · exact ⟨some a, _, cc, _, rfl, neq_slice ht _ _ _ _ _ w, .bool _⟩
  | sl id ver esz off len cap a cc hc hcap h =>
    simp [eqnA] at hv; subst hv
    cases neg
    · exact ⟨some a, _, cc, _, rfl, eql_slice ht _ _ _ _ _ w, .bool _⟩
    · exact ⟨some a, _, cc, _, rfl, neq_slice ht _ _ _ _ _ w, .bool _⟩
  | _ => simp [eqnA] at hv

theorem mnxA_spec (isMax : Bool) : ∀ (n : Nat) (vs : List AV) (cs : List Value) (v : AV), vs.length ≤ n → VL W0 G 0 vs cs → mnxA isMax vs = some v →
    ∃ c rest u, cs = c :: rest ∧ (rest.foldlM (if isMax then Builtin.max2 else Builtin.min2) c).run P w = .ok u w ∧ VR W0 G 0 v u := by
  intro n
  induction n with
  | zero =>
    intro vs cs v hn hv h
    have : vs = [] := List.eq_nil_of_length_eq_zero (by omega)
    subst this; simp [mnxA] at h
  | succ n ih =>
    intro vs cs v hn hv h
    match vs, cs, hv with
    | [], _, _ => simp [mnxA] at h
    | x :: xs, [], hv => simpa using hv.1
    | x :: [], c :: d :: cs, hv => simpa using hv.1
    | [x], [c], hv =>
      have hx := hv.head.1
      unfold mnxA at h
      split at h <;> try (cases h; done)
      · rename_i k a heq
        cases heq
        cases h
        exact ⟨c, [], c, rfl, rfl, hx⟩
      · rename_i heq; cases heq
    | x :: y :: xs, [c], hv => simpa using hv.1
    | x :: y :: xs, c :: d :: cs, hv =>
      unfold mnxA at h
      split at h <;> try (cases h; done)
      · rename_i heq; cases heq
      · rename_i k a k' b rest heq
        cases heq
        have hx := hv.head.1
        have hy := hv.head.2.head.1
        have hr := hv.head.2.head.2
        cases hx; cases hy
        obtain ⟨c', rest', u, h1, h2, h3⟩ := ih _ (.int k (if isMax then (if b > a then b else a) else (if b < a then b else a)) :: cs) v (by simp at hn ⊢; omega) (VL.cons (.int _ _) hr) h
        cases h1
        refine ⟨_, _, u, rfl, ?_, h3⟩
        rw [List.foldlM_cons, Sem.run_bind]
        have hstep : ((if isMax then Builtin.max2 else Builtin.min2) (.int k a) (.int k' b)).run P w = .ok (.int k (if isMax then (if b > a then b else a) else (if b < a then b else a))) w := by
          cases isMax <;> rfl
        rw [hstep]; exact h2
end
end Go.X
