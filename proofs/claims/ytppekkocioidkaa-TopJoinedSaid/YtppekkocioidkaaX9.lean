import Derived.Test.YtppekkocioidkaaX6
import Derived.Orders
/-! An operation that the small machine makes, the model makes alike. -/
set_option linter.unusedSimpArgs false
set_option linter.unusedVariables false
namespace Go.X
open Go Go.RowKit

section
variable {P : Program} {W0 : World} [GlobOk W0] {G : Gh} {H : Heap} {w : World}

theorem run_v {s : Sem Value} {c : Value} {w' : World} (h : s.run P w = .ok c w') : (do pure (Next.value (← s)) : Sem Next).run P w = .ok (.value c) w' := by simp [h]
theorem run_u {s : Sem Unit} {w' : World} (h : s.run P w = .ok () w') : (do s; pure Next.skip : Sem Next).run P w = .ok .skip w' := by simp [h]

theorem wp_val {o : Oper} {a : Act} {K : Act → World → Prop} {Q : Exit → Act → World → Prop} {c : Value} {w' : World} (h : (execOp a.eval o).run P w = .ok (.value c) w') (hk : K (a.put o.dst c) w') : o.wp P a w K Q := by
  unfold Oper.wp; rw [h]; exact hk

theorem wp_skp {o : Oper} {a : Act} {K : Act → World → Prop} {Q : Exit → Act → World → Prop} {w' : World} (h : (execOp a.eval o).run P w = .ok .skip w') (hk : K (a.put o.dst Go.undef) w') : o.wp P a w K Q := by
  unfold Oper.wp; rw [h]; exact hk

theorem map_pair {o : Option AV} {v : AV} {H' : Heap} (h : (o.map fun v => (v, H)) = some (v, H')) : o = some v ∧ H' = H := by
  cases o with
  | none => simp at h
  | some x => simp at h; exact ⟨by rw [h.1], h.2.symm⟩

theorem orBad_some {x : Option Ins} {fr : List AV} {R : Nat → List AV → Heap → Option (AV × Heap)} {r : AV × Heap} (h : insA R (orBad x) fr H = some r) : ∃ i, x = some i ∧ insA R i fr H = some r := by
  cases x with
  | none => simp [orBad, insA] at h
  | some i => exact ⟨i, rfl, h⟩

theorem run_callFunc {f : Nat} (h : CallOk P f) (args : Array Value) (w : World) : (callFunc f args).run P w = .ok (.enter f args) w := by
  obtain ⟨fn, h1, h2, h3⟩ := h
  unfold callFunc
  simp only [Sem.run_bind, run_program, Result.andThen_ok, h1, h2, h3, Bool.false_eq_true, if_false]
  rfl

/-- A call that is entered. -/
theorem enter_sound {R : Nat → List AV → Heap → Option (AV × Heap)} (RS : CallSound P W0 R) {o : Oper} {a : Act} {K : Act → World → Prop} {Q : Exit → Act → World → Prop} {mode f : Nat} {args : List AV} {cargs : List Value} {v : AV} {H' : Heap}
    (hR : Rel W0 G H w) (hv : VL W0 G 0 args cargs) (hc : callA R mode f args H = some (v, H')) (he : CallOk P f → (execOp a.eval o).run P w = .ok (.enter f cargs.toArray) w)
    (hK : ∀ c G' w', VR W0 G' 0 v c → Rel W0 G' H' w' → Ext G H w G' w' → Gr G' H H' → K (a.put o.dst c) w') : o.wp P a w K Q := by
  obtain ⟨h1, h3⟩ := callA_spec RS hc
  unfold Oper.wp
  rw [he h1, Oper.upon_enter]
  refine (h3 G w cargs hR hv).mono ?_
  rintro e w' ⟨c, G', rfl, q1, q2, q3, q4⟩
  exact hK c G' w' q1 q2 q3 q4

theorem arr_cons0 (x : Value) (l : List Value) : #[x] ++ (⟨l⟩ : Array Value) = ⟨x :: l⟩ := by apply Array.ext'; simp
theorem arr_head (x : Value) (ys : Array Value) : (#[x] ++ ys)[0]? = some x := by
  obtain ⟨l⟩ := ys
  rw [arr_cons0]; rfl
theorem arr_tail (x : Value) (ys : Array Value) : (#[x] ++ ys).extract 1 (#[x] ++ ys).size = ys := by
  apply Array.ext'; simp
theorem arr_cons (x : Value) (ys : List Value) : #[x] ++ ys.toArray = (x :: ys).toArray := by simp

theorem lookup_mem {α β : Type} [BEq α] [LawfulBEq α] {l : List (α × β)} {x : α} {y : β} (h : l.lookup x = some y) : (x, y) ∈ l := by
  induction l with
  | nil => simp at h
  | cons p l ih =>
    obtain ⟨a, b⟩ := p
    rw [List.lookup_cons] at h
    split at h
    · rename_i e
      cases h
      have : x = a := by simpa using e
      subst this; simp
    · exact List.mem_cons_of_mem _ (ih h)

theorem method_spec {name : String} {t f : Nat} (h : (t, f) ∈ methodTab P name) (v : Value) (w : World) (n : Nat) : (method (n + 1) t v name).run P w = .ok (f, v) w := by
  unfold methodTab at h
  obtain ⟨t', _, h⟩ := List.mem_filterMap.1 h
  cases hi : P.info? t' with
  | none => simp [hi] at h
  | some i =>
    simp only [hi] at h
    cases hm : i.methods.find? (·.name == name) with
    | none => simp [hm] at h
    | some m =>
      simp only [hm] at h
      split at h
      · cases h
      · rename_i hpath hfunc hund
        cases h
        rename_i d hd _
        have hp : m.path.toList = [] := by simpa using hpath
        unfold method
        simp only [Sem.run_bind, typeInfo, run_program, Result.andThen_ok, hi, Sem.run_pure, hm, hp, follow, hfunc, receiverAt, run_underlying hund]
        cases d <;> first | rfl | (exact absurd rfl (by assumption)) | simp_all
      · cases h

theorem run_bslice {t e : TypeId} {len s : Nat} {parts : Array (Nat × Value)} {ti : TypeInfo} {zv : Value} {out : Array Value} (hu : P.underlying t = some (.slice e)) (hs : sizeA P e = some s) (q1 : P.info? e = some ti) (q2 : ti.zero = some zv) (hle : len * s ≤ 16777216)
    (f : Instr.fill (fun i => some (i * s, s)) (madeCells zv.cells (len * s)) parts.toList = some out) : (Instr.buildSlice t len parts).run P w = .ok (.slice (some ⟨w.heap.size, 0, none⟩) len len) (w.alloc (.cells out e)) := by
  have hn : ¬ (len * s > 2 ^ 24) := by rw [show (2 : Nat) ^ 24 = 16777216 from rfl]; omega
  have hz : (zeroValue e).run P w = .ok zv w := by simp [zeroValue, typeInfo, q1, q2]
  unfold Instr.buildSlice
  by_cases h0 : len * s = 0
  · have hmk : (Array.range (len * s)).map (fun x => (#[] : Array Value)[x % (#[] : Array Value).size]!) = madeCells zv.cells (len * s) := by
      rw [h0]; simp [madeCells]
    rw [← hmk] at f
    simp only [Sem.run_bind, run_underlying hu, Result.andThen_ok, run_sizeOf' hs, if_neg hn, if_pos h0, Sem.run_pure, f]
    rfl
  · simp only [Sem.run_bind, run_underlying hu, Result.andThen_ok, run_sizeOf' hs, if_neg hn, if_neg h0, Sem.run_pure, hz]
    unfold madeCells at f
    simp only [f]
    rfl

theorem ins_sound {R : Nat → List AV → Heap → Option (AV × Heap)} (RS : CallSound P W0 R) {md : Nat → Nat} {o : Oper} {a : Act} {fr : List AV} {v : AV} {H' : Heap} {K : Act → World → Prop} {Q : Exit → Act → World → Prop}
    (hF : FR W0 G fr a.tmps) (hR : Rel W0 G H w) (hi : insA R (compOp P md o) fr H = some (v, H'))
    (hK : ∀ c G' w', VR W0 G' 0 v c → Rel W0 G' H' w' → Ext G H w G' w' → Gr G' H H' → K (a.put o.dst c) w') : o.wp P a w K Q := by
  have hpure : ∀ u, (execOp a.eval o).run P w = .ok (.value u) w → VR W0 G 0 v u → H' = H → o.wp P a w K Q := fun u h1 h2 h3 => by
    subst h3; exact wp_val h1 (hK u G w h2 hR (Ext.refl G H' w) (Gr.same rfl))
  obtain ⟨dst, op, type, pos, after, guard⟩ := o
  cases op <;> simp only [compOp] at hi <;> try (simp [insA] at hi; done)
  case move x =>
    simp only [insA, Option.some.injEq, Prod.mk.injEq] at hi
    obtain ⟨rfl, rfl⟩ := hi
    exact hpure _ rfl (hF.ev x) rfl
  case assign x =>
    simp only [insA, Option.some.injEq, Prod.mk.injEq] at hi
    obtain ⟨rfl, rfl⟩ := hi
    exact hpure _ rfl (hF.ev x) rfl
  case pick c x y =>
    simp only [insA] at hi
    split at hi
    · rename_i b hb
      have hc := hF.ev c
      rw [hb] at hc
      generalize hcc : a.eval c = cc at hc
      cases hc
      cases hi
      refine hpure (if b then a.eval x else a.eval y) ?_ ?_ rfl
      · show (do pure (Next.value (if ← asBool (a.eval c) then a.eval x else a.eval y))).run P w = _
        rw [hcc]; cases b <;> rfl
      · cases b
        · exact hF.ev y
        · exact hF.ev x
    · cases hi
  case alloc t =>
    obtain ⟨i, h1, h2⟩ := orBad_some hi
    cases hz : zeroA P t with
    | none => simp [hz] at h1
    | some z =>
      simp [hz] at h1; subst h1
      simp only [insA, Option.some.injEq, Prod.mk.injEq] at h2
      obtain ⟨rfl, rfl⟩ := h2
      obtain ⟨ti, zv, q1, q2, q3⟩ := zeroA_spec (W0 := W0) (G := G) hz
      have hal := hR.alloc [] t (q3 0)
      simp only [List.append_nil, Array.toArray_toList, List.length_nil, Nat.add_zero] at hal
      refine wp_val (c := .pointer (some ⟨w.heap.size, 0, none⟩)) (w' := w.alloc (.cells zv.cells t)) (run_v ?_) (hK _ _ _ (.ptr _ _ _ _ ⟨0, _, _, by simp [Gh.add]; rfl, Nat.le_refl _, fun _ => rfl⟩) hal.1 hal.2 (Gr.alloc _ _ _ _ _))
      simp [Instr.alloc, zeroValue, typeInfo, q1, q2, newVar, newRow]
  case box t x =>
    simp only [insA] at hi
    split at hi
    · cases hi
    · rename_i hu
      cases hi
      have hal := hR.alloc [] t (cellsOf_spec (hF.ev x) (by simpa using hu))
      simp only [List.append_nil, Array.toArray_toList, List.length_nil, Nat.add_zero] at hal
      refine wp_val (c := .pointer (some ⟨w.heap.size, 0, none⟩)) (w' := w.alloc (.cells (a.eval x).cells t)) (run_v ?_) (hK _ _ _ (.ptr _ _ _ _ ⟨0, _, _, by simp [Gh.add]; rfl, Nat.le_refl _, fun _ => rfl⟩) hal.1 hal.2 (Gr.alloc _ _ _ _ _))
      simp [Instr.box, newVar, newRow]
  case build t ps =>
    obtain ⟨i, h1, h2⟩ := orBad_some hi
    split at h1 <;> try (cases h1; done)
    · rename_i z fs hz hu
      cases hp : placesA P fs.toList with
      | none => simp [hp] at h1
      | some places =>
        simp only [hp] at h1
        cases hq : partsA (fun i => places[i]?) ps.toList with
        | none => simp [hq] at h1
        | some ps' =>
          simp [hq] at h1; subst h1
          simp only [insA] at h2
          obtain ⟨h3, rfl⟩ := map_pair h2
          cases hfl : fillA z (ps'.map fun p => (p.1, p.2.1, p.2.2.ev fr)) with
          | none => simp [hfl] at h3
          | some out =>
            simp [hfl] at h3; subst h3
            obtain ⟨ti, zv, q1, q2, q3⟩ := zeroA_spec (W0 := W0) (G := G) hz
            obtain ⟨out', f1, f2⟩ := fill_spec hF (fun i => places[i]?) ps.toList ps' z out zv.cells hq hfl (q3 0)
            refine hpure (.agg out') (run_v (run_build w t _ out' ?_)) (by simpa using VR.aggA f2) rfl
            unfold Program.built
            have hp' : fs.toList.mapM (fun f => (P.info? f.type).map fun i => (f.offset, i.size)) = some places := hp
            simp only [q1, hu, q2, hp', Array.toList_map]
            simpa using f1
    · rename_i z n e hz hu
      cases hs : sizeA P e with
      | none => simp [hs] at h1
      | some s =>
        simp only [hs] at h1
        obtain ⟨ie, he1, he2⟩ : ∃ ie, P.info? e = some ie ∧ ie.size = s := by
          unfold sizeA at hs
          cases he : P.info? e with
          | none => simp [he] at hs
          | some ie => rw [he] at hs; simp at hs; exact ⟨ie, rfl, hs⟩
        cases hq : partsA (fun i => some (i * s, s)) ps.toList with
        | none => simp [hq] at h1
        | some ps' =>
          simp [hq] at h1; subst h1
          simp only [insA] at h2
          obtain ⟨h3, rfl⟩ := map_pair h2
          cases hfl : fillA z (ps'.map fun p => (p.1, p.2.1, p.2.2.ev fr)) with
          | none => simp [hfl] at h3
          | some out =>
            simp [hfl] at h3; subst h3
            obtain ⟨ti, zv, q1, q2, q3⟩ := zeroA_spec (W0 := W0) (G := G) hz
            obtain ⟨out', f1, f2⟩ := fill_spec hF (fun i => some (i * s, s)) ps.toList ps' z out zv.cells hq hfl (q3 0)
            refine hpure (.agg out') (run_v (run_build w t _ out' ?_)) (by simpa using VR.aggA f2) rfl
            unfold Program.built
            simp only [q1, hu, q2, he1, he2, Array.toList_map]
            simpa using f1
  case buildSlice t len ps =>
    obtain ⟨i, h1, h2⟩ := orBad_some hi
    split at h1 <;> try (cases h1; done)
    rename_i e hu
    split at h1 <;> try (cases h1; done)
    rename_i s z hs hz
    split at h1 <;> try (cases h1; done)
    rename_i hle
    cases hq : partsA (fun i => some (i * s, s)) ps.toList with
    | none => simp [hq] at h1
    | some ps' =>
      simp [hq] at h1; subst h1
      simp only [insA] at h2
      split at h2 <;> try (cases h2; done)
      rename_i cs hfl
      cases h2
      obtain ⟨ti, zv, q1, q2, q3⟩ := zeroA_spec (W0 := W0) (G := G) hz
      have hz0 := zerosA_spec (q3 0) (len * s)
      obtain ⟨out', f1, f2⟩ := fill_spec hF (fun i => some (i * s, s)) ps.toList ps' _ cs (madeCells zv.cells (len * s)) hq hfl (by simpa using hz0)
      have hal := hR.alloc [] e f2
      simp only [List.append_nil, Array.toArray_toList, List.length_nil, Nat.add_zero] at hal
      have hlen := fillA_length hfl
      have hcl := f2.1
      simp only [zerosA, List.length_map, List.length_range] at hlen
      refine wp_val (c := .slice (some ⟨w.heap.size, 0, none⟩) len len) (w' := w.alloc (.cells out' e)) (run_v ?_)
        (hK _ _ _ (.sl _ _ _ _ _ _ _ _ (Nat.le_refl _) (fun e h => by cases h) ⟨0, w.heap.size, out'.toList.length, by simp [Gh.add], Nat.le_refl _, fun _ => ⟨fun _ => rfl, by omega⟩⟩) hal.1 hal.2 (Gr.alloc _ _ _ _ _))
      exact run_bslice hu hs q1 q2 hle.1 (by simpa using f1)
  case load t p =>
    obtain ⟨i, h1, h2⟩ := orBad_some hi
    split at h1 <;> try (cases h1; done)
    · rename_i s ht hs
      cases h1
      simp only [insA] at h2
      obtain ⟨h3, rfl⟩ := map_pair h2
      obtain ⟨u, q1, q2⟩ := load_spec (P := P) (t := t) hR (hF.ev p) h3 (.inr ⟨s, rfl, ht, hs⟩)
      exact hpure u (run_v q1) q2 rfl
    · rename_i ht
      cases h1
      simp only [insA] at h2
      obtain ⟨h3, rfl⟩ := map_pair h2
      obtain ⟨u, q1, q2⟩ := load_spec (P := P) (t := t) hR (hF.ev p) h3 (.inl ⟨rfl, ht⟩)
      exact hpure u (run_v q1) q2 rfl
  case store t p x =>
    obtain ⟨i, h1, h2⟩ := orBad_some hi
    cases hs : sizeA P t with
    | none => simp [hs] at h1
    | some s =>
      simp [hs] at h1; subst h1
      simp only [insA] at h2
      cases hst : storeA H s ((opdA p).ev fr) ((opdA x).ev fr) with
      | none => simp [hst] at h2
      | some H1 =>
        simp [hst] at h2
        obtain ⟨rfl, rfl⟩ := h2
        obtain ⟨G', w', q1, q2, q3, q4⟩ := store_spec (P := P) (t := t) hR (hF.ev p) (hF.ev x) hst hs
        exact wp_skp (run_u q1) (hK _ G' w' .skp q2 q3 q4)
  case nilCheck x =>
    simp only [insA] at hi
    obtain ⟨h3, rfl⟩ := map_pair hi
    have hx := hF.ev x
    generalize hc : a.eval x = c at hx
    generalize (opdA x).ev fr = y at hx h3
    have hgo : (∀ (n : String) (f cs : Array Value), c ≠ .func (.method n) f cs) → c ≠ .pointer none → c ≠ .nilIface → c ≠ .nilFunc → (execOp a.eval ⟨dst, .nilCheck x, type, pos, after, guard⟩).run P w = .ok (.value c) w := by
      intro n1 n2 n3 n4
      simp only [execOp, hc]
      cases c <;> first | rfl | (rename_i q; cases q <;> first | rfl | exact absurd rfl n2) | exact absurd rfl n3 | exact absurd rfl n4 | (rename_i fn f1 cs1; cases fn <;> first | rfl | exact absurd rfl (n1 _ _ _))
    refine hpure c (hgo ?_ ?_ ?_ ?_) ?_ rfl
    · cases hx <;> simp_all [chkA]
    · cases hx <;> simp_all [chkA]
    · cases hx <;> simp_all [chkA]
    · cases hx <;> simp_all [chkA]
    · cases y <;> simp only [chkA, Option.some.injEq, reduceCtorEq] at h3 <;> (subst h3; exact hx)
  case binOp op t x y yt =>
    unfold compBin at hi
    split at hi
    · simp only [insA] at hi
      obtain ⟨h3, rfl⟩ := map_pair hi
      obtain ⟨u, q1, q2⟩ := binA_spec (P := P) (w := w) (t := t) (hF.ev x) (hF.ev y) h3
      refine hpure u (run_v ?_) q2 rfl
      have hx := hF.ev x
      have hy := hF.ev y
      generalize (opdA x).ev fr = x1 at hx h3
      generalize (opdA y).ev fr = y1 at hy h3
      generalize a.eval x = c at hx q1
      generalize a.eval y = d at hy q1
      cases hx <;> cases hy <;> simp only [binA, reduceCtorEq] at h3
      rw [Sem.run_bind, eqGuard_int]; exact q1
    · rename_i ht
      have go : ∀ neg, op = (if neg then .neq else .eql) → insA R (.eqb neg (opdA x) (opdA y)) fr H = some (v, H') → Oper.wp P ⟨dst, .binOp op t x y yt, type, pos, after, guard⟩ a w K Q := by
        intro neg hop hi
        simp only [insA] at hi
        obtain ⟨h3, rfl⟩ := map_pair hi
        obtain ⟨u, q1, q2, p, q, e1, e2⟩ := eqbA_spec (P := P) (w := w) ht (hF.ev x) (hF.ev y) h3
        refine hpure u (run_v ?_) q2 rfl
        rw [Sem.run_bind, e1, e2, eqGuard_bool, hop, ← e1, ← e2]; exact q1
      split at hi
      · exact go false rfl hi
      · exact go true rfl hi
      · simp [insA] at hi
    · rename_i fs ht
      split at hi
      · rename_i ks hks
        split at hi
        · rename_i hcond
          simp only [Bool.and_eq_true, Bool.not_eq_eq_eq_not, Bool.not_true] at hcond
          have go : ∀ neg, op = (if neg then .neq else .eql) → insA R (.eqs neg ks (opdA x) (opdA y)) fr H = some (v, H') → Oper.wp P ⟨dst, .binOp op t x y yt, type, pos, after, guard⟩ a w K Q := by
            intro neg hop hi
            simp only [insA] at hi
            obtain ⟨h3, rfl⟩ := map_pair hi
            obtain ⟨xs, ys, u, e1, e2, q1, q2⟩ := eqsA_spec (P := P) (w := w) ht hks hcond.1 (hF.ev x) (hF.ev y) h3
            refine hpure u (run_v ?_) q2 rfl
            rw [Sem.run_bind, e1, e2, run_eqGuard_agg w op t x y xs ys hcond.2, hop, ← e1, ← e2]; exact q1
          split at hi
          · exact go false rfl hi
          · exact go true rfl hi
          · simp [insA] at hi
        · simp [insA] at hi
      · simp [insA] at hi
    · rename_i e ht
      have go : ∀ neg m k, op = (if neg then .neq else .eql) → y = .const (.slice none m k) → insA R (.eqn neg (opdA x)) fr H = some (v, H') → Oper.wp P ⟨dst, .binOp op t x y yt, type, pos, after, guard⟩ a w K Q := by
        intro neg m k hop hy hi
        simp only [insA] at hi
        obtain ⟨h3, rfl⟩ := map_pair hi
        obtain ⟨A, n, cc, u, e1, q1, q2⟩ := eqnA_spec (P := P) (w := w) ht m k (hF.ev x) h3
        refine hpure u (run_v ?_) q2 rfl
        subst hy
        rw [Sem.run_bind, show a.eval (.const (.slice none m k)) = .slice none m k from rfl, e1, eqGuard_slice, hop, ← e1]; exact q1
      split at hi
      · exact go false _ _ rfl rfl hi
      · exact go true _ _ rfl rfl hi
      · simp [insA] at hi
    · simp [insA] at hi
  case unOp op t x =>
    simp only [insA] at hi
    obtain ⟨h3, rfl⟩ := map_pair hi
    have hx := hF.ev x
    generalize hc : a.eval x = c at hx
    generalize (opdA x).ev fr = y at hx h3
    unfold unA at h3
    split at h3
    · cases hx; cases h3
      exact hpure _ (run_v (by rw [hc]; rfl)) (.int _ _) rfl
    · cases hx; cases h3
      exact hpure _ (run_v (by rw [hc]; rfl)) (.bool _) rfl
    · cases h3
  case convert s d x =>
    split at hi
    · rename_i k1 k2 h1 h2
      simp only [insA] at hi
      split at hi
      · rename_i k n hk
        cases hi
        have hx := hF.ev x
        rw [hk] at hx
        generalize hc : a.eval x = c at hx
        cases hx
        refine hpure (.int k2 (k2.wrap n)) (run_v ?_) (.int _ _) rfl
        rw [hc]
        simp [convert, run_underlying h1, run_underlying h2, Conv.intToInt]
      · cases hi
    · simp [insA] at hi
  case makeInterface t x =>
    split at hi
    · simp [insA] at hi
    · rename_i d hne hd
      simp only [insA, Option.some.injEq, Prod.mk.injEq] at hi
      obtain ⟨rfl, rfl⟩ := hi
      refine hpure (.iface t (a.eval x)) (run_v ?_) (.iface _ _ _ (hF.ev x)) rfl
      unfold Instr.makeInterface
      rw [Sem.run_bind, run_underlying hd]
      cases d <;> first | rfl | exact absurd rfl (hne _)
    · simp [insA] at hi
  case makeFunc f first caps =>
    cases f <;> simp only at hi <;> try (simp [insA] at hi; done)
    split at hi
    · rename_i hemp
      simp only [insA, Option.some.injEq, Prod.mk.injEq] at hi
      obtain ⟨rfl, rfl⟩ := hi
      have hvl := hF.evs caps.toList
      have he : first.map a.eval = #[] := by simp at hemp; simp [hemp]
      refine hpure _ (run_v (c := .func (.func _) #[] (caps.toList.map a.eval).toArray) ?_) (.fn _ _ _ hvl.1 hvl.2) rfl
      show (Instr.makeFunc _ (first.map a.eval) (caps.map a.eval)).run P w = _
      rw [he, show caps.map a.eval = (caps.toList.map a.eval).toArray from Array.ext' (by simp)]
      rfl
    · simp [insA] at hi
  case makeSlice t l c =>
    obtain ⟨i, h1, h2⟩ := orBad_some hi
    split at h1 <;> try (cases h1; done)
    rename_i e hu
    split at h1 <;> try (cases h1; done)
    rename_i ti z hti hz
    cases h1
    simp only [insA] at h2
    split at h2
    · rename_i n m hn hm
      split at h2
      · rename_i hc
        obtain ⟨rfl, h0, hb, h63, hzl⟩ := hc
        cases h2
        obtain ⟨ti', zv, q1, q2, q3⟩ := zeroA_spec (W0 := W0) (G := G) hz
        rw [hti] at q1; cases q1
        have hl := hF.ev l
        have hcp := hF.ev c
        rw [hn] at hl; rw [hm] at hcp
        generalize hlc : a.eval l = lc at hl
        generalize hcc : a.eval c = cc at hcp
        cases hl; cases hcp
        have hz0 := zerosA_spec (q3 0) (n.toNat * ti.size)
        have hal := hR.alloc [] e hz0
        simp only [List.append_nil, Array.toArray_toList, List.length_nil, Nat.add_zero] at hal
        refine wp_val (c := .slice (some ⟨w.heap.size, 0, none⟩) n.toNat n.toNat) (w' := w.alloc (.cells (madeCells zv.cells (n.toNat * ti.size)) e)) (run_v ?_)
          (hK _ _ _ (.sl _ _ _ _ _ _ _ _ (Nat.le_refl _) (fun e h => by cases h) ⟨0, w.heap.size, (madeCells zv.cells (n.toNat * ti.size)).toList.length, by simp [Gh.add], Nat.le_refl _, fun _ => ⟨fun _ => rfl, by simp [size_madeCells]⟩⟩) hal.1 hal.2 (Gr.alloc _ _ _ _ _))
        rw [hlc, hcc]
        exact run_make (P := P) w t e ti zv hu hti q2 _ _ n n h0 (Int.le_refl _) (by rw [Int.mul_comm]; omega) h63
      · cases h2
    · cases h2
  case slice t x lo hi' mx =>
    obtain ⟨i, h1, h2⟩ := orBad_some hi
    split at h1 <;> try (cases h1; done)
    rename_i e hu
    cases hs : sizeA P e with
    | none => simp [hs] at h1
    | some s =>
      simp [hs] at h1; subst h1
      simp only [insA] at h2
      obtain ⟨h3, rfl⟩ := map_pair h2
      obtain ⟨u, q1, q2⟩ := sliceA_spec (P := P) (w := w) hu hs (hF.ev x) (bo_of hF lo) (bo_of hF hi') (bo_of hF mx) h3
      exact hpure u (run_v q1) q2 rfl
  case fieldAddr t x j =>
    obtain ⟨i, h1, h2⟩ := orBad_some hi
    split at h1 <;> try (cases h1; done)
    rename_i fs hu
    split at h1 <;> try (cases h1; done)
    rename_i f hf
    split at h1 <;> try (cases h1; done)
    rename_i s hs
    cases h1
    simp only [insA] at h2
    obtain ⟨h3, rfl⟩ := map_pair h2
    obtain ⟨u, q1, q2⟩ := fldA_spec (P := P) (w := w) hu hf hs (hF.ev x) h3
    exact hpure u (run_v q1) q2 rfl
  case field t x j =>
    obtain ⟨i, h1, h2⟩ := orBad_some hi
    split at h1 <;> try (cases h1; done)
    rename_i fs hu
    split at h1 <;> try (cases h1; done)
    rename_i f hf
    have go : ∀ sz, ((sz = none ∧ isStruct P f.type = some false) ∨ (∃ s, sz = some s ∧ isStruct P f.type = some true ∧ sizeA P f.type = some s)) → insA R (.field sz f.offset (opdA x)) fr H = some (v, H') → Oper.wp P ⟨dst, .field t x j, type, pos, after, guard⟩ a w K Q := by
      intro sz hsz h2
      simp only [insA] at h2
      obtain ⟨h3, rfl⟩ := map_pair h2
      have hx := hF.ev x
      generalize hc : a.eval x = c at hx
      generalize (opdA x).ev fr = y at hx h3
      cases hx <;> simp only [partA, reduceCtorEq] at h3
      rename_i vs cs hn r
      obtain ⟨u, q1, q2⟩ := partA_spec (P := P) (w := w) (off := f.offset) hsz (vs := vs) (cs := cs) (v := v) ⟨hn, r⟩ h3
      refine hpure u (run_v ?_) q2 rfl
      rw [hc]
      simp [Instr.field, run_underlying hu, hf, asAgg, q1]
    split at h1 <;> try (cases h1; done)
    · rename_i s ht hs
      cases h1
      exact go _ (.inr ⟨s, rfl, ht, hs⟩) h2
    · rename_i ht
      cases h1
      exact go _ (.inl ⟨rfl, ht⟩) h2
  case indexAddr t x j =>
    obtain ⟨i, h1, h2⟩ := orBad_some hi
    split at h1 <;> try (cases h1; done)
    · rename_i e hu
      cases hs : sizeA P e with
      | none => simp [hs] at h1
      | some s =>
        simp [hs] at h1; subst h1
        simp only [insA] at h2
        obtain ⟨h3, rfl⟩ := map_pair h2
        obtain ⟨u, q1, q2⟩ := idxA_spec (P := P) (w := w) hu hs (hF.ev x) (hF.ev j) h3
        exact hpure u (run_v q1) q2 rfl
    · rename_i n e hu
      cases hs : sizeA P e with
      | none => simp [hs] at h1
      | some s =>
        simp [hs] at h1; subst h1
        simp only [insA] at h2
        obtain ⟨h3, rfl⟩ := map_pair h2
        obtain ⟨u, q1, q2⟩ := idxP_spec (P := P) (w := w) hu hs (hF.ev x) (hF.ev j) h3
        exact hpure u (run_v q1) q2 rfl
  case index t x j =>
    obtain ⟨i, h1, h2⟩ := orBad_some hi
    split at h1 <;> try (cases h1; done)
    rename_i n e hu
    have go : ∀ sz s, sizeA P e = some s → ((sz = none ∧ isStruct P e = some false) ∨ (∃ s, sz = some s ∧ isStruct P e = some true ∧ sizeA P e = some s)) → insA R (.index sz s n (opdA x) (opdA j)) fr H = some (v, H') → Oper.wp P ⟨dst, .index t x j, type, pos, after, guard⟩ a w K Q := by
      intro sz s hs hsz h2
      simp only [insA] at h2
      split at h2 <;> try (cases h2; done)
      rename_i jn hjn
      split at h2 <;> try (cases h2; done)
      rename_i hlt
      obtain ⟨h3, rfl⟩ := map_pair h2
      obtain ⟨k, z, hz1, hz2, hz3⟩ := natOf_spec (hF.ev j) hjn
      have hx := hF.ev x
      generalize hc : a.eval x = c at hx
      generalize (opdA x).ev fr = y at hx h3
      cases hx <;> simp only [partA, reduceCtorEq] at h3
      rename_i vs cs hn r
      obtain ⟨u, q1, q2⟩ := partA_spec (P := P) (w := w) (off := jn * s) hsz (vs := vs) (cs := cs) (v := v) ⟨hn, r⟩ h3
      refine hpure u (run_v ?_) q2 rfl
      rw [hc, hz1]
      have : z < (n : Int) := by omega
      simp [Instr.index, asIntOf, run_underlying hu, hz2, this, run_sizeOf' hs, hz3, q1]
    split at h1 <;> try (cases h1; done)
    · rename_i s ht hs
      cases h1
      exact go _ s hs (.inr ⟨s, rfl, ht, hs⟩) h2
    · rename_i s ht hs
      cases h1
      exact go _ s hs (.inl ⟨rfl, ht⟩) h2
  case extract x j =>
    simp only [insA] at hi
    split at hi
    · rename_i vs hvs
      obtain ⟨h3, rfl⟩ := map_pair hi
      have hx := hF.ev x
      rw [hvs] at hx
      generalize hc : a.eval x = c at hx
      cases hx with
      | tup _ cs hn r =>
        have hlt : j < vs.length := by
          rcases Nat.lt_or_ge j vs.length with h | h
          · exact h
          · rw [List.getElem?_eq_none h] at h3; cases h3
        have hlt' : j < cs.length := by omega
        have := r j hlt
        rw [List.getElem?_eq_getElem hlt] at h3; cases h3
        refine hpure cs[j] (run_v ?_) (by simpa [List.getD_eq_getElem?_getD, hlt, hlt'] using this) rfl
        rw [hc]
        simp [Instr.extract, hlt']
    · cases hi
  case call c =>
    unfold compCall at hi
    obtain ⟨callee, args, argTypes⟩ := c
    simp only at hi
    have hargs := hF.evs args.toList
    have hmapA : args.map a.eval = (args.toList.map a.eval).toArray := Array.ext' (by simp)
    split at hi
    · -- a function by its name
      rename_i f
      simp only [insA] at hi
      refine enter_sound RS hR hargs hi (fun hok => ?_) hK
      show (do let d ← resolve a.eval ⟨.value (.func f), args, argTypes⟩ type; invoke d.target d.args : Sem Next).run P w = _
      simp only [resolve, Act.eval, Deferred.ofValue, Sem.run_bind, Sem.run_pure, Result.andThen_ok, invoke, Array.append_empty, Array.empty_append, run_callFunc hok, hmapA]
    · rename_i t
      simp only [insA] at hi
      split at hi <;> try (cases hi; done)
      rename_i g caps hg
      have hf := hF.ev (.tmp t)
      have hg' : (opdA (.tmp t)).ev fr = .fn g caps := hg
      rw [hg'] at hf
      generalize hc : a.eval (.tmp t) = fc at hf
      cases hf with
      | fn _ _ cs hn r =>
        refine enter_sound RS hR (hargs.append ⟨hn, r⟩) hi (fun hok => ?_) hK
        show (do let d ← resolve a.eval ⟨.value (.tmp t), args, argTypes⟩ type; invoke d.target d.args : Sem Next).run P w = _
        simp only [resolve, hc, Deferred.ofValue, Sem.run_bind, Sem.run_pure, Result.andThen_ok, invoke, Array.empty_append, run_callFunc hok, hmapA]
        simp
    · simp [insA] at hi
    · rename_i r name
      simp only [insA] at hi
      split at hi <;> try (cases hi; done)
      rename_i t v0 hr
      split at hi <;> try (cases hi; done)
      rename_i g hg
      have hf := hF.ev r
      rw [hr] at hf
      generalize hc : a.eval r = fc at hf
      cases hf with
      | iface _ _ cv hcv =>
        have hm := method_spec (P := P) (lookup_mem hg) cv w
        refine enter_sound RS hR (VL.cons hcv hargs) hi (fun hok => ?_) hK
        show (do let d ← resolve a.eval ⟨.invoke r name, args, argTypes⟩ type; invoke d.target d.args : Sem Next).run P w = _
        obtain ⟨n, hn⟩ : ∃ n, P.types.size + Made.depth = n + 1 := ⟨P.types.size + Made.depth - 1, (by have h0 : 0 < Made.depth := (by decide); omega)⟩
        simp only [resolve, hc, Sem.run_bind, Sem.run_pure, Result.andThen_ok, invoke]
        simp only [arr_head, callMethod, Sem.run_bind, run_program, Result.andThen_ok, hn, hm n, arr_tail, run_callFunc hok]
        rw [hmapA, arr_cons]
    · -- len
      split at hi <;> try (simp [insA] at hi; done)
      rename_i x e hx he
      simp only [insA] at hi
      obtain ⟨h3, rfl⟩ := map_pair hi
      cases hl : lenA ((opdA x).ev fr) with
      | none => simp [hl] at h3
      | some n =>
        simp [hl] at h3; subst h3
        obtain ⟨A, cc, hA, hle⟩ := lenA_spec (hF.ev x) hl
        have harr : args = #[x] := by cases args; simp_all
        subst harr
        cases hat : argTypes[0]? with
        | none => simp [hat] at he
        | some tt =>
          simp [hat] at he
          refine hpure (.int .i64 n) ?_ (.int _ _) rfl
          show (do let d ← resolve a.eval ⟨.builtin .len, #[x], argTypes⟩ type; invoke d.target d.args : Sem Next).run P w = _
          simp [resolve, invoke, builtin, Builtin.len_, hat, hA, run_underlying he, goInt]
    · -- min
      simp only [insA] at hi
      obtain ⟨h3, rfl⟩ := map_pair hi
      obtain ⟨c, rest, u, q1, q2, q3⟩ := mnxA_spec (P := P) (w := w) false _ _ _ v (Nat.le_refl _) hargs h3
      refine hpure u ?_ q3 rfl
      show (do let d ← resolve a.eval ⟨.builtin .min, args, argTypes⟩ type; invoke d.target d.args : Sem Next).run P w = _
      have hq : (Builtin.min_ argTypes type (args.map a.eval)).run P w = .ok u w := by
        unfold Builtin.min_
        rw [hmapA]
        simp only [q1]
        simpa using q2
      simp [resolve, invoke, builtin, hq]
    · simp only [insA] at hi
      obtain ⟨h3, rfl⟩ := map_pair hi
      obtain ⟨c, rest, u, q1, q2, q3⟩ := mnxA_spec (P := P) (w := w) true _ _ _ v (Nat.le_refl _) hargs h3
      refine hpure u ?_ q3 rfl
      show (do let d ← resolve a.eval ⟨.builtin .max, args, argTypes⟩ type; invoke d.target d.args : Sem Next).run P w = _
      have hq : (Builtin.max_ argTypes type (args.map a.eval)).run P w = .ok u w := by
        unfold Builtin.max_
        rw [hmapA]
        simp only [q1]
        simpa using q2
      simp [resolve, invoke, builtin, hq]
    · -- append
      split at hi <;> try (simp [insA] at hi; done)
      rename_i x y t u hxy htu
      split at hi <;> try (simp [insA] at hi; done)
      rename_i e e' ht hu
      split at hi <;> try (simp [insA] at hi; done)
      rename_i ti hti
      split at hi <;> try (simp [insA] at hi; done)
      rename_i z hz
      split at hi <;> try (simp [insA] at hi; done)
      rename_i hc
      simp only [not_or, Decidable.not_not] at hc
      simp only [insA] at hi
      have harr : args = #[x, y] := by cases args; simp_all
      have harr' : argTypes = #[t, u] := by cases argTypes; simp_all
      subst harr; subst harr'
      obtain ⟨r, G', w', q1, q2, q3, q4, q5⟩ := appA_spec (P := P) (ty := type) hR ht hu hti hz hc.2.2 hc.1 (hF.ev x) (hF.ev y) hi
      refine wp_val (c := r) (w' := w') ?_ (hK r G' w' q2 q3 q4 q5)
      show (do let d ← resolve a.eval ⟨.builtin .append, #[x, y], #[t, u]⟩ type; invoke d.target d.args : Sem Next).run P w = _
      simp [resolve, invoke, builtin, q1]
    · simp [insA] at hi
end
end Go.X

/-! Regions: operations in the text's order, and in whatever order they may be made. -/
set_option linter.unusedSimpArgs false
set_option linter.unusedVariables false
set_option linter.unusedSectionVars false
namespace Go.X
open Go Go.RowKit

/-! ### What an operation looks at -/
def opdT : Opd → List Nat
  | .t i => [i]
  | .c _ => []

def oT : Option Opd → List Nat
  | some x => opdT x
  | none => []

def readsI : Ins → List Nat
  | .mov x | .box x | .chk x | .eqn _ x | .un _ x | .conv _ x | .mki _ x | .fieldA _ x | .field _ _ x | .ext x _ | .len x | .load _ x => opdT x
  | .pick c a b => opdT c ++ opdT a ++ opdT b
  | .alloc _ | .bad => []
  | .build _ ps | .bslice _ _ _ ps => ps.flatMap fun p => opdT p.2.2
  | .store _ p x | .apt p x | .bin _ p x | .eqb _ p x | .eqs _ _ p x | .indexA _ p x | .indexP _ _ p x | .index _ _ _ p x | .app _ _ p x | .mks _ _ _ p x => opdT p ++ opdT x
  | .mkf _ cs => cs.flatMap opdT
  | .slice _ x lo hi mx => opdT x ++ oT lo ++ oT hi ++ oT mx
  | .mnx _ xs => xs.flatMap opdT
  | .call _ _ xs => xs.flatMap opdT
  | .calld _ f xs | .callm _ _ f xs => opdT f ++ xs.flatMap opdT

def gT : Option (Nat × Bool) → List Nat
  | some (t, _) => [t]
  | none => []

def readsO (o : Op1) : List Nat := readsI o.ins ++ gT o.guard

/-- 0: no memory; 1: it reads, or makes new memory; 2: it may write. -/
def memK : Ins → Nat
  | .alloc _ | .box _ | .bslice .. | .mks .. | .load .. => 1
  | .call m _ _ | .calld m _ _ | .callm m _ _ _ => if m = 0 then 2 else 1
  | .store .. | .app .. | .bad => 2
  | _ => 0

theorem ev_congr {x : Opd} {fr fr' : List AV} (h : ∀ t ∈ opdT x, fr.getD t .undef = fr'.getD t .undef) : x.ev fr = x.ev fr' := by
  cases x with
  | t i => exact h i (by simp [opdT])
  | c v => rfl

theorem evs_congr {xs : List Opd} {fr fr' : List AV} (h : ∀ t ∈ xs.flatMap opdT, fr.getD t .undef = fr'.getD t .undef) : xs.map (·.ev fr) = xs.map (·.ev fr') :=
  List.map_congr_left fun x hx => ev_congr fun t ht => h t (List.mem_flatMap.2 ⟨x, hx, ht⟩)

theorem evp_congr {ps : List (Nat × Nat × Opd)} {fr fr' : List AV} (h : ∀ t ∈ ps.flatMap (fun p => opdT p.2.2), fr.getD t .undef = fr'.getD t .undef) :
    (ps.map fun p => (p.1, p.2.1, p.2.2.ev fr)) = (ps.map fun p => (p.1, p.2.1, p.2.2.ev fr')) :=
  List.map_congr_left fun p hp => by rw [ev_congr (fr := fr) (fr' := fr') fun t ht => h t (List.mem_flatMap.2 ⟨p, hp, ht⟩)]

theorem evo_congr {x : Option Opd} {fr fr' : List AV} (h : ∀ t ∈ oT x, fr.getD t .undef = fr'.getD t .undef) : x.map (·.ev fr) = x.map (·.ev fr') := by
  cases x with
  | none => rfl
  | some x => simp only [Option.map_some]; rw [ev_congr h]

theorem ins_congr {R : Nat → List AV → Heap → Option (AV × Heap)} {i : Ins} {fr fr' : List AV} {H : Heap} (h : ∀ t ∈ readsI i, fr.getD t .undef = fr'.getD t .undef) : insA R i fr H = insA R i fr' H := by
  cases i with
  | mov x => simp only [insA, readsI] at *; rw [ev_congr h]
  | box x => simp only [insA, readsI] at *; rw [ev_congr h]
  | chk x => simp only [insA, readsI] at *; rw [ev_congr h]
  | eqn n x => simp only [insA, readsI] at *; rw [ev_congr h]
  | un op x => simp only [insA, readsI] at *; rw [ev_congr h]
  | conv k x => simp only [insA, readsI] at *; rw [ev_congr h]
  | mki t x => simp only [insA, readsI] at *; rw [ev_congr h]
  | fieldA o x => simp only [insA, readsI] at *; rw [ev_congr h]
  | field s o x => simp only [insA, readsI] at *; rw [ev_congr h]
  | ext x j => simp only [insA, readsI] at *; rw [ev_congr h]
  | len x => simp only [insA, readsI] at *; rw [ev_congr h]
  | load s x => simp only [insA, readsI] at *; rw [ev_congr h]
  | alloc z => rfl
  | bad => rfl
  | pick c a b =>
    simp only [insA, readsI, List.mem_append] at *
    rw [ev_congr (x := c) (fr := fr) (fr' := fr') fun t ht => h t (.inl (.inl ht)), ev_congr (x := a) (fr := fr) (fr' := fr') fun t ht => h t (.inl (.inr ht)), ev_congr (x := b) (fr := fr) (fr' := fr') fun t ht => h t (.inr ht)]
  | build z ps => simp only [insA, readsI] at *; rw [evp_congr h]
  | bslice e l z ps => simp only [insA, readsI] at *; rw [evp_congr h]
  | store s p x =>
    simp only [insA, readsI, List.mem_append] at *
    rw [ev_congr (x := p) (fr := fr) (fr' := fr') fun t ht => h t (.inl ht), ev_congr (x := x) (fr := fr) (fr' := fr') fun t ht => h t (.inr ht)]
  | apt p x =>
    simp only [insA, readsI, List.mem_append] at *
    rw [ev_congr (x := p) (fr := fr) (fr' := fr') fun t ht => h t (.inl ht), ev_congr (x := x) (fr := fr) (fr' := fr') fun t ht => h t (.inr ht)]
  | bin s p x =>
    simp only [insA, readsI, List.mem_append] at *
    rw [ev_congr (x := p) (fr := fr) (fr' := fr') fun t ht => h t (.inl ht), ev_congr (x := x) (fr := fr) (fr' := fr') fun t ht => h t (.inr ht)]
  | eqb s p x =>
    simp only [insA, readsI, List.mem_append] at *
    rw [ev_congr (x := p) (fr := fr) (fr' := fr') fun t ht => h t (.inl ht), ev_congr (x := x) (fr := fr) (fr' := fr') fun t ht => h t (.inr ht)]
  | eqs s n p x =>
    simp only [insA, readsI, List.mem_append] at *
    rw [ev_congr (x := p) (fr := fr) (fr' := fr') fun t ht => h t (.inl ht), ev_congr (x := x) (fr := fr) (fr' := fr') fun t ht => h t (.inr ht)]
  | indexA s p x =>
    simp only [insA, readsI, List.mem_append] at *
    rw [ev_congr (x := p) (fr := fr) (fr' := fr') fun t ht => h t (.inl ht), ev_congr (x := x) (fr := fr) (fr' := fr') fun t ht => h t (.inr ht)]
  | indexP s n p x =>
    simp only [insA, readsI, List.mem_append] at *
    rw [ev_congr (x := p) (fr := fr) (fr' := fr') fun t ht => h t (.inl ht), ev_congr (x := x) (fr := fr) (fr' := fr') fun t ht => h t (.inr ht)]
  | index s e n p x =>
    simp only [insA, readsI, List.mem_append] at *
    rw [ev_congr (x := p) (fr := fr) (fr' := fr') fun t ht => h t (.inl ht), ev_congr (x := x) (fr := fr) (fr' := fr') fun t ht => h t (.inr ht)]
  | app e b p x =>
    simp only [insA, readsI, List.mem_append] at *
    rw [ev_congr (x := p) (fr := fr) (fr' := fr') fun t ht => h t (.inl ht), ev_congr (x := x) (fr := fr) (fr' := fr') fun t ht => h t (.inr ht)]
  | mks e b z p x =>
    simp only [insA, readsI, List.mem_append] at *
    rw [ev_congr (x := p) (fr := fr) (fr' := fr') fun t ht => h t (.inl ht), ev_congr (x := x) (fr := fr) (fr' := fr') fun t ht => h t (.inr ht)]
  | mkf f cs => simp only [insA, readsI] at *; rw [evs_congr h]
  | mnx m xs => simp only [insA, readsI] at *; rw [evs_congr h]
  | call m f xs => simp only [insA, readsI] at *; rw [evs_congr h]
  | slice e x lo hi mx =>
    simp only [insA, readsI, List.mem_append] at *
    rw [ev_congr (x := x) (fr := fr) (fr' := fr') fun t ht => h t (.inl (.inl (.inl ht))), evo_congr (x := lo) (fr := fr) (fr' := fr') fun t ht => h t (.inl (.inl (.inr ht))), evo_congr (x := hi) (fr := fr) (fr' := fr') fun t ht => h t (.inl (.inr ht)), evo_congr (x := mx) (fr := fr) (fr' := fr') fun t ht => h t (.inr ht)]
  | calld m f xs =>
    simp only [insA, readsI, List.mem_append] at *
    rw [ev_congr (x := f) (fr := fr) (fr' := fr') fun t ht => h t (.inl ht), evs_congr (fr := fr) (fr' := fr') fun t ht => h t (.inr ht)]
  | callm m tab f xs =>
    simp only [insA, readsI, List.mem_append] at *
    rw [ev_congr (x := f) (fr := fr) (fr' := fr') fun t ht => h t (.inl ht), evs_congr (fr := fr) (fr' := fr') fun t ht => h t (.inr ht)]

theorem map_pair' {o : Option AV} {v : AV} {H H' : Heap} (h : (o.map fun v => (v, H)) = some (v, H')) : H' = H ∧ ∀ H2 : Heap, (o.map fun v => (v, H2)) = some (v, H2) := by
  obtain ⟨h1, h2⟩ := map_pair h
  exact ⟨h2, fun H2 => by rw [h1]; rfl⟩

theorem ins_silent {R : Nat → List AV → Heap → Option (AV × Heap)} {i : Ins} {fr : List AV} {H H' : Heap} {v : AV} (hm : memK i = 0) (h : insA R i fr H = some (v, H')) : H' = H ∧ ∀ H2 : Heap, insA R i fr H2 = some (v, H2) := by
  cases i with
  | pick c a b =>
    simp only [insA] at h ⊢
    split at h
    · rename_i t ht; cases h; simp only [ht]; exact ⟨trivial, fun _ => trivial⟩
    · cases h
  | conv k x =>
    simp only [insA] at h ⊢
    split at h
    · rename_i k' n hk; cases h; simp only [hk]; exact ⟨trivial, fun _ => trivial⟩
    · cases h
  | ext x j =>
    simp only [insA] at h ⊢
    split at h
    · rename_i vs hv; first | exact map_pair' h | (simp only [hv]; exact map_pair' h)
    · cases h
  | index s e n x j =>
    simp only [insA] at h ⊢
    split at h
    · rename_i k hk
      split at h
      · rename_i hlt; simp only [hk, if_pos hlt]; exact map_pair' h
      · cases h
    · cases h
  | call m f xs => simp only [memK] at hm; split at hm <;> cases hm
  | calld m f xs => simp only [memK] at hm; split at hm <;> cases hm
  | callm m tab f xs => simp only [memK] at hm; split at hm <;> cases hm
  | mov x => cases h; exact ⟨rfl, fun _ => rfl⟩
  | mki t x => cases h; exact ⟨rfl, fun _ => rfl⟩
  | mkf f cs => cases h; exact ⟨rfl, fun _ => rfl⟩
  | alloc z => cases hm
  | box x => cases hm
  | bslice e l z ps => cases hm
  | mks e b z l c => cases hm
  | load s p => cases hm
  | store s p x => cases hm
  | app e b x y => cases hm
  | bad => cases hm
  | _ => exact map_pair' h

theorem callA_grows {R : Nat → List AV → Heap → Option (AV × Heap)} {m f : Nat} {args : List AV} {H H' : Heap} {v : AV} (hm : m ≠ 0) (h : callA R m f args H = some (v, H')) : ∃ l, H' = H ++ l := by
  unfold callA at h
  split at h
  · exact absurd rfl hm
  · split at h
    · split at h
      · cases hf : freeA ‹_› depth ‹_› with
        | none => simp [hf] at h
        | some x => simp [hf] at h; exact ⟨[], by simp [h.2]⟩
      · cases h
    · cases h
  · split at h
    · cases hr : R f args H with
      | none => simp [hr] at h
      | some r => simp [hr] at h; exact ⟨[], by simp [h.2]⟩
    · cases h
  · split at h
    · split at h
      · split at h
        · cases h; exact ⟨_, rfl⟩
        · cases h
      · cases h
    · cases h

theorem ins_grows {R : Nat → List AV → Heap → Option (AV × Heap)} {i : Ins} {fr : List AV} {H H' : Heap} {v : AV} (hm : memK i ≤ 1) (h : insA R i fr H = some (v, H')) : ∃ l, H' = H ++ l := by
  by_cases h0 : memK i = 0
  · exact ⟨[], by simp [(ins_silent h0 h).1]⟩
  · cases i <;> simp only [memK] at hm h0 <;> first
      | exact absurd rfl h0
      | exact absurd trivial h0
      | exact absurd hm (by decide)
      | skip
    case alloc z => simp only [insA] at h; cases h; exact ⟨_, rfl⟩
    case box x =>
      simp only [insA] at h
      split at h
      · cases h
      · cases h; exact ⟨_, rfl⟩
    case bslice e l z ps =>
      simp only [insA] at h
      split at h
      · cases h; exact ⟨_, rfl⟩
      · cases h
    case mks e b z l c =>
      simp only [insA] at h
      split at h
      · split at h
        · cases h; exact ⟨_, rfl⟩
        · cases h
      · cases h
    case load s p => simp only [insA] at h; obtain ⟨_, rfl⟩ := map_pair h; exact ⟨[], by simp⟩
    case call m f xs =>
      simp only [insA] at h
      exact callA_grows (by intro e; simp [e] at hm) h
    case calld m f xs =>
      simp only [insA] at h
      split at h
      · exact callA_grows (by intro e; simp [e] at hm) h
      · cases h
    case callm m tab f xs =>
      simp only [insA] at h
      split at h
      · split at h
        · exact callA_grows (by intro e; simp [e] at hm) h
        · cases h
      · cases h

/-! ### Which objects a value leads to -/
inductive Sc (D : Nat → Prop) : AV → Prop where
  | undef : Sc D .undef
  | skp : Sc D .skp
  | bool (b : Bool) : Sc D (.bool b)
  | int (k : IntKind) (n : Int) : Sc D (.int k n)
  | nilp : Sc D .nilp
  | nils : Sc D .nils
  | nilf : Sc D .nilf
  | nili : Sc D .nili
  | ptr (id ver off : Nat) (h : D id) : Sc D (.ptr id ver off)
  | sl (id ver esz off len : Nat) (cap : Option Nat) (h : D id) : Sc D (.sl id ver esz off len cap)
  | cptr (sn : Bool) (cells : List AV) : Sc D (.cptr sn cells)
  | imm (sn : Bool) (cells : List AV) (len : Nat) : Sc D (.imm sn cells len)
  | fn (f : Nat) (vs : List AV) (r : ∀ j, j < vs.length → Sc D (vs.getD j .undef)) : Sc D (.fn f vs)
  | iface (t : Nat) (v : AV) (r : Sc D v) : Sc D (.iface t v)
  | agg (vs : List AV) (r : ∀ j, j < vs.length → Sc D (vs.getD j .undef)) : Sc D (.agg vs)
  | tup (vs : List AV) (r : ∀ j, j < vs.length → Sc D (vs.getD j .undef)) : Sc D (.tup vs)

section
variable {P : Program} {W0 : World} [GlobOk W0] {G : Gh} {H : Heap} {w : World}

theorem VR.sc {l : Nat} {v : AV} {c : Value} (h : VR W0 G l v c) : Sc (fun id => ∃ x, G.ob id = some x) v := by
  induction h with
  | undef c => exact .undef
  | skp => exact .skp
  | bool b => exact .bool b
  | int k n => exact .int k n
  | nilp => exact .nilp
  | nils => exact .nils
  | nilf => exact .nilf
  | nili => exact .nili
  | ptr id ver off a h => obtain ⟨v0, b, S, h1, _⟩ := h; exact .ptr _ _ _ ⟨_, h1⟩
  | cptr sn cells a u hl h r ih => exact .cptr _ _
  | sl id ver esz off len cap a cc hc hcap h => obtain ⟨v0, b, S, h1, _⟩ := h; exact .sl _ _ _ _ _ _ ⟨_, h1⟩
  | imm sn cells len A cc u hl hc h h0 r ih => exact .imm _ _ _
  | fn f caps cs hn r ih => exact .fn _ _ ih
  | iface t v c r ih => exact .iface _ _ ih
  | agg vs cs hn r ih => exact .agg _ ih
  | tup vs cs hn r ih => exact .tup _ ih

theorem Sc.mono {D D' : Nat → Prop} {v : AV} (h : Sc D v) (k : ∀ id, D id → D' id) : Sc D' v := by
  induction h with
  | undef => exact .undef
  | skp => exact .skp
  | bool b => exact .bool b
  | int k n => exact .int k n
  | nilp => exact .nilp
  | nils => exact .nils
  | nilf => exact .nilf
  | nili => exact .nili
  | ptr id ver off h => exact .ptr _ _ _ (k _ h)
  | cptr sn cells => exact .cptr _ _
  | sl id ver esz off len cap h => exact .sl _ _ _ _ _ _ (k _ h)
  | imm sn cells len => exact .imm _ _ _
  | fn f caps r ih => exact .fn _ _ ih
  | iface t v r ih => exact .iface _ _ ih
  | agg vs r ih => exact .agg _ ih
  | tup vs r ih => exact .tup _ ih

open Classical in
noncomputable def Gh.on (G : Gh) (D : Nat → Prop) : Gh := { G with ob := fun id => if D id then G.ob id else none }

theorem VR.on {l : Nat} {v : AV} {c : Value} (h : VR W0 G l v c) : ∀ {D : Nat → Prop}, Sc D v → VR W0 (G.on D) l v c := by
  have hL : ∀ D : Nat → Prop, ∀ m, 1 ≤ m → Le m G (G.on D) := fun D m hm => ⟨fun e => by omega, fun _ _ _ h => h, fun _ _ h => h⟩
  induction h with
  | undef c => intro D _; exact .undef c
  | skp => intro D _; exact .skp
  | bool b => intro D _; exact .bool b
  | int k n => intro D _; exact .int k n
  | nilp => intro D _; exact .nilp
  | nils => intro D _; exact .nils
  | nilf => intro D _; exact .nilf
  | nili => intro D _; exact .nili
  | ptr id ver off a h =>
    intro D hs
    obtain ⟨v0, b, S, h1, h2⟩ := h
    cases hs with
    | ptr _ _ _ hd => exact .ptr _ _ _ _ ⟨v0, b, S, by simp [Gh.on, hd, h1], h2⟩
  | cptr sn cells a u hl h r ih =>
    intro D _
    exact .cptr sn cells a u hl (fun j hj => (h j hj).mono (Nat.le_refl _) (hL D _ (by cases sn <;> simp [lv]))) (fun j hj => (r j hj).mono (hL D _ (by cases sn <;> simp [lv])))
  | sl id ver esz off len cap a cc hc hcap h =>
    intro D hs
    obtain ⟨v0, b, S, h1, h2⟩ := h
    cases hs with
    | sl _ _ _ _ _ _ hd => exact .sl _ _ _ _ _ _ _ _ hc hcap ⟨v0, b, S, by simp [Gh.on, hd, h1], h2⟩
  | imm sn cells len A cc u hl hc h h0 r ih =>
    intro D _
    exact .imm sn cells len A cc u hl hc (fun a ha j hj => (h a ha j hj).mono (Nat.le_refl _) (hL D _ (by cases sn <;> simp [lv]))) h0 (fun j hj => (r j hj).mono (hL D _ (by cases sn <;> simp [lv])))
  | fn f caps cs hn r ih => intro D hs; cases hs with | fn _ _ hs => exact .fn _ _ _ hn (fun j hj => ih j hj (hs j hj))
  | iface t v c r ih => intro D hs; cases hs with | iface _ _ hs => exact .iface _ _ _ (ih hs)
  | agg vs cs hn r ih => intro D hs; cases hs with | agg _ hs => exact .agg _ _ hn (fun j hj => ih j hj (hs j hj))
  | tup vs cs hn r ih => intro D hs; cases hs with | tup _ hs => exact .tup _ _ hn (fun j hj => ih j hj (hs j hj))

/-! ### In the text's order -/
theorem wanted_sound {md : Nat → Nat} {ops : Array Oper} {o : Oper} {fr : List AV} {a : Act} (hF : FR W0 G fr a.tmps) {b : Bool} (h : wantedA (comp1 P md ops o).guard fr = some b) :
    ((comp1 P md ops o).ins = .bad ∧ (comp1 P md ops o).guard = none) ∨ Region.wanted o (yielded ops a.tmps) = b := by
  unfold Region.wanted
  unfold comp1 at h ⊢
  cases hg : o.guard with
  | none => simp [hg, wantedA] at h; exact .inr (by simpa using h)
  | some g =>
    obtain ⟨j, want⟩ := g
    simp only [hg] at h ⊢
    cases hd : (ops[j]?).bind (·.dst) with
    | none => exact .inl ⟨rfl, rfl⟩
    | some t =>
      right
      simp only [hd, wantedA] at h
      have hlt : ∀ v, fr.getD t .undef = v → v ≠ .undef → t < fr.length := fun v hv hn => by
        rcases Nat.lt_or_ge t fr.length with h' | h'
        · exact h'
        · rw [List.getD_eq_getElem?_getD, List.getElem?_eq_none h'] at hv; exact absurd hv.symm hn
      split at h
      · rename_i c hc
        cases h
        have hl := hlt _ hc (by simp)
        have hv := hF.2 t hl
        rw [hc] at hv
        have hsz : t < a.tmps.size := Nat.lt_of_lt_of_le hl hF.1
        simp only [yielded, hd, Option.bind_some, Array.getElem?_eq_getElem hsz]
        simp only [Array.getD_eq_getD_getElem?, Array.getElem?_eq_getElem hsz, Option.getD_some] at hv
        generalize a.tmps[t] = x at hv ⊢
        cases hv
        cases c <;> cases want <;> rfl
      · rename_i hc
        cases h
        have hl := hlt _ hc (by simp)
        have hv := hF.2 t hl
        rw [hc] at hv
        have hsz : t < a.tmps.size := Nat.lt_of_lt_of_le hl hF.1
        simp only [yielded, hd, Option.bind_some, Array.getElem?_eq_getElem hsz]
        simp only [Array.getD_eq_getD_getElem?, Array.getElem?_eq_getElem hsz, Option.getD_some] at hv
        generalize a.tmps[t] = x at hv ⊢
        cases hv
        rfl
      · cases h

theorem comp1_dst (md : Nat → Nat) (ops : Array Oper) (o : Oper) : (comp1 P md ops o).dst = o.dst := by
  unfold comp1; split
  · rfl
  · split <;> rfl

theorem comp1_ins (md : Nat → Nat) (ops : Array Oper) (o : Oper) : (comp1 P md ops o).ins = compOp P md o ∨ ((comp1 P md ops o).ins = .bad ∧ (comp1 P md ops o).guard = none) := by
  unfold comp1; split
  · exact .inl rfl
  · split
    · exact .inl rfl
    · exact .inr ⟨rfl, rfl⟩

/-- One operation, wanted or not. -/
theorem step_sound {R : Nat → List AV → Heap → Option (AV × Heap)} (RS : CallSound P W0 R) {md : Nat → Nat} {ops : Array Oper} {i : Nat} {o : Oper} (ho : ops[i]? = some o) {a : Act} {fr fr' : List AV} {H' : Heap} {K : Act → World → Prop} {Q : Exit → Act → World → Prop}
    (hF : FR W0 G fr a.tmps) (hR : Rel W0 G H w) (hs : stepA R (comp1 P md ops o) fr H = some (fr', H'))
    (hK : ∀ v c G' w', fr' = putA fr o.dst v → VR W0 G' 0 v c → Rel W0 G' H' w' → Ext G H w G' w' → Gr G' H H' → K (a.put o.dst c) w') : wpOp P ops Q i K a w := by
  unfold wpOp
  simp only [ho]
  unfold stepA at hs
  rw [comp1_dst] at hs
  split at hs
  · rename_i hw
    split at hs
    · rename_i v H1 hi
      cases hs
      rcases comp1_ins (P := P) md ops o with hc | ⟨hc, _⟩
      · rw [hc] at hi
        rcases wanted_sound hF hw with hb | hb
        · rw [hb.1] at hc; rw [← hc] at hi; simp [insA] at hi
        · rw [if_pos hb]
          exact .inl (ins_sound RS hF hR hi fun c G' w' q1 q2 q3 q4 => hK v c G' w' rfl q1 q2 q3 q4)
      · rw [hc] at hi; simp [insA] at hi
    · cases hs
  · rename_i hw
    cases hs
    rcases wanted_sound hF hw with hb | hb
    · rw [hb.2] at hw; simp [wantedA] at hw
    · rw [hb]
      exact hK .skp _ G w rfl .skp hR (Ext.refl _ _ _) (Gr.same rfl)
  · cases hs
end
end Go.X

/-! A region whose order is open. -/
set_option linter.unusedSimpArgs false
set_option linter.unusedVariables false
set_option linter.unusedSectionVars false
namespace Go.X
open Go Go.RowKit

/-! ### What lies before what -/
def maskA (acc : List Nat) (o : Oper) : Nat := o.after.toList.foldl (fun s e => if Region.binds .any e then s ||| 2 ^ e.on ||| acc.getD e.on 0 else s) 0

def befA : List Nat → List Oper → List Nat
  | acc, [] => acc
  | acc, o :: rest => befA (acc ++ [maskA acc o]) rest

def dirA (ops : Array Oper) (j i : Nat) : Prop := ∃ o, ops[j]? = some o ∧ ∃ e ∈ o.after, Region.binds .any e = true ∧ e.on = i

inductive Tr (ops : Array Oper) : Nat → Nat → Prop where
  | one {j i : Nat} (h : dirA ops j i) : Tr ops j i
  | cons {j k i : Nat} (h : dirA ops j k) (t : Tr ops k i) : Tr ops j i

theorem maskA_spec {ops : Array Oper} {acc : List Nat} {o : Oper} {j : Nat} (ho : ops[j]? = some o) (hacc : ∀ k i, (acc.getD k 0).testBit i = true → Tr ops k i) {i : Nat} (h : (maskA acc o).testBit i = true) : Tr ops j i := by
  unfold maskA at h
  have key : ∀ (l : List Edge) (s : Nat), (∀ e ∈ l, e ∈ o.after) → (s.testBit i = true → Tr ops j i) → ((l.foldl (fun s e => if Region.binds .any e then s ||| 2 ^ e.on ||| acc.getD e.on 0 else s) s).testBit i = true → Tr ops j i) := by
    intro l
    induction l with
    | nil => intro s _ hs h; exact hs h
    | cons e l ih =>
      intro s hl hs h
      simp only [List.foldl_cons] at h
      refine ih _ (fun e' he' => hl e' (List.mem_cons_of_mem _ he')) ?_ h
      intro hb
      split at hb
      · rename_i hbind
        have hd : dirA ops j e.on := ⟨o, ho, e, hl e (by simp), hbind, rfl⟩
        rw [Nat.testBit_or, Nat.testBit_or, Bool.or_eq_true, Bool.or_eq_true] at hb
        rcases hb with (hb | hb) | hb
        · exact hs hb
        · have : e.on = i := by
            by_cases he : e.on = i
            · exact he
            · rw [Nat.testBit_two_pow_of_ne he] at hb; cases hb
          exact this ▸ .one hd
        · exact .cons hd (hacc _ _ hb)
      · exact hs hb
  exact key o.after.toList 0 (fun e he => by simpa using he) (by simp) h

theorem befA_spec {ops : Array Oper} : ∀ (l : List Oper) (acc : List Nat), (∀ k, ops[acc.length + k]? = l[k]?) → (∀ k i, (acc.getD k 0).testBit i = true → Tr ops k i) → ∀ k i, ((befA acc l).getD k 0).testBit i = true → Tr ops k i
  | [], acc, _, h => h
  | o :: rest, acc, hl, h => by
    refine befA_spec rest (acc ++ [maskA acc o]) (fun k => ?_) (fun k i hk => ?_)
    · have := hl (k + 1)
      simp only [List.length_append, List.length_cons, List.length_nil] at *
      rw [show acc.length + (0 + 1) + k = acc.length + (k + 1) by omega, this]; simp
    · have h0 := hl 0
      simp only [Nat.add_zero, List.getElem?_cons_zero] at h0
      simp only [List.getD_eq_getElem?_getD, List.getElem?_append] at hk
      split at hk
      · exact h k i (by simpa [List.getD_eq_getElem?_getD] using hk)
      · rename_i hge
        by_cases hke : k = acc.length
        · subst hke
          simp at hk
          exact maskA_spec h0 h hk
        · rw [List.getElem?_eq_none (by simp; omega)] at hk
          simp at hk

def nedst (x y : Op1) : Bool := match x.dst, y.dst with
  | some a, some b => a != b
  | _, _ => true

def apartA (x y : Op1) : Bool :=
  (match x.dst with | some d => !(readsO y).contains d | none => true) && (match y.dst with | some d => !(readsO x).contains d | none => true) && decide (memK x.ins * memK y.ins < 2)

def op0 : Op1 := ⟨none, none, .bad⟩

/-- Neither looks at what the other one sets. -/
def apartR (x y : Op1) : Bool :=
  (match x.dst with | some d => !(readsO y).contains d | none => true) && (match y.dst with | some d => !(readsO x).contains d | none => true)

/-- An operation that makes a slice, and a store into an object that is made in the same region. -/
def apartB (is : List Op1) (i j : Nat) : Bool :=
  apartR (is.getD i op0) (is.getD j op0) && (match (is.getD i op0).ins with | .mks .. => true | _ => false) &&
    (match (is.getD j op0).ins with
      | .store _ (.t d) _ => (List.range j).any fun m => (is.getD m op0).dst == some d && (match (is.getD m op0).ins with | .alloc _ => true | _ => false)
      | _ => false)

/-- An operation that reads an object, and a store into another one. -/
def apartC (is : List Op1) (i j : Nat) : Bool :=
  apartR (is.getD i op0) (is.getD j op0) &&
    (match (is.getD i op0).ins, (is.getD j op0).ins with
      | .load _ (.t p), .store _ (.t q) _ => ((is.drop i).all fun o => o.dst != some p) && ((is.drop j).all fun o => o.dst != some q)
      | _, _ => false)

/-- What must be looked at: that the two are apart. -/
def chkP (is : List Op1) (i j : Nat) : Op1 := match (is.getD i op0).ins, (is.getD j op0).ins with
  | .load _ p, .store _ q _ => ⟨none, none, .apt p q⟩
  | _, _ => op0

def chks (ops : Array Oper) (is : List Op1) : List Op1 :=
  let b := befA [] ops.toList
  (List.range is.length).flatMap fun j => ((List.range j).filter fun i => !((b.getD j 0).testBit i || apartA (is.getD i op0) (is.getD j op0) || apartB is i j)).map fun i => chkP is i j

def okDraw (ops : Array Oper) (is : List Op1) : Bool :=
  let b := befA [] ops.toList
  (List.range is.length).all fun j =>
    (match ops[j]? with | some o => o.after.all fun e => !Region.binds .any e || decide (e.on < j) | none => false) &&
    ((List.range j).all fun i => nedst (is.getD i op0) (is.getD j op0) && ((b.getD j 0).testBit i || apartA (is.getD i op0) (is.getD j op0) || apartB is i j || apartC is i j))

/-! ### The text's own run -/
theorem trace {R : Nat → List AV → Heap → Option (AV × Heap)} : ∀ (is : List Op1) (fr0 : List AV) (H0 : Heap) (frN : List AV) (HN : Heap), opsA R is fr0 H0 = some (frN, HN) →
    ∃ (F : Nat → List AV) (Hp : Nat → Heap) (V : Nat → AV), F 0 = fr0 ∧ Hp 0 = H0 ∧ F is.length = frN ∧ Hp is.length = HN ∧
      ∀ (k : Nat) (o : Op1), is[k]? = some o → stepA R o (F k) (Hp k) = some (F (k + 1), Hp (k + 1)) ∧ F (k + 1) = putA (F k) o.dst (V k) ∧
        ((wantedA o.guard (F k) = some true ∧ insA R o.ins (F k) (Hp k) = some (V k, Hp (k + 1))) ∨ (wantedA o.guard (F k) = some false ∧ V k = .skp ∧ Hp (k + 1) = Hp k))
  | [], fr0, H0, frN, HN, h => by
    simp only [opsA, Option.some.injEq, Prod.mk.injEq] at h
    exact ⟨fun _ => fr0, fun _ => H0, fun _ => .undef, rfl, rfl, h.1, h.2, fun k o hk => by simp at hk⟩
  | o :: rest, fr0, H0, frN, HN, h => by
    simp only [opsA] at h
    cases hs : stepA R o fr0 H0 with
    | none => simp [hs] at h
    | some r =>
      obtain ⟨fr1, H1⟩ := r
      simp only [hs] at h
      obtain ⟨F, Hp, V, h1, h2, h3, h4, h5⟩ := trace rest fr1 H1 frN HN h
      have hv : ∃ v, fr1 = putA fr0 o.dst v ∧ ((wantedA o.guard fr0 = some true ∧ insA R o.ins fr0 H0 = some (v, H1)) ∨ (wantedA o.guard fr0 = some false ∧ v = .skp ∧ H1 = H0)) := by
        unfold stepA at hs
        split at hs
        · rename_i hw
          split at hs
          · rename_i v H2 hi; cases hs; exact ⟨v, rfl, .inl ⟨hw, hi⟩⟩
          · cases hs
        · rename_i hw; cases hs; exact ⟨.skp, rfl, .inr ⟨hw, rfl, rfl⟩⟩
        · cases hs
      obtain ⟨v, hv1, hv2⟩ := hv
      refine ⟨fun k => match k with | 0 => fr0 | k + 1 => F k, fun k => match k with | 0 => H0 | k + 1 => Hp k, fun k => match k with | 0 => v | k + 1 => V k, rfl, rfl, h3, h4, fun k o' hk => ?_⟩
      cases k with
      | zero =>
        simp only [List.getElem?_cons_zero, Option.some.injEq] at hk
        subst hk
        refine ⟨by simp only [h1, h2]; exact hs, by simp only [h1]; exact hv1, ?_⟩
        simp only [h2]; exact hv2
      | succ k => exact h5 k o' (by simpa using hk)

/-- Only what is looked at. -/
def maskF (fr : List AV) (rs : List Nat) : List AV := (List.range fr.length).map fun t => if rs.contains t then fr.getD t .undef else .undef

theorem maskF_get {fr : List AV} {rs : List Nat} {t : Nat} (h : t ∈ rs) : (maskF fr rs).getD t .undef = fr.getD t .undef := by
  unfold maskF
  rcases Nat.lt_or_ge t fr.length with hl | hl
  · simp only [List.getD_eq_getElem?_getD, List.getElem?_map, List.getElem?_range hl, Option.map_some, Option.getD_some]
    rw [if_pos (by simpa using h)]
  · rw [List.getD_eq_getElem?_getD, List.getElem?_eq_none (by simpa using hl), List.getD_eq_getElem?_getD, List.getElem?_eq_none hl]

theorem maskF_not {fr : List AV} {rs : List Nat} {t : Nat} (h : t ∉ rs) : (maskF fr rs).getD t .undef = .undef := by
  unfold maskF
  rcases Nat.lt_or_ge t fr.length with hl | hl
  · simp only [List.getD_eq_getElem?_getD, List.getElem?_map, List.getElem?_range hl, Option.map_some, Option.getD_some]
    rw [if_neg (by simpa using h)]
  · rw [List.getD_eq_getElem?_getD, List.getElem?_eq_none (by simpa using hl)]; rfl

theorem wantedA_congr {g : Option (Nat × Bool)} {fr fr' : List AV} (h : ∀ t ∈ gT g, fr.getD t .undef = fr'.getD t .undef) : wantedA g fr = wantedA g fr' := by
  cases g with
  | none => rfl
  | some p => obtain ⟨t, b⟩ := p; simp only [wantedA]; rw [h t (by simp [gT])]

theorem step_mask {R : Nat → List AV → Heap → Option (AV × Heap)} {o : Op1} {fr : List AV} {H H' : Heap} {v : AV}
    (h : (wantedA o.guard fr = some true ∧ insA R o.ins fr H = some (v, H')) ∨ (wantedA o.guard fr = some false ∧ v = .skp ∧ H' = H)) :
    stepA R o (maskF fr (readsO o)) H = some (putA (maskF fr (readsO o)) o.dst v, H') := by
  have hw : wantedA o.guard (maskF fr (readsO o)) = wantedA o.guard fr := wantedA_congr fun t ht => maskF_get (by simp [readsO, ht])
  have hi : insA R o.ins (maskF fr (readsO o)) H = insA R o.ins fr H := ins_congr fun t ht => maskF_get (by simp [readsO, ht])
  unfold stepA
  rw [hw, hi]
  rcases h with ⟨h1, h2⟩ | ⟨h1, rfl, rfl⟩
  · rw [h1]; simp only [h2]
  · rw [h1]

theorem putA_length (fr : List AV) (d : Option Nat) (v : AV) : (putA fr d v).length = fr.length := by
  cases d <;> simp [putA]

theorem putA_get (fr : List AV) (d : Option Nat) (v : AV) (t : Nat) : (putA fr d v).getD t .undef = if d = some t ∧ t < fr.length then v else fr.getD t .undef := by
  cases d with
  | none => simp [putA]
  | some d =>
    simp only [putA, List.getD_eq_getElem?_getD, List.getElem?_set, Option.some.injEq]
    by_cases e : d = t
    · subst e
      by_cases hl : d < fr.length
      · simp [hl]
      · simp [hl]
    · simp [e]

theorem putA_inj {fr : List AV} {d : Nat} {v u : AV} (h : putA fr (some d) v = putA fr (some d) u) (hd : d < fr.length) : v = u := by
  have h1 := putA_get fr (some d) v d
  have h2 := putA_get fr (some d) u d
  rw [h] at h1
  rw [h1] at h2
  simpa [hd] using h2

theorem count_set : ∀ (l : List Bool) (j : Nat), l[j]? = some false → (l.set j true).count false + 1 = l.count false
  | [], j, h => by simp at h
  | b :: l, 0, h => by simp at h; subst h; simp
  | b :: l, j + 1, h => by
    have := count_set l j (by simpa using h)
    simp only [List.set_cons_succ, List.count_cons]
    omega

theorem wp_exists {P : Program} {o : Oper} {a : Act} {w : World} {K : Act → World → Prop} (h : o.wp P a w K (fun _ _ _ => False)) : ∃ a' w', K a' w' := by
  unfold Oper.wp at h
  generalize (execOp a.eval o).run P w = r at h
  cases r with
  | ok n w' =>
    cases n <;> simp only [Oper.upon] at h <;> first
      | exact ⟨_, _, h⟩
      | (obtain ⟨e, w2, fr, hr, _⟩ := h []; cases e <;> first | exact ⟨_, _, hr⟩ | exact hr.elim | (obtain ⟨_, _, hf⟩ := hr; exact hf.elim))
      | (obtain ⟨v, w2, hr, _⟩ := h default []; exact ⟨_, _, hr⟩)
  | halt x w' => cases x <;> simp only [Oper.upon] at h

theorem wpOp_exists {P : Program} {ops : Array Oper} {i : Nat} {a : Act} {w : World} {K : Act → World → Prop} (h : wpOp P ops (fun _ _ _ => False) i K a w) : ∃ a' w', K a' w' := by
  unfold wpOp at h
  split at h
  · exact ⟨_, _, h⟩
  · split at h
    · rcases h with h | ⟨_, _, _, hf⟩
      · exact wp_exists h
      · exact hf.elim
    · exact ⟨_, _, h⟩

section
variable {P : Program} {W0 : World} [GlobOk W0] {G : Gh} {H : Heap} {w : World}

theorem Gr.trans {G' : Gh} {H' H'' : Heap} (h : Gr G H H') (hle : Le 0 G G') (k : Gr G' H' H'') : Gr G' H H'' := by
  refine ⟨Nat.le_trans h.len k.len, fun id h1 h2 => ?_⟩
  rcases Nat.lt_or_ge id H'.length with hl | hl
  · obtain ⟨⟨v, b, S⟩, hx⟩ := h.tot id h1 hl
    obtain ⟨v', b', S', hx', _⟩ := hle.ob rfl _ _ _ _ hx
    exact ⟨_, hx'⟩
  · exact k.tot id hl h2

/-- The text's run has worlds of its own. -/
theorem trace_worlds {R : Nat → List AV → Heap → Option (AV × Heap)} (RS : CallSound P W0 R) {md : Nat → Nat} {ops : Array Oper} {fr0 : List AV} {H0 : Heap} {F : Nat → List AV} {Hp : Nat → Heap} (hF0 : F 0 = fr0) (hH0 : Hp 0 = H0)
    (hst : ∀ (k : Nat) (o : Op1), (compOps P md ops)[k]? = some o → stepA R o (F k) (Hp k) = some (F (k + 1), Hp (k + 1))) {a0 : Act} {w0 : World} {G0 : Gh} (hF : FR W0 G0 fr0 a0.tmps) (hR : Rel W0 G0 H0 w0) :
    ∀ k, k ≤ ops.size → ∃ G w a, FR W0 G (F k) (Act.tmps a) ∧ Rel W0 G (Hp k) w ∧ Ext G0 H0 w0 G w ∧ Gr G H0 (Hp k)
  | 0, _ => ⟨G0, w0, a0, by rw [hF0]; exact hF, by rw [hH0]; exact hR, Ext.refl _ _ _, Gr.same (by rw [hH0])⟩
  | k + 1, hk => by
    obtain ⟨G, w, a, h1, h2, h3, h4⟩ := trace_worlds RS hF0 hH0 hst hF hR k (by omega)
    have ho : ops[k]? = some ops[k] := by simp
    have ho' : (compOps P md ops)[k]? = some (comp1 P md ops ops[k]) := by simp [compOps, ho]
    have hs := hst k _ ho'
    have := step_sound (Q := fun _ _ _ => False) RS ho (K := fun a' w' => ∃ G', FR W0 G' (F (k + 1)) a'.tmps ∧ Rel W0 G' (Hp (k + 1)) w' ∧ Ext G (Hp k) w G' w' ∧ Gr G' (Hp k) (Hp (k + 1))) h1 h2 hs
      (fun v c G' w' q1 q2 q3 q4 q5 => ⟨G', by rw [q1]; exact (h1.mono q4.le).put _ q2, q3, q4, q5⟩)
    obtain ⟨a', w', G', q1, q2, q3, q4⟩ := wpOp_exists this
    exact ⟨G', w', a', q1, q2, h3.trans h4.len q3, h4.trans q3.le q4⟩
end
end Go.X
