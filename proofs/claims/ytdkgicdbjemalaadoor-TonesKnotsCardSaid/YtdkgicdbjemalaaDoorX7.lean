import Derived.Test.YtdkgicdbjemalaaDoorX6
/-! An operation that the small machine makes, the model makes alike. -/
set_option linter.unusedSimpArgs false
set_option linter.unusedVariables false
namespace Go.X
open Go Go.RowKit

section
variable {P : Program} {W0 : World} [GlobOk W0] {G : Gh} {H : Heap} {w : World}

theorem run_v {s : Sem Value} {c : Value} {w' : World} (h : s.run P w = .ok c w') : (do pure (Next.value (← s)) : Sem Next).run P w = .ok (.value c) w' := by simp [h]
theorem run_u {s : Sem Unit} {w' : World} (h : s.run P w = .ok () w') : (do s; pure Next.skip : Sem Next).run P w = .ok .skip w' := by simp [h]

theorem wp_val {o : Oper} {a : Act} {K : Act → World → Prop} {Q : Exit → Act → World → Prop} {c : Value} {w' : World} (h : (execOp a.eval o).run P w = .ok (.value c) w') (hk : K (a.put o.dst c) w') : o.wp P a w K Q := by
  unfold Oper.wp; rw [h]; exact hk

theorem wp_skp {o : Oper} {a : Act} {K : Act → World → Prop} {Q : Exit → Act → World → Prop} {w' : World} (h : (execOp a.eval o).run P w = .ok .skip w') (hk : K (a.put o.dst Go.undef) w') : o.wp P a w K Q := by
  unfold Oper.wp; rw [h]; exact hk

theorem map_pair {o : Option AV} {v : AV} {H' : Heap} (h : (o.map fun v => (v, H)) = some (v, H')) : o = some v ∧ H' = H := by
  cases o with
  | none => simp at h
  | some x => simp at h; exact ⟨by rw [h.1], h.2.symm⟩

theorem orBad_some {x : Option Ins} {fr : List AV} {R : Nat → List AV → Heap → Option (AV × Heap)} {r : AV × Heap} (h : insA R (orBad x) fr H = some r) : ∃ i, x = some i ∧ insA R i fr H = some r := by
  cases x with
  | none => simp [orBad, insA] at h
  | some i => exact ⟨i, rfl, h⟩

theorem run_callFunc {f : Nat} (h : CallOk P f) (args : Array Value) (w : World) : (callFunc f args).run P w = .ok (.enter f args) w := by
  obtain ⟨fn, h1, h2, h3⟩ := h
  unfold callFunc
  simp only [Sem.run_bind, run_program, Result.andThen_ok, h1, h2, h3, Bool.false_eq_true, if_false]
  rfl

/-- A call that is entered. -/
theorem enter_sound {R : Nat → List AV → Heap → Option (AV × Heap)} (RS : CallSound P W0 R) {o : Oper} {a : Act} {K : Act → World → Prop} {Q : Exit → Act → World → Prop} {mode f : Nat} {args : List AV} {cargs : List Value} {v : AV} {H' : Heap}
    (hR : Rel W0 G H w) (hv : VL W0 G 0 args cargs) (hc : callA R mode f args H = some (v, H')) (he : CallOk P f → (execOp a.eval o).run P w = .ok (.enter f cargs.toArray) w)
    (hK : ∀ c G' w', VR W0 G' 0 v c → Rel W0 G' H' w' → Ext G H w G' w' → Gr G' H H' → K (a.put o.dst c) w') : o.wp P a w K Q := by
  obtain ⟨h1, h3⟩ := callA_spec RS hc
  unfold Oper.wp
  rw [he h1, Oper.upon_enter]
  refine (h3 G w cargs hR hv).mono ?_
  rintro e w' ⟨c, G', rfl, q1, q2, q3, q4⟩
  exact hK c G' w' q1 q2 q3 q4

theorem arr_cons0 (x : Value) (l : List Value) : #[x] ++ (⟨l⟩ : Array Value) = ⟨x :: l⟩ := by apply Array.ext'; simp
theorem arr_head (x : Value) (ys : Array Value) : (#[x] ++ ys)[0]? = some x := by
  obtain ⟨l⟩ := ys
  rw [arr_cons0]; rfl
theorem arr_tail (x : Value) (ys : Array Value) : (#[x] ++ ys).extract 1 (#[x] ++ ys).size = ys := by
  apply Array.ext'; simp
theorem arr_cons (x : Value) (ys : List Value) : #[x] ++ ys.toArray = (x :: ys).toArray := by simp

theorem lookup_mem {α β : Type} [BEq α] [LawfulBEq α] {l : List (α × β)} {x : α} {y : β} (h : l.lookup x = some y) : (x, y) ∈ l := by
  induction l with
  | nil => simp at h
  | cons p l ih =>
    obtain ⟨a, b⟩ := p
    rw [List.lookup_cons] at h
    split at h
    · rename_i e
      cases h
      have : x = a := by simpa using e
      subst this; simp
    · exact List.mem_cons_of_mem _ (ih h)

theorem method_spec {name : String} {t f : Nat} (h : (t, f) ∈ methodTab P name) (v : Value) (w : World) (n : Nat) : (method (n + 1) t v name).run P w = .ok (f, v) w := by
  unfold methodTab at h
  obtain ⟨t', _, h⟩ := List.mem_filterMap.1 h
  cases hi : P.info? t' with
  | none => simp [hi] at h
  | some i =>
    simp only [hi] at h
    cases hm : i.methods.find? (·.name == name) with
    | none => simp [hm] at h
    | some m =>
      simp only [hm] at h
      split at h
      · cases h
      · rename_i hpath hfunc hund
        cases h
        rename_i d hd _
        have hp : m.path.toList = [] := by simpa using hpath
        unfold method
        simp only [Sem.run_bind, typeInfo, run_program, Result.andThen_ok, hi, Sem.run_pure, hm, hp, follow, hfunc, receiverAt, run_underlying hund]
        cases d <;> first | rfl | (exact absurd rfl (by assumption)) | simp_all
      · cases h

theorem run_bslice {t e : TypeId} {len s : Nat} {parts : Array (Nat × Value)} {ti : TypeInfo} {zv : Value} {out : Array Value} (hu : P.underlying t = some (.slice e)) (hs : sizeA P e = some s) (q1 : P.info? e = some ti) (q2 : ti.zero = some zv) (hle : len * s ≤ 16777216)
    (f : Instr.fill (fun i => some (i * s, s)) (madeCells zv.cells (len * s)) parts.toList = some out) : (Instr.buildSlice t len parts).run P w = .ok (.slice (some ⟨w.heap.size, 0, none⟩) len len) (w.alloc (.cells out e)) := by
  have hn : ¬ (len * s > 2 ^ 24) := by rw [show (2 : Nat) ^ 24 = 16777216 from rfl]; omega
  have hz : (zeroValue e).run P w = .ok zv w := by simp [zeroValue, typeInfo, q1, q2]
  unfold Instr.buildSlice
  by_cases h0 : len * s = 0
  · have hmk : (Array.range (len * s)).map (fun x => (#[] : Array Value)[x % (#[] : Array Value).size]!) = madeCells zv.cells (len * s) := by
      rw [h0]; simp [madeCells]
    rw [← hmk] at f
    simp only [Sem.run_bind, run_underlying hu, Result.andThen_ok, run_sizeOf' hs, if_neg hn, if_pos h0, Sem.run_pure, f]
    rfl
  · simp only [Sem.run_bind, run_underlying hu, Result.andThen_ok, run_sizeOf' hs, if_neg hn, if_neg h0, Sem.run_pure, hz]
    unfold madeCells at f
    simp only [f]
    rfl

theorem ins_sound {R : Nat → List AV → Heap → Option (AV × Heap)} (RS : CallSound P W0 R) {md : Nat → Nat} {o : Oper} {a : Act} {fr : List AV} {v : AV} {H' : Heap} {K : Act → World → Prop} {Q : Exit → Act → World → Prop}
    (hF : FR W0 G fr a.tmps) (hR : Rel W0 G H w) (hi : insA R (compOp P md o) fr H = some (v, H'))
    (hK : ∀ c G' w', VR W0 G' 0 v c → Rel W0 G' H' w' → Ext G H w G' w' → Gr G' H H' → K (a.put o.dst c) w') : o.wp P a w K Q := by
  have hpure : ∀ u, (execOp a.eval o).run P w = .ok (.value u) w → VR W0 G 0 v u → H' = H → o.wp P a w K Q := fun u h1 h2 h3 => by
    subst h3; exact wp_val h1 (hK u G w h2 hR (Ext.refl G H' w) (Gr.same rfl))
  obtain ⟨dst, op, type, pos, after, guard⟩ := o
  cases op <;> simp only [compOp] at hi <;> try (simp [insA] at hi; done)
  case move x =>
    simp only [insA, Option.some.injEq, Prod.mk.injEq] at hi
    obtain ⟨rfl, rfl⟩ := hi
    exact hpure _ rfl (hF.ev x) rfl
  case assign x =>
    simp only [insA, Option.some.injEq, Prod.mk.injEq] at hi
    obtain ⟨rfl, rfl⟩ := hi
    exact hpure _ rfl (hF.ev x) rfl
  case pick c x y =>
    simp only [insA] at hi
    split at hi
    · rename_i b hb
      have hc := hF.ev c
      rw [hb] at hc
      generalize hcc : a.eval c = cc at hc
      cases hc
      cases hi
      refine hpure (if b then a.eval x else a.eval y) ?_ ?_ rfl
      · show (do pure (Next.value (if ← asBool (a.eval c) then a.eval x else a.eval y))).run P w = _
        rw [hcc]; cases b <;> rfl
      · cases b
        · exact hF.ev y
        · exact hF.ev x
    · cases hi
  case alloc t =>
    obtain ⟨i, h1, h2⟩ := orBad_some hi
    cases hz : zeroA P t with
    | none => simp [hz] at h1
    | some z =>
      simp [hz] at h1; subst h1
      simp only [insA, Option.some.injEq, Prod.mk.injEq] at h2
      obtain ⟨rfl, rfl⟩ := h2
      obtain ⟨ti, zv, q1, q2, q3⟩ := zeroA_spec (W0 := W0) (G := G) hz
      have hal := hR.alloc [] t (q3 0)
      simp only [List.append_nil, Array.toArray_toList, List.length_nil, Nat.add_zero] at hal
      refine wp_val (c := .pointer (some ⟨w.heap.size, 0, none⟩)) (w' := w.alloc (.cells zv.cells t)) (run_v ?_) (hK _ _ _ (.ptr _ _ _ _ ⟨0, _, _, by simp [Gh.add]; rfl, Nat.le_refl _, fun _ => rfl⟩) hal.1 hal.2 (Gr.alloc _ _ _ _ _))
      simp [Instr.alloc, zeroValue, typeInfo, q1, q2, newVar, newRow]
  case box t x =>
    simp only [insA] at hi
    split at hi
    · cases hi
    · rename_i hu
      cases hi
      have hal := hR.alloc [] t (cellsOf_spec (hF.ev x) (by simpa using hu))
      simp only [List.append_nil, Array.toArray_toList, List.length_nil, Nat.add_zero] at hal
      refine wp_val (c := .pointer (some ⟨w.heap.size, 0, none⟩)) (w' := w.alloc (.cells (a.eval x).cells t)) (run_v ?_) (hK _ _ _ (.ptr _ _ _ _ ⟨0, _, _, by simp [Gh.add]; rfl, Nat.le_refl _, fun _ => rfl⟩) hal.1 hal.2 (Gr.alloc _ _ _ _ _))
      simp [Instr.box, newVar, newRow]
  case build t ps =>
    obtain ⟨i, h1, h2⟩ := orBad_some hi
    split at h1 <;> try (cases h1; done)
    · rename_i z fs hz hu
      cases hp : placesA P fs.toList with
      | none => simp [hp] at h1
      | some places =>
        simp only [hp] at h1
        cases hq : partsA (fun i => places[i]?) ps.toList with
        | none => simp [hq] at h1
        | some ps' =>
          simp [hq] at h1; subst h1
          simp only [insA] at h2
          obtain ⟨h3, rfl⟩ := map_pair h2
          cases hfl : fillA z (ps'.map fun p => (p.1, p.2.1, p.2.2.ev fr)) with
          | none => simp [hfl] at h3
          | some out =>
            simp [hfl] at h3; subst h3
            obtain ⟨ti, zv, q1, q2, q3⟩ := zeroA_spec (W0 := W0) (G := G) hz
            obtain ⟨out', f1, f2⟩ := fill_spec hF (fun i => places[i]?) ps.toList ps' z out zv.cells hq hfl (q3 0)
            refine hpure (.agg out') (run_v (run_build w t _ out' ?_)) (by simpa using VR.aggA f2) rfl
            unfold Program.built
            have hp' : fs.toList.mapM (fun f => (P.info? f.type).map fun i => (f.offset, i.size)) = some places := hp
            simp only [q1, hu, q2, hp', Array.toList_map]
            simpa using f1
    · rename_i z n e hz hu
      cases hs : sizeA P e with
      | none => simp [hs] at h1
      | some s =>
        simp only [hs] at h1
        obtain ⟨ie, he1, he2⟩ : ∃ ie, P.info? e = some ie ∧ ie.size = s := by
          unfold sizeA at hs
          cases he : P.info? e with
          | none => simp [he] at hs
          | some ie => rw [he] at hs; simp at hs; exact ⟨ie, rfl, hs⟩
        cases hq : partsA (fun i => some (i * s, s)) ps.toList with
        | none => simp [hq] at h1
        | some ps' =>
          simp [hq] at h1; subst h1
          simp only [insA] at h2
          obtain ⟨h3, rfl⟩ := map_pair h2
          cases hfl : fillA z (ps'.map fun p => (p.1, p.2.1, p.2.2.ev fr)) with
          | none => simp [hfl] at h3
          | some out =>
            simp [hfl] at h3; subst h3
            obtain ⟨ti, zv, q1, q2, q3⟩ := zeroA_spec (W0 := W0) (G := G) hz
            obtain ⟨out', f1, f2⟩ := fill_spec hF (fun i => some (i * s, s)) ps.toList ps' z out zv.cells hq hfl (q3 0)
            refine hpure (.agg out') (run_v (run_build w t _ out' ?_)) (by simpa using VR.aggA f2) rfl
            unfold Program.built
            simp only [q1, hu, q2, he1, he2, Array.toList_map]
            simpa using f1
  case buildSlice t len ps =>
    obtain ⟨i, h1, h2⟩ := orBad_some hi
    split at h1 <;> try (cases h1; done)
    rename_i e hu
    split at h1 <;> try (cases h1; done)
    rename_i s z hs hz
    split at h1 <;> try (cases h1; done)
    rename_i hle
    cases hq : partsA (fun i => some (i * s, s)) ps.toList with
    | none => simp [hq] at h1
    | some ps' =>
      simp [hq] at h1; subst h1
      simp only [insA] at h2
      split at h2 <;> try (cases h2; done)
      rename_i cs hfl
      cases h2
      obtain ⟨ti, zv, q1, q2, q3⟩ := zeroA_spec (W0 := W0) (G := G) hz
      have hz0 := zerosA_spec (q3 0) (len * s)
      obtain ⟨out', f1, f2⟩ := fill_spec hF (fun i => some (i * s, s)) ps.toList ps' _ cs (madeCells zv.cells (len * s)) hq hfl (by simpa using hz0)
      have hal := hR.alloc [] e f2
      simp only [List.append_nil, Array.toArray_toList, List.length_nil, Nat.add_zero] at hal
      have hlen := fillA_length hfl
      have hcl := f2.1
      simp only [zerosA, List.length_map, List.length_range] at hlen
      refine wp_val (c := .slice (some ⟨w.heap.size, 0, none⟩) len len) (w' := w.alloc (.cells out' e)) (run_v ?_)
        (hK _ _ _ (.sl _ _ _ _ _ _ _ _ (Nat.le_refl _) (fun e h => by cases h) ⟨0, w.heap.size, out'.toList.length, by simp [Gh.add], Nat.le_refl _, fun _ => ⟨fun _ => rfl, by omega⟩⟩) hal.1 hal.2 (Gr.alloc _ _ _ _ _))
      exact run_bslice hu hs q1 q2 hle.1 (by simpa using f1)
  case load t p =>
    obtain ⟨i, h1, h2⟩ := orBad_some hi
    split at h1 <;> try (cases h1; done)
    · rename_i s ht hs
      cases h1
      simp only [insA] at h2
      obtain ⟨h3, rfl⟩ := map_pair h2
      obtain ⟨u, q1, q2⟩ := load_spec (P := P) (t := t) hR (hF.ev p) h3 (.inr ⟨s, rfl, ht, hs⟩)
      exact hpure u (run_v q1) q2 rfl
    · rename_i ht
      cases h1
      simp only [insA] at h2
      obtain ⟨h3, rfl⟩ := map_pair h2
      obtain ⟨u, q1, q2⟩ := load_spec (P := P) (t := t) hR (hF.ev p) h3 (.inl ⟨rfl, ht⟩)
      exact hpure u (run_v q1) q2 rfl
  case store t p x =>
    obtain ⟨i, h1, h2⟩ := orBad_some hi
    cases hs : sizeA P t with
    | none => simp [hs] at h1
    | some s =>
      simp [hs] at h1; subst h1
      simp only [insA] at h2
      cases hst : storeA H s ((opdA p).ev fr) ((opdA x).ev fr) with
      | none => simp [hst] at h2
      | some H1 =>
        simp [hst] at h2
        obtain ⟨rfl, rfl⟩ := h2
        obtain ⟨G', w', q1, q2, q3, q4⟩ := store_spec (P := P) (t := t) hR (hF.ev p) (hF.ev x) hst hs
        exact wp_skp (run_u q1) (hK _ G' w' .skp q2 q3 q4)
  case nilCheck x =>
    simp only [insA] at hi
    obtain ⟨h3, rfl⟩ := map_pair hi
    have hx := hF.ev x
    generalize hc : a.eval x = c at hx
    generalize (opdA x).ev fr = y at hx h3
    have hgo : (∀ (n : String) (f cs : Array Value), c ≠ .func (.method n) f cs) → c ≠ .pointer none → c ≠ .nilIface → c ≠ .nilFunc → (execOp a.eval ⟨dst, .nilCheck x, type, pos, after, guard⟩).run P w = .ok (.value c) w := by
      intro n1 n2 n3 n4
      simp only [execOp, hc]
      cases c <;> first | rfl | (rename_i q; cases q <;> first | rfl | exact absurd rfl n2) | exact absurd rfl n3 | exact absurd rfl n4 | (rename_i fn f1 cs1; cases fn <;> first | rfl | exact absurd rfl (n1 _ _ _))
    refine hpure c (hgo ?_ ?_ ?_ ?_) ?_ rfl
    · cases hx <;> simp_all [chkA]
    · cases hx <;> simp_all [chkA]
    · cases hx <;> simp_all [chkA]
    · cases hx <;> simp_all [chkA]
    · cases y <;> simp only [chkA, Option.some.injEq, reduceCtorEq] at h3 <;> (subst h3; exact hx)
  case binOp op t x y yt =>
    unfold compBin at hi
    split at hi
    · simp only [insA] at hi
      obtain ⟨h3, rfl⟩ := map_pair hi
      obtain ⟨u, q1, q2⟩ := binA_spec (P := P) (w := w) (t := t) (hF.ev x) (hF.ev y) h3
      refine hpure u (run_v ?_) q2 rfl
      have hx := hF.ev x
      have hy := hF.ev y
      generalize (opdA x).ev fr = x1 at hx h3
      generalize (opdA y).ev fr = y1 at hy h3
      generalize a.eval x = c at hx q1
      generalize a.eval y = d at hy q1
      cases hx <;> cases hy <;> simp only [binA, reduceCtorEq] at h3
      rw [Sem.run_bind, eqGuard_int]; exact q1
    · rename_i ht
      have go : ∀ neg, op = (if neg then .neq else .eql) → insA R (.eqb neg (opdA x) (opdA y)) fr H = some (v, H') → Oper.wp P ⟨dst, .binOp op t x y yt, type, pos, after, guard⟩ a w K Q := by
        intro neg hop hi
        simp only [insA] at hi
        obtain ⟨h3, rfl⟩ := map_pair hi
        obtain ⟨u, q1, q2, p, q, e1, e2⟩ := eqbA_spec (P := P) (w := w) ht (hF.ev x) (hF.ev y) h3
        refine hpure u (run_v ?_) q2 rfl
        rw [Sem.run_bind, e1, e2, eqGuard_bool, hop, ← e1, ← e2]; exact q1
      split at hi
      · exact go false rfl hi
      · exact go true rfl hi
      · simp [insA] at hi
    · rename_i fs ht
      split at hi
      · rename_i ks hks
        split at hi
        · rename_i hcond
          simp only [Bool.and_eq_true, Bool.not_eq_eq_eq_not, Bool.not_true] at hcond
          have go : ∀ neg, op = (if neg then .neq else .eql) → insA R (.eqs neg ks (opdA x) (opdA y)) fr H = some (v, H') → Oper.wp P ⟨dst, .binOp op t x y yt, type, pos, after, guard⟩ a w K Q := by
            intro neg hop hi
            simp only [insA] at hi
            obtain ⟨h3, rfl⟩ := map_pair hi
            obtain ⟨xs, ys, u, e1, e2, q1, q2⟩ := eqsA_spec (P := P) (w := w) ht hks hcond.1 (hF.ev x) (hF.ev y) h3
            refine hpure u (run_v ?_) q2 rfl
            rw [Sem.run_bind, e1, e2, run_eqGuard_agg w op t x y xs ys hcond.2, hop, ← e1, ← e2]; exact q1
          split at hi
          · exact go false rfl hi
          · exact go true rfl hi
          · simp [insA] at hi
        · simp [insA] at hi
      · simp [insA] at hi
    · rename_i e ht
      have go : ∀ neg m k, op = (if neg then .neq else .eql) → y = .const (.slice none m k) → insA R (.eqn neg (opdA x)) fr H = some (v, H') → Oper.wp P ⟨dst, .binOp op t x y yt, type, pos, after, guard⟩ a w K Q := by
        intro neg m k hop hy hi
        simp only [insA] at hi
        obtain ⟨h3, rfl⟩ := map_pair hi
        obtain ⟨A, n, cc, u, e1, q1, q2⟩ := eqnA_spec (P := P) (w := w) ht m k (hF.ev x) h3
        refine hpure u (run_v ?_) q2 rfl
        subst hy
        rw [Sem.run_bind, show a.eval (.const (.slice none m k)) = .slice none m k from rfl, e1, eqGuard_slice, hop, ← e1]; exact q1
      split at hi
      · exact go false _ _ rfl rfl hi
      · exact go true _ _ rfl rfl hi
      · simp [insA] at hi
    · simp [insA] at hi
  case unOp op t x =>
    simp only [insA] at hi
    obtain ⟨h3, rfl⟩ := map_pair hi
    have hx := hF.ev x
    generalize hc : a.eval x = c at hx
    generalize (opdA x).ev fr = y at hx h3
    unfold unA at h3
    split at h3
    · cases hx; cases h3
      exact hpure _ (run_v (by rw [hc]; rfl)) (.int _ _) rfl
    · cases hx; cases h3
      exact hpure _ (run_v (by rw [hc]; rfl)) (.bool _) rfl
    · cases h3
  case convert s d x =>
    split at hi
    · rename_i k1 k2 h1 h2
      simp only [insA] at hi
      split at hi
      · rename_i k n hk
        cases hi
        have hx := hF.ev x
        rw [hk] at hx
        generalize hc : a.eval x = c at hx
        cases hx
        refine hpure (.int k2 (k2.wrap n)) (run_v ?_) (.int _ _) rfl
        rw [hc]
        simp [convert, run_underlying h1, run_underlying h2, Conv.intToInt]
      · cases hi
    · simp [insA] at hi
  case makeInterface t x =>
    split at hi
    · simp [insA] at hi
    · rename_i d hne hd
      simp only [insA, Option.some.injEq, Prod.mk.injEq] at hi
      obtain ⟨rfl, rfl⟩ := hi
      refine hpure (.iface t (a.eval x)) (run_v ?_) (.iface _ _ _ (hF.ev x)) rfl
      unfold Instr.makeInterface
      rw [Sem.run_bind, run_underlying hd]
      cases d <;> first | rfl | exact absurd rfl (hne _)
    · simp [insA] at hi
  case makeFunc f first caps =>
    cases f <;> simp only at hi <;> try (simp [insA] at hi; done)
    split at hi
    · rename_i hemp
      simp only [insA, Option.some.injEq, Prod.mk.injEq] at hi
      obtain ⟨rfl, rfl⟩ := hi
      have hvl := hF.evs caps.toList
      have he : first.map a.eval = #[] := by simp at hemp; simp [hemp]
      refine hpure _ (run_v (c := .func (.func _) #[] (caps.toList.map a.eval).toArray) ?_) (.fn _ _ _ hvl.1 hvl.2) rfl
      show (Instr.makeFunc _ (first.map a.eval) (caps.map a.eval)).run P w = _
      rw [he, show caps.map a.eval = (caps.toList.map a.eval).toArray from Array.ext' (by simp)]
      rfl
    · simp [insA] at hi
  case makeSlice t l c =>
    obtain ⟨i, h1, h2⟩ := orBad_some hi
    split at h1 <;> try (cases h1; done)
    rename_i e hu
    split at h1 <;> try (cases h1; done)
    rename_i ti z hti hz
    cases h1
    simp only [insA] at h2
    split at h2
    · rename_i n m hn hm
      split at h2
      · rename_i hc
        obtain ⟨rfl, h0, hb, h63, hzl⟩ := hc
        cases h2
        obtain ⟨ti', zv, q1, q2, q3⟩ := zeroA_spec (W0 := W0) (G := G) hz
        rw [hti] at q1; cases q1
        have hl := hF.ev l
        have hcp := hF.ev c
        rw [hn] at hl; rw [hm] at hcp
        generalize hlc : a.eval l = lc at hl
        generalize hcc : a.eval c = cc at hcp
        cases hl; cases hcp
        have hz0 := zerosA_spec (q3 0) (n.toNat * ti.size)
        have hal := hR.alloc [] e hz0
        simp only [List.append_nil, Array.toArray_toList, List.length_nil, Nat.add_zero] at hal
        refine wp_val (c := .slice (some ⟨w.heap.size, 0, none⟩) n.toNat n.toNat) (w' := w.alloc (.cells (madeCells zv.cells (n.toNat * ti.size)) e)) (run_v ?_)
          (hK _ _ _ (.sl _ _ _ _ _ _ _ _ (Nat.le_refl _) (fun e h => by cases h) ⟨0, w.heap.size, (madeCells zv.cells (n.toNat * ti.size)).toList.length, by simp [Gh.add], Nat.le_refl _, fun _ => ⟨fun _ => rfl, by simp [size_madeCells]⟩⟩) hal.1 hal.2 (Gr.alloc _ _ _ _ _))
        rw [hlc, hcc]
        exact run_make (P := P) w t e ti zv hu hti q2 _ _ n n h0 (Int.le_refl _) (by rw [Int.mul_comm]; omega) h63
      · cases h2
    · cases h2
  case slice t x lo hi' mx =>
    obtain ⟨i, h1, h2⟩ := orBad_some hi
    split at h1 <;> try (cases h1; done)
    rename_i e hu
    cases hs : sizeA P e with
    | none => simp [hs] at h1
    | some s =>
      simp [hs] at h1; subst h1
      simp only [insA] at h2
      obtain ⟨h3, rfl⟩ := map_pair h2
      obtain ⟨u, q1, q2⟩ := sliceA_spec (P := P) (w := w) hu hs (hF.ev x) (bo_of hF lo) (bo_of hF hi') (bo_of hF mx) h3
      exact hpure u (run_v q1) q2 rfl
  case fieldAddr t x j =>
    obtain ⟨i, h1, h2⟩ := orBad_some hi
    split at h1 <;> try (cases h1; done)
    rename_i fs hu
    split at h1 <;> try (cases h1; done)
    rename_i f hf
    split at h1 <;> try (cases h1; done)
    rename_i s hs
    cases h1
    simp only [insA] at h2
    obtain ⟨h3, rfl⟩ := map_pair h2
    obtain ⟨u, q1, q2⟩ := fldA_spec (P := P) (w := w) hu hf hs (hF.ev x) h3
    exact hpure u (run_v q1) q2 rfl
  case field t x j =>
    obtain ⟨i, h1, h2⟩ := orBad_some hi
    split at h1 <;> try (cases h1; done)
    rename_i fs hu
    split at h1 <;> try (cases h1; done)
    rename_i f hf
    have go : ∀ sz, ((sz = none ∧ isStruct P f.type = some false) ∨ (∃ s, sz = some s ∧ isStruct P f.type = some true ∧ sizeA P f.type = some s)) → insA R (.field sz f.offset (opdA x)) fr H = some (v, H') → Oper.wp P ⟨dst, .field t x j, type, pos, after, guard⟩ a w K Q := by
      intro sz hsz h2
      simp only [insA] at h2
      obtain ⟨h3, rfl⟩ := map_pair h2
      have hx := hF.ev x
      generalize hc : a.eval x = c at hx
      generalize (opdA x).ev fr = y at hx h3
      cases hx <;> simp only [partA, reduceCtorEq] at h3
      rename_i vs cs hn r
      obtain ⟨u, q1, q2⟩ := partA_spec (P := P) (w := w) (off := f.offset) hsz (vs := vs) (cs := cs) (v := v) ⟨hn, r⟩ h3
      refine hpure u (run_v ?_) q2 rfl
      rw [hc]
      simp [Instr.field, run_underlying hu, hf, asAgg, q1]
    split at h1 <;> try (cases h1; done)
    · rename_i s ht hs
      cases h1
      exact go _ (.inr ⟨s, rfl, ht, hs⟩) h2
    · rename_i ht
      cases h1
      exact go _ (.inl ⟨rfl, ht⟩) h2
  case indexAddr t x j =>
    obtain ⟨i, h1, h2⟩ := orBad_some hi
    split at h1 <;> try (cases h1; done)
    · rename_i e hu
      cases hs : sizeA P e with
      | none => simp [hs] at h1
      | some s =>
        simp [hs] at h1; subst h1
        simp only [insA] at h2
        obtain ⟨h3, rfl⟩ := map_pair h2
        obtain ⟨u, q1, q2⟩ := idxA_spec (P := P) (w := w) hu hs (hF.ev x) (hF.ev j) h3
        exact hpure u (run_v q1) q2 rfl
    · rename_i n e hu
      cases hs : sizeA P e with
      | none => simp [hs] at h1
      | some s =>
        simp [hs] at h1; subst h1
        simp only [insA] at h2
        obtain ⟨h3, rfl⟩ := map_pair h2
        obtain ⟨u, q1, q2⟩ := idxP_spec (P := P) (w := w) hu hs (hF.ev x) (hF.ev j) h3
        exact hpure u (run_v q1) q2 rfl
  case index t x j =>
    obtain ⟨i, h1, h2⟩ := orBad_some hi
    split at h1 <;> try (cases h1; done)
    rename_i n e hu
    have go : ∀ sz s, sizeA P e = some s → ((sz = none ∧ isStruct P e = some false) ∨ (∃ s, sz = some s ∧ isStruct P e = some true ∧ sizeA P e = some s)) → insA R (.index sz s n (opdA x) (opdA j)) fr H = some (v, H') → Oper.wp P ⟨dst, .index t x j, type, pos, after, guard⟩ a w K Q := by
      intro sz s hs hsz h2
      simp only [insA] at h2
      split at h2 <;> try (cases h2; done)
      rename_i jn hjn
      split at h2 <;> try (cases h2; done)
      rename_i hlt
      obtain ⟨h3, rfl⟩ := map_pair h2
      obtain ⟨k, z, hz1, hz2, hz3⟩ := natOf_spec (hF.ev j) hjn
      have hx := hF.ev x
      generalize hc : a.eval x = c at hx
      generalize (opdA x).ev fr = y at hx h3
      cases hx <;> simp only [partA, reduceCtorEq] at h3
      rename_i vs cs hn r
      obtain ⟨u, q1, q2⟩ := partA_spec (P := P) (w := w) (off := jn * s) hsz (vs := vs) (cs := cs) (v := v) ⟨hn, r⟩ h3
      refine hpure u (run_v ?_) q2 rfl
      rw [hc, hz1]
      have : z < (n : Int) := by omega
      simp [Instr.index, asIntOf, run_underlying hu, hz2, this, run_sizeOf' hs, hz3, q1]
    split at h1 <;> try (cases h1; done)
    · rename_i s ht hs
      cases h1
      exact go _ s hs (.inr ⟨s, rfl, ht, hs⟩) h2
    · rename_i s ht hs
      cases h1
      exact go _ s hs (.inl ⟨rfl, ht⟩) h2
  case extract x j =>
    simp only [insA] at hi
    split at hi
    · rename_i vs hvs
      obtain ⟨h3, rfl⟩ := map_pair hi
      have hx := hF.ev x
      rw [hvs] at hx
      generalize hc : a.eval x = c at hx
      cases hx with
      | tup _ cs hn r =>
        have hlt : j < vs.length := by
          rcases Nat.lt_or_ge j vs.length with h | h
          · exact h
          · rw [List.getElem?_eq_none h] at h3; cases h3
        have hlt' : j < cs.length := by omega
        have := r j hlt
        rw [List.getElem?_eq_getElem hlt] at h3; cases h3
        refine hpure cs[j] (run_v ?_) (by simpa [List.getD_eq_getElem?_getD, hlt, hlt'] using this) rfl
        rw [hc]
        simp [Instr.extract, hlt']
    · cases hi
  case call c =>
    unfold compCall at hi
    obtain ⟨callee, args, argTypes⟩ := c
    simp only at hi
    have hargs := hF.evs args.toList
    have hmapA : args.map a.eval = (args.toList.map a.eval).toArray := Array.ext' (by simp)
    split at hi
    · -- a function by its name
      rename_i f
      simp only [insA] at hi
      refine enter_sound RS hR hargs hi (fun hok => ?_) hK
      show (do let d ← resolve a.eval ⟨.value (.func f), args, argTypes⟩ type; invoke d.target d.args : Sem Next).run P w = _
      simp only [resolve, Act.eval, Deferred.ofValue, Sem.run_bind, Sem.run_pure, Result.andThen_ok, invoke, Array.append_empty, Array.empty_append, run_callFunc hok, hmapA]
    · rename_i t
      simp only [insA] at hi
      split at hi <;> try (cases hi; done)
      rename_i g caps hg
      have hf := hF.ev (.tmp t)
      have hg' : (opdA (.tmp t)).ev fr = .fn g caps := hg
      rw [hg'] at hf
      generalize hc : a.eval (.tmp t) = fc at hf
      cases hf with
      | fn _ _ cs hn r =>
        refine enter_sound RS hR (hargs.append ⟨hn, r⟩) hi (fun hok => ?_) hK
        show (do let d ← resolve a.eval ⟨.value (.tmp t), args, argTypes⟩ type; invoke d.target d.args : Sem Next).run P w = _
        simp only [resolve, hc, Deferred.ofValue, Sem.run_bind, Sem.run_pure, Result.andThen_ok, invoke, Array.empty_append, run_callFunc hok, hmapA]
        simp
    · simp [insA] at hi
    · rename_i r name
      simp only [insA] at hi
      split at hi <;> try (cases hi; done)
      rename_i t v0 hr
      split at hi <;> try (cases hi; done)
      rename_i g hg
      have hf := hF.ev r
      rw [hr] at hf
      generalize hc : a.eval r = fc at hf
      cases hf with
      | iface _ _ cv hcv =>
        have hm := method_spec (P := P) (lookup_mem hg) cv w
        refine enter_sound RS hR (VL.cons hcv hargs) hi (fun hok => ?_) hK
        show (do let d ← resolve a.eval ⟨.invoke r name, args, argTypes⟩ type; invoke d.target d.args : Sem Next).run P w = _
        obtain ⟨n, hn⟩ : ∃ n, P.types.size + Made.depth = n + 1 := ⟨P.types.size + Made.depth - 1, (by have h0 : 0 < Made.depth := (by decide); omega)⟩
        simp only [resolve, hc, Sem.run_bind, Sem.run_pure, Result.andThen_ok, invoke]
        simp only [arr_head, callMethod, Sem.run_bind, run_program, Result.andThen_ok, hn, hm n, arr_tail, run_callFunc hok]
        rw [hmapA, arr_cons]
    · -- len
      split at hi <;> try (simp [insA] at hi; done)
      rename_i x e hx he
      simp only [insA] at hi
      obtain ⟨h3, rfl⟩ := map_pair hi
      cases hl : lenA ((opdA x).ev fr) with
      | none => simp [hl] at h3
      | some n =>
        simp [hl] at h3; subst h3
        obtain ⟨A, cc, hA, hle⟩ := lenA_spec (hF.ev x) hl
        have harr : args = #[x] := by cases args; simp_all
        subst harr
        cases hat : argTypes[0]? with
        | none => simp [hat] at he
        | some tt =>
          simp [hat] at he
          refine hpure (.int .i64 n) ?_ (.int _ _) rfl
          show (do let d ← resolve a.eval ⟨.builtin .len, #[x], argTypes⟩ type; invoke d.target d.args : Sem Next).run P w = _
          simp [resolve, invoke, builtin, Builtin.len_, hat, hA, run_underlying he, goInt]
    · -- min
      simp only [insA] at hi
      obtain ⟨h3, rfl⟩ := map_pair hi
      obtain ⟨c, rest, u, q1, q2, q3⟩ := mnxA_spec (P := P) (w := w) false _ _ _ v (Nat.le_refl _) hargs h3
      refine hpure u ?_ q3 rfl
      show (do let d ← resolve a.eval ⟨.builtin .min, args, argTypes⟩ type; invoke d.target d.args : Sem Next).run P w = _
      have hq : (Builtin.min_ argTypes type (args.map a.eval)).run P w = .ok u w := by
        unfold Builtin.min_
        rw [hmapA]
        simp only [q1]
        simpa using q2
      simp [resolve, invoke, builtin, hq]
    · simp only [insA] at hi
      obtain ⟨h3, rfl⟩ := map_pair hi
      obtain ⟨c, rest, u, q1, q2, q3⟩ := mnxA_spec (P := P) (w := w) true _ _ _ v (Nat.le_refl _) hargs h3
      refine hpure u ?_ q3 rfl
      show (do let d ← resolve a.eval ⟨.builtin .max, args, argTypes⟩ type; invoke d.target d.args : Sem Next).run P w = _
      have hq : (Builtin.max_ argTypes type (args.map a.eval)).run P w = .ok u w := by
        unfold Builtin.max_
        rw [hmapA]
        simp only [q1]
        simpa using q2
      simp [resolve, invoke, builtin, hq]
    · -- append
      split at hi <;> try (simp [insA] at hi; done)
      rename_i x y t u hxy htu
      split at hi <;> try (simp [insA] at hi; done)
      rename_i e e' ht hu
      split at hi <;> try (simp [insA] at hi; done)
      rename_i ti hti
      split at hi <;> try (simp [insA] at hi; done)
      rename_i z hz
      split at hi <;> try (simp [insA] at hi; done)
      rename_i hc
      simp only [not_or, Decidable.not_not] at hc
      simp only [insA] at hi
      have harr : args = #[x, y] := by cases args; simp_all
      have harr' : argTypes = #[t, u] := by cases argTypes; simp_all
      subst harr; subst harr'
      obtain ⟨r, G', w', q1, q2, q3, q4, q5⟩ := appA_spec (P := P) (ty := type) hR ht hu hti hz hc.2.2 hc.1 (hF.ev x) (hF.ev y) hi
      refine wp_val (c := r) (w' := w') ?_ (hK r G' w' q2 q3 q4 q5)
      show (do let d ← resolve a.eval ⟨.builtin .append, #[x, y], #[t, u]⟩ type; invoke d.target d.args : Sem Next).run P w = _
      simp [resolve, invoke, builtin, q1]
    · simp [insA] at hi
end
end Go.X
