import Derived.Test.YtppekkocioidkaaXA
import Derived.LoopN
import Derived.Laws.Sem
/-! Code and functions of the small machine, and what they say of the model's. -/
set_option linter.unusedSimpArgs false
set_option linter.unusedVariables false
set_option linter.unusedSectionVars false
namespace Go.X
open Go Go.RowKit

abbrev Run := Nat → List AV → Heap → Option (AV × Heap)

/-- A function's body, entered. -/
def enterX (F : XF) (code : XC → List AV → Heap → Option (Ex × List AV × Heap)) (args : List AV) (H : Heap) : Option (AV × Heap) :=
  if args.length = F.np then
    match code F.body (args ++ List.replicate (F.nt - F.np) .undef) H with
    | some (.x _, _, _) => none
    | some (_, fr, H') => (resultA F.res fr H').map fun v => (v, H')
    | none => none
  else none

/-- The functions that are known: by their text, or by what is said of them. -/
def runX (E : Nat → Option XF) (Y : Run) (code : XC → List AV → Heap → Option (Ex × List AV × Heap)) : Run := fun f args H =>
  match E f with
  | some F => enterX F code args H
  | none => Y f args H

def codeX (E : Nat → Option XF) (Y : Run) : Nat → XC → List AV → Heap → Option (Ex × List AV × Heap)
  | 0, _, _, _ => none
  | k + 1, c, fr, H => match c with
    | .skip => some (.n, fr, H)
    | .reg ops => match opsA (runX E Y (codeX E Y k)) ops fr H with
      | some (fr', H') => some (.n, fr', H')
      | none => none
    | .seq a b => match codeX E Y k a fr H with
      | some (.n, fr', H') => codeX E Y k b fr' H'
      | r => r
    | .cond o a b => match o.ev fr with
      | .bool true => codeX E Y k a fr H
      | .bool false => codeX E Y k b fr H
      | _ => none
    | .block id live b => match codeX E Y k b fr H with
      | some (.n, fr', H') => some (.n, keepA live fr', H')
      | some (.x j, fr', H') => if j = id then some (.n, keepA live fr', H') else some (.x j, fr', H')
      | r => r
    | .loop live b => match codeX E Y k b (keepA live fr) H with
      | some (.n, fr', H') => codeX E Y k (.loop live b) fr' H'
      | r => r
    | .exit id live => some (.x id, keepA live fr, H)
    | .ret live => some (.r, keepA live fr, H)

/-- A call in at most k nested steps. -/
def callF (E : Nat → Option XF) (Y : Run) (k : Nat) : Run := runX E Y (codeX E Y k)

/-! ### Out of the model's text -/
inductive Comp (P : Program) (md : Nat → Nat) : Code → XC → Prop where
  | skip : Comp P md .skip .skip
  | reg (id : Nat) (ops : Array Oper) (draw : Bool) (cs : List Op1) (h : draw = true → okDraw ops (compOps P md ops) = true ∧ P.follows .mixedOrders = true ∧ cs = chks ops (compOps P md ops)) (h0 : draw = false → cs = []) : Comp P md (.region id ops draw) (.reg (compOps P md ops ++ cs))
  | seq {a b : Code} {x y : XC} (ha : Comp P md a x) (hb : Comp P md b y) : Comp P md (.seq a b) (.seq x y)
  | cond (c : Operand) {a b : Code} {x y : XC} (ha : Comp P md a x) (hb : Comp P md b y) : Comp P md (.cond c a b) (.cond (opdA c) x y)
  | block (id : Nat) (live : List Bool) {a : Code} {x : XC} (ha : Comp P md a x) : Comp P md (.block id a) (.block id live x)
  | loop (live : List Bool) {a : Code} {x : XC} (ha : Comp P md a x) : Comp P md (.loop a) (.loop live x)
  | exit (id : Nat) (live : List Bool) : Comp P md (.exit id) (.exit id live)
  | ret (live : List Bool) : Comp P md .ret (.ret live)
  | bad (c : Code) : Comp P md c (.reg [op0])

def compC (P : Program) (md : Nat → Nat) (mixed : Bool) : Code → List (List Bool) → XC × List (List Bool)
  | .skip, m => (.skip, m)
  | .region _ ops draw, m => let is := compOps P md ops; if draw then (if mixed && okDraw ops is then (.reg (is ++ chks ops is), m) else (.reg [op0], m)) else (.reg is, m)
  | .seq a b, m => match compC P md mixed a m with
    | (x, m') => match compC P md mixed b m' with
      | (y, m'') => (.seq x y, m'')
  | .cond c a b, m => match compC P md mixed a m with
    | (x, m') => match compC P md mixed b m' with
      | (y, m'') => (.cond (opdA c) x y, m'')
  | .block id a, m => match compC P md mixed a m.tail with
    | (x, m') => (.block id (m.headD []) x, m')
  | .loop a, m => match compC P md mixed a m.tail with
    | (x, m') => (.loop (m.headD []) x, m')
  | .exit id, m => (.exit id (m.headD []), m.tail)
  | .ret, m => (.ret (m.headD []), m.tail)
  | _, m => (.reg [op0], m)

theorem compC_spec (P : Program) (md : Nat → Nat) (mixed : Bool) (hm : mixed = true → P.follows .mixedOrders = true) : ∀ (c : Code) (m : List (List Bool)), Comp P md c (compC P md mixed c m).1 := by
  intro c
  induction c with
  | skip => intro m; exact .skip
  | region id ops draw =>
    intro m
    simp only [compC]
    split
    · split
      · rename_i h1 h2
        rw [Bool.and_eq_true] at h2
        exact .reg _ _ _ _ (fun _ => ⟨h2.2, hm h2.1, rfl⟩) (fun h => by rw [h1] at h; cases h)
      · exact .bad _
    · rename_i h1
      have := Comp.reg (P := P) (md := md) id ops draw [] (fun h => absurd h h1) (fun _ => rfl)
      rwa [List.append_nil] at this
  | seq a b iha ihb => intro m; exact .seq (iha m) (ihb _)
  | cond c a b iha ihb => intro m; exact .cond c (iha m) (ihb _)
  | block id a ih => intro m; exact .block id _ (ih _)
  | loop a ih => intro m; exact .loop _ (ih _)
  | exit id => intro m; exact .exit id _
  | ret => intro m; exact .ret _
  | _ => intro m; exact .bad _

def compRes (P : Program) : ResultVar → Option Res
  | .tmp t => some (.tmp t)
  | .cell a t => match isStruct P t, sizeA P t with
    | some true, some s => some (.cell a (some s))
    | some false, _ => some (.cell a none)
    | _, _ => none

def compF (P : Program) (md : Nat → Nat) (mixed : Bool) (m : List (List Bool)) (fn : Func) : Option XF :=
  match fn.results.toList.mapM (compRes P), fn.body with
  | some rs, some c => some ⟨fn.params.size + fn.nfree, fn.ntmps, rs, (compC P md mixed c m).1⟩
  | _, _ => none

/-- What is known of a program's functions. -/
def Stills (E : Nat → Option XF) : Prop := ∀ f F, E f = some F → gstill f = true → stillC F.body = true

def Known (P : Program) (E : Nat → Option XF) : Prop := Stills E ∧ ∀ f F, E f = some F → ∃ fn c md rs, P.funcs[f]? = some fn ∧ (fn.name == "runtime.NumGoroutine") = false ∧ fn.body = some c ∧ Comp P md c F.body ∧ fn.results.toList.mapM (compRes P) = some rs ∧ F.res = rs ∧ F.nt = fn.ntmps

theorem Known.of {P : Program} {E : Nat → Option XF} (hst : Stills E) (hm : P.follows .mixedOrders = true) (h : ∀ f F, E f = some F → ∃ fn md m, P.funcs[f]? = some fn ∧ (fn.name == "runtime.NumGoroutine") = false ∧ compF P md true m fn = some F) : Known P E := by
  refine ⟨hst, ?_⟩
  intro f F hE
  obtain ⟨fn, md, m, h1, h2, h3⟩ := h f F hE
  unfold compF at h3
  split at h3
  · rename_i rs c hr hb
    cases h3
    exact ⟨fn, c, md, rs, h1, h2, hb, compC_spec P md true (fun _ => hm) c m, hr, rfl, rfl⟩
  · cases h3

section
variable {P : Program} {W0 : World} [GlobOk W0] {G : Gh} {H : Heap} {w : World}

theorem okDraw_get {ops : Array Oper} {is : List Op1} (h : okDraw ops is = true) {j : Nat} (hj : j < is.length) :
    (∀ o, ops[j]? = some o → ∀ e ∈ o.after, Region.binds .any e = true → e.on < j) ∧ ∀ i, i < j → nedst (is.getD i op0) (is.getD j op0) = true ∧ (((befA [] ops.toList).getD j 0).testBit i = true ∨ apartA (is.getD i op0) (is.getD j op0) = true ∨ apartB is i j = true ∨ apartC is i j = true) := by
  simp only [okDraw, List.all_eq_true, List.mem_range, Bool.and_eq_true] at h
  obtain ⟨h1, h2⟩ := h j hj
  refine ⟨fun o ho e he hb => ?_, fun i hi => ?_⟩
  · rw [ho] at h1
    simp only [Array.all_eq_true_iff_forall_mem] at h1
    have := h1 e he
    rw [hb] at this
    simpa using this
  · have := h2 i hi
    simpa [Bool.or_eq_true, or_assoc] using this

theorem comp_get {md : Nat → Nat} {ops : Array Oper} {k : Nat} {o : Oper} (ho : ops[k]? = some o) : (compOps P md ops)[k]? = some (comp1 P md ops o) := by
  simp [compOps, ho]

theorem comp_getD {md : Nat → Nat} {ops : Array Oper} {k : Nat} {o : Oper} (ho : ops[k]? = some o) : (compOps P md ops).getD k op0 = comp1 P md ops o := by
  rw [List.getD_eq_getElem?_getD, comp_get ho]; rfl

theorem nedst_spec {x y : Op1} (h : nedst x y = true) {d : Nat} (hx : x.dst = some d) : y.dst ≠ some d := by
  intro hy
  simp [nedst, hx, hy] at h

theorem apartA_spec {x y : Op1} (h : apartA x y = true) {B : Prop} : apartR x y = true ∧ (memK x.ins * memK y.ins < 2 ∨ B) := by
  simp only [apartA, Bool.and_eq_true, decide_eq_true_eq] at h
  simp only [apartR, Bool.and_eq_true]
  exact ⟨h.1, .inl h.2⟩

theorem apartB_spec {md : Nat → Nat} {ops : Array Oper} {i j : Nat} {x y : Oper} (hx : ops[i]? = some x) (hy : ops[j]? = some y) (h : apartB (compOps P md ops) i j = true) {C : Prop} :
    apartR (comp1 P md ops x) (comp1 P md ops y) = true ∧ (memK (comp1 P md ops x).ins * memK (comp1 P md ops y).ins < 2 ∨ ApB P md ops i j ∨ C) := by
  unfold apartB at h
  rw [comp_getD hx, comp_getD hy, Bool.and_eq_true, Bool.and_eq_true] at h
  obtain ⟨⟨h1, h2⟩, h3⟩ := h
  refine ⟨h1, .inr (.inl ⟨?_, ?_⟩)⟩
  · split at h2
    · rename_i e; exact ⟨x, _, _, _, _, _, hx, e⟩
    · cases h2
  · split at h3
    · rename_i n d v e
      simp only [List.any_eq_true, List.mem_range, Bool.and_eq_true] at h3
      obtain ⟨m, hm, h4, h5⟩ := h3
      have hjs := lt_of_get hy
      have hms : m < ops.size := by omega
      have hmo : ops[m]? = some ops[m] := by simp [hms]
      rw [comp_getD hmo] at h4 h5
      rw [comp1_dst] at h4
      split at h5
      · rename_i z e5
        exact ⟨y, n, d, v, hy, e, m, _, z, hm, hmo, by simpa using h4, e5⟩
      · cases h5
    · cases h3

theorem opsA_app {R : Run} : ∀ (l1 l2 : List Op1) {fr fr' : List AV} {H H' : Heap}, opsA R (l1 ++ l2) fr H = some (fr', H') → ∃ fr1 H1, opsA R l1 fr H = some (fr1, H1) ∧ opsA R l2 fr1 H1 = some (fr', H')
  | [], l2, fr, fr', H, H', h => ⟨fr, H, rfl, h⟩
  | o :: l1, l2, fr, fr', H, H', h => by
    simp only [List.cons_append, opsA] at h ⊢
    cases hs : stepA R o fr H with
    | none => simp [hs] at h
    | some r =>
      obtain ⟨fr1, H1⟩ := r
      simp only [hs] at h ⊢
      exact opsA_app l1 l2 h

theorem apts_run {R : Run} : ∀ (l : List Op1) {fr fr' : List AV} {H H' : Heap}, (∀ o ∈ l, o = op0 ∨ ∃ x y, o = ⟨none, none, .apt x y⟩) → opsA R l fr H = some (fr', H') →
    fr' = fr ∧ H' = H ∧ ∀ o ∈ l, ∃ x y, o = ⟨none, none, .apt x y⟩ ∧ apartV (x.ev fr) (y.ev fr) = true
  | [], fr, fr', H, H', _, h => by
    simp only [opsA, Option.some.injEq, Prod.mk.injEq] at h
    exact ⟨h.1.symm, h.2.symm, fun o ho => by simp at ho⟩
  | o :: l, fr, fr', H, H', ha, h => by
    simp only [opsA] at h
    rcases ha o (by simp) with rfl | ⟨x, y, rfl⟩
    · simp [stepA, op0, wantedA, insA] at h
    · by_cases hv : apartV (x.ev fr) (y.ev fr) = true
      · have hs : stepA R ⟨none, none, .apt x y⟩ fr H = some (fr, H) := by simp [stepA, wantedA, insA, hv, putA]
        rw [hs] at h
        obtain ⟨h1, h2, h3⟩ := apts_run l (fun o ho => ha o (List.mem_cons_of_mem _ ho)) h
        refine ⟨h1, h2, fun o ho => ?_⟩
        rcases List.mem_cons.1 ho with rfl | ho
        · exact ⟨x, y, rfl, hv⟩
        · exact h3 o ho
      · have hs : stepA R ⟨none, none, .apt x y⟩ fr H = none := by simp [stepA, wantedA, insA, hv]
        rw [hs] at h; cases h

theorem chkP_form (is : List Op1) (i j : Nat) : chkP is i j = op0 ∨ ∃ x y, chkP is i j = ⟨none, none, .apt x y⟩ := by
  unfold chkP
  split
  · exact .inr ⟨_, _, rfl⟩
  · exact .inl rfl

theorem chks_run {R : Run} {ops : Array Oper} {is : List Op1} {fr fr' : List AV} {H H' : Heap} (h : opsA R (is ++ chks ops is) fr H = some (fr', H')) :
    opsA R is fr H = some (fr', H') ∧ ∀ j i, j < is.length → i < j → (((befA [] ops.toList).getD j 0).testBit i || apartA (is.getD i op0) (is.getD j op0) || apartB is i j) = false → ∃ x y, chkP is i j = ⟨none, none, .apt x y⟩ ∧ apartV (x.ev fr') (y.ev fr') = true := by
  obtain ⟨fr1, H1, h1, h2⟩ := opsA_app _ _ h
  obtain ⟨rfl, rfl, h3⟩ := apts_run _ (fun o ho => by
    simp only [chks, List.mem_flatMap, List.mem_map] at ho
    obtain ⟨j, _, i, _, rfl⟩ := ho
    exact chkP_form is i j) h2
  refine ⟨h1, fun j i hj hi hb => h3 _ ?_⟩
  simp only [chks, List.mem_flatMap, List.mem_map, List.mem_filter, List.mem_range]
  exact ⟨j, hj, i, ⟨hi, by rw [hb]; rfl⟩, rfl⟩

theorem apartC_spec {md : Nat → Nat} {ops : Array Oper} {F : Nat → List AV} {fr' : List AV} {i j : Nat} {x y : Oper} (hij : i < j) (hx : ops[i]? = some x) (hy : ops[j]? = some y) (h : apartC (compOps P md ops) i j = true)
    (h1 : ∀ t, i < j → ((compOps P md ops).drop i).all (fun o => o.dst != some t) = true → fr'.getD t .undef = (F i).getD t .undef) (h2 : ∀ t, ((compOps P md ops).drop j).all (fun o => o.dst != some t) = true → fr'.getD t .undef = (F j).getD t .undef)
    (hc : ∃ a b, chkP (compOps P md ops) i j = ⟨none, none, .apt a b⟩ ∧ apartV (a.ev fr') (b.ev fr') = true) :
    apartR (comp1 P md ops x) (comp1 P md ops y) = true ∧ (memK (comp1 P md ops x).ins * memK (comp1 P md ops y).ins < 2 ∨ ApB P md ops i j ∨ ApC P md ops F i j) := by
  unfold apartC at h
  unfold chkP at hc
  rw [comp_getD hx, comp_getD hy] at h hc
  rw [Bool.and_eq_true] at h
  obtain ⟨ha, hb⟩ := h
  refine ⟨ha, .inr (.inr ?_)⟩
  split at hb
  · rename_i n t m q v e1 e2
    rw [Bool.and_eq_true] at hb
    rw [e1, e2] at hc
    obtain ⟨a, b, he, hv⟩ := hc
    injection he with _ _ he
    injection he with ea eb
    subst ea eb
    simp only [Opd.ev] at hv
    rw [h1 t hij hb.1, h2 q hb.2] at hv
    exact ⟨x, y, n, t, m, q, v, hx, e1, hy, e2, hv⟩
  · cases hb

/-- A region whose order is open. -/
theorem draw_sound {R : Run} (RS : CallSound P W0 R) {md : Nat → Nat} {ops : Array Oper} {fr fr' : List AV} {H' : Heap} {a : Act} {Q : Exit → Act → World → Prop} {id : Nat} (hm : P.follows .mixedOrders = true)
    (hok : okDraw ops (compOps P md ops) = true) (hF : FR W0 G fr a.tmps) (hR : Rel W0 G H w) (hd : a.defers = []) (h : opsA R (compOps P md ops ++ chks ops (compOps P md ops)) fr H = some (fr', H'))
    (hQ : ∀ a w' G', FR W0 G' fr' a.tmps → Rel W0 G' H' w' → Ext G H w G' w' → Gr G' H H' → a.defers = [] → Q .normal a w') : (Code.region id ops true).wp P Q a w := by
  have hlen : (compOps P md ops).length = ops.size := by simp [compOps]
  obtain ⟨h, hchk⟩ := chks_run h
  obtain ⟨F, Hp, V, h1, h2, h3, h4, h5⟩ := trace _ _ _ _ _ h
  rw [hlen] at h3 h4
  have hFk : ∀ i t, i ≤ ops.size → ((compOps P md ops).drop i).all (fun o => o.dst != some t) = true → fr'.getD t .undef = (F i).getD t .undef := by
    intro i t hi hall
    rw [← h3]
    have key : ∀ d, i + d ≤ ops.size → (F (i + d)).getD t .undef = (F i).getD t .undef := by
      intro d
      induction d with
      | zero => intro _; rfl
      | succ d ih =>
        intro hd
        have hlt : i + d < (compOps P md ops).length := by rw [hlen]; omega
        have hget : (compOps P md ops)[i + d]? = some (compOps P md ops)[i + d] := by simp [hlt]
        rw [show i + (d + 1) = i + d + 1 by omega, (h5 _ _ hget).2.1, putA_get, ← ih (by omega), if_neg]
        rintro ⟨he, _⟩
        rw [List.all_eq_true] at hall
        have := hall (compOps P md ops)[i + d] (by rw [List.mem_iff_getElem?]; exact ⟨d, by rw [List.getElem?_drop]; exact hget⟩)
        rw [he] at this; simp at this
    have := key (ops.size - i) (by omega)
    rwa [show i + (ops.size - i) = ops.size by omega] at this
  have g : Reg P W0 R md ops fr H G w F Hp V := by
    refine ⟨RS, h1, h2, fun k o ho => ?_, trace_worlds RS h1 h2 (fun k o hk => (h5 k o hk).1) hF hR, fun j o ho e he hb => ?_, fun i j x y d hx hy hij hxd => ?_, fun i j x y hij hx hy => ?_⟩
    · have := h5 k _ (comp_get ho)
      rw [comp1_dst] at this
      exact this
    · exact (okDraw_get hok (by rw [hlen]; exact lt_of_get ho)).1 o ho e he hb
    · rcases Nat.lt_or_ge i j with hl | hl
      · have := ((okDraw_get hok (j := j) (by rw [hlen]; exact lt_of_get hy)).2 i hl).1
        rw [comp_getD hx, comp_getD hy] at this
        have := nedst_spec this (d := d) (by rw [comp1_dst]; exact hxd)
        rwa [comp1_dst] at this
      · have hl' : j < i := by omega
        have := ((okDraw_get hok (j := i) (by rw [hlen]; exact lt_of_get hx)).2 j hl').1
        rw [comp_getD hx, comp_getD hy] at this
        intro hy'
        have := nedst_spec this (d := d) (by rw [comp1_dst]; exact hy')
        rw [comp1_dst] at this
        exact this hxd
    · have := ((okDraw_get hok (j := j) (by rw [hlen]; exact lt_of_get hy)).2 i hij).2
      rcases Bool.eq_false_or_eq_true (((befA [] ops.toList).getD j 0).testBit i || apartA ((compOps P md ops).getD i op0) ((compOps P md ops).getD j op0) || apartB (compOps P md ops) i j) with hb | hb
      · simp only [Bool.or_eq_true, or_assoc] at hb
        rcases hb with h | h | h
        · exact .inl (befA_spec ops.toList [] (fun k => by simp) (fun k i h => by simp at h) j i h)
        · rw [comp_getD hx, comp_getD hy] at h
          exact .inr (apartA_spec h)
        · exact .inr (apartB_spec hx hy h)
      · have hc : apartC (compOps P md ops) i j = true := by
          simp only [Bool.or_eq_false_iff] at hb
          rcases this with h | h | h | h
          · rw [h] at hb; cases hb.1.1
          · rw [h] at hb; cases hb.1.2
          · rw [h] at hb; cases hb.2
          · exact h
        exact .inr (apartC_spec hij hx hy hc (fun t hi' ha => hFk i t (Nat.le_of_lt (lt_of_get hx)) ha) (fun t ha => hFk j t (Nat.le_of_lt (lt_of_get hy)) ha) (hchk j i (by rw [hlen]; exact lt_of_get hy) hij hb))
  refine wp_region_any hm ?_
  obtain ⟨e, e1, e2, e3, e4⟩ := next_wr P md ops 0 (Nat.zero_le _)
  have hpre := g.pre' e1 e2 e3
  rw [h2] at hpre
  have hnone : ∀ k, (Array.replicate ops.size false).getD k false = true → False := by
    intro k hk
    rw [Array.getD_eq_getD_getElem?, Array.getElem?_replicate] at hk
    split at hk <;> simp at hk
  have hR' : Rel W0 G (Hp e) w := by
    obtain ⟨l, hl⟩ := hpre
    rw [hl]
    exact { hR with dom := fun id v b S hx => by have := hR.dom _ _ _ _ hx; simp; omega, obj := fun id v b S hx => by obtain ⟨o, cs, cr, t, k1, k⟩ := hR.obj _ _ _ _ hx; exact ⟨o, cs, cr, t, by rw [List.getElem?_append_left (by have := hR.dom _ _ _ _ hx; omega)]; exact k1, k⟩ }
  refine g.any (fun a' w' G' q1 q2 q3 q4 q5 => hQ a' w' G' (by rw [h3] at q1; exact q1) (by rw [h4] at q2; exact q2) q3 (by rw [h4] at q4; exact q4) q5) ops.size _ a w.drew G e (by simp) (by simp) (fun j hj => (hnone j hj).elim) ?_
  refine ⟨e2, fun k h1 h2 => by have := e3 k (Nat.zero_le _) h1; omega, fun h => ⟨e4 h, hnone e⟩, hF.1, fun t ht => ?_, hR'.drew, fun id => ?_, Ext.drew _ _ _, hd⟩
  · rw [cur_none fun k _ hk => (hnone k hk).elim]
    exact hF.2 t ht
  · constructor
    · rintro ⟨⟨v, b, S⟩, hx⟩
      exact .inl ⟨hR.dom _ _ _ _ hx, _, hx⟩
    · rintro (⟨_, h⟩ | ⟨k, _, hk, _⟩)
      · exact h
      · exact (hnone k hk).elim

/-- A region in its own order. -/
theorem list_sound {R : Run} (RS : CallSound P W0 R) {md : Nat → Nat} {ops : Array Oper} {Q : Exit → Act → World → Prop} : ∀ (n k : Nat) {G : Gh} {H : Heap} {w : World} {fr fr' : List AV} {H' : Heap} {a : Act}, k + n = ops.size →
    FR W0 G fr a.tmps → Rel W0 G H w → a.defers = [] → opsA R ((compOps P md ops).drop k) fr H = some (fr', H') →
    (∀ a w' G', FR W0 G' fr' a.tmps → Rel W0 G' H' w' → Ext G H w G' w' → Gr G' H H' → a.defers = [] → Q .normal a w') → wpOps P ops Q (List.range' k n) a w
  | 0, k, G, H, w, fr, fr', H', a, hk, hF, hR, hd, h, hQ => by
    have : (compOps P md ops).drop k = [] := List.drop_eq_nil_of_le (by simp [compOps]; omega)
    rw [this] at h
    simp only [opsA, Option.some.injEq, Prod.mk.injEq] at h
    obtain ⟨rfl, rfl⟩ := h
    exact hQ a w G hF hR (Ext.refl _ _ _) (Gr.same rfl) hd
  | n + 1, k, G, H, w, fr, fr', H', a, hk, hF, hR, hd, h, hQ => by
    have ho : ops[k]? = some ops[k] := by simp
    have hdr : (compOps P md ops).drop k = comp1 P md ops ops[k] :: (compOps P md ops).drop (k + 1) := by
      have hl : k < (compOps P md ops).length := by simp [compOps]; omega
      rw [List.drop_eq_getElem_cons hl]
      congr 1
      have := comp_get (P := P) (md := md) ho
      rw [List.getElem?_eq_getElem hl] at this
      exact Option.some.inj this
    rw [hdr] at h
    simp only [opsA] at h
    cases hs : stepA R (comp1 P md ops ops[k]) fr H with
    | none => simp [hs] at h
    | some r =>
      obtain ⟨fr1, H1⟩ := r
      simp only [hs] at h
      rw [List.range'_succ, wpOps_cons]
      refine step_sound RS ho hF hR hs fun v c G' w' q1 q2 q3 q4 q5 => ?_
      refine list_sound RS n (k + 1) (by omega) (by rw [q1]; exact (hF.mono q4.le).put _ q2) q3 (by rw [put_defers]; exact hd) h fun a' w'' G'' r1 r2 r3 r4 r5 => ?_
      exact hQ a' w'' G'' r1 r2 (q4.trans q5.len r3) (q5.trans r3.le r4) r5

theorem region_sound {R : Run} (RS : CallSound P W0 R) {md : Nat → Nat} {ops : Array Oper} {fr fr' : List AV} {H' : Heap} {a : Act} {Q : Exit → Act → World → Prop} {id : Nat} {draw : Bool}
    {cs : List Op1} (hok : draw = true → okDraw ops (compOps P md ops) = true ∧ P.follows .mixedOrders = true ∧ cs = chks ops (compOps P md ops)) (hno : draw = false → cs = []) (hF : FR W0 G fr a.tmps) (hR : Rel W0 G H w) (hd : a.defers = []) (h : opsA R (compOps P md ops ++ cs) fr H = some (fr', H'))
    (hQ : ∀ a w' G', FR W0 G' fr' a.tmps → Rel W0 G' H' w' → Ext G H w G' w' → Gr G' H H' → a.defers = [] → Q .normal a w') : (Code.region id ops draw).wp P Q a w := by
  cases draw with
  | true => exact draw_sound RS (hok rfl).2.1 (hok rfl).1 hF hR hd (by rw [← (hok rfl).2.2]; exact h) hQ
  | false =>
    rw [hno rfl, List.append_nil] at h
    refine wp_region ?_
    rw [List.range_eq_range']
    exact list_sound RS ops.size 0 (by omega) hF hR hd (by simpa using h) hQ

def exOf : Ex → Exit
  | .n => .normal
  | .x id => .exit id
  | .r => .ret

/-- What code comes to. -/
def Ends (W0 : World) (G : Gh) (H : Heap) (w : World) (ex : Ex) (fr' : List AV) (H' : Heap) (Q : Exit → Act → World → Prop) : Prop :=
  ∀ a' w' G', FR W0 G' fr' (Act.tmps a') → Rel W0 G' H' w' → Ext G H w G' w' → Gr G' H H' → Act.defers a' = [] → Q (exOf ex) a' w'

theorem FR.keep {fr : List AV} {tmps : Array Value} (h : FR W0 G fr tmps) (live : List Bool) : FR W0 G (keepA live fr) tmps := by
  have key : ∀ (live : List Bool) (fr : List AV), (keepA live fr).length = fr.length ∧ ∀ i, (keepA live fr).getD i .undef = fr.getD i .undef ∨ (keepA live fr).getD i .undef = .undef := by
    intro live
    induction live with
    | nil => intro fr; simp [keepA]
    | cons b bs ih =>
      intro fr
      cases fr with
      | nil => simp [keepA]
      | cons v vs =>
        refine ⟨by simp [keepA, (ih vs).1], fun i => ?_⟩
        cases i with
        | zero => cases b <;> simp [keepA]
        | succ i => simpa [keepA] using (ih vs).2 i
  obtain ⟨k1, k2⟩ := key live fr
  refine ⟨by rw [k1]; exact h.1, fun i hi => ?_⟩
  rcases k2 i with e | e
  · rw [e]; exact h.2 i (by rw [k1] at hi; exact hi)
  · rw [e]; exact .undef _

def rvSem (tmps : Array Value) : ResultVar → Sem Value
  | .tmp t => pure (tmps.getD t undef)
  | .cell a t => do loadVar t (← asAddr (tmps.getD a undef))

theorem results_eq (fn : Func) (tmps : Array Value) : results fn tmps = (do
  let vs ← fn.results.mapM (rvSem tmps)
  pure (if h : vs.size = 1 then vs[0] else .tuple vs)) := by
  have : (fun x : ResultVar => match x with | .tmp t => (pure (tmps.getD t undef) : Sem Value) | .cell a t => do loadVar t (← asAddr (tmps.getD a undef))) = rvSem tmps := by
    funext x; cases x <;> rfl
  unfold results
  congr 1

theorem res1_spec {r : ResultVar} {x : Res} (h : compRes P r = some x) {fr : List AV} {tmps : Array Value} (hF : FR W0 G fr tmps) (hR : Rel W0 G H w) {v : AV} (hv : resA H fr x = some v) :
    ∃ c, (rvSem tmps r).run P w = .ok c w ∧ VR W0 G 0 v c := by
  cases r with
  | tmp t =>
    simp only [compRes, Option.some.injEq] at h; subst h
    simp only [resA, Option.some.injEq] at hv; subst hv
    refine ⟨_, rfl, ?_⟩
    rcases Nat.lt_or_ge t fr.length with hl | hl
    · exact hF.2 t hl
    · rw [List.getD_eq_getElem?_getD, List.getElem?_eq_none hl]; exact .undef _
  | cell a t =>
    have hp : VR W0 G 0 (fr.getD a .undef) (tmps.getD a Go.undef) := by
      rcases Nat.lt_or_ge a fr.length with hl | hl
      · exact hF.2 a hl
      · rw [List.getD_eq_getElem?_getD, List.getElem?_eq_none hl]; exact .undef _
    have hload : ∀ {q : AV} {c : Value} {sz : Option Nat}, VR W0 G 0 q c → loadA H sz q = some v → ((sz = none ∧ isStruct P t = some false) ∨ (∃ s, sz = some s ∧ isStruct P t = some true ∧ sizeA P t = some s)) →
        ∃ u, ((do loadVar t (← asAddr c) : Sem Value).run P w) = .ok u w ∧ VR W0 G 0 v u := by
      intro q c sz hq hl ht
      obtain ⟨u, h1, h2⟩ := load_spec hR hq hl ht
      refine ⟨u, ?_, h2⟩
      have : ∃ a, c = .pointer (some a) := by
        have : ∃ n cs, cellsAt H q n = some cs := by
          unfold loadA at hl
          split at hl
          · split at hl
            · rename_i hc; exact ⟨_, _, hc⟩
            · cases hl
          · rename_i n
            cases hc : cellsAt H q n with
            | none => simp [hc] at hl
            | some cs => exact ⟨_, _, hc⟩
        obtain ⟨n, cs, hc⟩ := this
        obtain ⟨a, _, rfl, _⟩ := cellsAt_spec hR hq hc
        exact ⟨a, rfl⟩
      obtain ⟨a, rfl⟩ := this
      simpa [Instr.loadAt, Instr.sureAddr, asAddr, Sem.run_bind] using h1
    simp only [compRes] at h
    split at h
    · rename_i s h1 h2
      cases h
      exact hload hp (show loadA H (some s) _ = some v from hv) (.inr ⟨s, rfl, h1, h2⟩)
    · rename_i h1
      cases h
      exact hload hp (show loadA H none _ = some v from hv) (.inl ⟨rfl, h1⟩)
    · cases h

theorem resL_spec {fr : List AV} {tmps : Array Value} (hF : FR W0 G fr tmps) (hR : Rel W0 G H w) : ∀ {l : List ResultVar} {rs : List Res} {vs : List AV}, l.mapM (compRes P) = some rs → rs.mapM (resA H fr) = some vs →
    ∃ cs, (l.mapM (rvSem tmps)).run P w = .ok cs w ∧ VL W0 G 0 vs cs ∧ rs.length = vs.length
  | [], rs, vs, h, hv => by
    simp at h; subst h
    simp at hv; subst hv
    exact ⟨[], rfl, VL.nil, rfl⟩
  | r :: l, rs, vs, h, hv => by
    simp only [List.mapM_cons, Option.bind_eq_bind, Option.bind_eq_some_iff, Option.pure_def, Option.some.injEq] at h
    obtain ⟨x, hx, xs, hxs, rfl⟩ := h
    simp only [List.mapM_cons, Option.bind_eq_bind, Option.bind_eq_some_iff, Option.pure_def, Option.some.injEq] at hv
    obtain ⟨v, hv1, vs', hvs, rfl⟩ := hv
    obtain ⟨c, c1, c2⟩ := res1_spec hx hF hR hv1
    obtain ⟨cs, d1, d2, d3⟩ := resL_spec hF hR hxs hvs
    refine ⟨c :: cs, ?_, VL.cons c2 d2, by simp [d3]⟩
    simp only [List.mapM_cons, Sem.run_bind, c1, Result.andThen_ok, d1]
    rfl

theorem results_sound {fn : Func} {rs : List Res} (h : fn.results.toList.mapM (compRes P) = some rs) {fr : List AV} {tmps : Array Value} (hF : FR W0 G fr tmps) (hR : Rel W0 G H w) {v : AV} (hv : resultA rs fr H = some v) :
    ∃ c, (results fn tmps).run P w = .ok c w ∧ VR W0 G 0 v c := by
  have hgen : ∀ vs, rs.mapM (resA H fr) = some vs → ∃ cs, ((fn.results.mapM (rvSem tmps)).run P w = .ok (List.toArray cs) w) ∧ VL W0 G 0 vs cs ∧ rs.length = vs.length := by
    intro vs hvs
    obtain ⟨cs, d1, d2⟩ := resL_spec hF hR h hvs
    refine ⟨cs, ?_, d2⟩
    rw [Array.mapM_eq_mapM_toList]
    simp only [map_eq_pure_bind, Sem.run_bind, d1, Result.andThen_ok]
    rfl
  unfold resultA at hv
  split at hv
  · rename_i r
    obtain ⟨cs, c1, c2, _⟩ := hgen [v] (by simp [hv])
    match cs, c2 with
    | [c], c2 =>
      refine ⟨c, ?_, c2.head.1⟩
      rw [results_eq]
      simp only [Sem.run_bind, c1, Result.andThen_ok]
      rfl
    | [], c2 => simpa using c2.1
    | _ :: _ :: _, c2 => simpa using c2.1
  · rename_i hne
    cases hvs : rs.mapM (resA H fr) with
    | none => simp [hvs] at hv
    | some vs =>
      simp [hvs] at hv; subst hv
      obtain ⟨cs, c1, c2, c3⟩ := hgen vs hvs
      refine ⟨_, ?_, VR.tupA c2⟩
      have hl : cs.length ≠ 1 := by
        intro e
        have : rs.length = 1 := by rw [c3, c2.1]; exact e
        match rs, this with
        | [r], _ => exact hne r rfl
      rw [results_eq]
      simp only [Sem.run_bind, c1, Result.andThen_ok]
      simp [hl]
end

/-! ### Code -/
section
variable {P : Program} {W0 : World} [GlobOk W0] {E : Nat → Option XF} {Y : Run}

def CodeOk (P : Program) (W0 : World) (E : Nat → Option XF) (Y : Run) (k : Nat) : Prop :=
  ∀ md c x, Comp P md c x → ∀ G H w fr ex fr' H' a Q, codeX E Y k x fr H = some (ex, fr', H') → FR W0 G fr (Act.tmps a) → Rel W0 G H w → a.defers = [] → Ends W0 G H w ex fr' H' Q → c.wp P Q a w

def LoopOk (P : Program) (W0 : World) (E : Nat → Option XF) (Y : Run) (k : Nat) : Prop :=
  ∀ md c x live, Comp P md c x → ∀ G H w fr ex fr' H' a Q, codeX E Y k (.loop live x) fr H = some (ex, fr', H') → FR W0 G fr (Act.tmps a) → Rel W0 G H w → a.defers = [] → Ends W0 G H w ex fr' H' Q → Code.rounds P c Q k a w

theorem opsA_still {R : Run} : ∀ {ops : List Op1} {fr fr' : List AV} {H H' : Heap}, ops.all (fun o => stillI o.ins) = true → opsA R ops fr H = some (fr', H') → H' = H
  | [], fr, fr', H, H', _, h => by simp only [opsA, Option.some.injEq, Prod.mk.injEq] at h; exact h.2.symm
  | o :: ops, fr, fr', H, H', hs, h => by
    simp only [List.all_cons, Bool.and_eq_true] at hs
    simp only [opsA] at h
    cases hst : stepA R o fr H with
    | none => simp [hst] at h
    | some q =>
      obtain ⟨fr1, H1⟩ := q
      rw [hst] at h
      have h1 : H1 = H := by
        unfold stepA at hst
        split at hst
        · cases hi : insA R o.ins fr H with
          | none => simp [hi] at hst
          | some q =>
            obtain ⟨v, H2⟩ := q
            simp [hi] at hst
            obtain ⟨_, rfl⟩ := hst
            have h2 := hs.1
            cases ho : o.ins <;> rw [ho] at hi h2 <;> simp only [stillI] at h2 <;> first | cases h2 | skip
            all_goals simp only [insA] at hi
            all_goals first | exact (map_pair hi).2 | (split at hi <;> first | exact (map_pair hi).2 | (simp at hi; exact hi.2.symm) | cases hi | (split at hi <;> first | exact (map_pair hi).2 | cases hi)) | (simp at hi; exact hi.2.symm) | cases hi
        · simp at hst; exact hst.2.symm
        · cases hst
      rw [opsA_still hs.2 h, h1]

theorem codeX_still {E : Nat → Option XF} {Y : Run} : ∀ (k : Nat) {x : XC} {fr fr' : List AV} {H H' : Heap} {ex : Ex}, stillC x = true → codeX E Y k x fr H = some (ex, fr', H') → H' = H
  | 0, x, fr, fr', H, H', ex, _, h => by simp [codeX] at h
  | k + 1, x, fr, fr', H, H', ex, hs, h => by
    cases x with
    | skip => simp only [codeX, Option.some.injEq, Prod.mk.injEq] at h; exact h.2.2.symm
    | exit id l => simp only [codeX, Option.some.injEq, Prod.mk.injEq] at h; exact h.2.2.symm
    | ret l => simp only [codeX, Option.some.injEq, Prod.mk.injEq] at h; exact h.2.2.symm
    | reg ops =>
      simp only [codeX] at h
      split at h
      · rename_i h1
        cases h
        exact opsA_still hs h1
      · cases h
    | seq a b =>
      simp only [stillC, Bool.and_eq_true] at hs
      simp only [codeX] at h
      split at h
      · rename_i h1
        rw [codeX_still k hs.2 h, codeX_still k hs.1 h1]
      · exact codeX_still k hs.1 h
    | cond o a b =>
      simp only [stillC, Bool.and_eq_true] at hs
      simp only [codeX] at h
      split at h
      · exact codeX_still k hs.1 h
      · exact codeX_still k hs.2 h
      · cases h
    | block id l b =>
      simp only [stillC] at hs
      simp only [codeX] at h
      split at h
      · rename_i h1; cases h; exact codeX_still k hs h1
      · rename_i h1
        split at h
        · cases h; exact codeX_still k hs h1
        · cases h; exact codeX_still k hs h1
      · exact codeX_still k hs h
    | loop l b =>
      have hs' := hs
      simp only [stillC] at hs
      simp only [codeX] at h
      split at h
      · rename_i h1
        rw [codeX_still k hs' h, codeX_still k hs h1]
      · exact codeX_still k hs h

theorem run_sound (hE : Known P E) (hY : CallSound P W0 Y) {k : Nat} (hk : CodeOk P W0 E Y k) : CallSound P W0 (callF E Y k) := by
  intro f args H v H' h
  unfold callF runX at h
  cases hf : E f with
  | none => simp only [hf] at h; exact hY _ _ _ _ _ h
  | some F =>
    simp only [hf] at h
    obtain ⟨fn, c, md, rs, h1, h2, h3, h4, h5, h6, h7⟩ := hE.2 f F hf
    refine ⟨⟨⟨fn, h1, h2, by simp [h3]⟩, fun hst => ?_⟩, fun G w cargs hR hargs => ?_⟩
    · unfold enterX at h
      split at h
      · split at h
        · cases h
        · rename_i hc
          cases hr : resultA F.res _ _ with
          | none => rw [hr] at h; cases h
          | some v' =>
            rw [hr] at h
            cases h
            exact codeX_still k (hE.1 f F hf hst) hc
        · cases h
      · cases h
    unfold enterX at h
    split at h
    · rename_i hnp
      have hfr : FR W0 G (args ++ List.replicate (F.nt - F.np) .undef) (cargs.toArray ++ Array.replicate (fn.ntmps - cargs.toArray.size) undef) := by
        have hsz := hargs.1
        refine ⟨by simp; omega, fun i hi => ?_⟩
        simp only [List.length_append, List.length_replicate] at hi
        simp only [List.getD_eq_getElem?_getD, Array.getD_eq_getD_getElem?]
        rcases Nat.lt_or_ge i args.length with hl | hl
        · rw [List.getElem?_append_left hl, Array.getElem?_append_left (by simp; omega)]
          have := hargs.2 i hl
          simpa [List.getD_eq_getElem?_getD] using this
        · rw [List.getElem?_append_right hl, List.getElem?_replicate]
          split <;> exact .undef _
      refine calls_of_wp h1 h3 ?_
      have hgo : ∀ ex fr H1, codeX E Y k F.body (args ++ List.replicate (F.nt - F.np) .undef) H = some (ex, fr, H1) → (ex = .n ∨ ex = .r) → resultA F.res fr H1 = some v → H1 = H' → c.wp P (bodyPost P fn (Post W0 G H w v H')) { tmps := cargs.toArray ++ Array.replicate (fn.ntmps - cargs.toArray.size) undef, defers := [] } w := by
        intro ex fr H1 hc hex hres heq
        subst heq
        refine hk md c F.body h4 G H w _ ex fr H1 _ _ hc hfr hR rfl fun a' w' G' q1 q2 q3 q4 q5 => ?_
        obtain ⟨u, u1, u2⟩ := results_sound (by rw [h6]; exact h5) q1 q2 hres
        rcases hex with rfl | rfl <;> exact ⟨q5, u, u1, u, G', rfl, u2, q2, q3, q4⟩
      split at h
      · cases h
      · rename_i ex fr H1 hne hc
        have hex : ex = .n ∨ ex = .r := by
          cases ex with
          | n => exact .inl rfl
          | r => exact .inr rfl
          | x id => exact (hne id rfl).elim
        cases hr : resultA F.res fr H1 with
        | none => simp [hr] at h
        | some v' =>
          simp [hr] at h
          obtain ⟨rfl, rfl⟩ := h
          exact hgo _ _ _ hc hex hr rfl
      · cases h
    · cases h

theorem code_sound (hE : Known P E) (hY : CallSound P W0 Y) : ∀ k, CodeOk P W0 E Y k ∧ LoopOk P W0 E Y k
  | 0 => ⟨fun md c x hc G H w fr ex fr' H' a Q h => by simp [codeX] at h, fun md c x live hc G H w fr ex fr' H' a Q h => by simp [codeX] at h⟩
  | k + 1 => by
    obtain ⟨ihC, ihL⟩ := code_sound hE hY k
    have RS : CallSound P W0 (runX E Y (codeX E Y k)) := run_sound hE hY ihC
    have hL : LoopOk P W0 E Y (k + 1) := by
      intro md c x live hc G H w fr ex fr' H' a Q h hF hR hd hQ
      simp only [codeX] at h
      rw [rounds_succ]
      split at h
      · rename_i fr1 H1 h1
        refine ihC md c x hc G H w _ _ _ _ _ _ h1 (hF.keep live) hR hd fun a' w' G' q1 q2 q3 q4 q5 => ?_
        exact ihL md c x live hc G' H1 w' _ _ _ _ _ _ h q1 q2 q5 fun a'' w'' G'' r1 r2 r3 r4 r5 => hQ a'' w'' G'' r1 r2 (q3.trans q4.len r3) (q4.trans r3.le r4) r5
      · rename_i hne
        refine ihC md c x hc G H w _ _ _ _ _ _ h (hF.keep live) hR hd fun a' w' G' q1 q2 q3 q4 q5 => ?_
        have := hQ a' w' G' q1 q2 q3 q4 q5
        cases ex with
        | n => exact (hne _ _ h).elim
        | x id => exact this
        | r => exact this
    refine ⟨?_, hL⟩
    intro md c x hc G H w fr ex fr' H' a Q h hF hR hd hQ
    cases hc with
    | skip =>
      simp only [codeX, Option.some.injEq, Prod.mk.injEq] at h
      obtain ⟨rfl, rfl, rfl⟩ := h
      exact wp_skip (hQ a w G hF hR (Ext.refl _ _ _) (Gr.same rfl) hd)
    | reg id ops draw cs hok hno =>
      simp only [codeX] at h
      split at h
      · rename_i fr1 H1 h1
        cases h
        exact region_sound RS hok hno hF hR hd h1 hQ
      · cases h
    | seq ha hb =>
      simp only [codeX] at h
      refine wp_seq ?_
      split at h
      · rename_i fr1 H1 h1
        refine ihC md _ _ ha G H w _ _ _ _ _ _ h1 hF hR hd fun a' w' G' q1 q2 q3 q4 q5 => ?_
        exact ihC md _ _ hb G' H1 w' _ _ _ _ _ _ h q1 q2 q5 fun a'' w'' G'' r1 r2 r3 r4 r5 => hQ a'' w'' G'' r1 r2 (q3.trans q4.len r3) (q4.trans r3.le r4) r5
      · rename_i hne
        refine ihC md _ _ ha G H w _ _ _ _ _ _ h hF hR hd fun a' w' G' q1 q2 q3 q4 q5 => ?_
        have := hQ a' w' G' q1 q2 q3 q4 q5
        cases ex with
        | n => exact (hne _ _ h).elim
        | x id => exact this
        | r => exact this
    | cond c ha hb =>
      simp only [codeX] at h
      have hev := hF.ev (a := a) c
      split at h
      · rename_i hb'
        rw [hb'] at hev
        cases hev' : a.eval c <;> rw [hev'] at hev <;> cases hev
        exact wp_cond_true hev' (ihC md _ _ ha G H w _ _ _ _ _ _ h hF hR hd hQ)
      · rename_i hb'
        rw [hb'] at hev
        cases hev' : a.eval c <;> rw [hev'] at hev <;> cases hev
        exact wp_cond_false hev' (ihC md _ _ hb G H w _ _ _ _ _ _ h hF hR hd hQ)
      · cases h
    | block id live ha =>
      simp only [codeX] at h
      refine wp_block ?_
      split at h
      · rename_i fr1 H1 h1
        cases h
        refine ihC md _ _ ha G H w _ _ _ _ _ _ h1 hF hR hd fun a' w' G' q1 q2 q3 q4 q5 => ?_
        exact hQ a' w' G' (q1.keep live) q2 q3 q4 q5
      · rename_i j fr1 H1 h1
        refine ihC md _ _ ha G H w _ _ _ _ _ _ h1 hF hR hd fun a' w' G' q1 q2 q3 q4 q5 => ?_
        split at h
        · rename_i e
          cases h
          subst e
          show (if _ then _ else _)
          rw [if_pos rfl]
          exact hQ a' w' G' (q1.keep live) q2 q3 q4 q5
        · rename_i e
          cases h
          show (if _ then _ else _)
          rw [if_neg e]
          exact hQ a' w' G' q1 q2 q3 q4 q5
      · rename_i hne1 hne
        refine ihC md _ _ ha G H w _ _ _ _ _ _ h hF hR hd fun a' w' G' q1 q2 q3 q4 q5 => ?_
        have := hQ a' w' G' q1 q2 q3 q4 q5
        cases ex with
        | n => exact (hne1 _ _ h).elim
        | x id => exact (hne _ _ _ h).elim
        | r => exact this
    | loop live ha => exact wp_loop_rounds (k + 1) (hL md _ _ live ha G H w fr ex fr' H' a Q h hF hR hd hQ)
    | exit id live =>
      simp only [codeX, Option.some.injEq, Prod.mk.injEq] at h
      obtain ⟨rfl, rfl, rfl⟩ := h
      exact wp_exit (hQ a w G (hF.keep live) hR (Ext.refl _ _ _) (Gr.same rfl) hd)
    | ret live =>
      simp only [codeX, Option.some.injEq, Prod.mk.injEq] at h
      obtain ⟨rfl, rfl, rfl⟩ := h
      exact wp_ret (hQ a w G (hF.keep live) hR (Ext.refl _ _ _) (Gr.same rfl) hd)
    | bad c =>
      simp [codeX, opsA, stepA, op0, wantedA, insA] at h

/-- What the small machine says of a call holds of the program. -/
theorem call_sound (hE : Known P E) (hY : CallSound P W0 Y) (k : Nat) : CallSound P W0 (callF E Y k) := run_sound hE hY (code_sound hE hY k).1
end
end Go.X
