import Derived.Test.YtdkgicdbjemalaaDoorX2
import Derived.Laws.Tables
/-! What each operation of the small machine says of the model's. -/
set_option linter.unusedSimpArgs false
set_option linter.unusedVariables false
set_option linter.unusedSectionVars false
namespace Go.X
open Go Go.RowKit

/-- A function that can be entered. -/
def CallOk (P : Program) (f : Nat) : Prop := ∃ fn, P.funcs[f]? = some fn ∧ (fn.name == "runtime.NumGoroutine") = false ∧ fn.body.isNone = false

def Post (W0 : World) (G : Gh) (H : Heap) (w : World) (v : AV) (H' : Heap) : Ending → World → Prop := fun e w' =>
  ∃ c G', e = .returned c ∧ VR W0 G' 0 v c ∧ Rel W0 G' H' w' ∧ Ext G H w G' w' ∧ Gr G' H H'

/-- A run of functions that is sound. -/
def CallSound (P : Program) (W0 : World) (R : Nat → List AV → Heap → Option (AV × Heap)) : Prop :=
  ∀ f args H v H', R f args H = some (v, H') → (CallOk P f ∧ (gstill f = true → H' = H)) ∧ ∀ G w cargs, Rel W0 G H w → VL W0 G 0 args cargs → Calls P f cargs.toArray w (Post W0 G H w v H')

section
variable {P : Program} {W0 : World} [GlobOk W0] {G : Gh} {H : Heap} {w : World}

theorem run_isAgg {t : TypeId} {b : Bool} (h : isStruct P t = some b) (w : World) : (isAgg t).run P w = .ok b w := by
  unfold isStruct at h
  cases hu : P.underlying t with
  | none => simp [hu] at h
  | some d =>
    unfold isAgg
    rw [Sem.run_bind, run_underlying hu w]
    cases d <;> simp_all

theorem run_sizeOf' {t : TypeId} {s : Nat} (h : sizeA P t = some s) (w : World) : (sizeOf t).run P w = .ok s w := by
  unfold sizeA at h
  cases hi : P.info? t with
  | none => simp [hi] at h
  | some i => simp [hi] at h; subst h; simp [sizeOf, typeInfo, hi]

theorem zeroA_spec {t : TypeId} {z : List AV} (h : zeroA P t = some z) : ∃ i zv, P.info? t = some i ∧ i.zero = some zv ∧ ∀ l, VL W0 G l z zv.cells.toList := by
  unfold zeroA at h
  cases hi : P.info? t with
  | none => simp [hi] at h
  | some i =>
    cases hz : i.zero with
    | none => simp [hi, hz] at h
    | some zv =>
      simp only [hi, hz, Option.bind_some] at h
      split at h
      · cases h
      · rename_i hu
        cases h
        exact ⟨i, zv, rfl, hz, fun l => cellsOf_spec (constA_spec l zv) (by simpa using hu)⟩

theorem VL.ofRange {l n : Nat} {cs : List AV} {us : List Value} (h : VL W0 G l cs us) (hn : cs.length = n) : VL W0 G l cs ((List.range n).map fun j => us.getD j Go.undef) := by
  refine ⟨by simp [hn], fun j hj => ?_⟩
  have hj' : j < n := by omega
  have := h.2 j hj
  simp only [List.getD_eq_getElem?_getD] at this ⊢
  rw [List.getElem?_map, List.getElem?_range hj']
  simpa using this

theorem VR.aggA {l : Nat} {vs : List AV} {cs : List Value} (h : VL W0 G l vs cs) : VR W0 G l (.agg vs) (.agg cs.toArray) := .agg vs cs h.1 h.2
theorem VR.tupA {l : Nat} {vs : List AV} {cs : List Value} (h : VL W0 G l vs cs) : VR W0 G l (.tup vs) (.tuple cs.toArray) := .tup vs cs h.1 h.2

/-- A load. -/
theorem load_spec (hR : Rel W0 G H w) {p : AV} {c : Value} (hp : VR W0 G 0 p c) {t : TypeId} {sz : Option Nat} {v : AV} (hl : loadA H sz p = some v)
    (ht : (sz = none ∧ isStruct P t = some false) ∨ (∃ s, sz = some s ∧ isStruct P t = some true ∧ sizeA P t = some s)) :
    ∃ u, (Instr.loadAt t c).run P w = .ok u w ∧ VR W0 G 0 v u := by
  rcases ht with ⟨rfl, ht⟩ | ⟨s, rfl, ht, hs⟩
  · simp only [loadA] at hl
    split at hl
    · rename_i v' rest hc
      cases hl
      obtain ⟨a, us, rfl, hlen, hus, hcell⟩ := cellsAt_spec hR hp hc
      have h0 := hcell 0 (by omega)
      have hv := hus.2 0 (by simp)
      refine ⟨us.getD 0 Go.undef, ?_, by simpa using hv⟩
      have hadd : a.add 0 = a := rfl
      rw [hadd] at h0
      simp only [Instr.loadAt, Instr.sureAddr, Sem.run_bind, Sem.run_pure, Result.andThen_ok, loadVar, run_isAgg ht, Bool.false_eq_true, if_false, run_load, h0]
    · cases hl
  · simp only [loadA] at hl
    cases hc : cellsAt H p s with
    | none => simp [hc] at hl
    | some cs =>
      simp [hc] at hl; subst hl
      obtain ⟨a, us, rfl, hlen, hus, hcell⟩ := cellsAt_spec hR hp hc
      refine ⟨.agg ((List.range s).map fun j => us.getD j Go.undef).toArray, ?_, VR.aggA (hus.ofRange hlen)⟩
      simp only [Instr.loadAt, Instr.sureAddr, Sem.run_bind, Sem.run_pure, Result.andThen_ok, loadVar, run_isAgg ht, if_true, run_sizeOf' hs, run_loadCells w a s (fun j => us.getD j Go.undef) hcell]

theorem all_one {l : Nat} : ∀ {vs : List AV} {cs : List Value}, VL W0 G l vs cs → vs.all one = true → ∀ u ∈ cs, u.oneCell' = true
  | [], [], _, _, u, hu => by cases hu
  | [], _ :: _, h, _, _, _ => by simpa using h.1
  | _ :: _, [], h, _, _, _ => by simpa using h.1
  | v :: vs, c :: cs, h, hall, u, hu => by
    simp only [List.all_cons, Bool.and_eq_true] at hall
    rcases List.mem_cons.1 hu with rfl | hu
    · exact one_spec h.head.1 hall.1
    · exact all_one h.head.2 hall.2 u hu

theorem isU_of_one {v : AV} (h : (cellsOf v).all one = true) : isU v = false := by
  cases v <;> first | rfl | (simp [cellsOf, one] at h)

/-- A store. -/
theorem store_spec (hR : Rel W0 G H w) {p v : AV} {c u : Value} (hp : VR W0 G 0 p c) (hv : VR W0 G 0 v u) {t : TypeId} {s : Nat} {H' : Heap} (hl : storeA H s p v = some H') (hs : sizeA P t = some s) :
    ∃ G' w', (Instr.storeAt t c u).run P w = .ok () w' ∧ Rel W0 G' H' w' ∧ Ext G H w G' w' ∧ Gr G' H H' := by
  unfold storeA at hl
  split at hl
  · rename_i id ver off
    split at hl
    · rename_i o ho
      split at hl
      · rename_i hc
        obtain ⟨h1, h2, h3, h4⟩ := hc
        cases hl
        cases hp with
        | ptr _ _ _ a hp =>
          obtain ⟨v0, b, S, k1, k2, k3⟩ := hp
          obtain ⟨o', cs, cr, ty, m1, m2, m3, m4, m5, m6⟩ := hR.obj _ _ _ _ k1
          rw [ho] at m1; cases m1
          subst h1
          have hvv : o.ver = v0 := m2
          obtain rfl := k3 hvv
          have hcells := cellsOf_spec hv (isU_of_one h4)
          have hone := all_one hcells h4
          have hlen := m6.1
          have hsz : u.cells.size = s := by have := hcells.1; simp at this; omega
          have hst := run_storeCells_cells (P := P) b off u.cells.toList 0 w (fun j hj => by
              have hj' : off + j < cs.length := by simp at hj; omega
              simp [World.cell?, m4, hj', List.getElem?_append])
            (fun j hj => by simp [World.frozen?, m4]) hone
          simp only [Nat.add_zero] at hst
          have hheap := setCells_heap b u.cells.toList off w _ _ _ m4
          have hch := hR.change (id := id) (v' := v0) (cells := putAll o.cells off (cellsOf v)) (cs := putAll cs off u.cells.toList) (cr := cr) (t := ty) (w' := w.setCells b off u.cells.toList) k1 (Nat.le_refl _)
            (by rw [hheap]; congr 2; simp only [List.toList_toArray]; rw [putAll_append _ _ _ _ (by simp; omega)]) (by rw [putAll_length]; exact m5) (m6.putAll off hcells)
            (fun k hk => setCells_other b _ off w k hk) (setCells_size b _ off w) (setCells_below b m3 _ off w hR.below)
          refine ⟨_, _, ?_, ?_, hch.2, Gr.same (by simp)⟩
          · simp only [Instr.storeAt, Instr.sureAddr, Sem.run_bind, Sem.run_pure, Result.andThen_ok, storeVar, run_sizeOf' hs, hsz, ne_eq, not_true_eq_false, if_false, hst]
          · have : ({ o with cells := putAll o.cells off (cellsOf v) } : Ob) = ⟨v0, putAll o.cells off (cellsOf v)⟩ := by rw [← m2]
            rw [this]; exact hch.1
      · cases hl
    · cases hl
  · cases hl

/-! Filling in. -/
theorem fold_put (off : Nat) : ∀ (l : List Value) (k : Nat) (cs : Array Value), ((l.zipIdx k).foldl (fun cs p => cs.setIfInBounds (off + p.2) p.1) cs).toList = putAll cs.toList (off + k) l
  | [], _, _ => rfl
  | v :: l, k, cs => by
    simp only [List.zipIdx_cons, List.foldl_cons, putAll]
    rw [fold_put off l (k + 1)]
    simp [Nat.add_assoc]

theorem fillA_length : ∀ {ps : List (Nat × Nat × AV)} {cs out : List AV}, fillA cs ps = some out → out.length = cs.length
  | [], cs, out, h => by simp [fillA] at h; rw [h]
  | (off, size, v) :: ps, cs, out, h => by
    simp only [fillA] at h
    split at h
    · rw [fillA_length h, putAll_length]
    · cases h

theorem fill_spec {fr : List AV} {a : Act} (hF : FR W0 G fr a.tmps) (place : Nat → Option (Nat × Nat)) : ∀ (ps : List (Nat × Operand)) (ps' : List (Nat × Nat × Opd)) (cs out : List AV) (c : Array Value),
    partsA place ps = some ps' → fillA cs (ps'.map fun p => (p.1, p.2.1, p.2.2.ev fr)) = some out → VL W0 G 0 cs c.toList →
    ∃ out', Instr.fill place c (ps.map fun p => (p.1, a.eval p.2)) = some out' ∧ VL W0 G 0 out out'.toList
  | [], ps', cs, out, c, h, hf, hv => by
    simp [partsA] at h; subst h
    simp [fillA] at hf; subst hf
    exact ⟨c, rfl, hv⟩
  | (i, x) :: ps, ps', cs, out, c, h, hf, hv => by
    simp only [partsA, List.mapM_cons, Option.bind_eq_bind, Option.pure_def] at h
    cases hp : place i with
    | none => simp [hp] at h
    | some q =>
      obtain ⟨off, size⟩ := q
      cases hr : ps.mapM (fun p => (place p.1).map fun q => (q.1, q.2, opdA p.2)) with
      | none => simp [hp, hr] at h
      | some rest =>
        simp [hp, hr] at h; subst h
        simp only [List.map_cons, fillA] at hf
        split at hf
        · rename_i hc
          obtain ⟨h1, h2, h3⟩ := hc
          have hx := cellsOf_spec (hF.ev x) h1
          have hsz : (a.eval x).cells.size = size := by have := hx.1; simp at this; omega
          have hle : off + size ≤ c.size := by have := hv.1; simp at this; omega
          have hput := hv.putAll off hx
          have hfold : ((a.eval x).cells.zipIdx.foldl (fun cs p => cs.setIfInBounds (off + p.2) p.1) c).toList = putAll c.toList off (a.eval x).cells.toList := by
            rw [← Array.foldl_toList, Array.toList_zipIdx, fold_put off _ 0 c, Nat.add_zero]
          rw [← hfold] at hput
          obtain ⟨out', ho, hvo⟩ := fill_spec hF place ps rest _ out _ hr hf hput
          refine ⟨out', ?_, hvo⟩
          simp only [List.map_cons, Instr.fill, hp]
          rw [if_neg (by simp; omega)]
          exact ho
        · cases hf

/-! Slices. -/
theorem natOf_spec {l n : Nat} {i : AV} {c : Value} (h : VR W0 G l i c) (hn : natOf i = some n) : ∃ k z, c = .int k z ∧ 0 ≤ z ∧ z.toNat = n := by
  cases h <;> simp [natOf] at hn
  exact ⟨_, _, rfl, hn.1, hn.2⟩

theorem lenA_spec {l n : Nat} {x : AV} {c : Value} (h : VR W0 G l x c) (hn : lenA x = some n) : ∃ A cc, c = .slice A n cc ∧ n ≤ cc := by
  cases h <;> simp [lenA] at hn
  · subst hn; exact ⟨none, 0, rfl, Nat.le_refl _⟩
  · subst hn; exact ⟨_, _, rfl, by assumption⟩
  · subst hn; exact ⟨_, _, rfl, by assumption⟩

theorem idxA_spec {t e : TypeId} {esz : Nat} (ht : P.underlying t = some (.slice e)) (hs : sizeA P e = some esz) {x i v : AV} {c d : Value} (hx : VR W0 G 0 x c) (hi : VR W0 G 0 i d) (hv : idxA esz x i = some v) :
    ∃ u, (Instr.indexAt t c d).run P w = .ok u w ∧ VR W0 G 0 v u := by
  unfold idxA at hv
  cases hn : natOf i with
  | none => simp [hn] at hv
  | some j =>
    obtain ⟨k, z, rfl, hz0, hzj⟩ := natOf_spec hi hn
    simp only [hn] at hv
    cases hx with
    | imm sn cells len A cc uu hl hc h h0 r =>
      simp only at hv
      split at hv
      · rename_i hj
        cases hv
        cases A with
        | none => have := (h0 rfl).1; omega
        | some a =>
          refine ⟨.pointer (some (a.add (j * esz))), ?_, .cptr sn _ _ (fun q => uu (j * esz + q)) (by omega) (fun q hq => ?_) (fun q hq => ?_)⟩
          · have : z < (len : Int) := by omega
            simp [Instr.indexAt, asIntOf, run_underlying ht, hz0, this, run_sizeOf' hs, hzj]
          · rw [Addr.add_add]; exact h a rfl _ (by simp at hq; omega)
          · have := r (j * esz + q) (by simp at hq; omega)
            simpa [List.getD_eq_getElem?_getD, List.getElem?_drop] using this
      · cases hv
    | sl id ver e' off len cap a cc hc hcap h =>
      simp only at hv
      split at hv
      · rename_i hj
        obtain ⟨rfl, hj⟩ := hj
        cases hv
        refine ⟨.pointer (some (a.add (j * e'))), ?_, .ptr _ _ _ _ ?_⟩
        · have : z < (len : Int) := by omega
          simp [Instr.indexAt, asIntOf, run_underlying ht, hz0, this, run_sizeOf' hs, hzj]
        · obtain ⟨v0, b, S, h1, h2, h3⟩ := h
          exact ⟨v0, b, S, h1, h2, fun e => by rw [(h3 e).1 (by omega), Addr.add_off]⟩
      · cases hv
    | _ => simp at hv

theorem idxP_spec {t e : TypeId} {esz n : Nat} (ht : P.underlying t = some (.array n e)) (hs : sizeA P e = some esz) {x i v : AV} {c d : Value} (hx : VR W0 G 0 x c) (hi : VR W0 G 0 i d) (hv : idxP esz n x i = some v) :
    ∃ u, (Instr.indexAt t c d).run P w = .ok u w ∧ VR W0 G 0 v u := by
  unfold idxP at hv
  cases hn : natOf i with
  | none => simp [hn] at hv
  | some j =>
    obtain ⟨k, z, rfl, hz0, hzj⟩ := natOf_spec hi hn
    simp only [hn] at hv
    split at hv
    · rename_i hj
      have hlt : z < (n : Int) := by omega
      cases hx with
      | ptr id ver off a h =>
        cases hv
        refine ⟨.pointer (some (a.add (j * esz))), ?_, .ptr _ _ _ _ ?_⟩
        · simp [Instr.indexAt, asIntOf, run_underlying ht, Instr.sureAddr, hz0, hlt, run_sizeOf' hs, hzj]
        · obtain ⟨v0, b, S, h1, h2, h3⟩ := h
          exact ⟨v0, b, S, h1, h2, fun e => by rw [h3 e, Addr.add_off]⟩
      | cptr sn cells a uu hl h r =>
        cases hv
        refine ⟨.pointer (some (a.add (j * esz))), ?_, .cptr sn _ _ (fun q => uu (j * esz + q)) (by omega) (fun q hq => ?_) (fun q hq => ?_)⟩
        · simp [Instr.indexAt, asIntOf, run_underlying ht, Instr.sureAddr, hz0, hlt, run_sizeOf' hs, hzj]
        · rw [Addr.add_add]; exact h _ (by simp at hq; omega)
        · have := r (j * esz + q) (by simp at hq; omega)
          simpa [List.getD_eq_getElem?_getD, List.getElem?_drop] using this
      | _ => simp at hv
    · cases hv

theorem fldA_spec {t : TypeId} {fs : Array Field} {f : Field} {i s : Nat} (ht : P.underlying t = some (.struct fs)) (hf : fs[i]? = some f) (hs : sizeA P f.type = some (s + 1)) {x v : AV} {c : Value} (hx : VR W0 G 0 x c) (hv : fldA f.offset x = some v) :
    ∃ u, (Instr.fieldAt t c i).run P w = .ok u w ∧ VR W0 G 0 v u := by
  cases hx with
  | ptr id ver off a h =>
    cases hv
    refine ⟨.pointer (some (a.add f.offset)), ?_, .ptr _ _ _ _ ?_⟩
    · simp [Instr.fieldAt, run_underlying ht, hf, Instr.sureAddr, fieldPlace, run_sizeOf' hs]
    · obtain ⟨v0, b, S, h1, h2, h3⟩ := h
      exact ⟨v0, b, S, h1, h2, fun e => by rw [h3 e, Addr.add_off]⟩
  | cptr sn cells a uu hl h r =>
    cases hv
    refine ⟨.pointer (some (a.add f.offset)), ?_, .cptr sn _ _ (fun q => uu (f.offset + q)) (by omega) (fun q hq => ?_) (fun q hq => ?_)⟩
    · simp [Instr.fieldAt, run_underlying ht, hf, Instr.sureAddr, fieldPlace, run_sizeOf' hs]
    · rw [Addr.add_add]; exact h _ (by simp at hq; omega)
    · have := r (f.offset + q) (by simp at hq; omega)
      simpa [List.getD_eq_getElem?_getD, List.getElem?_drop] using this
  | _ => simp [fldA] at hv

theorem partA_spec {t : TypeId} {off : Nat} {sz : Option Nat} (ht : (sz = none ∧ isStruct P t = some false) ∨ (∃ s, sz = some s ∧ isStruct P t = some true ∧ sizeA P t = some s)) {vs : List AV} {cs : List Value} {v : AV}
    (hx : VL W0 G 0 vs cs) (hv : partA sz off (.agg vs) = some v) : ∃ u, (part t cs.toArray off).run P w = .ok u w ∧ VR W0 G 0 v u := by
  rcases ht with ⟨rfl, ht⟩ | ⟨s, rfl, ht, hs⟩
  · simp only [partA] at hv
    have hlt : off < vs.length := by
      rcases Nat.lt_or_ge off vs.length with h | h
      · exact h
      · rw [List.getElem?_eq_none h] at hv; cases hv
    have hlt' : off < cs.length := by rw [← hx.1]; exact hlt
    have := hx.2 off hlt
    rw [List.getElem?_eq_getElem hlt] at hv; cases hv
    refine ⟨cs[off], ?_, by simpa [List.getD_eq_getElem?_getD, hlt, hlt'] using this⟩
    simp [part, run_isAgg ht, hlt']
  · simp only [partA] at hv
    split at hv
    · rename_i hle
      cases hv
      refine ⟨.agg ((cs.drop off).take s).toArray, ?_, VR.aggA ((hx.drop off).take s)⟩
      simp [part, run_isAgg ht, run_sizeOf' hs]
    · cases hv

end
end Go.X
