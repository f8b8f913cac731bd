import Derived.Test.YtppekkocioidkaaXE
import Derived.Deep.Matrix
import Derived.Lib.SmallJoins
import Derived.OpenShut
import Derived.Test.YtppekkocioidkaaQC
import Derived.Test.YtppekkocioidkaaRows
import Derived.ProofKit
/-! What comes in, as the small machine's values. -/
set_option linter.unusedSimpArgs false
set_option linter.unusedVariables false
namespace Go.X
open Go Go.RowKit Go.ChangeShapes Go.WideShapes

def g0 : Gh := ⟨fun _ => none, fun _ => none, fun _ => none⟩

theorem rel0 (W : World) : Rel W g0 [] W :=
  ⟨Below.refl _ _, fun _ _ _ _ h => (by cases h), fun _ _ _ _ h => (by cases h), fun _ _ _ _ _ _ _ h => (by cases h), fun _ _ h => (by cases h), fun _ _ h => (by cases h), fun _ _ _ _ h => (by cases h)⟩

theorem none_sound {P : Program} {W : World} : CallSound P W (fun _ _ _ => none) := fun _ _ _ _ _ h => (by cases h)

/-- A law that the small machine runs to true. -/
theorem law_sound {P : Program} {E : Nat → Option XF} (hE : Known P E) {f : Nat} {args : List AV} {H : Heap} (h : callL E (fun _ _ _ => none) f args [] = some (.bool true, H)) {W : World} [GlobOk W] {cargs : List Value} (ha : VL W g0 0 args cargs) :
    Calls P f cargs.toArray W fun e w' => e = .returned (.bool true) ∧ Below W.heap.size W w' := by
  refine ((callL_sound hE none_sound _ _ _ _ _ h).2 g0 W cargs (rel0 W) ha).mono ?_
  rintro e w' ⟨c, G', rfl, hv, hr, _, _⟩
  cases hv
  exact ⟨rfl, hr.below⟩

theorem free_bool_inv {H : Heap} {d : Nat} {v : AV} {b : Bool} (h : freeA H (d + 1) v = some (.bool b)) : v = .bool b := by
  cases v with
  | bool c => simpa [freeA] using h
  | imm sn cells len => cases sn <;> simp [freeA] at h
  | fn f caps => cases caps <;> simp [freeA] at h
  | sl id ver e off len cap =>
    rw [free_sl] at h
    cases hH : H[id]? with
    | none => rw [hH] at h; simp [freeS] at h
    | some o =>
      obtain ⟨v, cs⟩ := o
      rw [hH, freeS_some] at h
      split at h
      · simp [freeB] at h
      · cases h
  | _ => simp [freeA] at h

/-- A law whose result is looked at alone. -/
theorem law_free {E : Nat → Option XF} {Y : Run} {f : Nat} {args : List AV} (h : freeX [] (callL E Y f args []) = some (.bool true, [])) : ∃ H', callL E Y f args [] = some (.bool true, H') := by
  cases hc : callL E Y f args [] with
  | none => rw [hc] at h; cases h
  | some q =>
    obtain ⟨v, H'⟩ := q
    rw [hc] at h
    replace h : pairX [] (freeA H' 6 v) = some (.bool true, []) := h
    have h2 : freeA H' 6 v = some (.bool true) := by
      cases hf : freeA H' 6 v with
      | none => rw [hf] at h; cases h
      | some w => rw [hf] at h; rw [pairX_some] at h; simpa using h
    exact ⟨H', by rw [free_bool_inv h2]⟩

section
variable {H : Type} {enc : TypeId × Value → H} {P : Program} {w : World} {base : Nat} {held : Bool}

theorem getD_mapR {α : Type} {n i : Nat} {f : Nat → α} {d : α} (h : i < n) : ((List.range n).map f).getD i d = f i := by
  simp [List.getD_eq_getElem?_getD, h]

theorem row_vr {A : Option Addr} {L C : Nat} {Z : List Int} {l : Nat} (hl : l ≤ 2) (h1 : L ≤ C) (h2 : Z.length = C) (h3 : A = none → C = 0) (h4 : ∀ a', A = some a' → ∀ c, c < C → w.cell? (a'.add c) = some (.int .i64 (Z.getD c 0))) :
    VR w g0 l (.imm false ((Z.take L).map vI) (Z.take L).length) (.slice A L C) := by
  have hlen : (Z.take L).length = L := by rw [List.length_take]; omega
  rw [hlen]
  refine .imm false _ L A C (fun j => .int .i64 (Z.getD j 0)) (by simpa [lv] using hl) h1 (fun a ha j hj => ?_) (fun ha => ?_) (fun j hj => ?_)
  · rw [List.length_map, hlen] at hj
    exact .inl (h4 a ha j (by omega))
  · have : C = 0 := h3 ha
    have : L = 0 := by omega
    subst this
    exact ⟨rfl, by simp⟩
  · rw [List.length_map, hlen] at hj
    have : ((Z.take L).map vI).getD j .undef = vI (Z.getD j 0) := by
      simp [List.getD_eq_getElem?_getD, hj, show j < Z.length by omega]
    rw [this]
    exact .int _ _

theorem arg_tab {t e q : TypeId} {fuel : Nat} {v : Value} {x : DataW H × List MemPlace} (ht : P.underlying t = some (.slice e)) (he : P.underlying e = some (.slice q)) (hq : P.underlying q = some (.int .i64))
    (ce : P.cellsOf e = 1) (cq : P.cellsOf q = 1) (h : DataW.trod enc P w base (fun _ => true) held fuel t [v] = some x) : ∃ vt tt, VR w g0 0 vt v ∧ IsTab vt tt := by
  rcases Deep.open_int_rows ht he hq ce cq h with ⟨hcs, _⟩ | ⟨a, len, cap, A, L, C, Z, hcs, _, hl, _, _, hrow⟩
  · cases hcs
    exact ⟨.nils, [], .nils, .nil⟩
  · cases hcs
    have hr : ∀ r, r < len → VR w g0 2 (.imm false (((Z r).take (L r)).map vI) ((Z r).take (L r)).length) (.slice (A r) (L r) (C r)) := by
      intro r hr
      obtain ⟨_, k1, _, k3, _, k5, k6⟩ := hrow r (by omega)
      exact row_vr (by omega) k1 k3 k5 fun a' ha' => (k6 a' ha').2
    have hlen : ((List.range len).map fun r => (Z r).take (L r)).length = len := by simp
    refine ⟨.imm false ((List.range len).map fun r => .imm false (((Z r).take (L r)).map vI) ((Z r).take (L r)).length) ((List.range len).map fun r => (Z r).take (L r)).length, (List.range len).map fun r => (Z r).take (L r), ?_, ?_⟩
    · rw [hlen]
      refine .imm false _ len (some a) cap (fun r => .slice (A r) (L r) (C r)) (Nat.zero_le _) hl (fun a' ha' j hj => ?_) (fun ha => (by cases ha)) (fun j hj => ?_)
      · cases ha'
        exact .inl (hrow j (by simp at hj; omega)).1
      · rw [getD_mapR (by simpa using hj)]
        exact hr j (by simpa using hj)
    · refine .imm false _ _ (by simp) fun i hi => ?_
      rw [hlen] at hi
      rw [getD_mapR hi, getD_mapR hi]
      exact .imm false _

theorem arg_row {t q : TypeId} {fuel l : Nat} {v : Value} {x : DataW H × List MemPlace} (hl : l ≤ 2) (ht : P.underlying t = some (.slice q)) (hq : P.underlying q = some (.int .i64)) (cq : P.cellsOf q = 1)
    (h : DataW.trod enc P w base (fun _ => true) held fuel t [v] = some x) : ∃ rv r, VR w g0 l rv v ∧ IsRow rv r := by
  rcases open_ints ht hq cq h with ⟨hcs, _⟩ | ⟨a, len, cap, zs, hcs, _, h1, _, hz, _, hcell, _⟩
  · cases hcs
    exact ⟨.nils, [], .nils, .nil⟩
  · cases hcs
    simp only [if_true] at hz
    exact ⟨_, zs.take len, row_vr (A := some a) hl h1 hz (fun h => by cases h) (fun a' ha c hc => by cases ha; exact hcell c (by omega)), .imm false _⟩

/-- A mixture that comes in. -/
theorem arg_parts {t e q : TypeId} {f0 f1 : Field} {v : Value} {d : DataW H} {p : List MemPlace} {r : Reach} {b0 : Nat} (hs : P.underlying t = some (.struct #[f0, f1])) (hone : Deep.oneCellFields P #[f0, f1] = true) (hC : P.cellsOf t = 2)
    (h0 : f0.type = e) (h1 : f1.type = q) (he : P.underlying e = some (.slice q)) (hq : P.underlying q = some (.int .i64)) (cq : P.cellsOf q = 1)
    (hv : Value.okWide P w r b0 t v) (h : DataW.Trod enc P w base (fun _ => true) held t v d p) : ∃ rv l n, VR w g0 0 (.agg [rv, vI n]) v ∧ IsRow rv l := by
  obtain ⟨v0, v1, y0, y1, n, rfl, _, _, k0, k1⟩ := Joins.open_agg2 hs hone hC hv h
  rw [h0] at k0
  rw [h1] at k1
  obtain ⟨rv, l, r1, r2⟩ := arg_row (l := 0) (by omega) he hq cq k0
  obtain ⟨a, e1, _, _⟩ := DataW.trod_int hq k1
  have e1 : v1 = .int .i64 a := by simpa using e1
  subst e1
  exact ⟨rv, l, a, .agg [rv, vI a] [v0, .int .i64 a] rfl fun j hj => by
    match j, hj with
    | 0, _ => exact r1
    | 1, _ => exact .int _ _, r2⟩

theorem bd_u8 {a : Int} (h : (Lit.int .u8 a).wf = true) : 0 ≤ a ∧ a < 256 := by
  have := bounds_u8 h
  omega
theorem bd_i8 {a : Int} (h : (Lit.int .i8 a).wf = true) : -128 ≤ a ∧ a < 128 := by
  have := bounds_i8 h
  omega
end
theorem bd_u16 {a : Int} (h : (Lit.int .u16 a).wf = true) : 0 ≤ a ∧ a < 65536 := by
  have := bounds_u16 h
  omega
theorem law_soundY {P : Program} {E : Nat → Option XF} {Y : Run} (hE : Known P E) {W : World} [GlobOk W] (hY : CallSound P W Y) {f : Nat} {args : List AV} {H : Heap} (h : callL E Y f args [] = some (.bool true, H)) {cargs : List Value} (ha : VL W g0 0 args cargs) :
    Calls P f cargs.toArray W fun e w' => e = .returned (.bool true) ∧ Below W.heap.size W w' := by
  refine ((callL_sound hE hY _ _ _ _ _ h).2 g0 W cargs (rel0 W) ha).mono ?_
  rintro e w' ⟨c, G', rfl, hv, hr, _, _⟩
  cases hv
  exact ⟨rfl, hr.below⟩
end Go.X
