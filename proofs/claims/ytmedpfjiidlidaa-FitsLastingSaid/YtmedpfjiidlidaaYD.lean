import Derived.Test.YtmedpfjiidlidaaYC
import Derived.Deep.Matrix
/-! What comes in, as the small machine's values. -/
set_option linter.unusedSimpArgs false
set_option linter.unusedVariables false
namespace Go.X
open Go Go.RowKit Go.ChangeShapes Go.WideShapes

def g0 : Gh := ⟨fun _ => none, fun _ => none, fun _ => none⟩

theorem rel0 (W : World) : Rel W g0 [] W :=
  ⟨Below.refl _ _, fun _ _ _ _ h => (by cases h), fun _ _ _ _ h => (by cases h), fun _ _ _ _ _ _ _ h => (by cases h), fun _ _ h => (by cases h), fun _ _ h => (by cases h), fun _ _ _ _ h => (by cases h)⟩

theorem none_sound {P : Program} {W : World} : CallSound P W (fun _ _ _ => none) := fun _ _ _ _ _ h => (by cases h)

/-- A law that the small machine runs to true. -/
theorem law_sound {P : Program} {E : Nat → Option XF} (hE : Known P E) {f : Nat} {args : List AV} {H : Heap} (h : callL E (fun _ _ _ => none) f args [] = some (.bool true, H)) {W : World} {cargs : List Value} (ha : VL W g0 0 args cargs) :
    Calls P f cargs.toArray W fun e w' => e = .returned (.bool true) ∧ Below W.heap.size W w' := by
  refine ((callL_sound hE none_sound _ _ _ _ _ h).2 g0 W cargs (rel0 W) ha).mono ?_
  rintro e w' ⟨c, G', rfl, hv, hr, _, _⟩
  cases hv
  exact ⟨rfl, hr.below⟩

section
variable {H : Type} {enc : TypeId × Value → H} {P : Program} {w : World} {base : Nat} {held : Bool}

theorem getD_mapR {α : Type} {n i : Nat} {f : Nat → α} {d : α} (h : i < n) : ((List.range n).map f).getD i d = f i := by
  simp [List.getD_eq_getElem?_getD, h]

theorem row_vr {A : Option Addr} {L C : Nat} {Z : List Int} {l : Nat} (hl : l ≤ 2) (h1 : L ≤ C) (h2 : Z.length = C) (h3 : A = none → C = 0) (h4 : ∀ a', A = some a' → ∀ c, c < C → w.cell? (a'.add c) = some (.int .i64 (Z.getD c 0))) :
    VR w g0 l (.imm false ((Z.take L).map vI) (Z.take L).length) (.slice A L C) := by
  have hlen : (Z.take L).length = L := by rw [List.length_take]; omega
  rw [hlen]
  refine .imm false _ L A C (fun j => .int .i64 (Z.getD j 0)) (by simpa [lv] using hl) h1 (fun a ha j hj => ?_) (fun ha => ?_) (fun j hj => ?_)
  · rw [List.length_map, hlen] at hj
    exact .inl (h4 a ha j (by omega))
  · have : C = 0 := h3 ha
    have : L = 0 := by omega
    subst this
    exact ⟨rfl, by simp⟩
  · rw [List.length_map, hlen] at hj
    have : ((Z.take L).map vI).getD j .undef = vI (Z.getD j 0) := by
      simp [List.getD_eq_getElem?_getD, hj, show j < Z.length by omega]
    rw [this]
    exact .int _ _

theorem arg_tab {t e q : TypeId} {fuel : Nat} {v : Value} {x : DataW H × List MemPlace} (ht : P.underlying t = some (.slice e)) (he : P.underlying e = some (.slice q)) (hq : P.underlying q = some (.int .i64))
    (ce : P.cellsOf e = 1) (cq : P.cellsOf q = 1) (h : DataW.trod enc P w base (fun _ => true) held fuel t [v] = some x) : ∃ vt tt, VR w g0 0 vt v ∧ IsTab vt tt := by
  rcases Deep.open_int_rows ht he hq ce cq h with ⟨hcs, _⟩ | ⟨a, len, cap, A, L, C, Z, hcs, _, hl, _, _, hrow⟩
  · cases hcs
    exact ⟨.nils, [], .nils, .nil⟩
  · cases hcs
    have hr : ∀ r, r < len → VR w g0 2 (.imm false (((Z r).take (L r)).map vI) ((Z r).take (L r)).length) (.slice (A r) (L r) (C r)) := by
      intro r hr
      obtain ⟨_, k1, _, k3, _, k5, k6⟩ := hrow r (by omega)
      exact row_vr (by omega) k1 k3 k5 fun a' ha' => (k6 a' ha').2
    have hlen : ((List.range len).map fun r => (Z r).take (L r)).length = len := by simp
    refine ⟨.imm false ((List.range len).map fun r => .imm false (((Z r).take (L r)).map vI) ((Z r).take (L r)).length) ((List.range len).map fun r => (Z r).take (L r)).length, (List.range len).map fun r => (Z r).take (L r), ?_, ?_⟩
    · rw [hlen]
      refine .imm false _ len (some a) cap (fun r => .slice (A r) (L r) (C r)) (Nat.zero_le _) hl (fun a' ha' j hj => ?_) (fun ha => (by cases ha)) (fun j hj => ?_)
      · cases ha'
        exact .inl (hrow j (by simp at hj; omega)).1
      · rw [getD_mapR (by simpa using hj)]
        exact hr j (by simpa using hj)
    · refine .imm false _ _ (by simp) fun i hi => ?_
      rw [hlen] at hi
      rw [getD_mapR hi, getD_mapR hi]
      exact .imm false _
end
end Go.X
