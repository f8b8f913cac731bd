import Derived.Test.YtdkgicdbjemalaaDoorXE
import Derived.Deep.Matrix
import Derived.Lib.SmallJoins
import Derived.OpenShut
import Derived.Test.YtdkgicdbjemalaaDoorMF
import Derived.Test.YtdkgicdbjemalaaDoorRows
import Derived.ProofKit
import Derived.LaidMore
import Derived.Stop.Joined
/-! What comes in, as the small machine's values. -/
set_option linter.unusedSimpArgs false
set_option linter.unusedVariables false
namespace Go.X
open Go Go.RowKit Go.ChangeShapes Go.WideShapes

def g0 : Gh := ⟨fun _ => none, fun _ => none, fun _ => none⟩

theorem rel0 (W : World) : Rel W g0 [] W :=
  ⟨Below.refl _ _, fun _ _ _ _ h => (by cases h), fun _ _ _ _ h => (by cases h), fun _ _ _ _ _ _ _ h => (by cases h), fun _ _ h => (by cases h), fun _ _ h => (by cases h), fun _ _ _ _ h => (by cases h)⟩

theorem none_sound {P : Program} {W : World} : CallSound P W (fun _ _ _ => none) := fun _ _ _ _ _ h => (by cases h)

/-- A law that the small machine runs to true. -/
theorem law_sound {P : Program} {E : Nat → Option XF} (hE : Known P E) {f : Nat} {args : List AV} {H : Heap} (h : callL E (fun _ _ _ => none) f args [] = some (.bool true, H)) {W : World} [GlobOk W] {cargs : List Value} (ha : VL W g0 0 args cargs) :
    Calls P f cargs.toArray W fun e w' => e = .returned (.bool true) ∧ Below W.heap.size W w' := by
  refine ((callL_sound hE none_sound _ _ _ _ _ h).2 g0 W cargs (rel0 W) ha).mono ?_
  rintro e w' ⟨c, G', rfl, hv, hr, _, _⟩
  cases hv
  exact ⟨rfl, hr.below⟩

theorem free_bool_inv {H : Heap} {d : Nat} {v : AV} {b : Bool} (h : freeA H (d + 1) v = some (.bool b)) : v = .bool b := by
  cases v with
  | bool c => simpa [freeA] using h
  | imm sn cells len => cases sn <;> simp [freeA] at h
  | fn f caps => cases caps <;> simp [freeA] at h
  | sl id ver e off len cap =>
    rw [free_sl] at h
    cases hH : H[id]? with
    | none => rw [hH] at h; simp [freeS] at h
    | some o =>
      obtain ⟨v, cs⟩ := o
      rw [hH, freeS_some] at h
      split at h
      · simp [freeB] at h
      · cases h
  | _ => simp [freeA] at h

/-- A law whose result is looked at alone. -/
theorem law_free {E : Nat → Option XF} {Y : Run} {f : Nat} {args : List AV} (h : freeX [] (callL E Y f args []) = some (.bool true, [])) : ∃ H', callL E Y f args [] = some (.bool true, H') := by
  cases hc : callL E Y f args [] with
  | none => rw [hc] at h; cases h
  | some q =>
    obtain ⟨v, H'⟩ := q
    rw [hc] at h
    replace h : pairX [] (freeA H' 6 v) = some (.bool true, []) := h
    have h2 : freeA H' 6 v = some (.bool true) := by
      cases hf : freeA H' 6 v with
      | none => rw [hf] at h; cases h
      | some w => rw [hf] at h; rw [pairX_some] at h; simpa using h
    exact ⟨H', by rw [free_bool_inv h2]⟩

section
variable {H : Type} {enc : TypeId × Value → H} {P : Program} {w : World} {base : Nat} {held : Bool}

theorem getD_mapR {α : Type} {n i : Nat} {f : Nat → α} {d : α} (h : i < n) : ((List.range n).map f).getD i d = f i := by
  simp [List.getD_eq_getElem?_getD, h]

theorem row_vr {A : Option Addr} {L C : Nat} {Z : List Int} {l : Nat} (hl : l ≤ 2) (h1 : L ≤ C) (h2 : Z.length = C) (h3 : A = none → C = 0) (h4 : ∀ a', A = some a' → ∀ c, c < C → w.cell? (a'.add c) = some (.int .i64 (Z.getD c 0))) :
    VR w g0 l (.imm false ((Z.take L).map vI) (Z.take L).length) (.slice A L C) := by
  have hlen : (Z.take L).length = L := by rw [List.length_take]; omega
  rw [hlen]
  refine .imm false _ L A C (fun j => .int .i64 (Z.getD j 0)) (by simpa [lv] using hl) h1 (fun a ha j hj => ?_) (fun ha => ?_) (fun j hj => ?_)
  · rw [List.length_map, hlen] at hj
    exact .inl (h4 a ha j (by omega))
  · have : C = 0 := h3 ha
    have : L = 0 := by omega
    subst this
    exact ⟨rfl, by simp⟩
  · rw [List.length_map, hlen] at hj
    have : ((Z.take L).map vI).getD j .undef = vI (Z.getD j 0) := by
      simp [List.getD_eq_getElem?_getD, hj, show j < Z.length by omega]
    rw [this]
    exact .int _ _

theorem arg_tab {t e q : TypeId} {fuel : Nat} {v : Value} {x : DataW H × List MemPlace} (ht : P.underlying t = some (.slice e)) (he : P.underlying e = some (.slice q)) (hq : P.underlying q = some (.int .i64))
    (ce : P.cellsOf e = 1) (cq : P.cellsOf q = 1) (h : DataW.trod enc P w base (fun _ => true) held fuel t [v] = some x) : ∃ vt tt, VR w g0 0 vt v ∧ IsTab vt tt := by
  rcases Deep.open_int_rows ht he hq ce cq h with ⟨hcs, _⟩ | ⟨a, len, cap, A, L, C, Z, hcs, _, hl, _, _, hrow⟩
  · cases hcs
    exact ⟨.nils, [], .nils, .nil⟩
  · cases hcs
    have hr : ∀ r, r < len → VR w g0 2 (.imm false (((Z r).take (L r)).map vI) ((Z r).take (L r)).length) (.slice (A r) (L r) (C r)) := by
      intro r hr
      obtain ⟨_, k1, _, k3, _, k5, k6⟩ := hrow r (by omega)
      exact row_vr (by omega) k1 k3 k5 fun a' ha' => (k6 a' ha').2
    have hlen : ((List.range len).map fun r => (Z r).take (L r)).length = len := by simp
    refine ⟨.imm false ((List.range len).map fun r => .imm false (((Z r).take (L r)).map vI) ((Z r).take (L r)).length) ((List.range len).map fun r => (Z r).take (L r)).length, (List.range len).map fun r => (Z r).take (L r), ?_, ?_⟩
    · rw [hlen]
      refine .imm false _ len (some a) cap (fun r => .slice (A r) (L r) (C r)) (Nat.zero_le _) hl (fun a' ha' j hj => ?_) (fun ha => (by cases ha)) (fun j hj => ?_)
      · cases ha'
        exact .inl (hrow j (by simp at hj; omega)).1
      · rw [getD_mapR (by simpa using hj)]
        exact hr j (by simpa using hj)
    · refine .imm false _ _ (by simp) fun i hi => ?_
      rw [hlen] at hi
      rw [getD_mapR hi, getD_mapR hi]
      exact .imm false _

theorem arg_row {t q : TypeId} {fuel l : Nat} {v : Value} {x : DataW H × List MemPlace} (hl : l ≤ 2) (ht : P.underlying t = some (.slice q)) (hq : P.underlying q = some (.int .i64)) (cq : P.cellsOf q = 1)
    (h : DataW.trod enc P w base (fun _ => true) held fuel t [v] = some x) : ∃ rv r, VR w g0 l rv v ∧ IsRow rv r := by
  rcases open_ints ht hq cq h with ⟨hcs, _⟩ | ⟨a, len, cap, zs, hcs, _, h1, _, hz, _, hcell, _⟩
  · cases hcs
    exact ⟨.nils, [], .nils, .nil⟩
  · cases hcs
    simp only [if_true] at hz
    exact ⟨_, zs.take len, row_vr (A := some a) hl h1 hz (fun h => by cases h) (fun a' ha c hc => by cases ha; exact hcell c (by omega)), .imm false _⟩

/-- A mixture that comes in. -/
theorem arg_parts {t e q : TypeId} {f0 f1 : Field} {v : Value} {d : DataW H} {p : List MemPlace} {r : Reach} {b0 : Nat} (hs : P.underlying t = some (.struct #[f0, f1])) (hone : Deep.oneCellFields P #[f0, f1] = true) (hC : P.cellsOf t = 2)
    (h0 : f0.type = e) (h1 : f1.type = q) (he : P.underlying e = some (.slice q)) (hq : P.underlying q = some (.int .i64)) (cq : P.cellsOf q = 1)
    (hv : Value.okWide P w r b0 t v) (h : DataW.Trod enc P w base (fun _ => true) held t v d p) : ∃ rv l n, VR w g0 0 (.agg [rv, vI n]) v ∧ IsRow rv l := by
  obtain ⟨v0, v1, y0, y1, n, rfl, _, _, k0, k1⟩ := Joins.open_agg2 hs hone hC hv h
  rw [h0] at k0
  rw [h1] at k1
  obtain ⟨rv, l, r1, r2⟩ := arg_row (l := 0) (by omega) he hq cq k0
  obtain ⟨a, e1, _, _⟩ := DataW.trod_int hq k1
  have e1 : v1 = .int .i64 a := by simpa using e1
  subst e1
  exact ⟨rv, l, a, .agg [rv, vI a] [v0, .int .i64 a] rfl fun j hj => by
    match j, hj with
    | 0, _ => exact r1
    | 1, _ => exact .int _ _, r2⟩

theorem bd_u8 {a : Int} (h : (Lit.int .u8 a).wf = true) : 0 ≤ a ∧ a < 256 := by
  have := bounds_u8 h
  omega
theorem bd_i8 {a : Int} (h : (Lit.int .i8 a).wf = true) : -128 ≤ a ∧ a < 128 := by
  have := bounds_i8 h
  omega
end
end Go.X

/-! Tones: the package variables, out of the rows' condition. -/
set_option linter.unusedSimpArgs false
set_option linter.unusedVariables false
set_option maxRecDepth 100000
namespace Go.Proofs.YtdkgicdbjemalaaDoor
open Go.ChangeShapes Go.WideShapes Go.ChangeAt Go.RowKit

def laidT : List (String × DataW Unit) := [("math/bits.deBruijn32tab", Rows.laid_math_bits_deBruijn32tab), ("math/bits.deBruijn64tab", Rows.laid_math_bits_deBruijn64tab), ("cloche/tones.sachs", Rows.laid_cloche_tones_sachs), ("cloche/tones.many", Rows.laid_cloche_tones_many), ("cloche/tones.matched", Rows.laid_cloche_tones_matched)]

theorem g0 : Tryd.prog.globalNamed "cloche/tones.sachs" = some 0 := by kernel_rfl
theorem g1 : Tryd.prog.globalNamed "cloche/tones.matched" = some 1 := by kernel_rfl
theorem g2 : Tryd.prog.globalNamed "cloche/tones.many" = some 2 := by kernel_rfl
theorem g4 : Tryd.prog.globalNamed "math/bits.deBruijn64tab" = some 4 := by kernel_rfl
theorem t0 : (Tryd.prog.globals[0]?).map (·.type) = some 57 := by kernel_rfl
theorem t1 : (Tryd.prog.globals[1]?).map (·.type) = some 57 := by kernel_rfl
theorem t2 : (Tryd.prog.globals[2]?).map (·.type) = some 57 := by kernel_rfl
theorem t4 : (Tryd.prog.globals[4]?).map (·.type) = some 123 := by kernel_rfl
theorem c55 : Tryd.prog.cellsOf 55 = 1 := by kernel_rfl
theorem c57 : Tryd.prog.cellsOf 57 = 2 := by kernel_rfl
theorem c5 : Tryd.prog.cellsOf 5 = 1 := by kernel_rfl

/-- The door's own heap meets the condition. -/
theorem door_met (os : Os) (args : Array Value) : laidMetH Tryd.prog laidT ((World.doorLaid Tryd.prog 600 os).forCall (fun _ _ => 0) ⟨#[], args, []⟩).memory :=
  laidMetH_of_parts3 (fuel := 8) (laidMet_of_run' 8 (by kernel_rfl) (by kernel_rfl)) (by kernel_rfl) (by kernel_rfl)

theorem pair_of {W : World} {g : Nat} {n : String} {b1 b2 : UInt8} {r1 r2 : List UInt8} {f1 f2 : Nat} (h : funcsAt Tryd.prog W n (.agg [.iface "func" (.lit (.string (b1 :: r1))), .iface "func" (.lit (.string (b2 :: r2)))])) (hg : Tryd.prog.globalNamed n = some g) (ht : (Tryd.prog.globals[g]?).map (·.type) = some 57)
    (h1 : ((List.range Tryd.prog.funcs.size).filter fun f => (Tryd.prog.funcs[f]?).any (·.name.toUTF8.data.toList == b1 :: r1)) = [f1]) (h2 : ((List.range Tryd.prog.funcs.size).filter fun f => (Tryd.prog.funcs[f]?).any (·.name.toUTF8.data.toList == b2 :: r2)) = [f2]) :
    W.cell? ⟨g, 0, none⟩ = some (.func (.func f1) #[] #[]) ∧ W.cell? ⟨g, 1, none⟩ = some (.func (.func f2) #[] #[]) := by
  obtain ⟨g', t, cs, fuel, p, hg', ht', hv, hd⟩ := h
  obtain rfl := Option.some.inj (hg.symm.trans hg')
  obtain rfl := Option.some.inj (ht.symm.trans ht')
  have hd' : DataW.trod (funcToken Tryd.prog) Tryd.prog W 0 (fun _ => true) true fuel 57 cs.toList = some (.agg [.held (b1 :: r1), .held (b2 :: r2)], p) := hd
  obtain ⟨y0, y1, m, e, hl, e0, e1⟩ := trod_struct2 Tryd.underlying57 hd'
  rw [c57] at hl
  simp only [c55] at e0 e1
  obtain ⟨c0, c1, hcs⟩ : ∃ c0 c1, cs.toList = [c0, c1] := by
    match cs.toList, hl with
    | [c0, c1], _ => exact ⟨c0, c1, rfl⟩
  rw [hcs] at e0 e1
  obtain ⟨z0, q0⟩ := y0
  obtain ⟨z1, q1⟩ := y1
  simp only [Prod.mk.injEq, DataW.agg.injEq, List.cons.injEq, and_true] at e
  obtain ⟨⟨rfl, rfl⟩, _⟩ := e
  obtain rfl := func_of_trod (f0 := f1) Tryd.underlying55 h1 e0
  obtain rfl := func_of_trod (f0 := f2) Tryd.underlying55 h2 e1
  have w0 := World.var?_cell hg' hv 0
  have w1 := World.var?_cell hg' hv 1
  have hcs' : cs = #[.func (.func f1) #[] #[], .func (.func f2) #[] #[]] := by cases cs; simp_all
  subst hcs'
  exact ⟨w0, w1⟩

theorem pair_glob {W : World} {g f1 f2 : Nat} {G : X.Gh} (h : W.cell? ⟨g, 0, none⟩ = some (.func (.func f1) #[] #[]) ∧ W.cell? ⟨g, 1, none⟩ = some (.func (.func f2) #[] #[])) : X.VR W G 2 (.cptr false [.fn f1 [], .fn f2 []]) (.pointer (some ⟨g, 0, none⟩)) := by
  have hf : ∀ f, X.VR W G 2 (.fn f []) (.func (.func f) #[] #[]) := fun f => .fn f [] [] rfl (fun _ hj => absurd hj (by simp))
  refine .cptr false _ _ (fun j => if j = 0 then .func (.func f1) #[] #[] else .func (.func f2) #[] #[]) (by simp [X.lv]) (fun j hj => .inl ?_) (fun j hj => ?_)
  · match j, hj with
    | 0, _ => exact h.1
    | 1, _ => exact h.2
  · match j, hj with
    | 0, _ => exact hf f1
    | 1, _ => exact hf f2

theorem c123 : Tryd.prog.cellsOf 123 = 64 := by kernel_rfl

theorem u8_of {W : World} {sp : Nat → Bool} {held : Bool} {fuel : Nat} {cs : List Value} {p : List MemPlace} {v : Int} (h : DataW.trod (fun _ => ()) Tryd.prog W 0 sp held fuel 5 cs = some (.lit (.int .u8 v), p)) : cs = [.int .u8 v] := by
  cases fuel with
  | zero => simp [DataW.trod] at h
  | succ m =>
    unfold DataW.trod at h
    rw [Tryd.underlying5] at h
    split at h <;> simp_all

theorem lits_of {W : World} {sp : Nat → Bool} {held : Bool} {fuel : Nat} {cs : List Value} {p : List MemPlace} {vs : List Int} (h : DataW.trod (fun _ => ()) Tryd.prog W 0 sp held fuel 123 cs = some (.agg (vs.map fun v => .lit (.int .u8 v)), p)) (hvs : vs.length = 64) (j : Nat) (hj : j < 64) :
    cs[j]? = some (.int .u8 (vs.getD j 0)) := by
  obtain ⟨xs, m, _, e, hl, hn, hel⟩ := DataW.trod_array Tryd.underlying123 h
  simp only [Prod.mk.injEq, DataW.agg.injEq] at e
  have hx := hel j hj
  rw [c5, List.getElem?_eq_getElem (by omega)] at hx
  have h1 : (xs[j]).1 = .lit (.int .u8 (vs.getD j 0)) := by
    have e1 := e.1
    have : (xs.map (·.1))[j]? = some (xs[j]).1 := by rw [List.getElem?_map, List.getElem?_eq_getElem (by omega)]; rfl
    rw [← e1, List.getElem?_map, List.getElem?_eq_getElem (by omega)] at this
    simp only [Option.map_some, Option.some.injEq] at this
    rw [← this, List.getD_eq_getElem?_getD, List.getElem?_eq_getElem (by omega)]
    rfl
  have hx' : DataW.trod (fun _ => ()) Tryd.prog W 0 sp held m 5 ((cs.drop (j * 1)).take 1) = some (.lit (.int .u8 (vs.getD j 0)), (xs[j]).2) := by rw [hx, ← h1]
  have := u8_of hx'
  rw [Nat.mul_one] at this
  have h2 : ((cs.drop j).take 1)[0]? = some (.int .u8 (vs.getD j 0)) := by rw [this]; rfl
  rw [List.getElem?_take, if_pos (by decide), List.getElem?_drop] at h2
  simpa using h2

theorem tab_eq : (Rows.laid_math_bits_deBruijn64tab : DataW Unit) = .agg (X.dbTab.map fun v => .lit (.int .u8 v)) := by kernel_rfl

/-- The table's cells. -/
theorem tab_of {W : World} (h : laidMetH Tryd.prog laidT W) : ∀ j, j < 64 → W.cell? ⟨4, j, none⟩ = some (.int .u8 (X.dbTab.getD j 0)) := by
  have h0 : laidMet Tryd.prog (laidT.filter fun x => x.2.handleName?.isNone) W := by
    have he : laidT.filter (fun x => x.2.handleName?.isSome) = [("cloche/tones.sachs", Rows.laid_cloche_tones_sachs), ("cloche/tones.many", Rows.laid_cloche_tones_many), ("cloche/tones.matched", Rows.laid_cloche_tones_matched)] := by rfl
    unfold laidMetH at h
    rw [he] at h
    exact h.1
  have he : laidT.filter (fun x => x.2.handleName?.isNone) = [("math/bits.deBruijn32tab", Rows.laid_math_bits_deBruijn32tab), ("math/bits.deBruijn64tab", Rows.laid_math_bits_deBruijn64tab)] := by rfl
  rw [he] at h0
  obtain ⟨ps, hv, _⟩ := h0
  obtain ⟨_, _, _, _, _, _, _, _, _, _, hv2, _⟩ := hv
  obtain ⟨g, t, cs, fuel, p, q, hg, ht, hvar, hd, _⟩ := hv2
  obtain rfl := Option.some.inj (g4.symm.trans hg)
  obtain rfl := Option.some.inj (t4.symm.trans ht)
  rw [tab_eq] at hd
  intro j hj
  rw [World.var?_cell hg hvar j]
  have := lits_of hd rfl j hj
  simpa using this

theorem glob_of {W : World} (h : laidMetH Tryd.prog laidT W) : X.GlobOk W := by
  refine ⟨⟨fun g G => ?_⟩⟩
  have m0 : ("cloche/tones.sachs", (Rows.laid_cloche_tones_sachs : DataW Unit)) ∈ laidT := by simp [laidT]
  have m1 : ("cloche/tones.matched", (Rows.laid_cloche_tones_matched : DataW Unit)) ∈ laidT := by simp [laidT]
  have m2 : ("cloche/tones.many", (Rows.laid_cloche_tones_many : DataW Unit)) ∈ laidT := by simp [laidT]
  match g with
  | 0 => exact pair_glob (pair_of (f1 := 139) (f2 := 140) (h.funcs m0) g0 t0 (by kernel_rfl) (by kernel_rfl))
  | 1 => exact pair_glob (pair_of (f1 := 141) (f2 := 142) (h.funcs m1) g1 t1 (by kernel_rfl) (by kernel_rfl))
  | 2 => exact pair_glob (pair_of (f1 := 143) (f2 := 144) (h.funcs m2) g2 t2 (by kernel_rfl) (by kernel_rfl))
  | 3 => exact .undef _
  | 4 =>
    have ht := tab_of h
    have hl : (X.dbTab.map fun n => X.AV.int .u8 n).length = 64 := by rfl
    refine .cptr false _ _ (fun j => .int .u8 (X.dbTab.getD j 0)) (by simp [X.lv]) (fun j hj => .inl ?_) (fun j hj => ?_)
    · have hj' : j < 64 := by rw [← hl]; exact hj
      have hadd : (⟨4, 0, none⟩ : Addr).add j = ⟨4, j, none⟩ := by rw [X.Addr.add_off, Nat.zero_add]
      rw [hadd]
      exact ht j hj'
    · have hj' : j < X.dbTab.length := by simpa using hj
      have : (X.dbTab.map fun n => X.AV.int .u8 n).getD j .undef = .int .u8 (X.dbTab.getD j 0) := by simp [List.getD_eq_getElem?_getD, hj']
      rw [this]
      exact .int _ _
  | g + 5 => exact .undef _
end Go.Proofs.YtdkgicdbjemalaaDoor

namespace Go.X
open Go Go.RowKit
theorem law_soundY {P : Program} {E : Nat → Option XF} {Y : Run} (hE : Known P E) {W : World} [GlobOk W] (hY : CallSound P W Y) {f : Nat} {args : List AV} {H : Heap} (h : callL E Y f args [] = some (.bool true, H)) {cargs : List Value} (ha : VL W g0 0 args cargs) :
    Calls P f cargs.toArray W fun e w' => e = .returned (.bool true) ∧ Below W.heap.size W w' := by
  refine ((callL_sound hE hY _ _ _ _ _ h).2 g0 W cargs (rel0 W) ha).mono ?_
  rintro e w' ⟨c, G', rfl, hv, hr, _, _⟩
  cases hv
  exact ⟨rfl, hr.below⟩
end Go.X
