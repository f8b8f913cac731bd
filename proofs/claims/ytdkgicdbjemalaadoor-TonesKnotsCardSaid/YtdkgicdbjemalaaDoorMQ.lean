import Derived.Test.YtdkgicdbjemalaaDoorME
import Derived.Test.YtdkgicdbjemalaaDoorYD
import Derived.Test.YtdkgicdbjemalaaDoorRows
import Derived.ProofKit
import Derived.LaidMore
import Derived.Stop.Joined
/-! Tones: the package variables, out of the rows' condition. -/
set_option linter.unusedSimpArgs false
set_option linter.unusedVariables false
set_option maxRecDepth 100000
namespace Go.Proofs.YtdkgicdbjemalaaDoor
open Go.ChangeShapes Go.WideShapes Go.ChangeAt Go.RowKit

def laidT : List (String × DataW Unit) := [("math/bits.deBruijn32tab", Rows.laid_math_bits_deBruijn32tab), ("math/bits.deBruijn64tab", Rows.laid_math_bits_deBruijn64tab), ("cloche/tones.sachs", Rows.laid_cloche_tones_sachs), ("cloche/tones.many", Rows.laid_cloche_tones_many), ("cloche/tones.matched", Rows.laid_cloche_tones_matched)]

theorem g0 : Tryd.prog.globalNamed "cloche/tones.sachs" = some 0 := by kernel_rfl
theorem g1 : Tryd.prog.globalNamed "cloche/tones.matched" = some 1 := by kernel_rfl
theorem g2 : Tryd.prog.globalNamed "cloche/tones.many" = some 2 := by kernel_rfl
theorem g4 : Tryd.prog.globalNamed "math/bits.deBruijn64tab" = some 4 := by kernel_rfl
theorem t0 : (Tryd.prog.globals[0]?).map (·.type) = some 57 := by kernel_rfl
theorem t1 : (Tryd.prog.globals[1]?).map (·.type) = some 57 := by kernel_rfl
theorem t2 : (Tryd.prog.globals[2]?).map (·.type) = some 57 := by kernel_rfl
theorem t4 : (Tryd.prog.globals[4]?).map (·.type) = some 123 := by kernel_rfl
theorem c55 : Tryd.prog.cellsOf 55 = 1 := by kernel_rfl
theorem c57 : Tryd.prog.cellsOf 57 = 2 := by kernel_rfl
theorem c5 : Tryd.prog.cellsOf 5 = 1 := by kernel_rfl

/-- The door's own heap meets the condition. -/
theorem door_met (os : Os) (args : Array Value) : laidMetH Tryd.prog laidT ((World.doorLaid Tryd.prog 600 os).forCall (fun _ _ => 0) ⟨#[], args, []⟩).memory :=
  laidMetH_of_parts3 (fuel := 8) (laidMet_of_run' 8 (by kernel_rfl) (by kernel_rfl)) (by kernel_rfl) (by kernel_rfl)

theorem pair_of {W : World} {g : Nat} {n : String} {b1 b2 : UInt8} {r1 r2 : List UInt8} {f1 f2 : Nat} (h : funcsAt Tryd.prog W n (.agg [.iface "func" (.lit (.string (b1 :: r1))), .iface "func" (.lit (.string (b2 :: r2)))])) (hg : Tryd.prog.globalNamed n = some g) (ht : (Tryd.prog.globals[g]?).map (·.type) = some 57)
    (h1 : ((List.range Tryd.prog.funcs.size).filter fun f => (Tryd.prog.funcs[f]?).any (·.name.toUTF8.data.toList == b1 :: r1)) = [f1]) (h2 : ((List.range Tryd.prog.funcs.size).filter fun f => (Tryd.prog.funcs[f]?).any (·.name.toUTF8.data.toList == b2 :: r2)) = [f2]) :
    W.cell? ⟨g, 0, none⟩ = some (.func (.func f1) #[] #[]) ∧ W.cell? ⟨g, 1, none⟩ = some (.func (.func f2) #[] #[]) := by
  obtain ⟨g', t, cs, fuel, p, hg', ht', hv, hd⟩ := h
  obtain rfl := Option.some.inj (hg.symm.trans hg')
  obtain rfl := Option.some.inj (ht.symm.trans ht')
  have hd' : DataW.trod (funcToken Tryd.prog) Tryd.prog W 0 (fun _ => true) true fuel 57 cs.toList = some (.agg [.held (b1 :: r1), .held (b2 :: r2)], p) := hd
  obtain ⟨y0, y1, m, e, hl, e0, e1⟩ := trod_struct2 Tryd.underlying57 hd'
  rw [c57] at hl
  simp only [c55] at e0 e1
  obtain ⟨c0, c1, hcs⟩ : ∃ c0 c1, cs.toList = [c0, c1] := by
    match cs.toList, hl with
    | [c0, c1], _ => exact ⟨c0, c1, rfl⟩
  rw [hcs] at e0 e1
  obtain ⟨z0, q0⟩ := y0
  obtain ⟨z1, q1⟩ := y1
  simp only [Prod.mk.injEq, DataW.agg.injEq, List.cons.injEq, and_true] at e
  obtain ⟨⟨rfl, rfl⟩, _⟩ := e
  obtain rfl := func_of_trod (f0 := f1) Tryd.underlying55 h1 e0
  obtain rfl := func_of_trod (f0 := f2) Tryd.underlying55 h2 e1
  have w0 := World.var?_cell hg' hv 0
  have w1 := World.var?_cell hg' hv 1
  have hcs' : cs = #[.func (.func f1) #[] #[], .func (.func f2) #[] #[]] := by cases cs; simp_all
  subst hcs'
  exact ⟨w0, w1⟩

theorem pair_glob {W : World} {g f1 f2 : Nat} {G : X.Gh} (h : W.cell? ⟨g, 0, none⟩ = some (.func (.func f1) #[] #[]) ∧ W.cell? ⟨g, 1, none⟩ = some (.func (.func f2) #[] #[])) : X.VR W G 2 (.cptr false [.fn f1 [], .fn f2 []]) (.pointer (some ⟨g, 0, none⟩)) := by
  have hf : ∀ f, X.VR W G 2 (.fn f []) (.func (.func f) #[] #[]) := fun f => .fn f [] [] rfl (fun _ hj => absurd hj (by simp))
  refine .cptr false _ _ (fun j => if j = 0 then .func (.func f1) #[] #[] else .func (.func f2) #[] #[]) (by simp [X.lv]) (fun j hj => .inl ?_) (fun j hj => ?_)
  · match j, hj with
    | 0, _ => exact h.1
    | 1, _ => exact h.2
  · match j, hj with
    | 0, _ => exact hf f1
    | 1, _ => exact hf f2

theorem c123 : Tryd.prog.cellsOf 123 = 64 := by kernel_rfl

theorem u8_of {W : World} {sp : Nat → Bool} {held : Bool} {fuel : Nat} {cs : List Value} {p : List MemPlace} {v : Int} (h : DataW.trod (fun _ => ()) Tryd.prog W 0 sp held fuel 5 cs = some (.lit (.int .u8 v), p)) : cs = [.int .u8 v] := by
  cases fuel with
  | zero => simp [DataW.trod] at h
  | succ m =>
    unfold DataW.trod at h
    rw [Tryd.underlying5] at h
    split at h <;> simp_all

theorem lits_of {W : World} {sp : Nat → Bool} {held : Bool} {fuel : Nat} {cs : List Value} {p : List MemPlace} {vs : List Int} (h : DataW.trod (fun _ => ()) Tryd.prog W 0 sp held fuel 123 cs = some (.agg (vs.map fun v => .lit (.int .u8 v)), p)) (hvs : vs.length = 64) (j : Nat) (hj : j < 64) :
    cs[j]? = some (.int .u8 (vs.getD j 0)) := by
  obtain ⟨xs, m, _, e, hl, hn, hel⟩ := DataW.trod_array Tryd.underlying123 h
  simp only [Prod.mk.injEq, DataW.agg.injEq] at e
  have hx := hel j hj
  rw [c5, List.getElem?_eq_getElem (by omega)] at hx
  have h1 : (xs[j]).1 = .lit (.int .u8 (vs.getD j 0)) := by
    have e1 := e.1
    have : (xs.map (·.1))[j]? = some (xs[j]).1 := by rw [List.getElem?_map, List.getElem?_eq_getElem (by omega)]; rfl
    rw [← e1, List.getElem?_map, List.getElem?_eq_getElem (by omega)] at this
    simp only [Option.map_some, Option.some.injEq] at this
    rw [← this, List.getD_eq_getElem?_getD, List.getElem?_eq_getElem (by omega)]
    rfl
  have hx' : DataW.trod (fun _ => ()) Tryd.prog W 0 sp held m 5 ((cs.drop (j * 1)).take 1) = some (.lit (.int .u8 (vs.getD j 0)), (xs[j]).2) := by rw [hx, ← h1]
  have := u8_of hx'
  rw [Nat.mul_one] at this
  have h2 : ((cs.drop j).take 1)[0]? = some (.int .u8 (vs.getD j 0)) := by rw [this]; rfl
  rw [List.getElem?_take, if_pos (by decide), List.getElem?_drop] at h2
  simpa using h2

theorem tab_eq : (Rows.laid_math_bits_deBruijn64tab : DataW Unit) = .agg (X.dbTab.map fun v => .lit (.int .u8 v)) := by kernel_rfl

/-- The table's cells. -/
theorem tab_of {W : World} (h : laidMetH Tryd.prog laidT W) : ∀ j, j < 64 → W.cell? ⟨4, j, none⟩ = some (.int .u8 (X.dbTab.getD j 0)) := by
  have h0 : laidMet Tryd.prog (laidT.filter fun x => x.2.handleName?.isNone) W := by
    have he : laidT.filter (fun x => x.2.handleName?.isSome) = [("cloche/tones.sachs", Rows.laid_cloche_tones_sachs), ("cloche/tones.many", Rows.laid_cloche_tones_many), ("cloche/tones.matched", Rows.laid_cloche_tones_matched)] := by rfl
    unfold laidMetH at h
    rw [he] at h
    exact h.1
  have he : laidT.filter (fun x => x.2.handleName?.isNone) = [("math/bits.deBruijn32tab", Rows.laid_math_bits_deBruijn32tab), ("math/bits.deBruijn64tab", Rows.laid_math_bits_deBruijn64tab)] := by rfl
  rw [he] at h0
  obtain ⟨ps, hv, _⟩ := h0
  obtain ⟨_, _, _, _, _, _, _, _, _, _, hv2, _⟩ := hv
  obtain ⟨g, t, cs, fuel, p, q, hg, ht, hvar, hd, _⟩ := hv2
  obtain rfl := Option.some.inj (g4.symm.trans hg)
  obtain rfl := Option.some.inj (t4.symm.trans ht)
  rw [tab_eq] at hd
  intro j hj
  rw [World.var?_cell hg hvar j]
  have := lits_of hd rfl j hj
  simpa using this

theorem glob_of {W : World} (h : laidMetH Tryd.prog laidT W) : X.GlobOk W := by
  refine ⟨⟨fun g G => ?_⟩⟩
  have m0 : ("cloche/tones.sachs", (Rows.laid_cloche_tones_sachs : DataW Unit)) ∈ laidT := by simp [laidT]
  have m1 : ("cloche/tones.matched", (Rows.laid_cloche_tones_matched : DataW Unit)) ∈ laidT := by simp [laidT]
  have m2 : ("cloche/tones.many", (Rows.laid_cloche_tones_many : DataW Unit)) ∈ laidT := by simp [laidT]
  match g with
  | 0 => exact pair_glob (pair_of (f1 := 139) (f2 := 140) (h.funcs m0) g0 t0 (by kernel_rfl) (by kernel_rfl))
  | 1 => exact pair_glob (pair_of (f1 := 141) (f2 := 142) (h.funcs m1) g1 t1 (by kernel_rfl) (by kernel_rfl))
  | 2 => exact pair_glob (pair_of (f1 := 143) (f2 := 144) (h.funcs m2) g2 t2 (by kernel_rfl) (by kernel_rfl))
  | 3 => exact .undef _
  | 4 =>
    have ht := tab_of h
    have hl : (X.dbTab.map fun n => X.AV.int .u8 n).length = 64 := by rfl
    refine .cptr false _ _ (fun j => .int .u8 (X.dbTab.getD j 0)) (by simp [X.lv]) (fun j hj => .inl ?_) (fun j hj => ?_)
    · have hj' : j < 64 := by rw [← hl]; exact hj
      have hadd : (⟨4, 0, none⟩ : Addr).add j = ⟨4, j, none⟩ := by rw [X.Addr.add_off, Nat.zero_add]
      rw [hadd]
      exact ht j hj'
    · have hj' : j < X.dbTab.length := by simpa using hj
      have : (X.dbTab.map fun n => X.AV.int .u8 n).getD j .undef = .int .u8 (X.dbTab.getD j 0) := by simp [List.getD_eq_getElem?_getD, hj']
      rw [this]
      exact .int _ _
  | g + 5 => exact .undef _
end Go.Proofs.YtdkgicdbjemalaaDoor

namespace Go.X
open Go Go.RowKit
theorem law_soundY {P : Program} {E : Nat → Option XF} {Y : Run} (hE : Known P E) {W : World} [GlobOk W] (hY : CallSound P W Y) {f : Nat} {args : List AV} {H : Heap} (h : callL E Y f args [] = some (.bool true, H)) {cargs : List Value} (ha : VL W g0 0 args cargs) :
    Calls P f cargs.toArray W fun e w' => e = .returned (.bool true) ∧ Below W.heap.size W w' := by
  refine ((callL_sound hE hY _ _ _ _ _ h).2 g0 W cargs (rel0 W) ha).mono ?_
  rintro e w' ⟨c, G', rfl, hv, hr, _, _⟩
  cases hv
  exact ⟨rfl, hr.below⟩
end Go.X
