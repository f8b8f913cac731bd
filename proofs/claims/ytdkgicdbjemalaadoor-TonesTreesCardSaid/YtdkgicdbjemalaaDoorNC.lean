import Derived.Test.YtdkgicdbjemalaaDoorNA
import Derived.Test.YtdkgicdbjemalaaDoorMO
/-! Tones: the specification's figures and rings, walked. -/
set_option linter.unusedSimpArgs false
set_option linter.unusedVariables false
set_option maxHeartbeats 2000000
set_option maxRecDepth 10000
namespace Go.X
open Go Go.RowKit

theorem ctz_min_all : (List.range 128).all (fun m => (List.range (ctz m)).all fun j => !m.testBit j) = true := by decide +kernel
theorem ctz_min {m j : Nat} (h : m < 128) (hj : j < ctz m) : m.testBit j = false := by
  have := List.all_eq_true.1 (List.all_eq_true.1 ctz_min_all m (List.mem_range.2 h)) j (List.mem_range.2 hj)
  simpa using this
/-- Two lists in the heap. -/
structure Two (a b : Nat) (va vb : AV) (n : Nat) (H : Heap) (P : PP) : Prop where
  ea : va = .sl a 0 1 0 (n + 1) none
  eb : vb = .sl b 0 1 0 (n + 1) none
  ha : H[a]? = some ⟨0, P.1.map vW⟩
  hb : H[b]? = some ⟨0, P.2.map vW⟩
  l1 : P.1.length = n + 1
  l2 : P.2.length = n + 1
  ne : a ≠ b

/-- Other objects stand. -/
def KeepO (a b : Nat) (H H' : Heap) : Prop := (∀ i, i < H.length → i ≠ a → i ≠ b → H'[i]? = H[i]?) ∧ H.length ≤ H'.length
theorem KeepO.refl (a b : Nat) (H : Heap) : KeepO a b H H := ⟨fun _ _ _ _ => rfl, Nat.le_refl _⟩
theorem KeepO.trans {a b : Nat} {H H' H'' : Heap} (h : KeepO a b H H') (k : KeepO a b H' H'') : KeepO a b H H'' :=
  ⟨fun i hi n1 n2 => (k.1 i (by have := h.2; omega) n1 n2).trans (h.1 i hi n1 n2), Nat.le_trans h.2 k.2⟩

theorem Two.add {a b n : Nat} {va vb : AV} {H : Heap} {P : PP} (h : Two a b va vb n H P) (l : Heap) : Two a b va vb n (H ++ l) P :=
  ⟨h.ea, h.eb, by rw [List.getElem?_append_left (hlt_of h.ha)]; exact h.ha, by rw [List.getElem?_append_left (hlt_of h.hb)]; exact h.hb, h.l1, h.l2, h.ne⟩
theorem KeepO.add (a b : Nat) (H l : Heap) : KeepO a b H (H ++ l) := ⟨fun i hi _ _ => List.getElem?_append_left hi, by simp⟩

theorem Two.gro1 {a b n : Nat} {va vb : AV} {H : Heap} {P : PP} (h : Two a b va vb n H P) : Gro 0 1 H va (n + 1) ((P.1.map wr).map vI) := by
  have := h.ha; rw [map_vW] at this
  exact ⟨by simp [h.l1], .inr ⟨a, 0, Nat.zero_le _, h.ea, this⟩⟩
theorem Two.gro2 {a b n : Nat} {va vb : AV} {H : Heap} {P : PP} (h : Two a b va vb n H P) : Gro 0 1 H vb (n + 1) ((P.2.map wr).map vI) := by
  have := h.hb; rw [map_vW] at this
  exact ⟨by simp [h.l2], .inr ⟨b, 0, Nat.zero_le _, h.eb, this⟩⟩
theorem Two.st1 {a b n u : Nat} {va vb : AV} {H : Heap} {P : PP} (h : Two a b va vb n H P) (hu : u < n + 1) (y : Int) : ∃ H', storeA H 1 (gptr 1 va u) (vW y) = some H' ∧ Two a b va vb n H' (P.1.set u y, P.2) ∧ KeepO a b H H' := by
  obtain ⟨id, ver, e1, e2, e3, e4⟩ := h.gro1.store (i := u) (x := wr y) hu
  rw [h.ea] at e1; cases e1
  have hh := h.ha; rw [map_vW] at hh
  rw [hh] at e2; cases e2
  refine ⟨_, e3, ⟨h.ea, h.eb, ?_, ?_, by simp [h.l1], h.l2, h.ne⟩, fun i hi n1 n2 => List.getElem?_set_ne (Ne.symm n1), by simp⟩
  · rw [List.getElem?_set_self (hlt_of h.ha)]; simp [map_vW, List.map_set]
  · rw [List.getElem?_set_ne h.ne]; exact h.hb
theorem Two.st2 {a b n u : Nat} {va vb : AV} {H : Heap} {P : PP} (h : Two a b va vb n H P) (hu : u < n + 1) (y : Int) : ∃ H', storeA H 1 (gptr 1 vb u) (vW y) = some H' ∧ Two a b va vb n H' (P.1, P.2.set u y) ∧ KeepO a b H H' := by
  obtain ⟨id, ver, e1, e2, e3, e4⟩ := h.gro2.store (i := u) (x := wr y) hu
  rw [h.eb] at e1; cases e1
  have hh := h.hb; rw [map_vW] at hh
  rw [hh] at e2; cases e2
  refine ⟨_, e3, ⟨h.ea, h.eb, ?_, ?_, h.l1, by simp [h.l2], h.ne⟩, fun i hi n1 n2 => List.getElem?_set_ne (Ne.symm n2), by simp⟩
  · rw [List.getElem?_set_ne (Ne.symm h.ne)]; exact h.ha
  · rw [List.getElem?_set_self (hlt_of h.hb)]; simp [map_vW, List.map_set]

/-- The knots of a ring, so far. -/
def Now (a b : Nat) (H : Heap) (nw : AV) (L : List Nat) : Prop := ∃ q, nw = .sl q 0 1 0 L.length none ∧ H[q]? = some ⟨0, (L.map fun n : Nat => (n : Int)).map vI⟩ ∧ q ≠ a ∧ q ≠ b

theorem Now.gro {a b : Nat} {H : Heap} {nw : AV} {L : List Nat} (h : Now a b H nw L) : Gro 0 1 H nw L.length ((L.map fun n : Nat => (n : Int)).map vI) := by
  obtain ⟨q, e, h1, _⟩ := h
  exact ⟨by simp, .inr ⟨q, 0, Nat.zero_le _, e, h1⟩⟩
theorem Now.keep {a b : Nat} {H H' : Heap} {nw : AV} {L : List Nat} (h : Now a b H nw L) (k : KeepO a b H H') : Now a b H' nw L := by
  obtain ⟨q, e, h1, h2, h3⟩ := h
  exact ⟨q, e, (k.1 q (hlt_of h1) h2 h3).trans h1, h2, h3⟩
theorem Now.load {a b j : Nat} {H : Heap} {nw : AV} {L : List Nat} (h : Now a b H nw L) (hj : j < L.length) : loadA H none (gptr 1 nw j) = some (vI (L.getD j 0 : Nat)) := by
  rw [h.gro.load hj]
  simp [List.getD_eq_getElem?_getD, hj]
/-- A ring that goes on: new memory. -/
theorem Now.app {a b k : Nat} {H : Heap} {nw : AV} {L : List Nat} (h : Now a b H nw L) (hl : L.length ≤ 1000) (ha : a < H.length) (hb : b < H.length) : ∃ u nw' H', sliceA 1 nw none (some (vI L.length)) (some (vI L.length)) = some u ∧
    appA (H ++ [(⟨0, [vI k]⟩ : Ob)]) 1 8 u (.sl H.length 0 1 0 1 none) = some (nw', H ++ [⟨0, [vI k]⟩] ++ H') ∧ Now a b (H ++ [⟨0, [vI k]⟩] ++ H') nw' (L ++ [k]) := by
  obtain ⟨q, rfl, h1, h2, h3⟩ := h
  refine ⟨.sl q 0 1 0 L.length (some L.length), .sl (H.length + 1) 0 1 0 (L.length + 1) none, [⟨0, (L.map fun n : Nat => (n : Int)).map vI ++ [vI k]⟩], ?_, ?_, H.length + 1, by simp, ?_, by omega, by omega⟩
  · simp [sliceA, optNat, natOf]
  · have g1 : (H ++ [(⟨0, [vI k]⟩ : Ob)])[q]? = some ⟨0, (L.map fun n : Nat => (n : Int)).map vI⟩ := by rw [List.getElem?_append_left (hlt_of h1)]; exact h1
    have g2 : (H ++ [(⟨0, [vI k]⟩ : Ob)])[H.length]? = some ⟨0, [vI k]⟩ := get_last
    have c2 : content (H ++ [(⟨0, [vI k]⟩ : Ob)]) 1 (.sl H.length 0 1 0 1 none) = some [vI k] := content_all g2 rfl
    have c1 : content (H ++ [(⟨0, [vI k]⟩ : Ob)]) 1 (.sl q 0 1 0 L.length (some L.length)) = some ((L.map fun n : Nat => (n : Int)).map vI) := by
      simp only [content, g1]
      rw [if_pos ⟨trivial, trivial, by simp⟩, List.drop_zero, List.take_of_length_le (by simp)]
    have l1 : lenA (.sl q 0 1 0 L.length (some L.length)) = some L.length := rfl
    have l2 : lenA (.sl H.length 0 1 0 1 none) = some 1 := rfl
    simp only [appA, l1, l2, c2]
    rw [if_neg (by decide), if_pos ⟨by omega, by omega, rfl⟩, if_pos (by omega), c1]
    simp
  · rw [List.getElem?_append_right (by simp)]
    simp

section
variable {Y : Run}

def FigOk (Y : Run) (fr : AV) (f : List Nat) (a b : Nat) (va vb : AV) (d : Nat) : Prop :=
  ∀ (H : Heap) (P : PP) (left used : Nat) (wt : Int), left < 2 ^ f.length → pc left ≤ d → used + pc left ≤ f.length → Two a b va vb f.length H P →
    ∃ H', callL ET Y 70 [fr, vI left, vI used, vW wt, va, vb] H = some (.tup [], H') ∧ Two a b va vb f.length H' (figP f f.length d left used wt P) ∧ KeepO a b H H'

def RingOk (Y : Run) (fr : AV) (f : List Nat) (a b : Nat) (va vb : AV) (used : Nat) (wt : Int) (left : Nat) (L : List Nat) (R : PP → PP) : Prop :=
  ∀ (H : Heap) (P : PP) (nw : AV), Two a b va vb f.length H P → Now a b H nw L →
    ∃ H', callL ET Y 90 [fr, vI left, vI used, vW wt, va, vb, nw] H = some (.tup [], H') ∧ Two a b va vb f.length H' (R P) ∧ KeepO a b H H'

theorem L90 {fr : AV} {f : List Nat} {a b last left used : Nat} {va vb : AV} {wt : Int} {L : List Nat} {R : Nat → PP → PP} (hF : Fr fr f) (hla : last < f.length) (hleft : left < 2 ^ f.length) (hL : L.length ≤ 1000)
    (hrec : ∀ k, k < f.length → (f.getD last 0 &&& left).testBit k = true → RingOk Y fr f a b va vb used wt (dl left (2 ^ k)) (L ++ [k]) (R k)) (d : Nat) : ∀ {H : Heap} {P : PP} {nw : AV} (k : Nat), k + d = f.length → Two a b va vb f.length H P → Now a b H nw L →
    ∃ H', lp ET Y F90L0 (sp 90 [(15, vI k), (14, vI last), (6, nw), (5, vb), (4, va), (3, vW wt), (2, vI used), (1, vI left), (0, fr)]) H = some (.x 0, sp 90 [], H') ∧
      Two a b va vb f.length H' ((List.range' k d).foldl (fun P k => if (f.getD last 0 &&& left).testBit k then R k P else P) P) ∧ KeepO a b H H' := by
  have hflen := hF.hv.len
  rw [List.length_map] at hflen
  have h128 := hF.p7
  have hn7 := hF.n7
  induction d with
  | zero =>
    intro H P nw k hk h hN
    refine ⟨H, ?_, by simpa using h, KeepO.refl _ _ _⟩
    rw [un90_0]
    have : ¬ ((k : Int) < (f.length : Int)) := by omega
    simp only [F90L0b, SS, insA, wantedA, Opd.ev, putA, binA, eqbA, unA, fldA, partA, reduceIte, reduceCtorEq, Nat.reduceMod, Nat.reduceDiv, Nat.reduceBEq, resultA, resA, vI, Nat.reduceMul, Nat.reduceAdd, Nat.reduceSub, Nat.reduceEqDiff, Nat.reduceLT, Nat.reducePow, Nat.reduceLeDiff, st, Option.bind_eq_bind, Option.pure_def, List.length_nil, Int.cast_ofNat_Int, List.reverse_nil, UU, idxP, cellsAt, storeA, fillA, zerosA, putAll, optNat, sliceA, row, Int.reduceLT, Int.reduceLE, Int.reduceGT, Int.reduceGE, Int.reduceEq, Int.reduceNe, Int.reduceToNat, Int.reduceBEq, Int.reduceBNe, Nat.reduceLeDiff, Nat.reduceLT, Nat.reduceBNe, Nat.reduceGT, List.drop_nil, List.take_nil, Option.isSome_none, Int.ofNat_one, Int.ofNat_zero, hflen, this]
  | succ d ihd =>
    intro H P nw k hk h hN
    have hk1 : k < f.length := by omega
    have hc : (k : Int) < (f.length : Int) := by omega
    have hw := wrap_succ (n := k) (by omega)
    have hip := hF.hv.idx (i := last) (by simpa using hla)
    have hlp := hF.hv.load (H := H) (i := last) (by simpa using hla)
    rw [getD_nat hla] at hlp
    have b1 := (nat_bits (a := f.getD last 0) (b := left) (by have := hF.fb last; omega) (by omega)).1
    have hp2 : (0 : Int) ≤ (k : Int) := by omega
    have hs2 := shr_eq (k := k) (by omega)
    have hs3 := shl_eq (k := k) (by omega)
    have h20 : (2 : Int) ≠ 0 := by decide
    have ht := tmod_emod (sh_nonneg (x := ((f.getD last 0 &&& left : Nat) : Int)) (by omega) k)
    have q0 := sh_beq (f.getD last 0 &&& left) k
    rw [un90_0, List.range'_succ, List.foldl_cons]
    cases c1 : (f.getD last 0 &&& left).testBit k with
    | false =>
      rw [c1] at q0
      obtain ⟨H', e1, h1, n1⟩ := ihd (k + 1) (by omega) h hN
      refine ⟨H', ?_, by simpa using h1, n1⟩
      simp only [vW, wr, SS, insA, wantedA, Opd.ev, putA, binA, eqbA, unA, fldA, partA, reduceIte, reduceCtorEq, Nat.reduceMod, Nat.reduceDiv, Nat.reduceBEq, resultA, resA, vI, Nat.reduceMul, Nat.reduceAdd, Nat.reduceSub, Nat.reduceEqDiff, Nat.reduceLT, Nat.reducePow, Nat.reduceLeDiff, st, Option.bind_eq_bind, Option.pure_def, List.length_nil, Int.cast_ofNat_Int, List.reverse_nil] at e1
      simp only [F90L0b, SS, insA, wantedA, Opd.ev, putA, binA, eqbA, unA, fldA, partA, reduceIte, reduceCtorEq, Nat.reduceMod, Nat.reduceDiv, Nat.reduceBEq, resultA, resA, vI, Nat.reduceMul, Nat.reduceAdd, Nat.reduceSub, Nat.reduceEqDiff, Nat.reduceLT, Nat.reducePow, Nat.reduceLeDiff, st, Option.bind_eq_bind, Option.pure_def, List.length_nil, Int.cast_ofNat_Int, List.reverse_nil, UU, idxP, cellsAt, storeA, fillA, zerosA, putAll, optNat, sliceA, row, Int.reduceLT, Int.reduceLE, Int.reduceGT, Int.reduceGE, Int.reduceEq, Int.reduceNe, Int.reduceToNat, Int.reduceBEq, Int.reduceBNe, Nat.reduceLeDiff, Nat.reduceLT, Nat.reduceBNe, Nat.reduceGT, List.drop_nil, List.take_nil, Option.isSome_none, Int.ofNat_one, Int.ofNat_zero, hflen, hc, hip, hlp, b1, hp2, hs2, h20, ht, q0, hw, e1, ne_eq, not_false_eq_true, and_self]
    | true =>
      rw [c1] at q0
      have hlk : left.testBit k = true := by rw [Nat.testBit_and, Bool.and_eq_true] at c1; exact c1.2
      have hsub := dl_sub (m := left) (j := k) (by omega) (by omega) hlk
      obtain ⟨u, nw', Hx, a1, a2, a3⟩ := hN.app (k := k) hL (hlt_of h.ha) (hlt_of h.hb)
      have hT := (h.add [⟨0, [vI k]⟩]).add Hx
      have hK := (KeepO.add a b H [⟨0, [vI k]⟩]).trans (KeepO.add a b _ Hx)
      generalize H ++ [(⟨0, [vI k]⟩ : Ob)] ++ Hx = H1 at *
      obtain ⟨H2, e2, h2, k2⟩ := hrec k hk1 c1 H1 P nw' hT a3
      obtain ⟨H', e3, h3, k3⟩ := ihd (k + 1) (by omega) h2 (hN.keep (hK.trans k2))
      refine ⟨H', ?_, by rw [if_pos rfl]; exact h3, (hK.trans k2).trans k3⟩
      have hNl := hN.gro.len
      simp only [vW, wr, SS, insA, wantedA, Opd.ev, putA, binA, eqbA, unA, fldA, partA, reduceIte, reduceCtorEq, Nat.reduceMod, Nat.reduceDiv, Nat.reduceBEq, resultA, resA, vI, Nat.reduceMul, Nat.reduceAdd, Nat.reduceSub, Nat.reduceEqDiff, Nat.reduceLT, Nat.reducePow, Nat.reduceLeDiff, st, Option.bind_eq_bind, Option.pure_def, List.length_nil, Int.cast_ofNat_Int, List.reverse_nil] at e2 e3 a1 a2
      simp only [F90L0b, SS, insA, wantedA, Opd.ev, putA, binA, eqbA, unA, fldA, partA, reduceIte, reduceCtorEq, Nat.reduceMod, Nat.reduceDiv, Nat.reduceBEq, resultA, resA, vI, Nat.reduceMul, Nat.reduceAdd, Nat.reduceSub, Nat.reduceEqDiff, Nat.reduceLT, Nat.reducePow, Nat.reduceLeDiff, st, Option.bind_eq_bind, Option.pure_def, List.length_nil, Int.cast_ofNat_Int, List.reverse_nil, UU, idxP, cellsAt, fillA, zerosA, putAll, row, Int.reduceLT, Int.reduceLE, Int.reduceGT, Int.reduceGE, Int.reduceEq, Int.reduceNe, Int.reduceToNat, Int.reduceBEq, Int.reduceBNe, Nat.reduceLeDiff, Nat.reduceLT, Nat.reduceBNe, Nat.reduceGT, List.drop_nil, List.take_nil, Option.isSome_none, Int.ofNat_one, Int.ofNat_zero, hflen, hc, hip, hlp, b1, hp2, hs2, hs3, h20, ht, q0, hw, hsub, hNl, a1, a2, e2, e3, ne_eq, not_false_eq_true, and_self, List.append_nil]


theorem ring_foldl_none {f : List Nat} {last : Nat} {R : Nat → PP → PP} : ∀ (l : List Nat) (P : PP), l.foldl (fun P k => if (f.getD last 0 &&& 0).testBit k then R k P else P) P = P
  | [], P => rfl
  | k :: l, P => by
    have h0 : (f.getD last 0 &&& 0).testBit k = false := by simp
    rw [List.foldl_cons, h0, if_neg (by simp)]; exact ring_foldl_none l P

theorem ring90_step {fr : AV} {f : List Nat} {a b used d : Nat} {va vb : AV} {wt : Int} (hF : Fr fr f) (hfig : FigOk Y fr f a b va vb d) {L : List Nat} {last left : Nat} {R : Nat → PP → PP} (h2 : 2 ≤ L.length) (hlast : L.getD (L.length - 1) 0 = last) (hla : last < f.length) (h0l : L.getD 0 0 < f.length) (h1l : L.getD 1 0 < f.length)
    (hleft : left < 2 ^ f.length) (hd : pc left ≤ d) (hu : used + L.length + pc left ≤ f.length)
    (hrec : ∀ k, k < f.length → (f.getD last 0 &&& left).testBit k = true → RingOk Y fr f a b va vb used wt (dl left (2 ^ k)) (L ++ [k]) (R k)) :
    RingOk Y fr f a b va vb used wt left L (fun P => (List.range f.length).foldl (fun P k => if (f.getD last 0 &&& left).testBit k then R k P else P)
      (if 3 ≤ L.length ∧ L.getD 1 0 < last ∧ (f.getD last 0).testBit (L.getD 0 0) = true then figP f f.length d left (used + L.length) (-2 * wt) P else P)) := by
  have hflen := hF.hv.len
  rw [List.length_map] at hflen
  have h128 := hF.p7
  have hn7 := hF.n7
  intro H P nw hT hN
  have hNl := hN.gro.len
  have hsub : IntKind.wrap .i64 ((L.length : Int) - 1) = ((L.length - 1 : Nat) : Int) := by rw [wrap_id (by omega) (by omega)]; omega
  have i9 := hN.gro.idx (i := L.length - 1) (by omega)
  have l9 := hN.load (j := L.length - 1) (by omega)
  rw [hlast] at l9
  have i0 := hN.gro.idx (i := 0) (by omega)
  have l0 := hN.load (j := 0) (by omega)
  have i1 := hN.gro.idx (i := 1) (by omega)
  have l1 := hN.load (j := 1) (by omega)
  have hip := hF.hv.idx (i := last) (by simpa using hla)
  have hlp := hF.hv.load (H := H) (i := last) (by simpa using hla)
  rw [getD_nat hla] at hlp
  have hp0 : (0 : Int) ≤ ((L.getD 0 0 : Nat) : Int) := by omega
  have hs0 := shr_eq (k := L.getD 0 0) (by omega)
  have h20 : (2 : Int) ≠ 0 := by decide
  have ht := tmod_emod (sh_nonneg (x := ((f.getD last 0 : Nat) : Int)) (by omega) (L.getD 0 0))
  have q0 := sh_beq (f.getD last 0) (L.getD 0 0)
  have hwu : IntKind.wrap .i64 ((used : Int) + (L.length : Int)) = ((used + L.length : Nat) : Int) := by rw [wrap_id (by omega) (by omega)]; omega
  have hwt : IntKind.wrap .i64 (-2 * wr wt) = wr (-2 * wt) := by simp only [wr, IntKind.wrap_i64]; omega
  have hL := fun {H : Heap} {P : PP} (h : Two a b va vb f.length H P) (hN : Now a b H nw L) => L90 (Y := Y) (wt := wt) (used := used) hF hla hleft (by omega) hrec f.length 0 (by omega) h hN
  rw [← List.range_eq_range'] at hL
  generalize L.getD 0 0 = g0 at *
  generalize L.getD 1 0 = g1 at *
  have fin : (∃ H', 3 ≤ L.length ∧ g1 < last ∧ (f.getD last 0).testBit g0 = true ∧ callL ET Y 70 [fr, vI left, vI ((used + L.length : Nat) : Int), vW (-2 * wt), va, vb] H = some (.tup [], H') ∧ Two a b va vb f.length H' (figP f f.length d left (used + L.length) (-2 * wt) P) ∧ KeepO a b H H') ∨ ¬ (3 ≤ L.length ∧ g1 < last ∧ (f.getD last 0).testBit g0 = true) := by
    by_cases c : 3 ≤ L.length ∧ g1 < last ∧ (f.getD last 0).testBit g0 = true
    · obtain ⟨H', a1, a2, a3⟩ := hfig H P left (used + L.length) (-2 * wt) hleft hd (by omega) hT
      exact .inl ⟨H', c.1, c.2.1, c.2.2, a1, a2, a3⟩
    · exact .inr c
  rcases fin with ⟨H1, c1, c2, c3, a1, a2, a3⟩ | c
  · obtain ⟨H', e1, e2, e3⟩ := hL a2 (hN.keep a3)
    refine ⟨H', ?_, by dsimp only; rw [if_pos ⟨c1, c2, c3⟩]; exact e2, a3.trans e3⟩
    have d1 : (L.length : Int) ≥ 3 := by omega
    have d2 : (last : Int) > (g1 : Int) := by omega
    rw [c3] at q0
    rw [call90 rfl]
    simp only [vW, wr, SS, insA, wantedA, Opd.ev, putA, binA, eqbA, unA, fldA, partA, reduceIte, reduceCtorEq, Nat.reduceMod, Nat.reduceDiv, Nat.reduceBEq, resultA, resA, vI, Nat.reduceMul, Nat.reduceAdd, Nat.reduceSub, Nat.reduceEqDiff, Nat.reduceLT, Nat.reducePow, Nat.reduceLeDiff, st, Option.bind_eq_bind, Option.pure_def, List.length_nil, Int.cast_ofNat_Int, List.reverse_nil, Int.ofNat_zero, Int.ofNat_one] at e1 a1 hwt i0 i1
    simp only [F90B, in90_0, SS, insA, wantedA, Opd.ev, putA, binA, eqbA, unA, fldA, partA, reduceIte, reduceCtorEq, Nat.reduceMod, Nat.reduceDiv, Nat.reduceBEq, resultA, resA, vI, Nat.reduceMul, Nat.reduceAdd, Nat.reduceSub, Nat.reduceEqDiff, Nat.reduceLT, Nat.reducePow, Nat.reduceLeDiff, st, Option.bind_eq_bind, Option.pure_def, List.length_nil, Int.cast_ofNat_Int, List.reverse_nil, UU, idxP, cellsAt, storeA, fillA, zerosA, putAll, optNat, sliceA, row, Int.reduceLT, Int.reduceLE, Int.reduceGT, Int.reduceGE, Int.reduceEq, Int.reduceNe, Int.reduceToNat, Int.reduceBEq, Int.reduceBNe, Nat.reduceLeDiff, Nat.reduceLT, Nat.reduceBNe, Nat.reduceGT, List.drop_nil, List.take_nil, Option.isSome_none, Int.ofNat_one, Int.ofNat_zero, hNl, hsub, i9, l9, i0, l0, i1, l1, hip, hlp, hp0, hs0, h20, ht, q0, hwu, hwt, d1, d2, a1, e1, endX, List.mapM_nil, vW, ne_eq, not_false_eq_true, and_self]
  · obtain ⟨H', e1, e2, e3⟩ := hL hT hN
    refine ⟨H', ?_, by dsimp only; rw [if_neg c]; exact e2, e3⟩
    rw [call90 rfl]
    simp only [vW, wr, SS, insA, wantedA, Opd.ev, putA, binA, eqbA, unA, fldA, partA, reduceIte, reduceCtorEq, Nat.reduceMod, Nat.reduceDiv, Nat.reduceBEq, resultA, resA, vI, Nat.reduceMul, Nat.reduceAdd, Nat.reduceSub, Nat.reduceEqDiff, Nat.reduceLT, Nat.reducePow, Nat.reduceLeDiff, st, Option.bind_eq_bind, Option.pure_def, List.length_nil, Int.cast_ofNat_Int, List.reverse_nil, Int.ofNat_zero, Int.ofNat_one] at e1 i0 i1
    by_cases c1 : 3 ≤ L.length
    · have d1 : (L.length : Int) ≥ 3 := by omega
      by_cases c2 : g1 < last
      · have d2 : (last : Int) > (g1 : Int) := by omega
        have c3 : (f.getD last 0).testBit g0 = false := by
          cases hh : (f.getD last 0).testBit g0 with
          | false => rfl
          | true => exact absurd ⟨c1, c2, hh⟩ c
        rw [c3] at q0
        simp only [F90B, in90_0, SS, insA, wantedA, Opd.ev, putA, binA, eqbA, unA, fldA, partA, reduceIte, reduceCtorEq, Nat.reduceMod, Nat.reduceDiv, Nat.reduceBEq, resultA, resA, vI, Nat.reduceMul, Nat.reduceAdd, Nat.reduceSub, Nat.reduceEqDiff, Nat.reduceLT, Nat.reducePow, Nat.reduceLeDiff, st, Option.bind_eq_bind, Option.pure_def, List.length_nil, Int.cast_ofNat_Int, List.reverse_nil, UU, idxP, cellsAt, storeA, fillA, zerosA, putAll, optNat, sliceA, row, Int.reduceLT, Int.reduceLE, Int.reduceGT, Int.reduceGE, Int.reduceEq, Int.reduceNe, Int.reduceToNat, Int.reduceBEq, Int.reduceBNe, Nat.reduceLeDiff, Nat.reduceLT, Nat.reduceBNe, Nat.reduceGT, List.drop_nil, List.take_nil, Option.isSome_none, Int.ofNat_one, Int.ofNat_zero, hNl, hsub, i9, l9, i0, l0, i1, l1, hip, hlp, hp0, hs0, h20, ht, q0, d1, d2, e1, endX, List.mapM_nil, vW, ne_eq, not_false_eq_true, and_self]
      · have d2 : ¬ (last : Int) > (g1 : Int) := by omega
        simp only [F90B, in90_0, SS, insA, wantedA, Opd.ev, putA, binA, eqbA, unA, fldA, partA, reduceIte, reduceCtorEq, Nat.reduceMod, Nat.reduceDiv, Nat.reduceBEq, resultA, resA, vI, Nat.reduceMul, Nat.reduceAdd, Nat.reduceSub, Nat.reduceEqDiff, Nat.reduceLT, Nat.reducePow, Nat.reduceLeDiff, st, Option.bind_eq_bind, Option.pure_def, List.length_nil, Int.cast_ofNat_Int, List.reverse_nil, UU, idxP, cellsAt, storeA, fillA, zerosA, putAll, optNat, sliceA, row, Int.reduceLT, Int.reduceLE, Int.reduceGT, Int.reduceGE, Int.reduceEq, Int.reduceNe, Int.reduceToNat, Int.reduceBEq, Int.reduceBNe, Nat.reduceLeDiff, Nat.reduceLT, Nat.reduceBNe, Nat.reduceGT, List.drop_nil, List.take_nil, Option.isSome_none, Int.ofNat_one, Int.ofNat_zero, hNl, hsub, i9, l9, i0, l0, i1, l1, d1, d2, e1, endX, List.mapM_nil, vW, ne_eq, not_false_eq_true, and_self]
    · have d1 : ¬ (L.length : Int) ≥ 3 := by omega
      simp only [F90B, in90_0, SS, insA, wantedA, Opd.ev, putA, binA, eqbA, unA, fldA, partA, reduceIte, reduceCtorEq, Nat.reduceMod, Nat.reduceDiv, Nat.reduceBEq, resultA, resA, vI, Nat.reduceMul, Nat.reduceAdd, Nat.reduceSub, Nat.reduceEqDiff, Nat.reduceLT, Nat.reducePow, Nat.reduceLeDiff, st, Option.bind_eq_bind, Option.pure_def, List.length_nil, Int.cast_ofNat_Int, List.reverse_nil, UU, idxP, cellsAt, storeA, fillA, zerosA, putAll, optNat, sliceA, row, Int.reduceLT, Int.reduceLE, Int.reduceGT, Int.reduceGE, Int.reduceEq, Int.reduceNe, Int.reduceToNat, Int.reduceBEq, Int.reduceBNe, Nat.reduceLeDiff, Nat.reduceLT, Nat.reduceBNe, Nat.reduceGT, List.drop_nil, List.take_nil, Option.isSome_none, Int.ofNat_one, Int.ofNat_zero, hNl, hsub, i9, l9, d1, e1, endX, List.mapM_nil, vW, ne_eq, not_false_eq_true, and_self]

theorem ring90 {fr : AV} {f : List Nat} {a b used d : Nat} {va vb : AV} {wt : Int} (hF : Fr fr f) (hfig : FigOk Y fr f a b va vb d) : ∀ (e : Nat) (L : List Nat) (last left : Nat), 2 ≤ L.length → L.getD (L.length - 1) 0 = last → last < f.length → L.getD 0 0 < f.length → L.getD 1 0 < f.length → left < 2 ^ f.length → pc left ≤ e → pc left ≤ d → used + L.length + pc left ≤ f.length →
    RingOk Y fr f a b va vb used wt left L (ringP (figP f f.length d) f f.length (L.getD 0 0) used wt e last (L.getD 1 0) L.length left) := by
  have h128 := hF.p7
  intro e
  induction e with
  | zero =>
    intro L last left h2 hlast hla h0l h1l hleft he hd hu
    have h0 : left = 0 := by
      rcases Nat.eq_zero_or_pos left with h | h
      · exact h
      · have := (pc_pos (met := left) (by omega)).1 h; omega
    have := ring90_step (Y := Y) (wt := wt) (R := fun _ P => P) hF hfig h2 hlast hla h0l h1l hleft hd hu (fun k _ hb => by rw [h0, Nat.and_zero, Nat.zero_testBit] at hb; cases hb)
    subst h0
    simp only [ring_foldl_none] at this
    simp only [ringP]
    exact this
  | succ e ih =>
    intro L last left h2 hlast hla h0l h1l hleft he hd hu
    refine ring90_step (Y := Y) (wt := wt) (R := fun k P => ringP (figP f f.length d) f f.length (L.getD 0 0) used wt e k (L.getD 1 0) (L.length + 1) (dl left (2 ^ k)) P) hF hfig h2 hlast hla h0l h1l hleft hd hu (fun k hk hb => ?_)
    rw [Nat.testBit_and, Bool.and_eq_true] at hb
    have hn7 := hF.n7
    have hp := pc_del hb.2 (by omega)
    have := ih (L ++ [k]) k (dl left (2 ^ k)) (by simp; omega) getD_app_last hk (by rw [getD_app (by omega)]; exact h0l) (by rw [getD_app (by omega)]; exact h1l) (Nat.lt_of_le_of_lt (dl_le _ _) hleft) (by omega) (by omega) (by simp; omega)
    rw [getD_app (by omega), getD_app (by omega), List.length_append, List.length_singleton] at this
    exact this

theorem L70_0 {H : Heap} {fr va vb wv uv : AV} {left : Nat} (hl : left < 128) (h0 : left ≠ 0) (d : Nat) : ∀ (i : Nat), i + d = ctz left →
    lp ET Y F70L0 (sp 89 [(12, vI i), (5, vb), (4, va), (3, wv), (2, uv), (1, vI left), (0, fr)]) H = some (.x 0, sp 89 [(12, vI (ctz left)), (5, vb), (4, va), (3, wv), (2, uv), (1, vI left), (0, fr)], H) := by
  have h20 : (2 : Int) ≠ 0 := by decide
  have h7 := ctz_lt left
  induction d with
  | zero =>
    intro i hi
    have e : i = ctz left := by omega
    subst e
    have hp2 : (0 : Int) ≤ ((ctz left : Nat) : Int) := by omega
    have hs2 := shr_eq (k := ctz left) (by omega)
    have ht := tmod_emod (sh_nonneg (x := (left : Int)) (by omega) (ctz left))
    have q0 := sh_beq0 left (ctz left)
    rw [ctz_ok hl h0] at q0
    rw [un70_0]
    simp only [Bool.not_true] at q0
    simp only [F70L0b, SS, insA, wantedA, Opd.ev, putA, binA, eqbA, unA, fldA, partA, reduceIte, reduceCtorEq, Nat.reduceMod, Nat.reduceDiv, Nat.reduceBEq, resultA, resA, vI, Nat.reduceMul, Nat.reduceAdd, Nat.reduceSub, Nat.reduceEqDiff, Nat.reduceLT, Nat.reducePow, Nat.reduceLeDiff, st, Option.bind_eq_bind, Option.pure_def, List.length_nil, Int.cast_ofNat_Int, List.reverse_nil, UU, idxP, cellsAt, storeA, fillA, zerosA, putAll, optNat, sliceA, row, Int.reduceLT, Int.reduceLE, Int.reduceGT, Int.reduceGE, Int.reduceEq, Int.reduceNe, Int.reduceToNat, Int.reduceBEq, Int.reduceBNe, Nat.reduceLeDiff, Nat.reduceLT, Nat.reduceBNe, Nat.reduceGT, List.drop_nil, List.take_nil, Option.isSome_none, Int.ofNat_one, Int.ofNat_zero, hp2, hs2, h20, ht, q0, ne_eq, not_false_eq_true, and_self]
  | succ d ih =>
    intro i hi
    have hp2 : (0 : Int) ≤ (i : Int) := by omega
    have hs2 := shr_eq (k := i) (by omega)
    have ht := tmod_emod (sh_nonneg (x := (left : Int)) (by omega) i)
    have q0 := sh_beq0 left i
    have hw := wrap_succ (n := i) (by omega)
    rw [ctz_min hl (by omega)] at q0
    have ih := ih (i + 1) (by omega)
    rw [un70_0]
    simp only [Bool.not_false] at q0
    simp only [SS, insA, wantedA, Opd.ev, putA, binA, eqbA, unA, fldA, partA, reduceIte, reduceCtorEq, Nat.reduceMod, Nat.reduceDiv, Nat.reduceBEq, resultA, resA, vI, Nat.reduceMul, Nat.reduceAdd, Nat.reduceSub, Nat.reduceEqDiff, Nat.reduceLT, Nat.reducePow, Nat.reduceLeDiff, st, Option.bind_eq_bind, Option.pure_def, List.length_nil, Int.cast_ofNat_Int, List.reverse_nil] at ih
    simp only [F70L0b, SS, insA, wantedA, Opd.ev, putA, binA, eqbA, unA, fldA, partA, reduceIte, reduceCtorEq, Nat.reduceMod, Nat.reduceDiv, Nat.reduceBEq, resultA, resA, vI, Nat.reduceMul, Nat.reduceAdd, Nat.reduceSub, Nat.reduceEqDiff, Nat.reduceLT, Nat.reducePow, Nat.reduceLeDiff, st, Option.bind_eq_bind, Option.pure_def, List.length_nil, Int.cast_ofNat_Int, List.reverse_nil, UU, idxP, cellsAt, storeA, fillA, zerosA, putAll, optNat, sliceA, row, Int.reduceLT, Int.reduceLE, Int.reduceGT, Int.reduceGE, Int.reduceEq, Int.reduceNe, Int.reduceToNat, Int.reduceBEq, Int.reduceBNe, Nat.reduceLeDiff, Nat.reduceLT, Nat.reduceBNe, Nat.reduceGT, List.drop_nil, List.take_nil, Option.isSome_none, Int.ofNat_one, Int.ofNat_zero, hp2, hs2, h20, ht, q0, hw, ih, ne_eq, not_false_eq_true, and_self]

theorem L70_1 {fr : AV} {f : List Nat} {a b i S used d : Nat} {va vb : AV} {wt : Int} (hF : Fr fr f) (hfig : FigOk Y fr f a b va vb d) (hi : i < f.length) (hS : S < 2 ^ f.length) (hd : pc S ≤ d) (hu : used + 1 + pc S ≤ f.length) (m : Nat) : ∀ {H : Heap} {P : PP} (k : Nat), k + m = f.length → Two a b va vb f.length H P →
    ∃ H', lp ET Y F70L1 (sp 89 [(14, vI k), (13, vI S), (12, vI i), (5, vb), (4, va), (3, vW wt), (2, vI used), (0, fr)]) H = some (.x 2, sp 89 [], H') ∧
      Two a b va vb f.length H' ((List.range' k m).foldl (fun P k => if (f.getD i 0 &&& S).testBit k then
        ringP (figP f f.length d) f f.length i used wt 7 k k 2 (dl S (2 ^ k)) (figP f f.length d (dl S (2 ^ k)) (used + 2) (-wt) P) else P) P) ∧ KeepO a b H H' := by
  have hflen := hF.hv.len
  rw [List.length_map] at hflen
  have h128 := hF.p7
  have hn7 := hF.n7
  induction m with
  | zero =>
    intro H P k hk h
    refine ⟨H, ?_, by simpa using h, KeepO.refl _ _ _⟩
    rw [un70_1]
    have : ¬ ((k : Int) < (f.length : Int)) := by omega
    simp only [F70L1b, SS, insA, wantedA, Opd.ev, putA, binA, eqbA, unA, fldA, partA, reduceIte, reduceCtorEq, Nat.reduceMod, Nat.reduceDiv, Nat.reduceBEq, resultA, resA, vI, Nat.reduceMul, Nat.reduceAdd, Nat.reduceSub, Nat.reduceEqDiff, Nat.reduceLT, Nat.reducePow, Nat.reduceLeDiff, st, Option.bind_eq_bind, Option.pure_def, List.length_nil, Int.cast_ofNat_Int, List.reverse_nil, UU, idxP, cellsAt, storeA, fillA, zerosA, putAll, optNat, sliceA, row, Int.reduceLT, Int.reduceLE, Int.reduceGT, Int.reduceGE, Int.reduceEq, Int.reduceNe, Int.reduceToNat, Int.reduceBEq, Int.reduceBNe, Nat.reduceLeDiff, Nat.reduceLT, Nat.reduceBNe, Nat.reduceGT, List.drop_nil, List.take_nil, Option.isSome_none, Int.ofNat_one, Int.ofNat_zero, hflen, this]
  | succ m ihm =>
    intro H P k hk h
    have hk1 : k < f.length := by omega
    have hc : (k : Int) < (f.length : Int) := by omega
    have hw := wrap_succ (n := k) (by omega)
    have hip := hF.hv.idx (i := i) (by simpa using hi)
    have hlp := hF.hv.load (H := H) (i := i) (by simpa using hi)
    rw [getD_nat hi] at hlp
    have b1 := (nat_bits (a := f.getD i 0) (b := S) (by have := hF.fb i; omega) (by omega)).1
    have hp2 : (0 : Int) ≤ (k : Int) := by omega
    have hs2 := shr_eq (k := k) (by omega)
    have hs3 := shl_eq (k := k) (by omega)
    have h20 : (2 : Int) ≠ 0 := by decide
    have ht := tmod_emod (sh_nonneg (x := ((f.getD i 0 &&& S : Nat) : Int)) (by omega) k)
    have q0 := sh_beq (f.getD i 0 &&& S) k
    rw [un70_1, List.range'_succ, List.foldl_cons]
    cases c1 : (f.getD i 0 &&& S).testBit k with
    | false =>
      rw [c1] at q0
      obtain ⟨H', e1, h1, n1⟩ := ihm (k + 1) (by omega) h
      refine ⟨H', ?_, by simpa using h1, n1⟩
      simp only [vW, wr, SS, insA, wantedA, Opd.ev, putA, binA, eqbA, unA, fldA, partA, reduceIte, reduceCtorEq, Nat.reduceMod, Nat.reduceDiv, Nat.reduceBEq, resultA, resA, vI, Nat.reduceMul, Nat.reduceAdd, Nat.reduceSub, Nat.reduceEqDiff, Nat.reduceLT, Nat.reducePow, Nat.reduceLeDiff, st, Option.bind_eq_bind, Option.pure_def, List.length_nil, Int.cast_ofNat_Int, List.reverse_nil] at e1
      simp only [F70L1b, SS, insA, wantedA, Opd.ev, putA, binA, eqbA, unA, fldA, partA, reduceIte, reduceCtorEq, Nat.reduceMod, Nat.reduceDiv, Nat.reduceBEq, resultA, resA, vI, Nat.reduceMul, Nat.reduceAdd, Nat.reduceSub, Nat.reduceEqDiff, Nat.reduceLT, Nat.reducePow, Nat.reduceLeDiff, st, Option.bind_eq_bind, Option.pure_def, List.length_nil, Int.cast_ofNat_Int, List.reverse_nil, UU, idxP, cellsAt, storeA, fillA, zerosA, putAll, optNat, sliceA, row, Int.reduceLT, Int.reduceLE, Int.reduceGT, Int.reduceGE, Int.reduceEq, Int.reduceNe, Int.reduceToNat, Int.reduceBEq, Int.reduceBNe, Nat.reduceLeDiff, Nat.reduceLT, Nat.reduceBNe, Nat.reduceGT, List.drop_nil, List.take_nil, Option.isSome_none, Int.ofNat_one, Int.ofNat_zero, hflen, hc, hip, hlp, b1, hp2, hs2, h20, ht, q0, hw, e1, ne_eq, not_false_eq_true, and_self]
    | true =>
      rw [c1] at q0
      have hlk : S.testBit k = true := by rw [Nat.testBit_and, Bool.and_eq_true] at c1; exact c1.2
      have hpk := pc_del hlk (by omega)
      have hsub := dl_sub (m := S) (j := k) (by omega) (by omega) hlk
      have hT : dl S (2 ^ k) < 2 ^ f.length := Nat.lt_of_le_of_lt (dl_le _ _) hS
      have hwu : IntKind.wrap .i64 ((used : Int) + 2) = ((used + 2 : Nat) : Int) := by rw [wrap_id (by omega) (by omega)]; omega
      have hwt : IntKind.wrap .i64 (0 - wr wt) = wr (-wt) := by simp only [wr, IntKind.wrap_i64]; omega
      obtain ⟨H1, a1, a2, a3⟩ := hfig H P (dl S (2 ^ k)) (used + 2) (-wt) hT (by omega) (by omega) h
      have hN : Now a b (H1 ++ [(⟨0, [vI i, vI k]⟩ : Ob)]) (.sl H1.length 0 1 0 2 none) [i, k] := ⟨H1.length, rfl, by rw [get_last]; rfl, fun e => absurd (hlt_of a2.ha) (by omega), fun e => absurd (hlt_of a2.hb) (by omega)⟩
      obtain ⟨H2, r1, r2, r3⟩ := ring90 (Y := Y) (used := used) (wt := wt) hF hfig 7 [i, k] k (dl S (2 ^ k)) (by simp) (by simp) hk1 (by simpa using hi) (by simpa using hk1) hT (by unfold pc; exact Nat.le_trans (List.length_filter_le _ _) (by simp)) (by omega) (by simp; omega) _ _ _ (a2.add _) hN
      obtain ⟨H', e3, h3, k3⟩ := ihm (k + 1) (by omega) r2
      have hk2 : KeepO a b H (H1 ++ [(⟨0, [vI i, vI k]⟩ : Ob)]) := a3.trans (KeepO.add a b _ _)
      refine ⟨H', ?_, by rw [if_pos rfl]; exact h3, (hk2.trans r3).trans k3⟩
      simp only [vW, wr, SS, insA, wantedA, Opd.ev, putA, binA, eqbA, unA, fldA, partA, reduceIte, reduceCtorEq, Nat.reduceMod, Nat.reduceDiv, Nat.reduceBEq, resultA, resA, vI, Nat.reduceMul, Nat.reduceAdd, Nat.reduceSub, Nat.reduceEqDiff, Nat.reduceLT, Nat.reducePow, Nat.reduceLeDiff, st, Option.bind_eq_bind, Option.pure_def, List.length_nil, Int.cast_ofNat_Int, List.reverse_nil] at a1 r1 e3 hwt
      simp only [F70L1b, SS, insA, wantedA, Opd.ev, putA, binA, eqbA, unA, fldA, partA, reduceIte, reduceCtorEq, Nat.reduceMod, Nat.reduceDiv, Nat.reduceBEq, resultA, resA, vI, Nat.reduceMul, Nat.reduceAdd, Nat.reduceSub, Nat.reduceEqDiff, Nat.reduceLT, Nat.reducePow, Nat.reduceLeDiff, st, Option.bind_eq_bind, Option.pure_def, List.length_nil, Int.cast_ofNat_Int, List.reverse_nil, UU, idxP, cellsAt, fillA, zerosA, putAll, row, Int.reduceLT, Int.reduceLE, Int.reduceGT, Int.reduceGE, Int.reduceEq, Int.reduceNe, Int.reduceToNat, Int.reduceBEq, Int.reduceBNe, Nat.reduceLeDiff, Nat.reduceLT, Nat.reduceBNe, Nat.reduceGT, List.drop_nil, List.take_nil, Option.isSome_none, Int.ofNat_one, Int.ofNat_zero, hflen, hc, hip, hlp, b1, hp2, hs2, hs3, h20, ht, q0, hw, hsub, hwu, hwt, a1, r1, e3, ne_eq, not_false_eq_true, and_self]

theorem put70 {fr : AV} {f : List Nat} {a b used : Nat} {va vb : AV} {wt : Int} {H : Heap} {P : PP} (h : Two a b va vb f.length H P) (hu : used ≤ f.length) (hn : f.length ≤ 7) :
    ∃ H', callL ET Y 70 [fr, vI 0, vI used, vW wt, va, vb] H = some (.tup [], H') ∧ Two a b va vb f.length H' (put P used wt) ∧ KeepO a b H H' := by
  obtain ⟨H1, e1, h1, k1⟩ := h.st1 (u := used) (by omega) (P.1.getD used 0 + wt)
  obtain ⟨H2, e2, h2, k2⟩ := h1.st2 (u := used) (by omega) (P.2.getD used 0 + 1)
  refine ⟨H2, ?_, h2, k1.trans k2⟩
  have i1 := h.gro1.idx (i := used) (by omega)
  have l1 := h.gro1.load (i := used) (by omega)
  rw [getD_wr (by rw [h.l1]; omega)] at l1
  have i2 := h1.gro2.idx (i := used) (by omega)
  have l2 := h1.gro2.load (i := used) (by omega)
  rw [getD_wr (by rw [h.l2]; omega)] at l2
  have w1 := wr_add (P.1.getD used 0) wt
  have w2 : IntKind.wrap .i64 (wr (P.2.getD used 0) + 1) = wr (P.2.getD used 0 + 1) := by simp only [wr, IntKind.wrap_i64]; omega
  rw [call70 rfl]
  simp only [vW, wr, SS, insA, wantedA, Opd.ev, putA, binA, eqbA, unA, fldA, partA, reduceIte, reduceCtorEq, Nat.reduceMod, Nat.reduceDiv, Nat.reduceBEq, resultA, resA, vI, Nat.reduceMul, Nat.reduceAdd, Nat.reduceSub, Nat.reduceEqDiff, Nat.reduceLT, Nat.reducePow, Nat.reduceLeDiff, st, Option.bind_eq_bind, Option.pure_def, List.length_nil, Int.cast_ofNat_Int, List.reverse_nil] at l1 l2 w1 w2 e1 e2
  simp only [F70B, SS, insA, wantedA, Opd.ev, putA, binA, eqbA, unA, fldA, partA, reduceIte, reduceCtorEq, Nat.reduceMod, Nat.reduceDiv, Nat.reduceBEq, resultA, resA, vI, Nat.reduceMul, Nat.reduceAdd, Nat.reduceSub, Nat.reduceEqDiff, Nat.reduceLT, Nat.reducePow, Nat.reduceLeDiff, st, Option.bind_eq_bind, Option.pure_def, List.length_nil, Int.cast_ofNat_Int, List.reverse_nil, UU, idxP, cellsAt, fillA, zerosA, putAll, row, Int.reduceLT, Int.reduceLE, Int.reduceGT, Int.reduceGE, Int.reduceEq, Int.reduceNe, Int.reduceToNat, Int.reduceBEq, Int.reduceBNe, Nat.reduceLeDiff, Nat.reduceLT, Nat.reduceBNe, Nat.reduceGT, List.drop_nil, List.take_nil, Option.isSome_none, Int.ofNat_one, Int.ofNat_zero, i1, l1, i2, l2, w1, w2, e1, e2, endX, List.mapM_nil]

theorem fig70 {fr : AV} {f : List Nat} {a b : Nat} {va vb : AV} (hF : Fr fr f) : ∀ d, FigOk Y fr f a b va vb d := by
  have h128 := hF.p7
  have hn7 := hF.n7
  intro d
  induction d with
  | zero =>
    intro H P left used wt hl hd hu h
    have h0 : left = 0 := by
      rcases Nat.eq_zero_or_pos left with e | e
      · exact e
      · have := (pc_pos (met := left) (by omega)).1 e; omega
    subst h0
    simp only [figP]
    exact put70 h (by omega) hn7
  | succ d ih =>
    intro H P left used wt hl hd hu h
    by_cases h0 : left = 0
    · subst h0
      simp only [figP, if_pos]
      exact put70 h (by omega) hn7
    · simp only [figP]
      rw [if_neg h0]
      have hb := ctz_ok (m := left) (by omega) h0
      have h7 := ctz_lt left
      have hp := pc_del hb h7
      have hin : ctz left < f.length := by
        rcases Nat.lt_or_ge (ctz left) f.length with e | e
        · exact e
        · rw [Nat.testBit_lt_two_pow (Nat.lt_of_lt_of_le hl (Nat.pow_le_pow_right (by decide) e))] at hb; cases hb
      have hS : dl left (2 ^ ctz left) < 2 ^ f.length := Nat.lt_of_le_of_lt (dl_le _ _) hl
      have hsub := dl_sub (m := left) (j := ctz left) (by omega) h7 hb
      have hs3 := shl_eq (k := ctz left) (by omega)
      have hp2 : (0 : Int) ≤ ((ctz left : Nat) : Int) := by omega
      have hne : ((left : Int) == 0) = false := by simp [h0]
      have L0 := L70_0 (Y := Y) (H := H) (fr := fr) (va := va) (vb := vb) (wv := vW wt) (uv := vI used) (left := left) (by omega) h0 (ctz left) 0 (by omega)
      generalize ctz left = i at *
      generalize dl left (2 ^ i) = S at *
      obtain ⟨H1, a1, a2, a3⟩ := ih H P S used wt hS (by omega) (by omega) h
      obtain ⟨H2, e1, e2, e3⟩ := L70_1 (Y := Y) (used := used) (wt := wt) hF ih hin hS (by omega) (by omega) f.length 0 (by omega) a2
      rw [← List.range_eq_range'] at e2
      refine ⟨H2, ?_, e2, a3.trans e3⟩
      rw [call70 rfl]
      simp only [vW, wr, SS, insA, wantedA, Opd.ev, putA, binA, eqbA, unA, fldA, partA, reduceIte, reduceCtorEq, Nat.reduceMod, Nat.reduceDiv, Nat.reduceBEq, resultA, resA, vI, Nat.reduceMul, Nat.reduceAdd, Nat.reduceSub, Nat.reduceEqDiff, Nat.reduceLT, Nat.reducePow, Nat.reduceLeDiff, st, Option.bind_eq_bind, Option.pure_def, List.length_nil, Int.cast_ofNat_Int, List.reverse_nil, Int.ofNat_zero] at a1 e1 L0
      simp only [F70B, F70T0, in70_0, in70_1, SS, insA, wantedA, Opd.ev, putA, binA, eqbA, unA, fldA, partA, reduceIte, reduceCtorEq, Nat.reduceMod, Nat.reduceDiv, Nat.reduceBEq, resultA, resA, vI, Nat.reduceMul, Nat.reduceAdd, Nat.reduceSub, Nat.reduceEqDiff, Nat.reduceLT, Nat.reducePow, Nat.reduceLeDiff, st, Option.bind_eq_bind, Option.pure_def, List.length_nil, Int.cast_ofNat_Int, List.reverse_nil, UU, idxP, cellsAt, fillA, zerosA, putAll, row, Int.reduceLT, Int.reduceLE, Int.reduceGT, Int.reduceGE, Int.reduceEq, Int.reduceNe, Int.reduceToNat, Int.reduceBEq, Int.reduceBNe, Nat.reduceLeDiff, Nat.reduceLT, Nat.reduceBNe, Nat.reduceGT, List.drop_nil, List.take_nil, Option.isSome_none, Int.ofNat_one, Int.ofNat_zero, hne, L0, hp2, hs3, hsub, a1, e1, endX, List.mapM_nil, vW]
end
end Go.X

/-! Tones: Figures and Walks, both ways. -/
set_option linter.unusedSimpArgs false
set_option linter.unusedVariables false
set_option maxHeartbeats 2000000
set_option maxRecDepth 10000
namespace Go.X
open Go Go.RowKit

section
variable {Y : Run} {H : Heap}

theorem figs22S {v : AV} {l : List Int} (hv : IsRow v l) (hf : frameB l = true) {k : Nat} (hk : k ≤ l.length) :
    freeX H (callL ET Y 22 [v, vI k] []) = some (.tup [vW (ovS (l.map Int.toNat) (-1) (-2) 7 (2 ^ l.length - 1) k), vW (ovS (l.map Int.toNat) 1 1 7 (2 ^ l.length - 1) k), vI 0], H) := by
  have hlen : (l.map Int.toNat).length = l.length := by simp
  have e : ∀ w r, (polyL (l.map Int.toNat) w r).getD (l.length - k) 0 = ovS (l.map Int.toNat) w r 7 (2 ^ l.length - 1) k := fun w r => by
    unfold polyL; rw [hlen, ofL_get hk, ovL_get]
  rw [figs22 hv hf hk, e, e]

theorem figs22_bad {v : AV} {l : List Int} (hv : IsRow v l) (hl : l.length ≤ 1000) {k : Int} (h : frameB l = false ∨ k < 0 ∨ k > l.length) :
    freeX H (callL ET Y 22 [v, .int .i64 k] []) = some (.tup [vI 0, vI 0, vI 2], H) := by
  have hr := read51 (Y := Y) (H := []) hv hl
  rw [call22 rfl]
  cases hf : frameB l with
  | false =>
    rw [hf, if_neg (by simp)] at hr
    simp only [F22B, SS, insA, wantedA, Opd.ev, putA, binA, eqbA, unA, fldA, partA, reduceIte, reduceCtorEq, Nat.reduceMod, Nat.reduceDiv, Nat.reduceBEq, resultA, resA, vI, Nat.reduceMul, Nat.reduceAdd, Nat.reduceSub, Nat.reduceEqDiff, Nat.reduceLT, Nat.reducePow, Nat.reduceLeDiff, st, Option.bind_eq_bind, Option.pure_def, List.length_nil, Int.cast_ofNat_Int, List.reverse_nil, UU, idxP, cellsAt, storeA, fillA, zerosA, putAll, optNat, sliceA, row, Int.reduceLT, Int.reduceLE, Int.reduceGT, Int.reduceGE, Int.reduceEq, Int.reduceNe, Int.reduceToNat, Int.reduceBEq, Int.reduceBNe, Nat.reduceLeDiff, Nat.reduceLT, Nat.reduceBNe, Nat.reduceGT, List.drop_nil, List.take_nil, Option.isSome_none, Int.ofNat_one, Int.ofNat_zero, hr, Bool.false_eq_true]
  | true =>
    rw [hf, if_pos rfl] at hr
    by_cases c : k < 0
    · simp only [F22B, SS, insA, wantedA, Opd.ev, putA, binA, eqbA, unA, fldA, partA, reduceIte, reduceCtorEq, Nat.reduceMod, Nat.reduceDiv, Nat.reduceBEq, resultA, resA, vI, Nat.reduceMul, Nat.reduceAdd, Nat.reduceSub, Nat.reduceEqDiff, Nat.reduceLT, Nat.reducePow, Nat.reduceLeDiff, st, Option.bind_eq_bind, Option.pure_def, List.length_nil, Int.cast_ofNat_Int, List.reverse_nil, UU, idxP, cellsAt, storeA, fillA, zerosA, putAll, optNat, sliceA, row, Int.reduceLT, Int.reduceLE, Int.reduceGT, Int.reduceGE, Int.reduceEq, Int.reduceNe, Int.reduceToNat, Int.reduceBEq, Int.reduceBNe, Nat.reduceLeDiff, Nat.reduceLT, Nat.reduceBNe, Nat.reduceGT, List.drop_nil, List.take_nil, Option.isSome_none, Int.ofNat_one, Int.ofNat_zero, hr, hv.len, c, if_true]
    · have c2 : k > l.length := by
        rcases h with h | h | h
        · rw [hf] at h; cases h
        · exact absurd h c
        · exact h
      simp only [F22B, SS, insA, wantedA, Opd.ev, putA, binA, eqbA, unA, fldA, partA, reduceIte, reduceCtorEq, Nat.reduceMod, Nat.reduceDiv, Nat.reduceBEq, resultA, resA, vI, Nat.reduceMul, Nat.reduceAdd, Nat.reduceSub, Nat.reduceEqDiff, Nat.reduceLT, Nat.reducePow, Nat.reduceLeDiff, st, Option.bind_eq_bind, Option.pure_def, List.length_nil, Int.cast_ofNat_Int, List.reverse_nil, UU, idxP, cellsAt, storeA, fillA, zerosA, putAll, optNat, sliceA, row, Int.reduceLT, Int.reduceLE, Int.reduceGT, Int.reduceGE, Int.reduceEq, Int.reduceNe, Int.reduceToNat, Int.reduceBEq, Int.reduceBNe, Nat.reduceLeDiff, Nat.reduceLT, Nat.reduceBNe, Nat.reduceGT, List.drop_nil, List.take_nil, Option.isSome_none, Int.ofNat_one, Int.ofNat_zero, hr, hv.len, c, c2, if_true]

theorem figs43_bad {v : AV} {l : List Int} (hv : IsRow v l) (hl : l.length ≤ 1000) {k : Int} (h : frameB l = false ∨ k < 0 ∨ k > l.length) :
    freeX H (callL ET Y 43 [v, .int .i64 k] []) = some (.tup [vI 0, vI 0, vI 2], H) := by
  have hr := fun H => frame20 (Y := Y) (H := H) hv hl
  rw [call43 rfl]
  cases hf : frameB l with
  | false =>
    rw [hf] at hr
    simp only [F43B, SS, insA, wantedA, Opd.ev, putA, binA, eqbA, unA, fldA, partA, reduceIte, reduceCtorEq, Nat.reduceMod, Nat.reduceDiv, Nat.reduceBEq, resultA, resA, vI, Nat.reduceMul, Nat.reduceAdd, Nat.reduceSub, Nat.reduceEqDiff, Nat.reduceLT, Nat.reducePow, Nat.reduceLeDiff, st, Option.bind_eq_bind, Option.pure_def, List.length_nil, Int.cast_ofNat_Int, List.reverse_nil, UU, idxP, cellsAt, storeA, fillA, zerosA, putAll, optNat, sliceA, row, Int.reduceLT, Int.reduceLE, Int.reduceGT, Int.reduceGE, Int.reduceEq, Int.reduceNe, Int.reduceToNat, Int.reduceBEq, Int.reduceBNe, Nat.reduceLeDiff, Nat.reduceLT, Nat.reduceBNe, Nat.reduceGT, List.drop_nil, List.take_nil, Option.isSome_none, Int.ofNat_one, Int.ofNat_zero, hv.snap, hr]
  | true =>
    rw [hf] at hr
    by_cases c : k < 0
    · simp only [F43B, SS, insA, wantedA, Opd.ev, putA, binA, eqbA, unA, fldA, partA, reduceIte, reduceCtorEq, Nat.reduceMod, Nat.reduceDiv, Nat.reduceBEq, resultA, resA, vI, Nat.reduceMul, Nat.reduceAdd, Nat.reduceSub, Nat.reduceEqDiff, Nat.reduceLT, Nat.reducePow, Nat.reduceLeDiff, st, Option.bind_eq_bind, Option.pure_def, List.length_nil, Int.cast_ofNat_Int, List.reverse_nil, UU, idxP, cellsAt, storeA, fillA, zerosA, putAll, optNat, sliceA, row, Int.reduceLT, Int.reduceLE, Int.reduceGT, Int.reduceGE, Int.reduceEq, Int.reduceNe, Int.reduceToNat, Int.reduceBEq, Int.reduceBNe, Nat.reduceLeDiff, Nat.reduceLT, Nat.reduceBNe, Nat.reduceGT, List.drop_nil, List.take_nil, Option.isSome_none, Int.ofNat_one, Int.ofNat_zero, hv.snap, hr, hv.len, c]
    · have c2 : k > l.length := by
        rcases h with h | h | h
        · rw [hf] at h; cases h
        · exact absurd h c
        · exact h
      simp only [F43B, SS, insA, wantedA, Opd.ev, putA, binA, eqbA, unA, fldA, partA, reduceIte, reduceCtorEq, Nat.reduceMod, Nat.reduceDiv, Nat.reduceBEq, resultA, resA, vI, Nat.reduceMul, Nat.reduceAdd, Nat.reduceSub, Nat.reduceEqDiff, Nat.reduceLT, Nat.reducePow, Nat.reduceLeDiff, st, Option.bind_eq_bind, Option.pure_def, List.length_nil, Int.cast_ofNat_Int, List.reverse_nil, UU, idxP, cellsAt, storeA, fillA, zerosA, putAll, optNat, sliceA, row, Int.reduceLT, Int.reduceLE, Int.reduceGT, Int.reduceGE, Int.reduceEq, Int.reduceNe, Int.reduceToNat, Int.reduceBEq, Int.reduceBNe, Nat.reduceLeDiff, Nat.reduceLT, Nat.reduceBNe, Nat.reduceGT, List.drop_nil, List.take_nil, Option.isSome_none, Int.ofNat_one, Int.ofNat_zero, hv.snap, hr, hv.len, c, c2]

theorem figs43 {v : AV} {l : List Int} (hv : IsRow v l) (hf : frameB l = true) {k : Nat} (hk : k ≤ l.length) :
    freeX H (callL ET Y 43 [v, vI k] []) = some (.tup [vW (ovS (l.map Int.toNat) (-1) (-2) 7 (2 ^ l.length - 1) k), vW (ovS (l.map Int.toNat) 1 1 7 (2 ^ l.length - 1) k), vI 0], H) := by
  have hn := frame_n hf
  have hr := fun H => frame20 (Y := Y) (H := H) hv (by omega)
  rw [hf] at hr
  obtain ⟨hF, _⟩ := Fr.of hv hf
  have hlen : (l.map Int.toNat).length = l.length := by simp
  have hpc : pc (2 ^ l.length - 1) ≤ l.length := by
    unfold pc
    have e : (List.range 7).filter (fun j => (2 ^ l.length - 1).testBit j) = (List.range 7).filter (fun j => decide (j < l.length)) := by
      apply List.filter_congr
      intro j _
      rw [Nat.testBit_two_pow_sub_one]
    rw [e]
    have : ∀ m, m ≤ 7 → ((List.range 7).filter (fun j => decide (j < m))).length ≤ m := by decide
    exact this _ hn.2
  have h3 := hF.p7
  rw [hlen] at h3
  have h2 : 1 ≤ 2 ^ l.length := Nat.pow_pos (by decide)
  have hT : Two 0 1 (.sl 0 0 1 0 (l.length + 1) none) (.sl 1 0 1 0 (l.length + 1) none) (l.map Int.toNat).length [⟨0, (List.replicate (l.length + 1) (0 : Int)).map vI⟩, ⟨0, (List.replicate (l.length + 1) (0 : Int)).map vI⟩] (List.replicate (l.length + 1) 0, List.replicate (l.length + 1) 0) := by
    have e : (List.replicate (l.length + 1) (0 : Int)).map vW = (List.replicate (l.length + 1) (0 : Int)).map vI := by simp [vW, wr, IntKind.wrap_i64]
    refine ⟨by rw [hlen], by rw [hlen], ?_, ?_, by simp, by simp, by decide⟩
    · rw [e]; rfl
    · rw [e]; rfl
  obtain ⟨H', e1, t1, _⟩ := fig70 (Y := Y) hF 7 _ _ (2 ^ l.length - 1) 0 1 (by rw [hlen]; omega) (by omega) (by rw [hlen]; omega) hT
  have hA := fig_get (f := l.map Int.toNat) (by omega) 7 (2 ^ l.length - 1) (by omega) 0 1 (List.replicate (l.length + 1) 0, List.replicate (l.length + 1) 0) (by rw [hlen]; omega)
  rw [hlen] at hA t1
  generalize figP (l.map Int.toNat) l.length 7 (2 ^ l.length - 1) 0 1 (List.replicate (l.length + 1) 0, List.replicate (l.length + 1) 0) = Q at hA t1
  have g1 := hA.g1 (by simp) k
  have g2 := hA.g2 (by simp) k
  simp only at g1 g2
  rw [rep_getD, sft_zero, Int.zero_add, Int.one_mul] at g1
  rw [rep_getD, sft_zero, Int.zero_add] at g2
  have i1 := t1.gro1.idx (i := k) (by omega)
  have l1 := t1.gro1.load (i := k) (by omega)
  rw [getD_wr (by rw [t1.l1]; omega), g1] at l1
  have i2 := t1.gro2.idx (i := k) (by omega)
  have l2 := t1.gro2.load (i := k) (by omega)
  rw [getD_wr (by rw [t1.l2]; omega), g2] at l2
  have c1 : ¬ ((k : Int) < 0) := by omega
  have c2 : ¬ ((k : Int) > (l.length : Int)) := by omega
  have hws : IntKind.wrap .i64 ((l.length : Int) + 1) = ((l.length + 1 : Nat) : Int) := wrap_succ (by omega)
  have hki : (0 : Int) ≤ ((l.length + 1 : Nat) : Int) ∧ ((l.length + 1 : Nat) : Int) * 8 ≤ 140737488355328 ∧ ((l.length + 1 : Nat) : Int) ≤ 9223372036854775807 := by omega
  have hzr := zeros_int (n := l.length + 1)
  have hs3 := shl_eq (k := l.length) (by omega)
  rw [Int.toNat_natCast] at hs3
  have hp2 : (0 : Int) ≤ ((l.length : Nat) : Int) := by omega
  have hw : IntKind.wrap .i64 (((2 ^ l.length : Nat) : Int) - 1) = ((2 ^ l.length - 1 : Nat) : Int) := by
    generalize 2 ^ l.length = b at h2 h3
    rw [wrap_id (by omega) (by omega)]; omega
  clear hT hA
  have e01 : vW 1 = vI 1 := by simp [vW, wr, IntKind.wrap_i64]
  rw [e01] at e1
  generalize hZ : List.map vI (List.replicate (l.length + 1) (0 : Int)) = Z at *
  rw [call43 rfl]
  simp only [vW, wr, SS, insA, wantedA, Opd.ev, putA, binA, eqbA, unA, fldA, partA, reduceIte, reduceCtorEq, Nat.reduceMod, Nat.reduceDiv, Nat.reduceBEq, resultA, resA, vI, Nat.reduceMul, Nat.reduceAdd, Nat.reduceSub, Nat.reduceEqDiff, Nat.reduceLT, Nat.reducePow, Nat.reduceLeDiff, st, Option.bind_eq_bind, Option.pure_def, List.length_nil, Int.cast_ofNat_Int, List.reverse_nil, Int.ofNat_zero] at e1 l1 l2 hzr
  simp only [F43B, SS, insA, wantedA, Opd.ev, putA, binA, eqbA, unA, fldA, partA, reduceIte, reduceCtorEq, Nat.reduceMod, Nat.reduceDiv, Nat.reduceBEq, resultA, resA, vI, Nat.reduceMul, Nat.reduceAdd, Nat.reduceSub, Nat.reduceEqDiff, Nat.reduceLT, Nat.reducePow, Nat.reduceLeDiff, st, Option.bind_eq_bind, Option.pure_def, List.length_nil, Int.cast_ofNat_Int, List.reverse_nil, UU, idxP, cellsAt, storeA, fillA, putAll, optNat, sliceA, row, Int.reduceLT, Int.reduceLE, Int.reduceGT, Int.reduceGE, Int.reduceEq, Int.reduceNe, Int.reduceToNat, Int.reduceBEq, Int.reduceBNe, Nat.reduceLeDiff, Nat.reduceLT, Nat.reduceBNe, Nat.reduceGT, List.drop_nil, List.take_nil, Option.isSome_none, Int.ofNat_one, Int.ofNat_zero, hv.snap, hv.len, hr, c1, c2, hws, hki, hzr, Int.toNat_natCast, Int.natCast_nonneg, Nat.mul_one, hs3, hp2, hw, e1, i1, l1, i2, l2]
end

/-! ### Walks -/
def bt (f : List Nat) (i k : Nat) : Int := if (f.getD i 0).testBit k then 1 else 0
def wk1 (f : List Nat) (n : Nat) (now next : List Int) (i : Nat) : List Int := (List.range n).foldl (fun next k => next.set k (next.getD k 0 + now.getD i 0 * bt f i k)) next
def wk2 (f : List Nat) (n : Nat) (now : List Int) : List Int := (List.range n).foldl (fun next i => wk1 f n now next i) (List.replicate n 0)
def wkS (f : List Nat) (n : Nat) : Nat → List Int → List Int
  | 0, now => now
  | s + 1, now => wkS f n s (wk2 f n now)
def wkA (f : List Nat) (n s : Nat) : Int := (List.range n).foldl (fun out a => out + (wkS f n s ((List.replicate n 0).set a 1)).getD a 0) 0

theorem fold_len {F : List Int → Nat → List Int} {n : Nat} (h : ∀ l k, l.length = n → (F l k).length = n) : ∀ (ks : List Nat) (l : List Int), l.length = n → (ks.foldl F l).length = n
  | [], l, e => e
  | k :: ks, l, e => fold_len h ks _ (h l k e)
theorem wk1_len (f : List Nat) (n : Nat) (now next : List Int) (i m : Nat) (h : next.length = m) : (wk1 f n now next i).length = m := fold_len (fun l k e => by simpa using e) _ _ h
theorem wk2_len (f : List Nat) (n : Nat) (now : List Int) : (wk2 f n now).length = n := fold_len (fun l k e => wk1_len _ _ _ _ _ _ e) _ _ (by simp)
theorem wkS_len (f : List Nat) (n : Nat) : ∀ (s : Nat) (now : List Int), now.length = n → (wkS f n s now).length = n
  | 0, _, h => h
  | s + 1, now, _ => wkS_len f n s _ (wk2_len f n now)

theorem bt_eq (f : List Nat) (i k : Nat) : sh ((f.getD i 0 : Nat) : Int) k % 2 = bt f i k := sh_bit _ _

section
variable {Y : Run}

theorem L44_0 {fr nx nv v8 v9 w1 w31 w32 w41 w42 : AV} {f : List Nat} {i p q : Nat} {now : List Int} (hF : Fr fr f) (hpq : p ≠ q) (hi : i < f.length) (hnow : now.length = f.length) (d : Nat) : ∀ {H : Heap} {next : List Int} (k : Nat), k + d = f.length → next.length = f.length → Rw H nx q next → Rw H nv p now →
    ∃ H', lp ET Y F44L0 (sp 86 [(56, vI k), (55, vI f.length), (49, vI i), (48, vI f.length), (47, fr), (42, w42), (41, w41), (32, w32), (31, w31), (13, vI (f.getD i 0 : Nat)), (12, vI i), (11, nx), (10, nv), (9, v9), (8, v8), (6, fr), (1, w1)]) H =
        some (.x 6, sp 86 [(49, vI i), (48, vI f.length), (47, fr), (42, w42), (41, w41), (32, w32), (31, w31), (11, nx), (10, nv), (9, v9), (8, v8), (6, fr), (1, w1)], H') ∧
      Rw H' nx q ((List.range' k d).foldl (fun next k => next.set k (next.getD k 0 + now.getD i 0 * bt f i k)) next) ∧ Rw H' nv p now ∧ H'.length = H.length := by
  have hn7 := hF.n7
  induction d with
  | zero =>
    intro H next k hk hl h1 h2
    refine ⟨H, ?_, by simpa using h1, h2, rfl⟩
    rw [un44_0]
    have : ¬ ((k : Int) < (f.length : Int)) := by omega
    simp only [F44L0b, SS, insA, wantedA, Opd.ev, putA, binA, eqbA, unA, fldA, partA, reduceIte, reduceCtorEq, Nat.reduceMod, Nat.reduceDiv, Nat.reduceBEq, resultA, resA, vI, Nat.reduceMul, Nat.reduceAdd, Nat.reduceSub, Nat.reduceEqDiff, Nat.reduceLT, Nat.reducePow, Nat.reduceLeDiff, st, Option.bind_eq_bind, Option.pure_def, List.length_nil, Int.cast_ofNat_Int, List.reverse_nil, UU, idxP, cellsAt, storeA, fillA, zerosA, putAll, optNat, sliceA, row, Int.reduceLT, Int.reduceLE, Int.reduceGT, Int.reduceGE, Int.reduceEq, Int.reduceNe, Int.reduceToNat, Int.reduceBEq, Int.reduceBNe, Nat.reduceLeDiff, Nat.reduceLT, Nat.reduceBNe, Nat.reduceGT, List.drop_nil, List.take_nil, Option.isSome_none, Int.ofNat_one, Int.ofNat_zero, this]
  | succ d ih =>
    intro H next k hk hl h1 h2
    have hc : (k : Int) < (f.length : Int) := by omega
    have hw := wrap_succ (n := k) (by omega)
    have hp2 : (0 : Int) ≤ (k : Int) := by omega
    have hs2 := shr_eq (k := k) (by omega)
    have hb := bt_eq f i k
    have i1 := h1.gro.idx (i := k) (by omega)
    have l1 := h1.gro.load (i := k) (by omega)
    rw [getD_wr (by omega)] at l1
    have i2 := h2.gro.idx (i := i) (by omega)
    have l2 := h2.gro.load (i := i) (by omega)
    rw [getD_wr (by omega)] at l2
    obtain ⟨H1, e1, r1, r2, r3⟩ := h1.st (i := k) (by omega) (next.getD k 0 + now.getD i 0 * bt f i k)
    have w1 : IntKind.wrap .i64 (wr (now.getD i 0) * bt f i k) = wr (now.getD i 0 * bt f i k) := by
      unfold bt; split
      · rw [Int.mul_one, Int.mul_one]; exact wr_wr _
      · rw [Int.mul_zero, Int.mul_zero]
    have w2 := wr_add (next.getD k 0) (now.getD i 0 * bt f i k)
    obtain ⟨H', e2, r4, r5, r6⟩ := ih (k + 1) (by omega) (by simp [hl]) r1 (r2 _ _ _ hpq h2)
    refine ⟨H', ?_, by rw [List.range'_succ, List.foldl_cons]; exact r4, r5, by omega⟩
    rw [un44_0]
    simp only [vW, wr, SS, insA, wantedA, Opd.ev, putA, binA, eqbA, unA, fldA, partA, reduceIte, reduceCtorEq, Nat.reduceMod, Nat.reduceDiv, Nat.reduceBEq, resultA, resA, vI, Nat.reduceMul, Nat.reduceAdd, Nat.reduceSub, Nat.reduceEqDiff, Nat.reduceLT, Nat.reducePow, Nat.reduceLeDiff, st, Option.bind_eq_bind, Option.pure_def, List.length_nil, Int.cast_ofNat_Int, List.reverse_nil] at e1 e2 l1 l2 w1 w2
    simp only [F44L0b, SS, insA, wantedA, Opd.ev, putA, binA, eqbA, unA, fldA, partA, reduceIte, reduceCtorEq, Nat.reduceMod, Nat.reduceDiv, Nat.reduceBEq, resultA, resA, vI, Nat.reduceMul, Nat.reduceAdd, Nat.reduceSub, Nat.reduceEqDiff, Nat.reduceLT, Nat.reducePow, Nat.reduceLeDiff, st, Option.bind_eq_bind, Option.pure_def, List.length_nil, Int.cast_ofNat_Int, List.reverse_nil, UU, idxP, cellsAt, fillA, zerosA, putAll, row, Int.reduceLT, Int.reduceLE, Int.reduceGT, Int.reduceGE, Int.reduceEq, Int.reduceNe, Int.reduceToNat, Int.reduceBEq, Int.reduceBNe, Nat.reduceLeDiff, Nat.reduceLT, Nat.reduceBNe, Nat.reduceGT, List.drop_nil, List.take_nil, Option.isSome_none, Int.ofNat_one, Int.ofNat_zero, hc, hw, hp2, hs2, and_one, hb, i1, l1, i2, l2, w1, w2, e1, e2]

theorem L44_1 {fr nx nv v8 v9 w1 w31 w32 w41 w42 : AV} {f : List Nat} {p q : Nat} {now : List Int} (hF : Fr fr f) (hpq : p ≠ q) (hnow : now.length = f.length) (d : Nat) : ∀ {H : Heap} {next : List Int} (i : Nat), i + d = f.length → next.length = f.length → Rw H nx q next → Rw H nv p now →
    ∃ H', lp ET Y F44L1 (sp 86 [(49, vI i), (48, vI f.length), (47, fr), (42, w42), (41, w41), (32, w32), (31, w31), (11, nx), (10, nv), (9, v9), (8, v8), (6, fr), (1, w1)]) H =
        some (.x 4, sp 86 [(42, w42), (41, w41), (32, w32), (31, w31), (11, nx), (9, v9), (8, v8), (6, fr), (1, w1)], H') ∧
      Rw H' nx q ((List.range' i d).foldl (fun next i => wk1 f f.length now next i) next) ∧ H'.length = H.length := by
  have hn7 := hF.n7
  have hflen := hF.hv.len
  rw [List.length_map] at hflen
  induction d with
  | zero =>
    intro H next i hk hl h1 h2
    refine ⟨H, ?_, by simpa using h1, rfl⟩
    rw [un44_1]
    have : ¬ ((i : Int) < (f.length : Int)) := by omega
    simp only [F44L1b, SS, insA, wantedA, Opd.ev, putA, binA, eqbA, unA, fldA, partA, reduceIte, reduceCtorEq, Nat.reduceMod, Nat.reduceDiv, Nat.reduceBEq, resultA, resA, vI, Nat.reduceMul, Nat.reduceAdd, Nat.reduceSub, Nat.reduceEqDiff, Nat.reduceLT, Nat.reducePow, Nat.reduceLeDiff, st, Option.bind_eq_bind, Option.pure_def, List.length_nil, Int.cast_ofNat_Int, List.reverse_nil, UU, idxP, cellsAt, storeA, fillA, zerosA, putAll, optNat, sliceA, row, Int.reduceLT, Int.reduceLE, Int.reduceGT, Int.reduceGE, Int.reduceEq, Int.reduceNe, Int.reduceToNat, Int.reduceBEq, Int.reduceBNe, Nat.reduceLeDiff, Nat.reduceLT, Nat.reduceBNe, Nat.reduceGT, List.drop_nil, List.take_nil, Option.isSome_none, Int.ofNat_one, Int.ofNat_zero, this]
  | succ d ih =>
    intro H next i hk hl h1 h2
    have hi : i < f.length := by omega
    have hc : (i : Int) < (f.length : Int) := by omega
    have hw := wrap_succ (n := i) (by omega)
    have hip := hF.hv.idx (i := i) (by simpa using hi)
    have hlp := hF.hv.load (H := H) (i := i) (by simpa using hi)
    rw [getD_nat hi] at hlp
    obtain ⟨H1, e1, r1, r2, r3⟩ := L44_0 (Y := Y) (v8 := v8) (v9 := v9) (w1 := w1) (w31 := w31) (w32 := w32) (w41 := w41) (w42 := w42) hF hpq hi hnow f.length 0 (by omega) hl h1 h2
    rw [← List.range_eq_range'] at r1
    obtain ⟨H', e2, r4, r6⟩ := ih (i + 1) (by omega) (wk1_len f f.length now next i f.length hl) r1 r2
    refine ⟨H', ?_, by rw [List.range'_succ, List.foldl_cons]; exact r4, by omega⟩
    rw [un44_1]
    simp only [SS, insA, wantedA, Opd.ev, putA, binA, eqbA, unA, fldA, partA, reduceIte, reduceCtorEq, Nat.reduceMod, Nat.reduceDiv, Nat.reduceBEq, resultA, resA, vI, Nat.reduceMul, Nat.reduceAdd, Nat.reduceSub, Nat.reduceEqDiff, Nat.reduceLT, Nat.reducePow, Nat.reduceLeDiff, st, Option.bind_eq_bind, Option.pure_def, List.length_nil, Int.cast_ofNat_Int, List.reverse_nil, Int.ofNat_zero] at e1 e2
    simp only [F44L1b, F44T0, in44_0, SS, insA, wantedA, Opd.ev, putA, binA, eqbA, unA, fldA, partA, reduceIte, reduceCtorEq, Nat.reduceMod, Nat.reduceDiv, Nat.reduceBEq, resultA, resA, vI, Nat.reduceMul, Nat.reduceAdd, Nat.reduceSub, Nat.reduceEqDiff, Nat.reduceLT, Nat.reducePow, Nat.reduceLeDiff, st, Option.bind_eq_bind, Option.pure_def, List.length_nil, Int.cast_ofNat_Int, List.reverse_nil, UU, idxP, cellsAt, storeA, fillA, zerosA, putAll, optNat, sliceA, row, Int.reduceLT, Int.reduceLE, Int.reduceGT, Int.reduceGE, Int.reduceEq, Int.reduceNe, Int.reduceToNat, Int.reduceBEq, Int.reduceBNe, Nat.reduceLeDiff, Nat.reduceLT, Nat.reduceBNe, Nat.reduceGT, List.drop_nil, List.take_nil, Option.isSome_none, Int.ofNat_one, Int.ofNat_zero, hc, hw, hip, hlp, hflen, e1, e2]

theorem L44_2 {fr v8 v9 w31 w32 : AV} {f : List Nat} {stp : Nat} (hF : Fr fr f) (hst : stp ≤ 16) (d : Nat) : ∀ {H : Heap} {nv : AV} {p : Nat} {now : List Int} (s : Nat), s + d = stp → now.length = f.length → Rw H nv p now →
    ∃ H' nv' p', lp ET Y F44L2 (sp 86 [(42, vI s), (41, vI stp), (32, w32), (31, w31), (10, nv), (9, v9), (8, v8), (6, fr), (1, vI stp)]) H =
        some (.x 2, sp 86 [(32, w32), (31, w31), (10, nv'), (9, v9), (8, v8), (6, fr), (1, vI stp)], H') ∧ Rw H' nv' p' (wkS f f.length d now) := by
  have hn7 := hF.n7
  have hflen := hF.hv.len
  rw [List.length_map] at hflen
  induction d with
  | zero =>
    intro H nv p now s hs hl h
    refine ⟨H, nv, p, ?_, h⟩
    rw [un44_2]
    have : ¬ ((s : Int) < (stp : Int)) := by omega
    simp only [F44L2b, SS, insA, wantedA, Opd.ev, putA, binA, eqbA, unA, fldA, partA, reduceIte, reduceCtorEq, Nat.reduceMod, Nat.reduceDiv, Nat.reduceBEq, resultA, resA, vI, Nat.reduceMul, Nat.reduceAdd, Nat.reduceSub, Nat.reduceEqDiff, Nat.reduceLT, Nat.reducePow, Nat.reduceLeDiff, st, Option.bind_eq_bind, Option.pure_def, List.length_nil, Int.cast_ofNat_Int, List.reverse_nil, UU, idxP, cellsAt, storeA, fillA, zerosA, putAll, optNat, sliceA, row, Int.reduceLT, Int.reduceLE, Int.reduceGT, Int.reduceGE, Int.reduceEq, Int.reduceNe, Int.reduceToNat, Int.reduceBEq, Int.reduceBNe, Nat.reduceLeDiff, Nat.reduceLT, Nat.reduceBNe, Nat.reduceGT, List.drop_nil, List.take_nil, Option.isSome_none, Int.ofNat_one, Int.ofNat_zero, this]
  | succ d ih =>
    intro H nv p now s hs hl h
    have hc : (s : Int) < (stp : Int) := by omega
    have hw := wrap_succ (n := s) (by omega)
    have hki : (0 : Int) ≤ (f.length : Int) ∧ (f.length : Int) * 8 ≤ 140737488355328 ∧ (f.length : Int) ≤ 9223372036854775807 := by omega
    have hzr := zeros_int (n := f.length)
    have hfr := Rw.fresh H f.length
    obtain ⟨H1, e1, r1, r2⟩ := L44_1 (Y := Y) (v8 := v8) (v9 := v9) (w1 := vI stp) (w31 := w31) (w32 := w32) (w41 := vI stp) (w42 := vI s) hF (by have := hlt_of h.2; omega) hl f.length 0 (by omega) (by simp) hfr (h.add _)
    rw [← List.range_eq_range'] at r1
    obtain ⟨H', nv', p', e2, r4⟩ := ih (s + 1) (by omega) (wk2_len f f.length now) r1
    refine ⟨H', nv', p', ?_, r4⟩
    rw [un44_2]
    generalize hZ : List.map vI (List.replicate f.length (0 : Int)) = Z at *
    simp only [SS, insA, wantedA, Opd.ev, putA, binA, eqbA, unA, fldA, partA, reduceIte, reduceCtorEq, Nat.reduceMod, Nat.reduceDiv, Nat.reduceBEq, resultA, resA, vI, Nat.reduceMul, Nat.reduceAdd, Nat.reduceSub, Nat.reduceEqDiff, Nat.reduceLT, Nat.reducePow, Nat.reduceLeDiff, st, Option.bind_eq_bind, Option.pure_def, List.length_nil, Int.cast_ofNat_Int, List.reverse_nil, Int.ofNat_zero] at e1 e2 hzr
    simp only [F44L2b, F44T1, F44T2, in44_1, SS, insA, wantedA, Opd.ev, putA, binA, eqbA, unA, fldA, partA, reduceIte, reduceCtorEq, Nat.reduceMod, Nat.reduceDiv, Nat.reduceBEq, resultA, resA, vI, Nat.reduceMul, Nat.reduceAdd, Nat.reduceSub, Nat.reduceEqDiff, Nat.reduceLT, Nat.reducePow, Nat.reduceLeDiff, st, Option.bind_eq_bind, Option.pure_def, List.length_nil, Int.cast_ofNat_Int, List.reverse_nil, UU, idxP, cellsAt, storeA, fillA, putAll, optNat, sliceA, row, Int.reduceLT, Int.reduceLE, Int.reduceGT, Int.reduceGE, Int.reduceEq, Int.reduceNe, Int.reduceToNat, Int.reduceBEq, Int.reduceBNe, Nat.reduceLeDiff, Nat.reduceLT, Nat.reduceBNe, Nat.reduceGT, List.drop_nil, List.take_nil, Option.isSome_none, Int.ofNat_one, Int.ofNat_zero, hc, hw, hflen, hki, hzr, Int.toNat_natCast, Int.natCast_nonneg, Nat.mul_one, e1, e2]

theorem L44_3 {fr : AV} {f : List Nat} {stp : Nat} (hF : Fr fr f) (hst : stp ≤ 16) (d : Nat) : ∀ {H : Heap} {out : Int} (a : Nat), a + d = f.length →
    ∃ H', lp ET Y F44L3 (sp 86 [(32, vI a), (31, vI f.length), (8, vW out), (6, fr), (1, vI stp)]) H =
        some (.x 0, sp 86 [(8, vW ((List.range' a d).foldl (fun out a => out + (wkS f f.length stp ((List.replicate f.length 0).set a 1)).getD a 0) out))], H') := by
  have hn7 := hF.n7
  have hflen := hF.hv.len
  rw [List.length_map] at hflen
  induction d with
  | zero =>
    intro H out a hs
    refine ⟨H, ?_⟩
    rw [un44_3]
    have : ¬ ((a : Int) < (f.length : Int)) := by omega
    simp only [F44L3b, SS, insA, wantedA, Opd.ev, putA, binA, eqbA, unA, fldA, partA, reduceIte, reduceCtorEq, Nat.reduceMod, Nat.reduceDiv, Nat.reduceBEq, resultA, resA, vI, Nat.reduceMul, Nat.reduceAdd, Nat.reduceSub, Nat.reduceEqDiff, Nat.reduceLT, Nat.reducePow, Nat.reduceLeDiff, st, Option.bind_eq_bind, Option.pure_def, List.length_nil, Int.cast_ofNat_Int, List.reverse_nil, UU, idxP, cellsAt, storeA, fillA, zerosA, putAll, optNat, sliceA, row, Int.reduceLT, Int.reduceLE, Int.reduceGT, Int.reduceGE, Int.reduceEq, Int.reduceNe, Int.reduceToNat, Int.reduceBEq, Int.reduceBNe, Nat.reduceLeDiff, Nat.reduceLT, Nat.reduceBNe, Nat.reduceGT, List.drop_nil, List.take_nil, Option.isSome_none, Int.ofNat_one, Int.ofNat_zero, this, List.range'_zero, List.foldl_nil]
  | succ d ih =>
    intro H out a hs
    have hc : (a : Int) < (f.length : Int) := by omega
    have hw := wrap_succ (n := a) (by omega)
    have hki : (0 : Int) ≤ (f.length : Int) ∧ (f.length : Int) * 8 ≤ 140737488355328 ∧ (f.length : Int) ≤ 9223372036854775807 := by omega
    have hzr := zeros_int (n := f.length)
    have hfr := Rw.fresh H f.length
    have i1 := hfr.gro.idx (i := a) (by simp; omega)
    obtain ⟨H1, e1, r1, r2, r3⟩ := hfr.st (i := a) (by simp; omega) 1
    have e01 : vW 1 = vI 1 := by simp [vW, wr, IntKind.wrap_i64]
    rw [e01] at e1
    obtain ⟨H2, nv, p, e2, r4⟩ := L44_2 (Y := Y) (v8 := vW out) (v9 := vI a) (w31 := vI f.length) (w32 := vI a) hF hst stp 0 (by omega) (by simp) r1
    have i2 := r4.gro.idx (i := a) (by rw [wkS_len _ _ _ _ (by simp)]; omega)
    have l2 := r4.gro.load (i := a) (by rw [wkS_len _ _ _ _ (by simp)]; omega)
    rw [getD_wr (by rw [wkS_len _ _ _ _ (by simp)]; omega)] at l2
    have w2 := wr_add out ((wkS f f.length stp ((List.replicate f.length 0).set a 1)).getD a 0)
    obtain ⟨H', e3⟩ := ih (H := H2) (out := out + (wkS f f.length stp ((List.replicate f.length 0).set a 1)).getD a 0) (a + 1) (by omega)
    refine ⟨H', ?_⟩
    rw [List.range'_succ, List.foldl_cons, un44_3]
    clear r1 r2 r4 hfr
    generalize hZ : List.map vI (List.replicate f.length (0 : Int)) = Z at *
    simp only [vW, wr, SS, insA, wantedA, Opd.ev, putA, binA, eqbA, unA, fldA, partA, reduceIte, reduceCtorEq, Nat.reduceMod, Nat.reduceDiv, Nat.reduceBEq, resultA, resA, vI, Nat.reduceMul, Nat.reduceAdd, Nat.reduceSub, Nat.reduceEqDiff, Nat.reduceLT, Nat.reducePow, Nat.reduceLeDiff, st, Option.bind_eq_bind, Option.pure_def, List.length_nil, Int.cast_ofNat_Int, List.reverse_nil, Int.ofNat_zero] at e1 e2 e3 hzr l2 w2
    simp only [F44L3b, F44T3, F44T4, in44_2, SS, insA, wantedA, Opd.ev, putA, binA, eqbA, unA, fldA, partA, reduceIte, reduceCtorEq, Nat.reduceMod, Nat.reduceDiv, Nat.reduceBEq, resultA, resA, vI, Nat.reduceMul, Nat.reduceAdd, Nat.reduceSub, Nat.reduceEqDiff, Nat.reduceLT, Nat.reducePow, Nat.reduceLeDiff, st, Option.bind_eq_bind, Option.pure_def, List.length_nil, Int.cast_ofNat_Int, List.reverse_nil, UU, idxP, cellsAt, fillA, putAll, row, Int.reduceLT, Int.reduceLE, Int.reduceGT, Int.reduceGE, Int.reduceEq, Int.reduceNe, Int.reduceToNat, Int.reduceBEq, Int.reduceBNe, Nat.reduceLeDiff, Nat.reduceLT, Nat.reduceBNe, Nat.reduceGT, List.drop_nil, List.take_nil, Option.isSome_none, Int.ofNat_one, Int.ofNat_zero, hc, hw, hflen, hki, hzr, i1, e1, e2, i2, l2, w2, e3, Int.toNat_natCast, Int.natCast_nonneg, Nat.mul_one, vW]

theorem walks44 {v : AV} {l : List Int} (hv : IsRow v l) (hf : frameB l = true) {s : Nat} (hs : s ≤ 16) {H : Heap} :
    freeX H (callL ET Y 44 [v, vI s] []) = some (.tup [vW (wkA (l.map Int.toNat) l.length s), vI 0], H) := by
  have hn := frame_n hf
  have hr := fun H => read51 (Y := Y) (H := H) hv (by omega)
  rw [hf, if_pos rfl] at hr
  obtain ⟨hF, _⟩ := Fr.of hv hf
  have hlen : (l.map Int.toNat).length = l.length := by simp
  obtain ⟨H', e1⟩ := L44_3 (Y := Y) (stp := s) (H := []) (out := 0) hF hs (l.map Int.toNat).length 0 (by omega)
  rw [← List.range_eq_range', hlen] at e1
  have c1 : ¬ ((s : Int) < 0) := by omega
  have c2 : ¬ ((s : Int) > 16) := by omega
  have e00 : vW 0 = vI 0 := by simp [vW, wr, IntKind.wrap_i64]
  rw [e00] at e1
  rw [call44 rfl]
  unfold wkA
  simp only [SS, insA, wantedA, Opd.ev, putA, binA, eqbA, unA, fldA, partA, reduceIte, reduceCtorEq, Nat.reduceMod, Nat.reduceDiv, Nat.reduceBEq, resultA, resA, vI, Nat.reduceMul, Nat.reduceAdd, Nat.reduceSub, Nat.reduceEqDiff, Nat.reduceLT, Nat.reducePow, Nat.reduceLeDiff, st, Option.bind_eq_bind, Option.pure_def, List.length_nil, Int.cast_ofNat_Int, List.reverse_nil, Int.ofNat_zero] at e1
  simp only [F44B, F44T5, in44_3, SS, insA, wantedA, Opd.ev, putA, binA, eqbA, unA, fldA, partA, reduceIte, reduceCtorEq, Nat.reduceMod, Nat.reduceDiv, Nat.reduceBEq, resultA, resA, vI, Nat.reduceMul, Nat.reduceAdd, Nat.reduceSub, Nat.reduceEqDiff, Nat.reduceLT, Nat.reducePow, Nat.reduceLeDiff, st, Option.bind_eq_bind, Option.pure_def, List.length_nil, Int.cast_ofNat_Int, List.reverse_nil, UU, idxP, cellsAt, storeA, fillA, zerosA, putAll, optNat, sliceA, row, Int.reduceLT, Int.reduceLE, Int.reduceGT, Int.reduceGE, Int.reduceEq, Int.reduceNe, Int.reduceToNat, Int.reduceBEq, Int.reduceBNe, Nat.reduceLeDiff, Nat.reduceLT, Nat.reduceBNe, Nat.reduceGT, List.drop_nil, List.take_nil, Option.isSome_none, Int.ofNat_one, Int.ofNat_zero, hr, hv.snap, hv.len, c1, c2, e1, if_true]

theorem walks44_bad {v : AV} {l : List Int} (hv : IsRow v l) (hl : l.length ≤ 1000) {s : Int} (h : frameB l = false ∨ s < 0 ∨ s > 16) {H : Heap} :
    freeX H (callL ET Y 44 [v, .int .i64 s] []) = some (.tup [vI 0, vI 2], H) := by
  have hr := fun H => read51 (Y := Y) (H := H) hv hl
  rw [call44 rfl]
  cases hf : frameB l with
  | false =>
    rw [hf, if_neg (by simp)] at hr
    simp only [F44B, SS, insA, wantedA, Opd.ev, putA, binA, eqbA, unA, fldA, partA, reduceIte, reduceCtorEq, Nat.reduceMod, Nat.reduceDiv, Nat.reduceBEq, resultA, resA, vI, Nat.reduceMul, Nat.reduceAdd, Nat.reduceSub, Nat.reduceEqDiff, Nat.reduceLT, Nat.reducePow, Nat.reduceLeDiff, st, Option.bind_eq_bind, Option.pure_def, List.length_nil, Int.cast_ofNat_Int, List.reverse_nil, UU, idxP, cellsAt, storeA, fillA, zerosA, putAll, optNat, sliceA, row, Int.reduceLT, Int.reduceLE, Int.reduceGT, Int.reduceGE, Int.reduceEq, Int.reduceNe, Int.reduceToNat, Int.reduceBEq, Int.reduceBNe, Nat.reduceLeDiff, Nat.reduceLT, Nat.reduceBNe, Nat.reduceGT, List.drop_nil, List.take_nil, Option.isSome_none, Int.ofNat_one, Int.ofNat_zero, hr, hv.snap, Bool.false_eq_true]
  | true =>
    rw [hf, if_pos rfl] at hr
    by_cases c : s < 0
    · simp only [F44B, SS, insA, wantedA, Opd.ev, putA, binA, eqbA, unA, fldA, partA, reduceIte, reduceCtorEq, Nat.reduceMod, Nat.reduceDiv, Nat.reduceBEq, resultA, resA, vI, Nat.reduceMul, Nat.reduceAdd, Nat.reduceSub, Nat.reduceEqDiff, Nat.reduceLT, Nat.reducePow, Nat.reduceLeDiff, st, Option.bind_eq_bind, Option.pure_def, List.length_nil, Int.cast_ofNat_Int, List.reverse_nil, UU, idxP, cellsAt, storeA, fillA, zerosA, putAll, optNat, sliceA, row, Int.reduceLT, Int.reduceLE, Int.reduceGT, Int.reduceGE, Int.reduceEq, Int.reduceNe, Int.reduceToNat, Int.reduceBEq, Int.reduceBNe, Nat.reduceLeDiff, Nat.reduceLT, Nat.reduceBNe, Nat.reduceGT, List.drop_nil, List.take_nil, Option.isSome_none, Int.ofNat_one, Int.ofNat_zero, hr, hv.snap, hv.len, c, if_true]
    · have c2 : s > 16 := by
        rcases h with h | h | h
        · rw [hf] at h; cases h
        · exact absurd h c
        · exact h
      simp only [F44B, SS, insA, wantedA, Opd.ev, putA, binA, eqbA, unA, fldA, partA, reduceIte, reduceCtorEq, Nat.reduceMod, Nat.reduceDiv, Nat.reduceBEq, resultA, resA, vI, Nat.reduceMul, Nat.reduceAdd, Nat.reduceSub, Nat.reduceEqDiff, Nat.reduceLT, Nat.reducePow, Nat.reduceLeDiff, st, Option.bind_eq_bind, Option.pure_def, List.length_nil, Int.cast_ofNat_Int, List.reverse_nil, UU, idxP, cellsAt, storeA, fillA, zerosA, putAll, optNat, sliceA, row, Int.reduceLT, Int.reduceLE, Int.reduceGT, Int.reduceGE, Int.reduceEq, Int.reduceNe, Int.reduceToNat, Int.reduceBEq, Int.reduceBNe, Nat.reduceLeDiff, Nat.reduceLT, Nat.reduceBNe, Nat.reduceGT, List.drop_nil, List.take_nil, Option.isSome_none, Int.ofNat_one, Int.ofNat_zero, hr, hv.snap, hv.len, c, c2, if_true]
end
end Go.X
