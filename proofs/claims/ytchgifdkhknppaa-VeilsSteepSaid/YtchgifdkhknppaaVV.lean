import Derived.Test.YtchgifdkhknppaaVU
/-! Veils: Meet, both ways. -/
set_option linter.unusedSimpArgs false
set_option linter.unusedVariables false
set_option maxHeartbeats 4000000
set_option maxRecDepth 10000
namespace Go.X
open Go Go.RowKit
section
variable {Y : Run} {H : Heap}

theorem g2a {R : Heap} {a b : Ob} : (R ++ [a, b])[R.length]? = some a := by rw [List.getElem?_append_right (by omega)]; simp
theorem g2b {R : Heap} {a b : Ob} : (R ++ [a, b])[R.length + 1]? = some b := by rw [List.getElem?_append_right (by omega)]; simp
theorem s2a {R : Heap} {a b x : Ob} : (R ++ [a, b]).set R.length x = R ++ [x, b] := by rw [List.set_append_right _ _ (Nat.le_refl _)]; simp
theorem s2b {R : Heap} {a b x : Ob} : (R ++ [a, b]).set (R.length + 1) x = R ++ [a, x] := by rw [List.set_append_right _ _ (by omega)]; simp

def minT (n : Nat) (a b : List (List Int)) : List (List Int) := tabF (n + 1) fun i j => min (at2 a i j) (at2 b i j)
def maxT (n : Nat) (a b : List (List Int)) : List (List Int) := tabF (n + 1) fun i j => max (at2 a i j) (at2 b i j)
theorem Steep.min {n : Nat} {a b : List (List Int)} (A : Steep n a) (B : Steep n b) : Steep n (minT n a b) := A.meet B Min.min (fun x y => .inl rfl) (.inl fun x y => rfl)
theorem Steep.max {n : Nat} {a b : List (List Int)} (A : Steep n a) (B : Steep n b) : Steep n (maxT n a b) := A.meet B Max.max (fun x y => .inr rfl) (.inr fun x y => rfl)

theorem min70 {u v : AV} {a b : List (List Int)} {n i j : Nat} {s s' : Bool} {cs cs' : List AV} (hu : IsTab u a) (hv : IsTab v b) (A : Steep n a) (B : Steep n b) (hi : i ≤ n) (hj : j ≤ n) :
    freeX H (callL EV Y 70 [vI i, vI j, .cptr s (u :: cs), .cptr s' (v :: cs')] []) = some (vI (Min.min (at2 a i j) (at2 b i j)), H) := by
  have c1 := A.cel u hi hj
  have c2 := B.cel v hi hj
  have e3 : ∀ (k : Nat), 1 ≤ k + 1 := fun k => by omega
  rw [call70 rfl]
  simp only [F70B, SS, insA, wantedA, Opd.ev, putA, binA, eqbA, unA, fldA, partA, reduceIte, reduceCtorEq, Nat.reduceMod, Nat.reduceDiv, Nat.reduceBEq, resultA, resA, vI, Nat.reduceMul, Nat.reduceAdd, Nat.reduceSub, Nat.reduceEqDiff, Nat.reduceLT, Nat.reducePow, Nat.reduceLeDiff, st, Option.bind_eq_bind, Option.pure_def, List.length_nil, Int.cast_ofNat_Int, List.reverse_nil, UU, idxP, cellsAt, storeA, fillA, zerosA, putAll, optNat, sliceA, row, Int.reduceLT, Int.reduceLE, Int.reduceGT, Int.reduceGE, Int.reduceEq, Int.reduceNe, Int.reduceToNat, Int.reduceBEq, Int.reduceBNe, Nat.reduceLeDiff, Nat.reduceLT, Nat.reduceBNe, Nat.reduceGT, List.drop_nil, List.take_nil, Option.isSome_none, Int.ofNat_one, Int.ofNat_zero, e3, c1.idx hu, c1.load hu, c1.idx2 hu, c1.load2 hu, c2.idx hv, c2.load hv, c2.idx2 hv, c2.load2 hv, mnx_min]
theorem max71 {u v : AV} {a b : List (List Int)} {n i j : Nat} {s s' : Bool} {cs cs' : List AV} (hu : IsTab u a) (hv : IsTab v b) (A : Steep n a) (B : Steep n b) (hi : i ≤ n) (hj : j ≤ n) :
    freeX H (callL EV Y 71 [vI i, vI j, .cptr s (u :: cs), .cptr s' (v :: cs')] []) = some (vI (Max.max (at2 a i j) (at2 b i j)), H) := by
  have c1 := A.cel u hi hj
  have c2 := B.cel v hi hj
  have e3 : ∀ (k : Nat), 1 ≤ k + 1 := fun k => by omega
  rw [call71 rfl]
  simp only [F71B, SS, insA, wantedA, Opd.ev, putA, binA, eqbA, unA, fldA, partA, reduceIte, reduceCtorEq, Nat.reduceMod, Nat.reduceDiv, Nat.reduceBEq, resultA, resA, vI, Nat.reduceMul, Nat.reduceAdd, Nat.reduceSub, Nat.reduceEqDiff, Nat.reduceLT, Nat.reducePow, Nat.reduceLeDiff, st, Option.bind_eq_bind, Option.pure_def, List.length_nil, Int.cast_ofNat_Int, List.reverse_nil, UU, idxP, cellsAt, storeA, fillA, zerosA, putAll, optNat, sliceA, row, Int.reduceLT, Int.reduceLE, Int.reduceGT, Int.reduceGE, Int.reduceEq, Int.reduceNe, Int.reduceToNat, Int.reduceBEq, Int.reduceBNe, Nat.reduceLeDiff, Nat.reduceLT, Nat.reduceBNe, Nat.reduceGT, List.drop_nil, List.take_nil, Option.isSome_none, Int.ofNat_one, Int.ofNat_zero, e3, c1.idx hu, c1.load hu, c1.idx2 hu, c1.load2 hu, c2.idx hv, c2.load hv, c2.idx2 hv, c2.load2 hv, mnx_max]

theorem snap_fn2 {R : Heap} {b c f : Nat} {v w v' w' : AV} (h1 : R[b]? = some ⟨0, [v]⟩) (h2 : R[c]? = some ⟨0, [w]⟩) (s1 : snapA R 4 v = some v') (s2 : snapA R 4 w = some w') : snapA R 6 (.fn f [.ptr b 0 0, .ptr c 0 0]) = some (.fn f [.cptr true [v'], .cptr true [w']]) := by
  have key : ∀ {b : Nat} {v v' : AV}, R[b]? = some ⟨0, [v]⟩ → snapA R 4 v = some v' → snapA R 5 (.ptr b 0 0) = some (.cptr true [v']) := by
    intro b v v' h hs
    show (match R[b]? with | some o => if o.ver = 0 ∧ 0 ≤ o.cells.length then ((o.cells.drop 0).mapM (snapA R 4)).map (fun cs => AV.cptr true cs) else none | none => none) = _
    rw [h]
    simp only
    rw [if_pos ⟨trivial, by omega⟩]
    show Option.map _ ([v].mapM (snapA R 4)) = _
    rw [mapM_cons', hs]; rfl
  show Option.map _ ([AV.ptr b 0 0, AV.ptr c 0 0].mapM (snapA R 5)) = _
  rw [mapM_cons', mapM_cons', key h1 s1, key h2 s2]; rfl

theorem raised_tab2 {vt : AV} {t : List (List Int)} (ht : IsTab vt t) (hv : Veil t) (H0 : Heap) : ∃ v R cells, callA (callL EV Y) 2 62 [.iface 56 vt] H0 = some (v, R) ∧ HTab H0.length R v (hgtT t) cells ∧ ∀ a, a < H0.length → R[a]? = H0[a]? := by
  obtain ⟨v0, R0, c0, z1, z2⟩ := raised62 (Y := Y) ht hv.unit (by have := hv.n5; omega) hv.row
  have hsi : ∀ H n, snapA H (n + 2) (.iface 56 vt) = some (.iface 56 vt) := fun H n => by rw [snap_ifc, ht.snap]; rfl
  obtain ⟨v, R, cells, q1, q2, q3⟩ := call_tab (H := H0) (R := callL EV Y) (f := 62) (args := [.iface 56 vt]) (bs := [.iface 56 vt]) (by rw [mapM_cons', hsi]; rfl) z1 z2
  exact ⟨v, R, cells, q1, q2, q3⟩

/-- What Meet makes of two tables of heights. -/
theorem meet_parts {R : Heap} {x y : AV} {a b : List (List Int)} {n k1 k2 : Nat} {cx cy : List AV} (hx0 : HTab k1 R x a cx) (hy0 : HTab k2 R y b cy) (A : Steep n a) (B : Steep n b) :
    ∃ (l0 : AV) (M1 : Heap) (h0 : AV) (M3 : Heap) (w1 w2 : AV), callA (callL EV Y) 2 69 [vI ((n + 1 : Nat) : Int), .fn 70 [.ptr R.length 0 0, .ptr (R.length + 1) 0 0]] (R ++ [⟨0, [x]⟩, ⟨0, [y]⟩]) = some (l0, M1) ∧ M1[R.length]? = some ⟨0, [x]⟩ ∧
      callA (callL EV Y) 2 69 [vI ((n + 1 : Nat) : Int), .fn 71 [.ptr R.length 0 0, .ptr (R.length + 1) 0 0]] M1 = some (h0, M3) ∧ IsTab w1 (minT n a b) ∧ snapA M3 6 (.iface 59 l0) = some (.iface 59 w1) ∧ IsTab w2 (maxT n a b) ∧ snapA M3 6 (.iface 59 h0) = some (.iface 59 w2) := by
  have h5 := A.n5
  have hx := (hx0.more [⟨0, [x]⟩, ⟨0, [y]⟩])
  have hy := (hy0.more [⟨0, [x]⟩, ⟨0, [y]⟩])
  obtain ⟨_, wx, sx1, sx2⟩ := hx.out (d := 1)
  obtain ⟨_, wy, sy1, sy2⟩ := hy.out (d := 1)
  simp only [Nat.reduceAdd] at sx1 sy1
  have o70 : (R ++ [⟨0, [x]⟩, ⟨0, [y]⟩] : Heap)[R.length]? = some ⟨0, [x]⟩ := g2a
  have p70 : (R ++ [⟨0, [x]⟩, ⟨0, [y]⟩] : Heap)[R.length + 1]? = some ⟨0, [y]⟩ := g2b
  have f70 := snap_fn2 (f := 70) o70 p70 sx1 sy1
  obtain ⟨m0, M0, mc, n1, n2⟩ := made69 (Y := Y) (n := n + 1) (g := 70) (f := fun i j => Min.min (at2 a i j) (at2 b i j)) (caps := [.cptr true [wx], .cptr true [wy]]) (by omega) (fun H => rfl)
    (fun i j hi hj H => min70 sx2 sy2 A B (by omega) (by omega))
  obtain ⟨l0, M1, lc, l1, l2, l3⟩ := call_tab (H := R ++ [⟨0, [x]⟩, ⟨0, [y]⟩]) (R := callL EV Y) (f := 69) (args := [vI ((n + 1 : Nat) : Int), .fn 70 [.ptr R.length 0 0, .ptr (R.length + 1) 0 0]]) (bs := [vI ((n + 1 : Nat) : Int), .fn 70 [.cptr true [wx], .cptr true [wy]]]) (by
    rw [mapM_cons', mapM_cons', f70]; rfl) n1 n2
  have o1 : M1[R.length]? = some ⟨0, [x]⟩ := by rw [l3 _ (by simp)]; exact g2a
  have o2 : M1[R.length + 1]? = some ⟨0, [y]⟩ := by rw [l3 _ (by simp)]; exact g2b
  obtain ⟨_, wx', tx1, tx2⟩ := (hx.grow l3).out (d := 1)
  obtain ⟨_, wy', ty1, ty2⟩ := (hy.grow l3).out (d := 1)
  simp only [Nat.reduceAdd] at tx1 ty1
  have f71 := snap_fn2 (f := 71) (R := M1) o1 o2 tx1 ty1
  obtain ⟨m2, M2, mc2, n3, n4⟩ := made69 (Y := Y) (n := n + 1) (g := 71) (f := fun i j => Max.max (at2 a i j) (at2 b i j)) (caps := [.cptr true [wx'], .cptr true [wy']]) (by omega) (fun H => rfl)
    (fun i j hi hj H => max71 tx2 ty2 A B (by omega) (by omega))
  obtain ⟨h0, M3, hc, k1, k2, k3⟩ := call_tab (H := M1) (R := callL EV Y) (f := 69) (args := [vI ((n + 1 : Nat) : Int), .fn 71 [.ptr R.length 0 0, .ptr (R.length + 1) 0 0]]) (bs := [vI ((n + 1 : Nat) : Int), .fn 71 [.cptr true [wx'], .cptr true [wy']]]) (by
    rw [mapM_cons', mapM_cons', f71]; rfl) n3 n4
  obtain ⟨_, _, _, w1, d1, d2⟩ := snap_if (b := 59) (l2.grow k3)
  obtain ⟨_, _, _, w2, d3, d4⟩ := snap_if (b := 59) k2
  exact ⟨l0, M1, h0, M3, w1, w2, l1, o1, k1, d1, d2, d3, d4⟩

theorem meet40_ok {ut vt : AV} {s t : List (List Int)} {n : Nat} (hu : IsTab ut s) (ht : IsTab vt t) (us : Small s) (ts : Small t) (vs : Veil s) (vt' : Veil t) (hs : s.length = n) (hl : t.length = n) :
    ∃ w1 w2, IsTab w1 (vOf n (minT n (hgtT s) (hgtT t))) ∧ IsTab w2 (vOf n (maxT n (hgtT s) (hgtT t))) ∧ ∀ H, freeX H (callL EV Y 40 [ut, vt] []) = some (.tup [w1, w2, vI 0], H) := by
  have A := vs.steep
  have B := vt'.steep
  rw [hs] at A
  rw [hl] at B
  have h5 := A.n5
  obtain ⟨H1, q1, _⟩ := read64 (Y := Y) hu us []
  obtain ⟨H2, q2, _⟩ := read64 (Y := Y) ht ts H1
  rw [veil_iff.2 vs, if_pos rfl] at q1
  rw [veil_iff.2 vt', if_pos rfl] at q2
  obtain ⟨x, R1, cx, a1, a2⟩ := raised_tab (Y := Y) hu vs H2
  obtain ⟨y, R2, cy, b1, b2, b3⟩ := raised_tab2 (Y := Y) ht vt' R1
  have a2' := a2.grow b3
  obtain ⟨x1, x2, x3⟩ := a2'.gro.one
  obtain ⟨y1, y2, y3⟩ := b2.gro.one
  have hlx := a2'.gro.len
  rw [A.len] at hlx
  obtain ⟨l0, M1, h0, M3, w1, w2, l1, o1, k1, d1, d2, d3, d4⟩ := meet_parts (Y := Y) a2' b2 A B
  obtain ⟨w3, e1, e2, e3⟩ := of_steep (Y := Y) d1 (A.min B)
  obtain ⟨w4, e4, e5, e6⟩ := of_steep (Y := Y) d3 (A.max B)
  refine ⟨w3, w4, e1, e4, fun H => ?_⟩
  have hls := hu.len
  rw [hs] at hls
  have hlt := ht.len
  rw [hl] at hlt
  clear A B vs vt' us ts a2 b2 a2' b3 d1 d3 e1 e4
  rw [call40 rfl]
  have hcut : ∀ fr H, codeL EV Y F40B fr H = thenX (codeL EV Y (headC 4 F40B) fr H) (codeL EV Y (tailC 4 F40B)) := fun fr H => cut 4 F40B fr H
  rw [hcut]
  simp only [SS, insA, wantedA, Opd.ev, putA, binA, eqbA, unA, fldA, partA, reduceIte, reduceCtorEq, Nat.reduceMod, Nat.reduceDiv, Nat.reduceBEq, resultA, resA, vI, Nat.reduceMul, Nat.reduceAdd, Nat.reduceSub, Nat.reduceEqDiff, Nat.reduceLT, Nat.reducePow, Nat.reduceLeDiff, st, Option.bind_eq_bind, Option.pure_def, List.length_nil, Int.cast_ofNat_Int, List.reverse_nil] at l1 k1
  simp only [headC, F40B, SS, insA, wantedA, Opd.ev, putA, binA, eqbA, unA, fldA, partA, reduceIte, reduceCtorEq, Nat.reduceMod, Nat.reduceDiv, Nat.reduceBEq, resultA, resA, vI, Nat.reduceMul, Nat.reduceAdd, Nat.reduceSub, Nat.reduceEqDiff, Nat.reduceLT, Nat.reducePow, Nat.reduceLeDiff, st, Option.bind_eq_bind, Option.pure_def, List.length_nil, Int.cast_ofNat_Int, List.reverse_nil, UU, idxP, cellsAt, storeA, fillA, zerosA, putAll, optNat, sliceA, row, Int.reduceLT, Int.reduceLE, Int.reduceGT, Int.reduceGE, Int.reduceEq, Int.reduceNe, Int.reduceToNat, Int.reduceBEq, Int.reduceBNe, Nat.reduceLeDiff, Nat.reduceLT, Nat.reduceBNe, Nat.reduceGT, List.drop_nil, List.take_nil, Option.isSome_none, Int.ofNat_one, Int.ofNat_zero, q1, q2, hls, hlt, bne_self_eq_false]
  simp only [tailC, SS, insA, wantedA, Opd.ev, putA, binA, eqbA, unA, fldA, partA, reduceIte, reduceCtorEq, Nat.reduceMod, Nat.reduceDiv, Nat.reduceBEq, resultA, resA, vI, Nat.reduceMul, Nat.reduceAdd, Nat.reduceSub, Nat.reduceEqDiff, Nat.reduceLT, Nat.reducePow, Nat.reduceLeDiff, st, Option.bind_eq_bind, Option.pure_def, List.length_nil, Int.cast_ofNat_Int, List.reverse_nil, UU, idxP, cellsAt, storeA, fillA, zerosA, putAll, optNat, sliceA, row, Int.reduceLT, Int.reduceLE, Int.reduceGT, Int.reduceGE, Int.reduceEq, Int.reduceNe, Int.reduceToNat, Int.reduceBEq, Int.reduceBNe, Nat.reduceLeDiff, Nat.reduceLT, Nat.reduceBNe, Nat.reduceGT, List.drop_nil, List.take_nil, Option.isSome_none, Int.ofNat_one, Int.ofNat_zero, a1, b1, g2a, g2b, s2a, s2b, x1, x2, x3, y1, y2, y3, List.append_assoc, List.cons_append, List.nil_append, List.length_append, List.length_cons, List.length_nil, hlx, l1, o1, k1, d2, d4, e2, e3, e5, e6]

theorem meet40_no {ut vt : AV} {s t : List (List Int)} (hu : IsTab ut s) (ht : IsTab vt t) (us : Small s) (ts : Small t) (hn : ¬ (readOk s = true ∧ readOk t = true ∧ s.length = t.length)) : freeX H (callL EV Y 40 [ut, vt] []) = some (.tup [.nils, .nils, vI 2], H) := by
  obtain ⟨H1, q1, _⟩ := read64 (Y := Y) hu us []
  obtain ⟨H2, q2, _⟩ := read64 (Y := Y) ht ts H1
  rw [call40 rfl]
  cases h1 : readOk s
  · rw [h1] at q1
    simp only [Bool.false_eq_true, if_false] at q1
    simp only [F40B, SS, insA, wantedA, Opd.ev, putA, binA, eqbA, unA, fldA, partA, reduceIte, reduceCtorEq, Nat.reduceMod, Nat.reduceDiv, Nat.reduceBEq, resultA, resA, vI, Nat.reduceMul, Nat.reduceAdd, Nat.reduceSub, Nat.reduceEqDiff, Nat.reduceLT, Nat.reducePow, Nat.reduceLeDiff, st, Option.bind_eq_bind, Option.pure_def, List.length_nil, Int.cast_ofNat_Int, List.reverse_nil, UU, idxP, cellsAt, storeA, fillA, zerosA, putAll, optNat, sliceA, row, Int.reduceLT, Int.reduceLE, Int.reduceGT, Int.reduceGE, Int.reduceEq, Int.reduceNe, Int.reduceToNat, Int.reduceBEq, Int.reduceBNe, Nat.reduceLeDiff, Nat.reduceLT, Nat.reduceBNe, Nat.reduceGT, List.drop_nil, List.take_nil, Option.isSome_none, Int.ofNat_one, Int.ofNat_zero, q1, q2]
  · rw [h1, if_pos rfl] at q1
    cases h2 : readOk t
    · rw [h2] at q2
      simp only [Bool.false_eq_true, if_false] at q2
      simp only [F40B, SS, insA, wantedA, Opd.ev, putA, binA, eqbA, unA, fldA, partA, reduceIte, reduceCtorEq, Nat.reduceMod, Nat.reduceDiv, Nat.reduceBEq, resultA, resA, vI, Nat.reduceMul, Nat.reduceAdd, Nat.reduceSub, Nat.reduceEqDiff, Nat.reduceLT, Nat.reducePow, Nat.reduceLeDiff, st, Option.bind_eq_bind, Option.pure_def, List.length_nil, Int.cast_ofNat_Int, List.reverse_nil, UU, idxP, cellsAt, storeA, fillA, zerosA, putAll, optNat, sliceA, row, Int.reduceLT, Int.reduceLE, Int.reduceGT, Int.reduceGE, Int.reduceEq, Int.reduceNe, Int.reduceToNat, Int.reduceBEq, Int.reduceBNe, Nat.reduceLeDiff, Nat.reduceLT, Nat.reduceBNe, Nat.reduceGT, List.drop_nil, List.take_nil, Option.isSome_none, Int.ofNat_one, Int.ofNat_zero, q1, q2]
    · rw [h2, if_pos rfl] at q2
      have hne : ((s.length : Int) != (t.length : Int)) = true := by
        have : ¬ s.length = t.length := fun h => hn ⟨h1, h2, h⟩
        simp; omega
      simp only [F40B, SS, insA, wantedA, Opd.ev, putA, binA, eqbA, unA, fldA, partA, reduceIte, reduceCtorEq, Nat.reduceMod, Nat.reduceDiv, Nat.reduceBEq, resultA, resA, vI, Nat.reduceMul, Nat.reduceAdd, Nat.reduceSub, Nat.reduceEqDiff, Nat.reduceLT, Nat.reducePow, Nat.reduceLeDiff, st, Option.bind_eq_bind, Option.pure_def, List.length_nil, Int.cast_ofNat_Int, List.reverse_nil, UU, idxP, cellsAt, storeA, fillA, zerosA, putAll, optNat, sliceA, row, Int.reduceLT, Int.reduceLE, Int.reduceGT, Int.reduceGE, Int.reduceEq, Int.reduceNe, Int.reduceToNat, Int.reduceBEq, Int.reduceBNe, Nat.reduceLeDiff, Nat.reduceLT, Nat.reduceBNe, Nat.reduceGT, List.drop_nil, List.take_nil, Option.isSome_none, Int.ofNat_one, Int.ofNat_zero, q1, q2, hu.len, ht.len, hne]

/-! ### The specification's -/
theorem L41_0 {x y lo hi : AV} {a b : List (List Int)} {n i k1 k2 k3 k4 : Nat} {cx cy cl ch : List AV} (A : Steep n a) (B : Steep n b) (hin : i ≤ n) (o1 : k1 ≤ k2) (o2 : k2 ≤ k3) (o3 : k3 ≤ k4) (lx : Low k2 x cx (n + 1)) (ly : Low k3 y cy (n + 1)) (ll : Low k4 lo cl (n + 1)) (d : Nat) : ∀ (j : Nat) (R : Heap) (q1 q2 : List (List Int)), j + d = n + 1 →
    HTab k1 R x a cx → HTab k2 R y b cy → HTab k3 R lo q1 cl → HTab k4 R hi q2 ch → Fill (n + 1) (fun i j => Min.min (at2 a i j) (at2 b i j)) q1 i j → Fill (n + 1) (fun i j => Max.max (at2 a i j) (at2 b i j)) q2 i j →
    ∃ R' q1' q2', lp EV Y F41L0 (sp 96 [(12, vI j), (11, vI i), (10, hi), (9, lo), (8, y), (7, x)]) R = some (.x 2, sp 96 [(11, vI i), (10, hi), (9, lo), (8, y), (7, x)], R') ∧ HTab k1 R' x a cx ∧ HTab k2 R' y b cy ∧ HTab k3 R' lo q1' cl ∧ HTab k4 R' hi q2' ch ∧
      Fill (n + 1) (fun i j => Min.min (at2 a i j) (at2 b i j)) q1' i (n + 1) ∧ Fill (n + 1) (fun i j => Max.max (at2 a i j) (at2 b i j)) q2' i (n + 1) := by
  have h5 := A.n5
  induction d with
  | zero =>
    intro j R q1 q2 hj T1 T2 T3 T4 F1 F2
    have : ¬ ((j : Int) < ((n + 1 : Nat) : Int)) := by omega
    have hlx := T1.gro.len
    rw [A.len] at hlx
    refine ⟨R, q1, q2, ?_, T1, T2, T3, T4, by rw [show n + 1 = j by omega]; rwa [show n + 1 = j by omega] at F1, by rw [show n + 1 = j by omega]; rwa [show n + 1 = j by omega] at F2⟩
    rw [un41_0]
    simp only [F41L0b, SS, insA, wantedA, Opd.ev, putA, binA, eqbA, unA, fldA, partA, reduceIte, reduceCtorEq, Nat.reduceMod, Nat.reduceDiv, Nat.reduceBEq, resultA, resA, vI, Nat.reduceMul, Nat.reduceAdd, Nat.reduceSub, Nat.reduceEqDiff, Nat.reduceLT, Nat.reducePow, Nat.reduceLeDiff, st, Option.bind_eq_bind, Option.pure_def, List.length_nil, Int.cast_ofNat_Int, List.reverse_nil, UU, idxP, cellsAt, storeA, fillA, zerosA, putAll, optNat, sliceA, row, Int.reduceLT, Int.reduceLE, Int.reduceGT, Int.reduceGE, Int.reduceEq, Int.reduceNe, Int.reduceToNat, Int.reduceBEq, Int.reduceBNe, Nat.reduceLeDiff, Nat.reduceLT, Nat.reduceBNe, Nat.reduceGT, List.drop_nil, List.take_nil, Option.isSome_none, Int.ofNat_one, Int.ofNat_zero, hlx, this]
  | succ d ih =>
    intro j R q1 q2 hj T1 T2 T3 T4 F1 F2
    have hc : (j : Int) < ((n + 1 : Nat) : Int) := by omega
    have hlx := T1.gro.len
    rw [A.len] at hlx
    have hww := wrap_succ (n := j) (by omega)
    obtain ⟨ax, ax2⟩ := A.in (i := i) (j := j) hin (by omega)
    obtain ⟨by1, by2⟩ := B.in (i := i) (j := j) hin (by omega)
    have ga : a[i][j] = at2 a i j := (at2_get ax ax2).symm
    have gb : b[i][j] = at2 b i j := (at2_get by1 by2).symm
    have i1 : i < q1.length := by rw [F1.len]; omega
    have j1 : j < q1[i].length := by rw [F1.rlen i1]; omega
    have i2 : i < q2.length := by rw [F2.len]; omega
    have j2 : j < q2[i].length := by rw [F2.rlen i2]; omega
    obtain ⟨id, o, s1, s2, s3, s4⟩ := T3.store2 (x := Min.min (at2 a i j) (at2 b i j)) (by rw [F1.len]; exact ll) i1 j1
    have T1' : HTab k1 (R.set id o) x a cx := T1.other (by rw [A.len]; exact lx) (.inr (by omega))
    have T2' : HTab k2 (R.set id o) y b cy := T2.other (by rw [B.len]; exact ly) (.inr (by omega))
    have T4' : HTab k4 (R.set id o) hi q2 ch := T4.other T4.low (.inl s4)
    obtain ⟨id2, p, u1, u2, u3, u4⟩ := T4'.store2 (x := Max.max (at2 a i j) (at2 b i j)) T4'.low i2 j2
    have F1' := F1.put i1 j1
    have T3'' := s2.other (id := id2) (o := p) (by rw [F1'.len]; exact ll) (.inr u3)
    have T1'' : HTab k1 ((R.set id o).set id2 p) x a cx := T1'.other (by rw [A.len]; exact lx) (.inr (by omega))
    have T2'' : HTab k2 ((R.set id o).set id2 p) y b cy := T2'.other (by rw [B.len]; exact ly) (.inr (by omega))
    obtain ⟨R', q1', q2', p1, p2⟩ := ih (j + 1) _ _ _ (by omega) T1'' T2'' T3'' u2 F1' (F2.put i2 j2)
    refine ⟨R', q1', q2', ?_, p2⟩
    rw [un41_0]
    simp only [SS, insA, wantedA, Opd.ev, putA, binA, eqbA, unA, fldA, partA, reduceIte, reduceCtorEq, Nat.reduceMod, Nat.reduceDiv, Nat.reduceBEq, resultA, resA, vI, Nat.reduceMul, Nat.reduceAdd, Nat.reduceSub, Nat.reduceEqDiff, Nat.reduceLT, Nat.reducePow, Nat.reduceLeDiff, st, Option.bind_eq_bind, Option.pure_def, List.length_nil, Int.cast_ofNat_Int, List.reverse_nil] at p1 s1 u1
    simp only [F41L0b, SS, insA, wantedA, Opd.ev, putA, binA, eqbA, unA, fldA, partA, reduceIte, reduceCtorEq, Nat.reduceMod, Nat.reduceDiv, Nat.reduceBEq, resultA, resA, vI, Nat.reduceMul, Nat.reduceAdd, Nat.reduceSub, Nat.reduceEqDiff, Nat.reduceLT, Nat.reducePow, Nat.reduceLeDiff, st, Option.bind_eq_bind, Option.pure_def, List.length_nil, Int.cast_ofNat_Int, List.reverse_nil, UU, idxP, cellsAt, fillA, zerosA, putAll, row, Int.reduceLT, Int.reduceLE, Int.reduceGT, Int.reduceGE, Int.reduceEq, Int.reduceNe, Int.reduceToNat, Int.reduceBEq, Int.reduceBNe, Nat.reduceLeDiff, Nat.reduceLT, Nat.reduceBNe, Nat.reduceGT, List.drop_nil, List.take_nil, Option.isSome_none, Int.ofNat_one, Int.ofNat_zero, hlx, hc, hww, T3.idx i1, T3.load i1, T3.idx2 i1 j1, T1.idx ax, T1.load ax, T1.idx2 ax ax2, T1.load2 ax ax2, T2.idx by1, T2.load by1, T2.idx2 by1 by2, T2.load2 by1 by2, ga, gb, mnx_min, mnx_max, s1,
      T4'.idx i2, T4'.load i2, T4'.idx2 i2 j2, T1'.idx ax, T1'.load ax, T1'.load2 ax ax2, T2'.idx by1, T2'.load by1, T2'.load2 by1 by2, u1, p1]

theorem L41_1 {x y lo hi : AV} {a b : List (List Int)} {n k1 k2 k3 k4 : Nat} {cx cy cl ch : List AV} (A : Steep n a) (B : Steep n b) (o1 : k1 ≤ k2) (o2 : k2 ≤ k3) (o3 : k3 ≤ k4) (lx : Low k2 x cx (n + 1)) (ly : Low k3 y cy (n + 1)) (ll : Low k4 lo cl (n + 1)) (d : Nat) : ∀ (i : Nat) (R : Heap) (q1 q2 : List (List Int)), i + d = n + 1 →
    HTab k1 R x a cx → HTab k2 R y b cy → HTab k3 R lo q1 cl → HTab k4 R hi q2 ch → Fill (n + 1) (fun i j => Min.min (at2 a i j) (at2 b i j)) q1 i 0 → Fill (n + 1) (fun i j => Max.max (at2 a i j) (at2 b i j)) q2 i 0 →
    ∃ R', lp EV Y F41L1 (sp 96 [(11, vI i), (10, hi), (9, lo), (8, y), (7, x)]) R = some (.x 0, sp 96 [(10, hi), (9, lo)], R') ∧ HTab k3 R' lo (minT n a b) cl ∧ HTab k4 R' hi (maxT n a b) ch := by
  have h5 := A.n5
  induction d with
  | zero =>
    intro i R q1 q2 hi' T1 T2 T3 T4 F1 F2
    have : ¬ ((i : Int) < ((n + 1 : Nat) : Int)) := by omega
    have hlx := T1.gro.len
    rw [A.len] at hlx
    have e1 : q1 = minT n a b := Fill.done (by rwa [show i = n + 1 by omega] at F1)
    have e2 : q2 = maxT n a b := Fill.done (by rwa [show i = n + 1 by omega] at F2)
    refine ⟨R, ?_, by rw [← e1]; exact T3, by rw [← e2]; exact T4⟩
    rw [un41_1]
    simp only [F41L1b, SS, insA, wantedA, Opd.ev, putA, binA, eqbA, unA, fldA, partA, reduceIte, reduceCtorEq, Nat.reduceMod, Nat.reduceDiv, Nat.reduceBEq, resultA, resA, vI, Nat.reduceMul, Nat.reduceAdd, Nat.reduceSub, Nat.reduceEqDiff, Nat.reduceLT, Nat.reducePow, Nat.reduceLeDiff, st, Option.bind_eq_bind, Option.pure_def, List.length_nil, Int.cast_ofNat_Int, List.reverse_nil, UU, idxP, cellsAt, storeA, fillA, zerosA, putAll, optNat, sliceA, row, Int.reduceLT, Int.reduceLE, Int.reduceGT, Int.reduceGE, Int.reduceEq, Int.reduceNe, Int.reduceToNat, Int.reduceBEq, Int.reduceBNe, Nat.reduceLeDiff, Nat.reduceLT, Nat.reduceBNe, Nat.reduceGT, List.drop_nil, List.take_nil, Option.isSome_none, Int.ofNat_one, Int.ofNat_zero, hlx, this]
  | succ d ih =>
    intro i R q1 q2 hi' T1 T2 T3 T4 F1 F2
    have hc : (i : Int) < ((n + 1 : Nat) : Int) := by omega
    have hlx := T1.gro.len
    rw [A.len] at hlx
    have hww := wrap_succ (n := i) (by omega)
    obtain ⟨R1, q1', q2', a1, a2, a3, a4, a5, a6, a7⟩ := L41_0 (Y := Y) A B (show i ≤ n by omega) o1 o2 o3 lx ly ll (n + 1) 0 R q1 q2 (by omega) T1 T2 T3 T4 F1 F2
    obtain ⟨R', p1, p2⟩ := ih (i + 1) R1 q1' q2' (by omega) a2 a3 a4 a5 a6.next a7.next
    refine ⟨R', ?_, p2⟩
    rw [un41_1]
    simp only [SS, insA, wantedA, Opd.ev, putA, binA, eqbA, unA, fldA, partA, reduceIte, reduceCtorEq, Nat.reduceMod, Nat.reduceDiv, Nat.reduceBEq, resultA, resA, vI, Nat.reduceMul, Nat.reduceAdd, Nat.reduceSub, Nat.reduceEqDiff, Nat.reduceLT, Nat.reducePow, Nat.reduceLeDiff, st, Option.bind_eq_bind, Option.pure_def, List.length_nil, Int.cast_ofNat_Int, List.reverse_nil, Int.ofNat_zero] at a1 p1
    simp only [F41L1b, F41T0, in41_0, SS, insA, wantedA, Opd.ev, putA, binA, eqbA, unA, fldA, partA, reduceIte, reduceCtorEq, Nat.reduceMod, Nat.reduceDiv, Nat.reduceBEq, resultA, resA, vI, Nat.reduceMul, Nat.reduceAdd, Nat.reduceSub, Nat.reduceEqDiff, Nat.reduceLT, Nat.reducePow, Nat.reduceLeDiff, st, Option.bind_eq_bind, Option.pure_def, List.length_nil, Int.cast_ofNat_Int, List.reverse_nil, UU, idxP, cellsAt, storeA, fillA, zerosA, putAll, optNat, sliceA, row, Int.reduceLT, Int.reduceLE, Int.reduceGT, Int.reduceGE, Int.reduceEq, Int.reduceNe, Int.reduceToNat, Int.reduceBEq, Int.reduceBNe, Nat.reduceLeDiff, Nat.reduceLT, Nat.reduceBNe, Nat.reduceGT, List.drop_nil, List.take_nil, Option.isSome_none, Int.ofNat_one, Int.ofNat_zero, hlx, hc, a1, hww, p1]

theorem zeros_tab {n : Nat} (hn : n ≤ 20) (H0 : Heap) : ∃ v R cells, callA (callL EV Y) 2 54 [vI n] H0 = some (v, R) ∧ HTab H0.length R v (zeroT n) cells ∧ ∀ a, a < H0.length → R[a]? = H0[a]? := by
  obtain ⟨v0, R0, c0, z1, z2⟩ := zeros54 (Y := Y) hn
  obtain ⟨v, R, cells, q1, q2, q3⟩ := call_tab (H := H0) (R := callL EV Y) (f := 54) (args := [vI (n : Int)]) (bs := [vI (n : Int)]) rfl z1 z2
  exact ⟨v, R, cells, q1, q2, q3⟩
theorem HTab.le {k : Nat} {R : Heap} {v : AV} {t : List (List Int)} {cells : List AV} (h : HTab k R v t cells) (h0 : 0 < t.length) : k ≤ R.length := by
  obtain ⟨h1, ⟨h2, rfl⟩ | ⟨id, ver, hid, rfl, hH⟩⟩ := h.gro
  · omega
  · have := hlt_of hH; omega

theorem meet41_ok {ut vt : AV} {s t : List (List Int)} {n : Nat} (hu : IsTab ut s) (ht : IsTab vt t) (us : Small s) (ts : Small t) (vs : Veil s) (vt' : Veil t) (hn : s.length = n) (hl : t.length = n) :
    ∃ w1 w2, IsTab w1 (vOf n (minT n (hgtT s) (hgtT t))) ∧ IsTab w2 (vOf n (maxT n (hgtT s) (hgtT t))) ∧ ∀ H, freeX H (callL EV Y 41 [ut, vt] []) = some (.tup [w1, w2, vI 0], H) := by
  have A := vs.steep
  have B := vt'.steep
  rw [hn] at A
  rw [hl] at B
  have h5 := A.n5
  have ks := fun H => isveil26 (Y := Y) (H := H) hu us
  have kt := fun H => isveil26 (Y := Y) (H := H) ht ts
  rw [ref_read, veil_iff.2 vs] at ks
  rw [ref_read, veil_iff.2 vt'] at kt
  obtain ⟨x, R1, cx, a1, a2, a3⟩ := heights_tab (Y := Y) hu vs []
  obtain ⟨y, R2, cy, b1, b2, b3⟩ := heights_tab (Y := Y) ht vt' R1
  have a2' := a2.grow b3
  obtain ⟨lo, R3, cl, c1, c2, c3⟩ := zeros_tab (Y := Y) (n := n + 1) (by omega) R2
  obtain ⟨hi, R4, ch, d1, d2, d3⟩ := zeros_tab (Y := Y) (n := n + 1) (by omega) R3
  have lx : Low R1.length x cx (n + 1) := by have := a2.low; rwa [A.len] at this
  have ly : Low R2.length y cy (n + 1) := by have := b2.low; rwa [B.len] at this
  have ll : Low R3.length lo cl (n + 1) := by have := c2.low; rwa [show (zeroT (n + 1)).length = n + 1 by simp [zeroT]] at this
  have z0 : 0 < (zeroT (n + 1)).length := by simp [zeroT]
  obtain ⟨R5, p1, p2, p3⟩ := L41_1 (Y := Y) A B (Nat.zero_le _) (b2.le (by rw [B.len]; omega)) (c2.le z0) lx ly ll (n + 1) 0 R4 _ _ (by omega) ((a2'.grow c3).grow d3) ((b2.grow c3).grow d3) (c2.grow d3) d2 Fill.zero Fill.zero
  obtain ⟨w1, e1, e2, _⟩ := snap_if (b := 59) p2
  obtain ⟨w2, g1, g2, _⟩ := snap_if (b := 59) p3
  obtain ⟨w3, i1, i2, i3⟩ := table_steep (Y := Y) e1 (A.min B)
  obtain ⟨w4, j1, j2, j3⟩ := table_steep (Y := Y) g1 (A.max B)
  refine ⟨w3, w4, i1, j1, fun H => ?_⟩
  have hls := hu.len
  rw [hn] at hls
  have hlt := ht.len
  rw [hl] at hlt
  have hlx := a2'.gro.len
  rw [A.len] at hlx
  rw [call41 rfl]
  simp only [SS, insA, wantedA, Opd.ev, putA, binA, eqbA, unA, fldA, partA, reduceIte, reduceCtorEq, Nat.reduceMod, Nat.reduceDiv, Nat.reduceBEq, resultA, resA, vI, Nat.reduceMul, Nat.reduceAdd, Nat.reduceSub, Nat.reduceEqDiff, Nat.reduceLT, Nat.reducePow, Nat.reduceLeDiff, st, Option.bind_eq_bind, Option.pure_def, List.length_nil, Int.cast_ofNat_Int, List.reverse_nil, Int.ofNat_zero] at c1 d1 p1
  simp only [F41B, F41T1, in41_1, SS, insA, wantedA, Opd.ev, putA, binA, eqbA, unA, fldA, partA, reduceIte, reduceCtorEq, Nat.reduceMod, Nat.reduceDiv, Nat.reduceBEq, resultA, resA, vI, Nat.reduceMul, Nat.reduceAdd, Nat.reduceSub, Nat.reduceEqDiff, Nat.reduceLT, Nat.reducePow, Nat.reduceLeDiff, st, Option.bind_eq_bind, Option.pure_def, List.length_nil, Int.cast_ofNat_Int, List.reverse_nil, UU, idxP, cellsAt, storeA, fillA, zerosA, putAll, optNat, sliceA, row, Int.reduceLT, Int.reduceLE, Int.reduceGT, Int.reduceGE, Int.reduceEq, Int.reduceNe, Int.reduceToNat, Int.reduceBEq, Int.reduceBNe, Nat.reduceLeDiff, Nat.reduceLT, Nat.reduceBNe, Nat.reduceGT, List.drop_nil, List.take_nil, Option.isSome_none, Int.ofNat_one, Int.ofNat_zero, hu.snap, ht.snap, ks, kt, hls, hlt, bne_self_eq_false, a1, b1, hlx, c1, d1, p1, e2, g2, i2, i3, j2, j3]

theorem meet41_no {ut vt : AV} {s t : List (List Int)} (hu : IsTab ut s) (ht : IsTab vt t) (us : Small s) (ts : Small t) (hn : ¬ (readOk s = true ∧ readOk t = true ∧ s.length = t.length)) : freeX H (callL EV Y 41 [ut, vt] []) = some (.tup [.nils, .nils, vI 2], H) := by
  have ks := fun H => isveil26 (Y := Y) (H := H) hu us
  have kt := fun H => isveil26 (Y := Y) (H := H) ht ts
  rw [ref_read] at ks kt
  rw [call41 rfl]
  cases h1 : readOk s
  · rw [h1] at ks
    simp only [F41B, SS, insA, wantedA, Opd.ev, putA, binA, eqbA, unA, fldA, partA, reduceIte, reduceCtorEq, Nat.reduceMod, Nat.reduceDiv, Nat.reduceBEq, resultA, resA, vI, Nat.reduceMul, Nat.reduceAdd, Nat.reduceSub, Nat.reduceEqDiff, Nat.reduceLT, Nat.reducePow, Nat.reduceLeDiff, st, Option.bind_eq_bind, Option.pure_def, List.length_nil, Int.cast_ofNat_Int, List.reverse_nil, UU, idxP, cellsAt, storeA, fillA, zerosA, putAll, optNat, sliceA, row, Int.reduceLT, Int.reduceLE, Int.reduceGT, Int.reduceGE, Int.reduceEq, Int.reduceNe, Int.reduceToNat, Int.reduceBEq, Int.reduceBNe, Nat.reduceLeDiff, Nat.reduceLT, Nat.reduceBNe, Nat.reduceGT, List.drop_nil, List.take_nil, Option.isSome_none, Int.ofNat_one, Int.ofNat_zero, hu.snap, ht.snap, ks]
  · rw [h1] at ks
    cases h2 : readOk t
    · rw [h2] at kt
      simp only [F41B, SS, insA, wantedA, Opd.ev, putA, binA, eqbA, unA, fldA, partA, reduceIte, reduceCtorEq, Nat.reduceMod, Nat.reduceDiv, Nat.reduceBEq, resultA, resA, vI, Nat.reduceMul, Nat.reduceAdd, Nat.reduceSub, Nat.reduceEqDiff, Nat.reduceLT, Nat.reducePow, Nat.reduceLeDiff, st, Option.bind_eq_bind, Option.pure_def, List.length_nil, Int.cast_ofNat_Int, List.reverse_nil, UU, idxP, cellsAt, storeA, fillA, zerosA, putAll, optNat, sliceA, row, Int.reduceLT, Int.reduceLE, Int.reduceGT, Int.reduceGE, Int.reduceEq, Int.reduceNe, Int.reduceToNat, Int.reduceBEq, Int.reduceBNe, Nat.reduceLeDiff, Nat.reduceLT, Nat.reduceBNe, Nat.reduceGT, List.drop_nil, List.take_nil, Option.isSome_none, Int.ofNat_one, Int.ofNat_zero, hu.snap, ht.snap, ks, kt]
    · rw [h2] at kt
      have hne : ((s.length : Int) != (t.length : Int)) = true := by
        have : ¬ s.length = t.length := fun h => hn ⟨h1, h2, h⟩
        simp; omega
      simp only [F41B, SS, insA, wantedA, Opd.ev, putA, binA, eqbA, unA, fldA, partA, reduceIte, reduceCtorEq, Nat.reduceMod, Nat.reduceDiv, Nat.reduceBEq, resultA, resA, vI, Nat.reduceMul, Nat.reduceAdd, Nat.reduceSub, Nat.reduceEqDiff, Nat.reduceLT, Nat.reducePow, Nat.reduceLeDiff, st, Option.bind_eq_bind, Option.pure_def, List.length_nil, Int.cast_ofNat_Int, List.reverse_nil, UU, idxP, cellsAt, storeA, fillA, zerosA, putAll, optNat, sliceA, row, Int.reduceLT, Int.reduceLE, Int.reduceGT, Int.reduceGE, Int.reduceEq, Int.reduceNe, Int.reduceToNat, Int.reduceBEq, Int.reduceBNe, Nat.reduceLeDiff, Nat.reduceLT, Nat.reduceBNe, Nat.reduceGT, List.drop_nil, List.take_nil, Option.isSome_none, Int.ofNat_one, Int.ofNat_zero, hu.snap, ht.snap, ks, kt, hu.len, ht.len, hne]
end
end Go.X
