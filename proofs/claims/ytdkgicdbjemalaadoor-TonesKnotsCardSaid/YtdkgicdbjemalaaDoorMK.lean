import Derived.Test.YtdkgicdbjemalaaDoorMJ
/-! Tones: sums over figures, walked. -/
set_option linter.unusedSimpArgs false
set_option linter.unusedVariables false
set_option maxHeartbeats 2000000
set_option maxRecDepth 10000
namespace Go.X
open Go Go.RowKit
section
variable {Y : Run} {H : Heap}

def fz5 (fr : AV) (S i w r a3 a4 a5 a7 a8 a9 : Nat) : List (Nat × Ob) :=
  [(a3, ⟨0, [fr]⟩), (a4, ⟨0, [vI S]⟩), (a5, ⟨0, [.fn w [], .fn r []]⟩), (a7, ⟨0, [vI i]⟩), (a9, ⟨0, [.fn 92 [.ptr a8 0 0]]⟩)]

theorem L71 {fr : AV} {f : List Nat} {S i w r : Nat} {ov : Nat → List Int} {a3 a4 a5 a7 a8 a9 j0 : Nat} (C : OnCtx fr f S i w r ov Y) (hw' : w = 139 ∨ w = 140 ∨ w = 141 ∨ w = 142 ∨ w = 143 ∨ w = 144) (d : Nat) : ∀ {H : Heap} {out : List Int} (k : Nat), k + d = f.length → Out (fz5 fr S i w r a3 a4 a5 a7 a8 a9) a8 j0 H out →
    ∃ H', lp ET Y F71L0 (sp 58 [(28, vI k), (27, vI f.length), (9, .ptr a9 0 0), (8, .ptr a8 0 0), (7, .ptr a7 0 0), (5, .ptr a5 0 0), (4, .ptr a4 0 0), (3, .ptr a3 0 0)]) H =
        some (.x 0, sp 58 [(9, .ptr a9 0 0), (8, .ptr a8 0 0), (7, .ptr a7 0 0), (5, .ptr a5 0 0), (4, .ptr a4 0 0), (3, .ptr a3 0 0)], H') ∧
      Out (fz5 fr S i w r a3 a4 a5 a7 a8 a9) a8 j0 H' ((List.range' k d).foldl (fun out k => if (f.getD i 0 &&& S).testBit k then morL (cm w) out 2 (ov (dl S (2 ^ k))) else out) out) ∧ H.length ≤ H'.length := by
  have fb := C.fb
  induction d with
  | zero =>
    intro H out k hk h
    refine ⟨H, ?_, by simpa using h, Nat.le_refl _⟩
    rw [un71_0]
    have : ¬ ((k : Int) < (f.length : Int)) := by omega
    simp only [F71L0b, SS, insA, wantedA, Opd.ev, putA, binA, eqbA, unA, fldA, partA, reduceIte, reduceCtorEq, Nat.reduceMod, Nat.reduceDiv, Nat.reduceBEq, resultA, resA, vI, Nat.reduceMul, Nat.reduceAdd, Nat.reduceSub, Nat.reduceEqDiff, Nat.reduceLT, Nat.reducePow, Nat.reduceLeDiff, st, Option.bind_eq_bind, Option.pure_def, List.length_nil, Int.cast_ofNat_Int, List.reverse_nil, UU, idxP, cellsAt, fillA, zerosA, putAll, row, Int.reduceLT, Int.reduceLE, Int.reduceGT, Int.reduceGE, Int.reduceEq, Int.reduceNe, Int.reduceToNat, Int.reduceBEq, Int.reduceBNe, Nat.reduceLeDiff, Nat.reduceLT, Nat.reduceBNe, Nat.reduceGT, List.drop_nil, List.take_nil, Option.isSome_none, Int.ofNat_one, Int.ofNat_zero, this]
  | succ d ihd =>
    intro H out k hk h
    have hk1 : k < f.length := by omega
    have hk7 : k < 7 := by have := C.fl; omega
    have hc : (k : Int) < (f.length : Int) := by omega
    have hw := wrap_succ (n := k) (by omega)
    have g3 := h.st (a3, ⟨0, [fr]⟩) (by simp [fz5])
    have g4 := h.st (a4, ⟨0, [vI S]⟩) (by simp [fz5])
    have g7 := h.st (a7, ⟨0, [vI i]⟩) (by simp [fz5])
    simp only at g3 g4 g7
    have hip := C.hv.idx (i := i) (by simpa using C.ib)
    have hlp := C.hv.load (H := H) (i := i) (by simpa using C.ib)
    rw [getD_nat C.ib] at hlp
    have b1 := (nat_bits (a := f.getD i 0) (b := S) (by have := fb i; omega) (by have := C.Sb; omega)).1
    have hp2 : (0 : Int) ≤ (k : Int) := by omega
    have hs2 := shr_eq (k := k) (by omega)
    have hs3 := shl_eq (k := k) (by omega)
    have q0 := sh_beq (f.getD i 0 &&& S) k
    rw [un71_0, List.range'_succ, List.foldl_cons]
    cases c1 : (f.getD i 0 &&& S).testBit k with
    | false =>
      rw [c1] at q0
      obtain ⟨H', e1, h1, n1⟩ := ihd (k + 1) (by omega) h
      refine ⟨H', ?_, by simpa using h1, n1⟩
      simp only [SS, insA, wantedA, Opd.ev, putA, binA, eqbA, unA, fldA, partA, reduceIte, reduceCtorEq, Nat.reduceMod, Nat.reduceDiv, Nat.reduceBEq, resultA, resA, vI, Nat.reduceMul, Nat.reduceAdd, Nat.reduceSub, Nat.reduceEqDiff, Nat.reduceLT, Nat.reducePow, Nat.reduceLeDiff, st, Option.bind_eq_bind, Option.pure_def, List.length_nil, Int.cast_ofNat_Int, List.reverse_nil] at e1
      simp only [F71L0b, SS, insA, wantedA, Opd.ev, putA, binA, eqbA, unA, fldA, partA, reduceIte, reduceCtorEq, Nat.reduceMod, Nat.reduceDiv, Nat.reduceBEq, resultA, resA, vI, Nat.reduceMul, Nat.reduceAdd, Nat.reduceSub, Nat.reduceEqDiff, Nat.reduceLT, Nat.reducePow, Nat.reduceLeDiff, st, Option.bind_eq_bind, Option.pure_def, List.length_nil, Int.cast_ofNat_Int, List.reverse_nil, UU, idxP, cellsAt, fillA, zerosA, putAll, row, Int.reduceLT, Int.reduceLE, Int.reduceGT, Int.reduceGE, Int.reduceEq, Int.reduceNe, Int.reduceToNat, Int.reduceBEq, Int.reduceBNe, Nat.reduceLeDiff, Nat.reduceLT, Nat.reduceBNe, Nat.reduceGT, List.drop_nil, List.take_nil, Option.isSome_none, Int.ofNat_one, Int.ofNat_zero, hc, g3, g4, g7, hip, hlp, b1, hp2, hs2, and_one, q0, hw, e1]
    | true =>
      rw [c1] at q0
      have g5 := h.st (a5, ⟨0, [.fn w [], .fn r []]⟩) (by simp [fz5])
      have g9 := h.st (a9, ⟨0, [.fn 92 [.ptr a8 0 0]]⟩) (by simp [fz5])
      simp only at g5 g9
      have b4 : bitsA .andNot .i64 (S : Int) ((2 ^ k : Nat) : Int) = some (vI ((dl S (2 ^ k) : Nat) : Int)) := (nat_bits (by have := C.Sb; omega) (by have := pow_lt hk7; omega)).2.2
      obtain ⟨v, R0, q0', ver, o1, o2, o3, o4⟩ := C.hov (dl S (2 ^ k)) (sub_dl _ _)
      obtain ⟨m1, m2⟩ := call_row (H := H) (R := callL ET Y) (f := 71) (args := [fr, vI ((dl S (2 ^ k) : Nat) : Int), .agg [.fn w [], .fn r []]]) (bs := [fr, vI ((dl S (2 ^ k) : Nat) : Int), .agg [.fn w [], .fn r []]]) (by rw [mapM_cons', C.hv.snap]; rfl) o1 o2 o3
      have hl8 := hlt_of (h.out.choose_spec.1)
      have hl0 := hlt_of (h.out.choose_spec.2)
      have hbig : Out ((q0' + H.length, ⟨ver, (ov (dl S (2 ^ k))).map vW⟩) :: fz5 fr S i w r a3 a4 a5 a7 a8 a9) a8 j0 (H ++ R0.map (shO H.length)) out := by
        obtain ⟨vr, k8, k0⟩ := h.out
        refine ⟨fun x hx => ?_, fun x hx => ?_, h.ne, vr, ?_, ?_⟩
        · rcases List.mem_cons.1 hx with rfl | hx
          · exact m2
          · rw [List.getElem?_append_left (hlt_of (h.st x hx))]; exact h.st x hx
        · rcases List.mem_cons.1 hx with rfl | hx
          · simp only; omega
          · exact h.ap x hx
        · rw [List.getElem?_append_left hl8]; exact k8
        · rw [List.getElem?_append_left hl0]; exact k0
      obtain ⟨H1, e1, h1, n1⟩ := more92 (Y := Y) (c := w) (kn := 2) hw' ⟨_, _, rfl, List.mem_cons_self⟩ (by omega) hbig
      have h1' := h1.mono (fz' := fz5 fr S i w r a3 a4 a5 a7 a8 a9) (fun x hx => List.mem_cons_of_mem _ hx)
      have g5' : (H ++ R0.map (shO H.length))[a5]? = some ⟨0, [.fn w [], .fn r []]⟩ := by rw [List.getElem?_append_left (hlt_of g5)]; exact g5
      obtain ⟨H', e3, h3, n3⟩ := ihd (k + 1) (by omega) h1'
      have n0 : H.length ≤ (H ++ R0.map (shO H.length)).length := by simp
      refine ⟨H', ?_, ?_, by omega⟩
      · simp only [SS, insA, wantedA, Opd.ev, putA, binA, eqbA, unA, fldA, partA, reduceIte, reduceCtorEq, Nat.reduceMod, Nat.reduceDiv, Nat.reduceBEq, resultA, resA, vI, Nat.reduceMul, Nat.reduceAdd, Nat.reduceSub, Nat.reduceEqDiff, Nat.reduceLT, Nat.reducePow, Nat.reduceLeDiff, st, Option.bind_eq_bind, Option.pure_def, List.length_nil, Int.cast_ofNat_Int, List.reverse_nil, Int.cast_ofNat_Int] at e1 e3 m1
        simp only [F71L0b, SS, insA, wantedA, Opd.ev, putA, binA, eqbA, unA, fldA, partA, reduceIte, reduceCtorEq, Nat.reduceMod, Nat.reduceDiv, Nat.reduceBEq, resultA, resA, vI, Nat.reduceMul, Nat.reduceAdd, Nat.reduceSub, Nat.reduceEqDiff, Nat.reduceLT, Nat.reducePow, Nat.reduceLeDiff, st, Option.bind_eq_bind, Option.pure_def, List.length_nil, Int.cast_ofNat_Int, List.reverse_nil, UU, idxP, cellsAt, fillA, zerosA, putAll, row, Int.reduceLT, Int.reduceLE, Int.reduceGT, Int.reduceGE, Int.reduceEq, Int.reduceNe, Int.reduceToNat, Int.reduceBEq, Int.reduceBNe, Nat.reduceLeDiff, Nat.reduceLT, Nat.reduceBNe, Nat.reduceGT, List.drop_nil, List.take_nil, Option.isSome_none, Int.ofNat_one, Int.ofNat_zero, hc, g3, g4, g5, g7, g9, hip, hlp, b1, b4, hp2, hs2, hs3, and_one, q0, hw, m1, g5', e1, e3, List.cons_append, List.nil_append]
      · rw [if_pos rfl]; exact h3

theorem two_get {a b : Ob} : (H ++ [a, b])[H.length + 1]? = some b := by
  rw [List.getElem?_append_right (by omega)]; simp
theorem two_set {a b c : Ob} : (H ++ [a, b]).set (H.length + 1) c = H ++ [a, c] := by
  simp [List.set_append]

theorem over71_zero {fr : AV} {w r : Nat} {l : List Int} (hv : IsRow fr l) {ov : Nat → List Int} (h0 : ov 0 = [1]) : OvOk Y fr w r ov 0 := by
  refine ⟨.sl 3 0 1 0 1 none, [⟨0, [fr]⟩, ⟨0, [vI 0]⟩, ⟨0, [.fn w [], .fn r []]⟩, ⟨0, [vI 1]⟩], 3, 0, ?_, by rw [h0]; rfl, by rw [h0]; rfl, by rw [h0]; simp⟩
  rw [call71 rfl]
  simp only [F71B, SS, insA, wantedA, Opd.ev, putA, binA, eqbA, unA, fldA, partA, reduceIte, reduceCtorEq, Nat.reduceMod, Nat.reduceDiv, Nat.reduceBEq, resultA, resA, vI, Nat.reduceMul, Nat.reduceAdd, Nat.reduceSub, Nat.reduceEqDiff, Nat.reduceLT, Nat.reducePow, Nat.reduceLeDiff, st, Option.bind_eq_bind, Option.pure_def, List.length_nil, Int.cast_ofNat_Int, List.reverse_nil, UU, idxP, cellsAt, storeA, fillA, zerosA, putAll, optNat, sliceA, row, Int.reduceLT, Int.reduceLE, Int.reduceGT, Int.reduceGE, Int.reduceEq, Int.reduceNe, Int.reduceToNat, Int.reduceBEq, Int.reduceBNe, Nat.reduceLeDiff, Nat.reduceLT, Nat.reduceBNe, Nat.reduceGT, List.drop_nil, List.take_nil, Option.isSome_none, Int.ofNat_one, Int.ofNat_zero, hv.one, Int.ofNat_zero]

theorem over71_step {fr : AV} {f : List Nat} {w r left : Nat} {ov : Nat → List Int} (hw' : w = 139 ∨ w = 140 ∨ w = 141 ∨ w = 142 ∨ w = 143 ∨ w = 144) (hl : left < 128) (h0 : left ≠ 0) (C : OnCtx fr f (dl left (2 ^ ctz left)) (ctz left) w r ov Y) :
    ∃ v R0 j0 ver out, callL ET Y 71 [fr, vI left, .agg [.fn w [], .fn r []]] [] = some (v, R0) ∧ v = .sl j0 ver 1 0 out.length none ∧ R0[j0]? = some ⟨ver, out.map vW⟩ ∧
      out = onL ov f f.length (ctz left) (dl left (2 ^ ctz left)) (cm r) 8 (ctz left) 0 0
      ((List.range f.length).foldl (fun out k => if (f.getD (ctz left) 0 &&& dl left (2 ^ ctz left)).testBit k then morL (cm w) out 2 (ov (dl (dl left (2 ^ ctz left)) (2 ^ k))) else out) (ov (dl left (2 ^ ctz left)))) := by
  have hfirst := fun H => first91 (Y := Y) (H := H) hl h0
  have hi7 := ctz_lt left
  have hsh := shl_eq (k := ctz left) (by omega)
  have hpi : (0 : Int) ≤ ((ctz left : Nat) : Int) := by omega
  have b4 : bitsA .andNot .i64 (left : Int) ((2 ^ ctz left : Nat) : Int) = some (vI ((dl left (2 ^ ctz left) : Nat) : Int)) := (nat_bits (by omega) (by have := pow_lt hi7; omega)).2.2
  have hne : ((left : Int) == 0) = false := by simp [h0]
  generalize ctz left = i at *
  generalize dl left (2 ^ i) = S at *
  obtain ⟨v0, R0, q0, ver0, o1, o2, o3, o4⟩ := C.hov S (fun _ h => h)
  obtain ⟨m1, m2⟩ := call_row (H := [⟨0, [fr]⟩, ⟨0, [vI S]⟩, ⟨0, [.fn w [], .fn r []]⟩, ⟨0, [vI i]⟩]) (R := callL ET Y) (f := 71) (args := [fr, vI S, .agg [.fn w [], .fn r []]]) (bs := [fr, vI S, .agg [.fn w [], .fn r []]]) (by rw [mapM_cons', C.hv.snap]; rfl) o1 o2 o3
  generalize hH5 : ([⟨0, [fr]⟩, ⟨0, [vI S]⟩, ⟨0, [.fn w [], .fn r []]⟩, ⟨0, [vI i]⟩] : Heap) ++ R0.map (shO ([⟨0, [fr]⟩, ⟨0, [vI S]⟩, ⟨0, [.fn w [], .fn r []]⟩, ⟨0, [vI i]⟩] : Heap).length) = H5 at m1 m2
  have g0 : H5[0]? = some ⟨0, [fr]⟩ := by rw [← hH5]; rfl
  have g1 : H5[1]? = some ⟨0, [vI S]⟩ := by rw [← hH5]; rfl
  have g2 : H5[2]? = some ⟨0, [.fn w [], .fn r []]⟩ := by rw [← hH5]; rfl
  have g3 : H5[3]? = some ⟨0, [vI i]⟩ := by rw [← hH5]; rfl
  have hq : q0 + [(⟨0, [fr]⟩ : Ob), ⟨0, [vI S]⟩, ⟨0, [.fn w [], .fn r []]⟩, ⟨0, [vI i]⟩].length = q0 + 4 := rfl
  rw [hq] at m1 m2
  clear hH5 hq
  have hq5 := hlt_of m2
  have hl5 := hlt_of g3
  generalize hsl : AV.sl (q0 + 4) ver0 1 0 (ov S).length none = sl0 at m1
  -- the two boxes
  have hone : one sl0 = true ∧ isU sl0 = false ∧ cellsOf sl0 = [sl0] := by rw [← hsl]; exact ⟨rfl, rfl, rfl⟩
  have hOut : Out (fz5 fr S i w r 0 1 2 3 H5.length (H5.length + 1)) H5.length (q0 + 4) (H5 ++ [⟨0, [sl0]⟩, ⟨0, [.fn 92 [.ptr H5.length 0 0]]⟩]) (ov S) := by
    have hg : ∀ (j : Nat) (o : Ob), H5[j]? = some o → (H5 ++ [(⟨0, [sl0]⟩ : Ob), ⟨0, [.fn 92 [.ptr H5.length 0 0]]⟩])[j]? = some o := fun j o h => by
      rw [List.getElem?_append_left (hlt_of h)]; exact h
    refine ⟨fun p hp => ?_, fun p hp => ?_, by omega, ver0, ?_, hg _ _ m2⟩
    · simp only [fz5, List.mem_cons, List.not_mem_nil, or_false] at hp
      rcases hp with rfl | rfl | rfl | rfl | rfl
      · exact hg _ _ g0
      · exact hg _ _ g1
      · exact hg _ _ g2
      · exact hg _ _ g3
      · exact two_get
    · simp only [fz5, List.mem_cons, List.not_mem_nil, or_false] at hp
      have := hq5
      rcases hp with rfl | rfl | rfl | rfl | rfl <;> simp only <;> omega
    · rw [hsl, List.getElem?_append_right (Nat.le_refl _)]; simp
  obtain ⟨H6, e1, h6, n6⟩ := L71 C hw' f.length 0 (by omega) hOut
  generalize hout6 : (List.range' 0 f.length).foldl (fun out k => if (f.getD i 0 &&& S).testBit k = true then morL (cm w) out 2 (ov (dl S (2 ^ k))) else out) (ov S) = out6 at h6
  rw [← List.range_eq_range'] at hout6
  rw [hout6]
  have hOut7 : Out (fz6 fr S i w r 0 1 2 3 H5.length (H5.length + 1) H6.length) H5.length (q0 + 4) (H6 ++ [⟨0, [.fn 93 [.ptr 0 0 0, .ptr 1 0 0, .ptr 3 0 0, .ptr (H5.length + 1) 0 0, .ptr 2 0 0, .ptr H6.length 0 0]]⟩]) out6 := by
    obtain ⟨vr, k8, k0⟩ := h6.out
    have l8 := hlt_of k8
    have l0 := hlt_of k0
    refine ⟨fun p hp => ?_, fun p hp => ?_, h6.ne, vr, ?_, ?_⟩
    · rcases (List.mem_append.1 (show p ∈ fz5 fr S i w r 0 1 2 3 H5.length (H5.length + 1) ++ [(H6.length, ⟨0, [.fn 93 [.ptr 0 0 0, .ptr 1 0 0, .ptr 3 0 0, .ptr (H5.length + 1) 0 0, .ptr 2 0 0, .ptr H6.length 0 0]]⟩)] from hp)) with hp | hp
      · rw [List.getElem?_append_left (hlt_of (h6.st p hp))]; exact h6.st p hp
      · simp only [List.mem_singleton] at hp; subst hp; simp
    · rcases (List.mem_append.1 (show p ∈ fz5 fr S i w r 0 1 2 3 H5.length (H5.length + 1) ++ [(H6.length, ⟨0, [.fn 93 [.ptr 0 0 0, .ptr 1 0 0, .ptr 3 0 0, .ptr (H5.length + 1) 0 0, .ptr 2 0 0, .ptr H6.length 0 0]]⟩)] from hp)) with hp | hp
      · exact h6.ap p hp
      · simp only [List.mem_singleton] at hp; subst hp; simp only; omega
    · rw [List.getElem?_append_left l8]; exact k8
    · rw [List.getElem?_append_left l0]; exact k0
  have hp8 : pc (dl S 0) < 8 := by
    have : pc (dl S 0) ≤ 7 := by unfold pc; exact Nat.le_trans (List.length_filter_le _ _) (by simp)
    omega
  obtain ⟨H8, e2, h8, n8⟩ := on93 C 8 i 0 0 C.ib (by omega) (by omega) hp8 hOut7
  obtain ⟨vr, k8, k0⟩ := h8.out
  have g6 := h6.st (3, ⟨0, [vI i]⟩) (by simp [fz5])
  simp only at g6
  refine ⟨_, H8, q0 + 4, vr, _, ?_, rfl, k0, rfl⟩
  have p0 := hOut.st (0, ⟨0, [fr]⟩) (by simp [fz5])
  simp only at p0
  have g6' : ∀ x, (H6 ++ [x])[3]? = some ⟨0, [vI i]⟩ := fun x => by rw [List.getElem?_append_left (hlt_of g6)]; exact g6
  have hrow := C.hv.one
  have hlen := C.hv.len
  rw [List.length_map] at hlen
  rw [call71 rfl]
  simp only [SS, insA, wantedA, Opd.ev, putA, binA, eqbA, unA, fldA, partA, reduceIte, reduceCtorEq, Nat.reduceMod, Nat.reduceDiv, Nat.reduceBEq, resultA, resA, vI, Nat.reduceMul, Nat.reduceAdd, Nat.reduceSub, Nat.reduceEqDiff, Nat.reduceLT, Nat.reducePow, Nat.reduceLeDiff, st, Option.bind_eq_bind, Option.pure_def, List.length_nil, Int.cast_ofNat_Int, List.reverse_nil, Int.ofNat_zero] at e1 e2 m1
  simp only [F71B, F71T0, in71_0, SS, insA, wantedA, Opd.ev, putA, binA, eqbA, unA, fldA, partA, reduceIte, reduceCtorEq, Nat.reduceMod, Nat.reduceDiv, Nat.reduceBEq, resultA, resA, vI, Nat.reduceMul, Nat.reduceAdd, Nat.reduceSub, Nat.reduceEqDiff, Nat.reduceLT, Nat.reducePow, Nat.reduceLeDiff, st, Option.bind_eq_bind, Option.pure_def, List.length_nil, Int.cast_ofNat_Int, List.reverse_nil, UU, idxP, cellsAt, storeA, fillA, zerosA, putAll, optNat, sliceA, row, Int.reduceLT, Int.reduceLE, Int.reduceGT, Int.reduceGE, Int.reduceEq, Int.reduceNe, Int.reduceToNat, Int.reduceBEq, Int.reduceBNe, Nat.reduceLeDiff, Nat.reduceLT, Nat.reduceBNe, Nat.reduceGT, List.drop_nil, List.take_nil, Option.isSome_none, Int.ofNat_one, Int.ofNat_zero, hrow, hone, hne, hfirst, hsh, hpi, b4, m1, hlen, p0, e1, e2, k8, g6, g6', get_last, set_last, two_get, two_set, List.cons_append, List.nil_append]

theorem over71 {fr : AV} {f : List Nat} {w r : Nat} (hv : IsRow fr (f.map fun n : Nat => (n : Int))) (fl : f.length ≤ 7) (fb : ∀ j, f.getD j 0 < 128) (hw' : w = 139 ∨ w = 140 ∨ w = 141 ∨ w = 142 ∨ w = 143 ∨ w = 144) (hr' : r = 139 ∨ r = 140 ∨ r = 141 ∨ r = 142 ∨ r = 143 ∨ r = 144) :
    ∀ (d left : Nat), left < 2 ^ f.length → pc left ≤ d → OvOk Y fr w r (ovL f (cm w) (cm r) d) left := by
  have hp7 : 2 ^ f.length ≤ 128 := by
    have : (2 : Nat) ^ f.length ≤ 2 ^ 7 := Nat.pow_le_pow_right (by decide) fl
    omega
  intro d
  induction d with
  | zero =>
    intro left hl hpc
    have h0 : left = 0 := by
      rcases Nat.eq_zero_or_pos left with h | h
      · exact h
      · have := ctz_ok (m := left) (by omega) (by omega)
        have h2 := pc_del this (ctz_lt left)
        omega
    subst h0
    exact over71_zero hv rfl
  | succ d ih =>
    intro left hl hpc
    by_cases h0 : left = 0
    · subst h0; exact over71_zero hv (by simp [ovL])
    · have hb := ctz_ok (m := left) (by omega) h0
      have hd := pc_del hb (ctz_lt left)
      have hin : ctz left < f.length := by
        rcases Nat.lt_or_ge (ctz left) f.length with h | h
        · exact h
        · rw [Nat.testBit_lt_two_pow (Nat.lt_of_lt_of_le hl (Nat.pow_le_pow_right (by decide) h))] at hb; cases hb
      have C : OnCtx fr f (dl left (2 ^ ctz left)) (ctz left) w r (ovL f (cm w) (cm r) d) Y :=
        ⟨hv, fl, fb, Nat.lt_of_le_of_lt (dl_le _ _) (by omega), hin, hr', fun T hT => ih T (Nat.lt_of_le_of_lt (Sub.le (Sub.trans (show Sub T _ from hT) (sub_dl _ _))) hl) (by have := pc_le hT; omega)⟩
      obtain ⟨v, R0, j0, ver, out, e1, e2, e3, e4⟩ := over71_step hw' (by omega) h0 C
      have e5 : out = ovL f (cm w) (cm r) (d + 1) left := by rw [e4]; simp only [ovL]; rw [if_neg h0]
      rw [e5] at e2 e3
      refine ⟨v, R0, j0, ver, e1, e2, e3, ?_⟩
      have := ovL_le (f := f) (w := cm w) (r := cm r) fl (d + 1) left (by omega)
      have h7 : pc left ≤ 7 := by unfold pc; exact Nat.le_trans (List.length_filter_le _ _) (by simp)
      omega
end
end Go.X
