import Derived.Test.YtchgifdkhknppaaUC
import Derived.Test.YtchgifdkhknppaaVP
/-! Veils: all veils of a size are handed to a function. -/
set_option linter.unusedSimpArgs false
set_option linter.unusedVariables false
set_option maxHeartbeats 8000000
set_option maxRecDepth 10000
namespace Go.X
open Go Go.RowKit
section
variable {Y : Run} {H : Heap}

theorem wrap_nt {m : Nat} (h : m < 4611686018427387904) : IntKind.wrap .i64 (m : Int) = m := wrap_id (by omega) (by omega)

theorem on78 {σ : Type} {L M n g : Nat} {caps : List AV} {Q : Heap → σ → Prop} {F : σ → List (List Int) → σ} {B : σ → Prop} {V : List (List Int) → Prop} {vr vc v : AV}
    (K : Found Y L M n g caps Q F B V) (h1 : 1 ≤ n) (h5 : n ≤ 5) : ∀ (d a : Nat), a + d = n * n → Ons Y L M n g caps Q F B V vr vc v d a := by
  have hnn : n * n ≤ 25 := Nat.mul_le_mul h5 h5
  have wn : IntKind.wrap .i64 ((n : Int) * n) = ((n * n : Nat) : Int) := by
    have : ((n * n : Nat) : Int) = (n : Int) * n := by rw [Int.natCast_mul]
    rw [← this]
    exact wrap_nt (by omega)
  intro d
  induction d with
  | zero =>
    intro a ha R t cells rs cs s h q br bc hQ hV hB
    have e : ((a : Int) == ((n * n : Nat) : Int)) = true := by rw [show a = n * n by omega]; exact BEq.rfl
    obtain ⟨w, w1, w2⟩ := h.gc.snapRow (d := 4)
    have w1 : snapA R 6 vc = some w := w1
    have hcall := call78 (Y := Y) (H := R) (x0 := .int .i64 a) (x1 := .ptr L 0 0) (x2 := .ptr (M + 4) 0 0) (x3 := .ptr (L + 1) 0 0) (x4 := .ptr M 0 0) (x5 := .ptr (M + 3) 0 0) (x6 := .ptr (M + 5) 0 0) rfl
    have eo : onP n 0 a t rs cs = (t, if minOf cs = 1 then [t] else []) := rfl
    rw [eo] at hV hB ⊢
    obtain ⟨x, l, rfl⟩ : ∃ x l, cs = x :: l := by
      cases cs with
      | nil => have := bc.1; simp at this; omega
      | cons x l => exact ⟨x, l, rfl⟩
    have hl := bc.1
    rw [List.length_cons] at hl
    have m1 := fun H => min79 (Y := Y) (H := H) w2 (by omega)
    have em : minOf (x :: l) = minI x l := rfl
    rw [em] at hV hB ⊢
    by_cases c : minI x l = 1
    · rw [if_pos c] at hV hB ⊢
      obtain ⟨R', f1, f2, f3, f4⟩ := K.call h q (hV t (by simp)) hQ hB
      refine ⟨R', ?_, h.keep f3 f4, q, f2⟩
      have ec : (minI x l == 1) = true := by rw [c]; rfl
      rw [onCaps, hcall]
      simp only [SS, insA, wantedA, Opd.ev, putA, binA, eqbA, unA, fldA, partA, reduceIte, reduceCtorEq, Nat.reduceMod, Nat.reduceDiv, Nat.reduceBEq, resultA, resA, vI, Nat.reduceMul, Nat.reduceAdd, Nat.reduceSub, Nat.reduceEqDiff, Nat.reduceLT, Nat.reducePow, Nat.reduceLeDiff, st, Option.bind_eq_bind, Option.pure_def, List.length_nil, Int.cast_ofNat_Int, List.reverse_nil] at m1
      simp only [F78B, SS, insA, wantedA, Opd.ev, putA, binA, eqbA, unA, fldA, partA, reduceIte, reduceCtorEq, Nat.reduceMod, Nat.reduceDiv, Nat.reduceBEq, resultA, resA, vI, Nat.reduceMul, Nat.reduceAdd, Nat.reduceSub, Nat.reduceEqDiff, Nat.reduceLT, Nat.reducePow, Nat.reduceLeDiff, st, Option.bind_eq_bind, Option.pure_def, List.length_nil, Int.cast_ofNat_Int, List.reverse_nil, UU, idxP, cellsAt, fillA, zerosA, putAll, row, Int.reduceLT, Int.reduceLE, Int.reduceGT, Int.reduceGE, Int.reduceEq, Int.reduceNe, Int.reduceToNat, Int.reduceBEq, Int.reduceBNe, Nat.reduceLeDiff, Nat.reduceLT, Nat.reduceBNe, Nat.reduceGT, List.drop_nil, List.take_nil, Option.isSome_none, Int.ofNat_one, Int.ofNat_zero, h.n0, h.f0, h.v0, h.pc, wn, e, w1, m1, ec, f1]
    · rw [if_neg c] at hV hB ⊢
      refine ⟨R, ?_, h, q, hQ⟩
      have ec : (minI x l == 1) = false := by simpa using c
      rw [onCaps, hcall]
      simp only [SS, insA, wantedA, Opd.ev, putA, binA, eqbA, unA, fldA, partA, reduceIte, reduceCtorEq, Nat.reduceMod, Nat.reduceDiv, Nat.reduceBEq, resultA, resA, vI, Nat.reduceMul, Nat.reduceAdd, Nat.reduceSub, Nat.reduceEqDiff, Nat.reduceLT, Nat.reducePow, Nat.reduceLeDiff, st, Option.bind_eq_bind, Option.pure_def, List.length_nil, Int.cast_ofNat_Int, List.reverse_nil] at m1
      simp only [F78B, SS, insA, wantedA, Opd.ev, putA, binA, eqbA, unA, fldA, partA, reduceIte, reduceCtorEq, Nat.reduceMod, Nat.reduceDiv, Nat.reduceBEq, resultA, resA, vI, Nat.reduceMul, Nat.reduceAdd, Nat.reduceSub, Nat.reduceEqDiff, Nat.reduceLT, Nat.reducePow, Nat.reduceLeDiff, st, Option.bind_eq_bind, Option.pure_def, List.length_nil, Int.cast_ofNat_Int, List.reverse_nil, UU, idxP, cellsAt, fillA, zerosA, putAll, row, Int.reduceLT, Int.reduceLE, Int.reduceGT, Int.reduceGE, Int.reduceEq, Int.reduceNe, Int.reduceToNat, Int.reduceBEq, Int.reduceBNe, Nat.reduceLeDiff, Nat.reduceLT, Nat.reduceBNe, Nat.reduceGT, List.drop_nil, List.take_nil, Option.isSome_none, Int.ofNat_one, Int.ofNat_zero, h.n0, h.f0, h.v0, h.pc, wn, e, w1, m1, ec]
  | succ d ih =>
    intro a ha R t cells rs cs s h q br bc hQ hV hB
    have hlt : a < n * n := by omega
    have e : ((a : Int) == ((n * n : Nat) : Int)) = false := by rw [beq_eq_false_iff_ne]; omega
    have hk : a % n < n := Nat.mod_lt _ (by omega)
    have hi : a / n < n := Nat.div_lt_of_lt_mul hlt
    have wd : IntKind.wrap .i64 ((a : Int).tdiv n) = ((a / n : Nat) : Int) := by
      have : (a : Int).tdiv n = ((a / n : Nat) : Int) := by rw [Int.ofNat_tdiv]
      rw [this]; exact wrap_nt (by omega)
    have wm : (a : Int).tmod n = ((a % n : Nat) : Int) := by rw [Int.ofNat_tmod]
    have hn0 : ¬ ((n : Int) = 0) := by omega
    have hcall := call78 (Y := Y) (H := R) (x0 := .int .i64 a) (x1 := .ptr L 0 0) (x2 := .ptr (M + 4) 0 0) (x3 := .ptr (L + 1) 0 0) (x4 := .ptr M 0 0) (x5 := .ptr (M + 3) 0 0) (x6 := .ptr (M + 5) 0 0) rfl
    rw [onP_try] at hV hB ⊢
    have mono : ∀ x p, p.2 <+: (onTry n d a rs cs x p).2 := fun x p => by
      unfold onTry
      split
      · exact List.prefix_append _ _
      · exact List.prefix_refl _
    have I : Ons Y L M n g caps Q F B V vr vc v d (a + 1) := @ih (a + 1) (by omega)
    have V2 : ∀ u ∈ (onTry n d a rs cs 0 (onTry n d a rs cs (-1) (t, []))).2, V u := fun u hu => hV u ((mono 1 _).subset hu)
    have V1 : ∀ u ∈ (onTry n d a rs cs (-1) (t, [])).2, V u := fun u hu => V2 u ((mono 0 _).subset hu)
    have B2 : B ((onTry n d a rs cs 0 (onTry n d a rs cs (-1) (t, []))).2.foldl F s) := by
      obtain ⟨z, hz⟩ := mono 1 (onTry n d a rs cs 0 (onTry n d a rs cs (-1) (t, [])))
      rw [← hz, List.foldl_append] at hB
      exact back_all K.back _ _ hB
    have B1 : B ((onTry n d a rs cs (-1) (t, [])).2.foldl F s) := by
      obtain ⟨z, hz⟩ := mono 0 (onTry n d a rs cs (-1) (t, []))
      rw [← hz, List.foldl_append] at B2
      exact back_all K.back _ _ B2
    obtain ⟨R1, e1, a1, q1, k1⟩ := step78 (l := []) K I h q br bc hQ h5 hlt (x := -1) (by omega) V1 B1
    obtain ⟨R2, e2, a2, q2, k2⟩ := step78 K I a1 q1 br bc k1 h5 hlt (x := 0) (by omega) V2 B2
    obtain ⟨R3, e3, a3, q3, k3⟩ := step78 K I a2 q2 br bc k2 h5 hlt (x := 1) (by omega) hV hB
    refine ⟨R3, ?_, a3, q3, k3⟩
    have hlast : lp EV Y F78L0 (sp 101 [(10, .int .i64 (1 + 1)), (9, .int .i64 (a % n : Nat)), (8, .int .i64 (a / n : Nat)), (6, .ptr (M + 5) 0 0), (5, .ptr (M + 3) 0 0), (4, .ptr M 0 0), (2, .ptr (M + 4) 0 0), (1, .ptr L 0 0), (0, .int .i64 a)]) R3 = some (.x 0, sp 101 [], R3) := by
      have : ¬ ((1 : Int) + 1 ≤ 1) := by decide
      rw [un78_0]
      simp only [F78L0b, SS, insA, wantedA, Opd.ev, putA, binA, eqbA, unA, fldA, partA, reduceIte, reduceCtorEq, Nat.reduceMod, Nat.reduceDiv, Nat.reduceBEq, resultA, resA, vI, Nat.reduceMul, Nat.reduceAdd, Nat.reduceSub, Nat.reduceEqDiff, Nat.reduceLT, Nat.reducePow, Nat.reduceLeDiff, st, Option.bind_eq_bind, Option.pure_def, List.length_nil, Int.cast_ofNat_Int, List.reverse_nil, UU, idxP, cellsAt, storeA, fillA, zerosA, putAll, optNat, sliceA, row, Int.reduceLT, Int.reduceLE, Int.reduceGT, Int.reduceGE, Int.reduceEq, Int.reduceNe, Int.reduceToNat, Int.reduceBEq, Int.reduceBNe, Nat.reduceLeDiff, Nat.reduceLT, Nat.reduceBNe, Nat.reduceGT, List.drop_nil, List.take_nil, Option.isSome_none, Int.ofNat_one, Int.ofNat_zero, this]
    have hall : lp EV Y F78L0 (sp 101 [(10, .int .i64 (-1)), (9, .int .i64 (a % n : Nat)), (8, .int .i64 (a / n : Nat)), (6, .ptr (M + 5) 0 0), (5, .ptr (M + 3) 0 0), (4, .ptr M 0 0), (2, .ptr (M + 4) 0 0), (1, .ptr L 0 0), (0, .int .i64 a)]) R = some (.x 0, sp 101 [], R3) :=
      e1.trans (e2.trans (e3.trans hlast))
    rw [onCaps, hcall]
    simp only [F78B, in78_0, SS, insA, wantedA, Opd.ev, putA, binA, eqbA, unA, fldA, partA, reduceIte, reduceCtorEq, Nat.reduceMod, Nat.reduceDiv, Nat.reduceBEq, resultA, resA, vI, Nat.reduceMul, Nat.reduceAdd, Nat.reduceSub, Nat.reduceEqDiff, Nat.reduceLT, Nat.reducePow, Nat.reduceLeDiff, st, Option.bind_eq_bind, Option.pure_def, List.length_nil, Int.cast_ofNat_Int, List.reverse_nil, UU, idxP, cellsAt, fillA, zerosA, putAll, row, Int.reduceLT, Int.reduceLE, Int.reduceGT, Int.reduceGE, Int.reduceEq, Int.reduceNe, Int.reduceToNat, Int.reduceBEq, Int.reduceBNe, Nat.reduceLeDiff, Nat.reduceLT, Nat.reduceBNe, Nat.reduceGT, List.drop_nil, List.take_nil, Option.isSome_none, Int.ofNat_one, Int.ofNat_zero, h.n0, wn, e, wd, wm, hn0, and_self, ne_eq, not_false_eq_true, and_true, hall]

theorem zero77 {i j : Nat} : freeX H (callL EV Y 77 [vI i, vI j] []) = some (vI 0, H) := by
  rw [call77 rfl]
  simp only [F77B, SS, insA, wantedA, Opd.ev, putA, binA, eqbA, unA, fldA, partA, reduceIte, reduceCtorEq, Nat.reduceMod, Nat.reduceDiv, Nat.reduceBEq, resultA, resA, vI, Nat.reduceMul, Nat.reduceAdd, Nat.reduceSub, Nat.reduceEqDiff, Nat.reduceLT, Nat.reducePow, Nat.reduceLeDiff, st, Option.bind_eq_bind, Option.pure_def, List.length_nil, Int.cast_ofNat_Int, List.reverse_nil, UU, idxP, cellsAt, storeA, fillA, zerosA, putAll, optNat, sliceA, row, Int.reduceLT, Int.reduceLE, Int.reduceGT, Int.reduceGE, Int.reduceEq, Int.reduceNe, Int.reduceToNat, Int.reduceBEq, Int.reduceBNe, Nat.reduceLeDiff, Nat.reduceLT, Nat.reduceBNe, Nat.reduceGT, List.drop_nil, List.take_nil, Option.isSome_none, Int.ofNat_one, Int.ofNat_zero]
theorem tab_zero {n : Nat} : tabF n (fun _ _ => 0) = zeroT n := by
  refine sq_ext (m := n) tabF_len tabF_mem (by simp [zeroT]) (fun r hr => by rw [zeroT] at hr; rw [(List.mem_replicate.1 hr).2]; simp) fun i j hi hj => ?_
  rw [at2_tabF hi hj, at2_get (by simp [zeroT]; exact hi) (by simp [zeroT]; exact hj)]; simp [zeroT]

/-- All veils of a size. -/
def allL (n : Nat) : List (List (List Int)) := (onP n (n * n) 0 (zeroT n) (List.replicate n 0) (List.replicate n 0)).2

theorem shO_len {n : Nat} {R : Heap} : (R.map (shO n)).length = R.length := by simp

def tailH (L M n : Nat) (v vr vc : AV) : Heap := [⟨0, [v]⟩, ⟨0, List.replicate n (.int .i64 0)⟩, ⟨0, List.replicate n (.int .i64 0)⟩, ⟨0, [vr]⟩, ⟨0, [vc]⟩, ⟨0, [.fn 78 (onCaps L M)]⟩]
theorem map_rep {n : Nat} : (List.replicate n (0 : Int)).map vI = List.replicate n (.int .i64 0) := by rw [List.map_replicate]
theorem store_mid {R A B : Heap} {k : Nat} {x y : AV} (hk : R.length + A.length = k) (h1 : one y = true) (h2 : cellsOf y = [y]) : storeA (R ++ (A ++ ⟨0, [x]⟩ :: B)) 1 (.ptr k 0 0) y = some (R ++ (A ++ ⟨0, [y]⟩ :: B)) := by
  have e : (R ++ (A ++ ⟨0, [x]⟩ :: B))[k]? = some ⟨0, [x]⟩ := by
    rw [← hk, List.getElem?_append_right (by omega), Nat.add_sub_cancel_left, List.getElem?_append_right (Nat.le_refl _)]; simp
  simp only [storeA, e, h2]
  rw [if_pos (by simp [h1])]
  rw [← hk, List.set_append_right _ _ (by omega), Nat.add_sub_cancel_left, List.set_append_right _ _ (Nat.le_refl _), Nat.sub_self]; rfl

theorem all55 {σ : Type} {n g : Nat} {caps : List AV} {Q : Nat → Heap → σ → Prop} {F : σ → List (List Int) → σ} {B : σ → Prop} {V : List (List Int) → Prop} {H0 : Heap} {s : σ}
    (K : ∀ M, Found Y H0.length M n g caps (Q M) F B V) (h1 : 1 ≤ n) (h5 : n ≤ 5)
    (hQ : ∀ M R, (∀ i, i < H0.length → R[i]? = H0[i]?) → R.length = M + 6 → H0.length + 2 ≤ M → Q M R s) (hV : ∀ u ∈ allL n, V u) (hB : B ((allL n).foldl F s)) :
    ∃ M R', callL EV Y 55 [vI n, .fn g caps] H0 = some (.tup [], R') ∧ Q M R' ((allL n).foldl F s) := by
  have hm1 := made69 (Y := Y) (n := n) (g := 77) (f := fun _ _ => 0) (caps := []) (by omega) (fun H => rfl) (fun i j _ _ H => zero77)
  rw [tab_zero] at hm1
  obtain ⟨v0, R0, cells0, m1, m2⟩ := hm1
  -- the table lies behind the two boxes
  generalize hHb : H0 ++ [(⟨0, [vI n]⟩ : Ob)] ++ [(⟨0, [.fn g caps]⟩ : Ob)] = Hb
  have hbl : Hb.length = H0.length + 2 := by rw [← hHb]; simp
  have hsh := m2.shift (L := Hb)
  have hcall : callA (callL EV Y) 2 69 [vI (n : Int), .fn 77 []] Hb = some (upV Hb.length v0, Hb ++ R0.map (shO Hb.length)) := by
    simp only [callA, show depth = 6 from rfl, mapM_shO]
    rw [show [vI (n : Int), AV.fn 77 []].mapM (snapA Hb 6) = some [vI (n : Int), AV.fn 77 []] from rfl]
    simp only [m1]
    rw [m2.gro.shift]
  generalize hv : upV Hb.length v0 = v at *
  generalize hcs : cells0.map (upV Hb.length) = cells at *
  generalize hRb : Hb ++ R0.map (shO Hb.length) = Rb at *
  have hmb : Hb.length ≤ Rb.length := by rw [← hRb]; simp
  have hget : ∀ i, i < Hb.length → Rb[i]? = Hb[i]? := fun i hi => by rw [← hRb, List.getElem?_append_left hi]
  generalize hM : Rb.length = M at *
  generalize hvr : AV.sl (M + 1) 0 1 0 n none = vr
  generalize hvc : AV.sl (M + 2) 0 1 0 n none = vc
  generalize hT : tailH H0.length M n v vr vc = tail
  have tget : ∀ i, i < 6 → (Rb ++ tail)[M + i]? = tail[i]? := fun i hi => by
    rw [List.getElem?_append_right (by omega), hM, Nat.add_sub_cancel_left]
  have tl : tail.length = 6 := by rw [← hT]; rfl
  have hTb : HTab (H0.length + 2) (Rb ++ tail) v (zeroT n) cells := by rw [← hbl]; exact hsh.more _
  have hb0 : ∀ i, i < Hb.length → (Rb ++ tail)[i]? = Hb[i]? := fun i hi => by rw [List.getElem?_append_left (by omega), hget i hi]
  have lr : (List.replicate n (0 : Int)).length = n := List.length_replicate
  have A : Ast H0.length M n g caps vr vc (Rb ++ tail) v (zeroT n) cells (List.replicate n 0) (List.replicate n 0) := by
    refine ⟨by omega, by rw [List.length_append, hM, tl]; omega, ?_, ?_, hTb, fun i hi => ?_, fun j i hj hi => ?_, ?_, ?_, by rw [← hvr]; rfl, ?_, by rw [← hvc]; rfl, ?_, ?_, ?_⟩
    · rw [hb0 _ (by omega), ← hHb]; simp
    · rw [hb0 _ (by omega), ← hHb, List.getElem?_append_right (by simp)]; simp
    · have := hsh.gro.id_lt hi; omega
    · have := (hsh.row j hj).id_lt hi; omega
    · have := tget 0 (by omega)
      rw [Nat.add_zero] at this
      rw [this, ← hT]; rfl
    · have := Gro.made (H := Rb ++ tail) (k := M + 1) (ver := 0) (l := List.replicate n (0 : Int)) (by rw [map_rep, tget 1 (by omega), ← hT]; rfl) (Nat.le_refl _)
      rw [lr] at this ⊢
      rw [← hvr]; exact this
    · have := Gro.made (H := Rb ++ tail) (k := M + 2) (ver := 0) (l := List.replicate n (0 : Int)) (by rw [map_rep, tget 2 (by omega), ← hT]; rfl) (Nat.le_refl _)
      rw [lr] at this ⊢
      rw [← hvc]; exact this
    · rw [tget 3 (by omega), ← hT]; rfl
    · rw [tget 4 (by omega), ← hT]; rfl
    · rw [tget 5 (by omega), ← hT]; rfl
  have hQ0 : Q M (Rb ++ tail) s := hQ M _ (fun i hi => by
    rw [List.getElem?_append_left (by omega), hget i (by omega), ← hHb, List.getElem?_append_left (by simp; omega), List.getElem?_append_left hi]) (by rw [List.length_append, hM, tl]) (by omega)
  have bz : Bits n (List.replicate n 0) := ⟨by simp, fun x hx => by rw [(List.mem_replicate.1 hx).2]; omega⟩
  obtain ⟨R', f1, _, _, f4⟩ := on78 (K M) h1 h5 (n * n) 0 (by omega) A Sq.zero bz bz hQ0 hV hB
  refine ⟨M, R', ?_, f4⟩
  have hki : 0 ≤ (n : Int) ∧ (n : Int) * 8 ≤ 140737488355328 ∧ (n : Int) ≤ 9223372036854775807 := by omega
  have hz : zerosA [.int .i64 0] n = List.replicate n (.int .i64 0) := by rw [← map_rep]; exact zeros_int
  have n0 : Rb[H0.length]? = some ⟨0, [.int .i64 n]⟩ := by
    rw [hget _ (by omega), ← hHb]; simp
  have n1 : ∀ T, (Rb ++ T)[H0.length]? = some ⟨0, [.int .i64 n]⟩ := fun T => by rw [List.getElem?_append_left (by omega), n0]
  have n2 : Hb[H0.length]? = some ⟨0, [.int .i64 n]⟩ := by rw [← hHb]; simp
  obtain ⟨v1, v2, v3⟩ := hsh.gro.one
  have ov : one vr = true ∧ isU vr = false ∧ cellsOf vr = [vr] := by rw [← hvr]; exact ⟨rfl, rfl, rfl⟩
  have oc : one vc = true ∧ isU vc = false ∧ cellsOf vc = [vc] := by rw [← hvc]; exact ⟨rfl, rfl, rfl⟩
  have s1 := store_mid (R := Rb) (A := []) (B := []) (x := .nils) (k := M) (y := v) (by simp [hM]) v1 v3
  have s2 := store_mid (R := Rb) (A := [⟨0, [v]⟩, ⟨0, List.replicate n (.int .i64 0)⟩, ⟨0, List.replicate n (.int .i64 0)⟩]) (B := [⟨0, [.nils]⟩]) (x := .nils) (k := M + 3) (y := vr) (by simp [hM]) ov.1 ov.2.2
  have s3 := store_mid (R := Rb) (A := [⟨0, [v]⟩, ⟨0, List.replicate n (.int .i64 0)⟩, ⟨0, List.replicate n (.int .i64 0)⟩, ⟨0, [vr]⟩]) (B := []) (x := .nils) (k := M + 4) (y := vc) (by simp [hM]) oc.1 oc.2.2
  have s4 := store_mid (R := Rb) (A := [⟨0, [v]⟩, ⟨0, List.replicate n (.int .i64 0)⟩, ⟨0, List.replicate n (.int .i64 0)⟩, ⟨0, [vr]⟩, ⟨0, [vc]⟩]) (B := []) (x := .nilf) (k := M + 5) (y := .fn 78 (onCaps H0.length M)) (by simp [hM]) rfl rfl
  have hon := A.on
  have ap : apartV (.ptr H0.length 0 0) (.ptr (M + 3) 0 0) = true := by simp [apartV]; omega
  rw [← hT] at f1 hon
  rw [List.append_assoc] at hHb
  simp only [tailH, onCaps, Int.ofNat_zero, List.nil_append, List.cons_append] at f1 s1 s2 s3 s4 hon hHb
  rw [call55 rfl]
  simp only [SS, insA, wantedA, Opd.ev, putA, binA, eqbA, unA, fldA, partA, reduceIte, reduceCtorEq, Nat.reduceMod, Nat.reduceDiv, Nat.reduceBEq, resultA, resA, vI, Nat.reduceMul, Nat.reduceAdd, Nat.reduceSub, Nat.reduceEqDiff, Nat.reduceLT, Nat.reducePow, Nat.reduceLeDiff, st, Option.bind_eq_bind, Option.pure_def, List.length_nil, Int.cast_ofNat_Int, List.reverse_nil] at hcall hHb
  simp only [F55B, SS, insA, wantedA, Opd.ev, putA, binA, eqbA, unA, fldA, partA, reduceIte, reduceCtorEq, Nat.reduceMod, Nat.reduceDiv, Nat.reduceBEq, resultA, resA, vI, Nat.reduceMul, Nat.reduceAdd, Nat.reduceSub, Nat.reduceEqDiff, Nat.reduceLT, Nat.reducePow, Nat.reduceLeDiff, st, Option.bind_eq_bind, Option.pure_def, List.length_nil, Int.cast_ofNat_Int, List.reverse_nil, UU, idxP, cellsAt, fillA, putAll, row, Int.reduceLT, Int.reduceLE, Int.reduceGT, Int.reduceGE, Int.reduceEq, Int.reduceNe, Int.reduceToNat, Int.reduceBEq, Int.reduceBNe, Nat.reduceLeDiff, Nat.reduceLT, Nat.reduceBNe, Nat.reduceGT, List.drop_nil, List.take_nil, Option.isSome_none, Int.ofNat_one, Int.ofNat_zero, hHb, hbl, hM, n2, hcall, v1, v2, v3, s1, n1, hki, hz, Int.toNat_natCast, Nat.mul_one, hvr, hvc, ov.1, ov.2.1, ov.2.2, oc.1, oc.2.1, oc.2.2, s2, s3, ap, s4, hon, f1]
end
end Go.X
