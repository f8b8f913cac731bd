import Derived.Test.YtdkgicdbjemalaaDoorMM
import Derived.Test.YtdkgicdbjemalaaDoorMF
/-! Tones: what several laws need: sums, frames, Same, one's own copy. -/
set_option linter.unusedSimpArgs false
set_option linter.unusedVariables false
set_option maxHeartbeats 2000000
set_option maxRecDepth 10000
namespace Go.X
open Go Go.RowKit

def sumZ : List Nat → (Nat → Int) → Int
  | [], _ => 0
  | k :: l, g => g k + sumZ l g
theorem sumZ_congr {g h : Nat → Int} : ∀ {l : List Nat}, (∀ k ∈ l, g k = h k) → sumZ l g = sumZ l h
  | [], _ => rfl
  | k :: l, e => by
    simp only [sumZ]
    rw [e k List.mem_cons_self, sumZ_congr fun k' h' => e k' (List.mem_cons_of_mem _ h')]
theorem sumZ_zero : ∀ (l : List Nat), sumZ l (fun _ => 0) = 0
  | [] => rfl
  | k :: l => by simp only [sumZ]; rw [sumZ_zero l]; rfl
theorem sumZ_add (g h : Nat → Int) : ∀ (l : List Nat), sumZ l (fun k => g k + h k) = sumZ l g + sumZ l h
  | [] => rfl
  | k :: l => by simp only [sumZ]; rw [sumZ_add g h l]; omega
theorem sumZ_mul (c : Int) (g : Nat → Int) : ∀ (l : List Nat), sumZ l (fun k => c * g k) = c * sumZ l g
  | [] => by simp [sumZ]
  | k :: l => by simp only [sumZ]; rw [sumZ_mul c g l, Int.mul_add]
theorem sumZ_swap (g : Nat → Nat → Int) (m : List Nat) : ∀ (l : List Nat), sumZ l (fun a => sumZ m (fun b => g a b)) = sumZ m (fun b => sumZ l (fun a => g a b))
  | [] => by simp only [sumZ]; rw [sumZ_zero]
  | k :: l => by simp only [sumZ]; rw [sumZ_swap g m l, ← sumZ_add]
theorem pc_pos {met : Nat} (h : met < 128) : 0 < met ↔ 1 ≤ pc met := by
  constructor
  · intro h0
    have hb := ctz_ok h (by omega)
    have := pc_del hb (ctz_lt met)
    omega
  · intro h1
    rcases Nat.eq_zero_or_pos met with e | e
    · subst e; exact absurd h1 (by decide)
    · exact e
theorem dl_sub_all : (List.range 128).all (fun m => (List.range 7).all fun j => !m.testBit j || (dl m (2 ^ j) + 2 ^ j == m)) = true := by decide +kernel
theorem dl_sub {m j : Nat} (h : m < 128) (hj : j < 7) (hb : m.testBit j = true) : IntKind.wrap .i64 ((m : Int) - ((2 ^ j : Nat) : Int)) = ((dl m (2 ^ j) : Nat) : Int) := by
  have := List.all_eq_true.1 (List.all_eq_true.1 dl_sub_all m (List.mem_range.2 h)) j (List.mem_range.2 hj)
  rw [hb, Bool.not_true, Bool.false_or, beq_iff_eq] at this
  generalize 2 ^ j = q at *
  generalize dl m q = r at *
  rw [wrap_id (by omega) (by omega)]; omega
theorem frame_n {l : List Int} (hf : frameB l = true) : 1 ≤ l.length ∧ l.length ≤ 7 := by simp only [frameB, Bool.and_eq_true, decide_eq_true_eq] at hf; exact hf.1.1
theorem pc_full {n : Nat} (hn : n ≤ 7) : pc (2 ^ n - 1) ≤ n := by
  unfold pc
  have e : (List.range 7).filter (fun j => (2 ^ n - 1).testBit j) = (List.range 7).filter (fun j => decide (j < n)) := by
    apply List.filter_congr
    intro j _
    rw [Nat.testBit_two_pow_sub_one]
  rw [e]
  have : ∀ m, m ≤ 7 → ((List.range 7).filter (fun j => decide (j < m))).length ≤ m := by decide
  exact this _ hn
theorem full_lt {n : Nat} (hn : n ≤ 7) : 2 ^ n - 1 < 128 := by
  have : (2 : Nat) ^ n ≤ 2 ^ 7 := Nat.pow_le_pow_right (by decide) hn
  have h2 : 1 ≤ 2 ^ n := Nat.pow_pos (by decide)
  omega
theorem ext_getD {l q : List Int} (h : l.length = q.length) (e : ∀ j, j < l.length → l.getD j 0 = q.getD j 0) : l = q := by
  apply List.ext_getElem h
  intro j h1 h2
  have := e j h1
  rwa [getD_get h1, getD_get h2] at this
theorem getD_app {L : List Nat} {k j : Nat} (h : j < L.length) : (L ++ [k]).getD j 0 = L.getD j 0 := by
  simp [List.getD_eq_getElem?_getD, List.getElem?_append_left h]
theorem getD_app_last {L : List Nat} {k : Nat} : (L ++ [k]).getD ((L ++ [k]).length - 1) 0 = k := by
  simp [List.getD_eq_getElem?_getD]
/-- Both ways round. -/
def Sy (f : List Nat) : Prop := ∀ i k, i < f.length → k < f.length → (f.getD i 0).testBit k = (f.getD k 0).testBit i
theorem frame_sy {l : List Int} (hf : frameB l = true) : Sy (l.map Int.toNat) := by
  unfold frameB at hf
  simp only [Bool.and_eq_true, decide_eq_true_eq] at hf
  obtain ⟨⟨⟨h1, h2⟩, h3⟩, h4⟩ := hf
  intro i k hi hk
  rw [List.length_map] at hi hk
  have := List.all_eq_true.1 (List.all_eq_true.1 h4 i (List.mem_range.2 hi)) k (List.mem_range.2 hk)
  unfold symE at this
  have hnn := okL_nn h3
  have e : ∀ j, j < l.length → l.getD j 0 = (((l.map Int.toNat).getD j 0 : Nat) : Int) := fun j hj => by
    have := hnn j hj
    rw [getD_get hj] at this ⊢
    rw [getD_get (by simpa using hj), List.getElem_map]
    omega
  rw [e i hi, e k hk, sh_bit, sh_bit] at this
  generalize ((l.map Int.toNat).getD i 0).testBit k = x at *
  generalize ((l.map Int.toNat).getD k 0).testBit i = y at *
  clear e hnn h4 h3
  cases x <;> cases y <;> first | rfl | (exact absurd this (by decide))

theorem rep_getD (n j : Nat) : (List.replicate n (0 : Int)).getD j 0 = 0 := by
  rw [List.getD_eq_getElem?_getD, List.getElem?_replicate]; split <;> rfl
/-- A list in the heap. -/
def Rw (H : Heap) (v : AV) (p : Nat) (l : List Int) : Prop := v = .sl p 0 1 0 l.length none ∧ H[p]? = some ⟨0, l.map vW⟩
theorem Rw.gro {H : Heap} {v : AV} {p : Nat} {l : List Int} (h : Rw H v p l) : Gro 0 1 H v l.length ((l.map wr).map vI) := by
  have := h.2; rw [map_vW] at this
  exact ⟨by simp, .inr ⟨p, 0, Nat.zero_le _, h.1, this⟩⟩
theorem Rw.add {H : Heap} {v : AV} {p : Nat} {l : List Int} (h : Rw H v p l) (x : Heap) : Rw (H ++ x) v p l := ⟨h.1, by rw [List.getElem?_append_left (hlt_of h.2)]; exact h.2⟩
theorem Rw.st {H : Heap} {v : AV} {p i : Nat} {l : List Int} (h : Rw H v p l) (hi : i < l.length) (y : Int) : ∃ H', storeA H 1 (gptr 1 v i) (vW y) = some H' ∧ Rw H' v p (l.set i y) ∧ (∀ v' p' l', p' ≠ p → Rw H v' p' l' → Rw H' v' p' l') ∧ H'.length = H.length := by
  obtain ⟨id, ver, e1, e2, e3, e4⟩ := h.gro.store (i := i) (x := wr y) hi
  rw [h.1] at e1; cases e1
  have hh := h.2; rw [map_vW] at hh
  rw [hh] at e2; cases e2
  refine ⟨_, e3, ⟨by rw [h.1]; simp, ?_⟩, fun v' p' l' hp h' => ⟨h'.1, by rw [List.getElem?_set_ne (Ne.symm hp)]; exact h'.2⟩, by simp⟩
  rw [List.getElem?_set_self (hlt_of h.2)]; simp [map_vW, List.map_set]
theorem Rw.fresh (H : Heap) (n : Nat) : Rw (H ++ [⟨0, (List.replicate n (0 : Int)).map vI⟩]) (.sl H.length 0 1 0 n none) H.length (List.replicate n 0) := by
  refine ⟨by simp, ?_⟩
  rw [get_last]
  simp [vW, wr, IntKind.wrap_i64]
theorem free_row {H : Heap} {p : Nat} {l : List Int} (h : H[p]? = some ⟨0, l.map vW⟩) : freeA H 6 (.sl p 0 1 0 l.length none) = some (.imm false ((l.map wr).map vI) l.length) := by
  rw [map_vW] at h
  have hfree := mapM_free (H := H) (n := 4) (l.map wr)
  rw [free_sl, h, freeS_some, if_pos ⟨rfl, by simp⟩, List.drop_zero, Nat.mul_one, List.take_of_length_le (by simp), hfree, freeB_some]

section
variable {Y : Run}
theorem L29 {v w : AV} {l q : List Int} {H : Heap} (hv : IsRow v l) (hw : IsRow w q) (he : l.length = q.length) (hl : l.length ≤ 1000) (d : Nat) : ∀ (i : Nat), i + d = l.length →
    lp ET Y F29L0 (sp 26 [(5, vI i), (1, w), (0, v)]) H = if l.drop i = q.drop i then some (.x 0, sp 26 [], H) else some (.r, sp 26 [(4, .bool false)], H) := by
  induction d with
  | zero =>
    intro i hi
    rw [un29_0, List.drop_eq_nil_of_le (by omega), List.drop_eq_nil_of_le (by omega), if_pos rfl]
    have : ¬ ((i : Int) < (l.length : Int)) := by omega
    simp only [F29L0b, SS, insA, wantedA, Opd.ev, putA, binA, eqbA, unA, fldA, partA, reduceIte, reduceCtorEq, Nat.reduceMod, Nat.reduceDiv, Nat.reduceBEq, resultA, resA, vI, Nat.reduceMul, Nat.reduceAdd, Nat.reduceSub, Nat.reduceEqDiff, Nat.reduceLT, Nat.reducePow, Nat.reduceLeDiff, st, Option.bind_eq_bind, Option.pure_def, List.length_nil, Int.cast_ofNat_Int, List.reverse_nil, UU, idxP, cellsAt, storeA, fillA, zerosA, putAll, optNat, sliceA, row, Int.reduceLT, Int.reduceLE, Int.reduceGT, Int.reduceGE, Int.reduceEq, Int.reduceNe, Int.reduceToNat, Int.reduceBEq, Int.reduceBNe, Nat.reduceLeDiff, Nat.reduceLT, Nat.reduceBNe, Nat.reduceGT, List.drop_nil, List.take_nil, Option.isSome_none, Int.ofNat_one, Int.ofNat_zero, hv.len, this]
  | succ d ih =>
    intro i hi
    have hlt : i < l.length := by omega
    have hc : (i : Int) < (l.length : Int) := by omega
    have hw1 := wrap_succ (n := i) (by omega)
    have ih := ih (i + 1) (by omega)
    have e1 : l.getD i 0 = l[i] := getD_get hlt
    have e2 : q.getD i 0 = q[i]'(by omega) := getD_get (by omega)
    rw [un29_0, List.drop_eq_getElem_cons hlt, List.drop_eq_getElem_cons (show i < q.length by omega), ← e1, ← e2]
    by_cases c : l.getD i 0 = q.getD i 0
    · have c1 : (l.getD i 0 != q.getD i 0) = false := by rw [c]; simp
      have ec : (l.getD i 0 :: List.drop (i + 1) l = q.getD i 0 :: List.drop (i + 1) q) = (List.drop (i + 1) l = List.drop (i + 1) q) := by
        apply propext
        constructor
        · intro h; exact (List.cons.inj h).2
        · intro h; rw [c, h]
      simp only [ec]
      simp only [SS, insA, wantedA, Opd.ev, putA, binA, eqbA, unA, fldA, partA, reduceIte, reduceCtorEq, Nat.reduceMod, Nat.reduceDiv, Nat.reduceBEq, resultA, resA, vI, Nat.reduceMul, Nat.reduceAdd, Nat.reduceSub, Nat.reduceEqDiff, Nat.reduceLT, Nat.reducePow, Nat.reduceLeDiff, st, Option.bind_eq_bind, Option.pure_def, List.length_nil, Int.cast_ofNat_Int, List.reverse_nil] at ih
      simp only [F29L0b, SS, insA, wantedA, Opd.ev, putA, binA, eqbA, unA, fldA, partA, reduceIte, reduceCtorEq, Nat.reduceMod, Nat.reduceDiv, Nat.reduceBEq, resultA, resA, vI, Nat.reduceMul, Nat.reduceAdd, Nat.reduceSub, Nat.reduceEqDiff, Nat.reduceLT, Nat.reducePow, Nat.reduceLeDiff, st, Option.bind_eq_bind, Option.pure_def, List.length_nil, Int.cast_ofNat_Int, List.reverse_nil, UU, idxP, cellsAt, storeA, fillA, zerosA, putAll, optNat, sliceA, row, Int.reduceLT, Int.reduceLE, Int.reduceGT, Int.reduceGE, Int.reduceEq, Int.reduceNe, Int.reduceToNat, Int.reduceBEq, Int.reduceBNe, Nat.reduceLeDiff, Nat.reduceLT, Nat.reduceBNe, Nat.reduceGT, List.drop_nil, List.take_nil, Option.isSome_none, Int.ofNat_one, Int.ofNat_zero, hv.len, hc, hv.idx hlt, hv.load hlt, hw.idx (show i < q.length by omega), hw.load (show i < q.length by omega), c1, hw1, ih]
    · have c1 : (l.getD i 0 != q.getD i 0) = true := bne_iff_ne.2 c
      rw [if_neg (fun h => c (List.cons.inj h).1)]
      simp only [F29L0b, SS, insA, wantedA, Opd.ev, putA, binA, eqbA, unA, fldA, partA, reduceIte, reduceCtorEq, Nat.reduceMod, Nat.reduceDiv, Nat.reduceBEq, resultA, resA, vI, Nat.reduceMul, Nat.reduceAdd, Nat.reduceSub, Nat.reduceEqDiff, Nat.reduceLT, Nat.reducePow, Nat.reduceLeDiff, st, Option.bind_eq_bind, Option.pure_def, List.length_nil, Int.cast_ofNat_Int, List.reverse_nil, UU, idxP, cellsAt, storeA, fillA, zerosA, putAll, optNat, sliceA, row, Int.reduceLT, Int.reduceLE, Int.reduceGT, Int.reduceGE, Int.reduceEq, Int.reduceNe, Int.reduceToNat, Int.reduceBEq, Int.reduceBNe, Nat.reduceLeDiff, Nat.reduceLT, Nat.reduceBNe, Nat.reduceGT, List.drop_nil, List.take_nil, Option.isSome_none, Int.ofNat_one, Int.ofNat_zero, hv.len, hc, hv.idx hlt, hv.load hlt, hw.idx (show i < q.length by omega), hw.load (show i < q.length by omega), c1]
theorem same29 {v w : AV} {l q : List Int} {H : Heap} (hv : IsRow v l) (hw : IsRow w q) (hl : l.length ≤ 1000) : freeX H (callL ET Y 29 [v, w] []) = some (.bool (decide (l = q)), H) := by
  rw [call29 rfl]
  by_cases he : l.length = q.length
  · have c1 : ((l.length : Int) != (q.length : Int)) = false := by rw [he]; simp
    have h0 := L29 (Y := Y) (H := []) hv hw he hl l.length 0 (by omega)
    rw [List.drop_zero, List.drop_zero] at h0
    by_cases c : l = q
    · rw [if_pos c] at h0
      simp only [SS, insA, wantedA, Opd.ev, putA, binA, eqbA, unA, fldA, partA, reduceIte, reduceCtorEq, Nat.reduceMod, Nat.reduceDiv, Nat.reduceBEq, resultA, resA, vI, Nat.reduceMul, Nat.reduceAdd, Nat.reduceSub, Nat.reduceEqDiff, Nat.reduceLT, Nat.reducePow, Nat.reduceLeDiff, st, Option.bind_eq_bind, Option.pure_def, List.length_nil, Int.cast_ofNat_Int, List.reverse_nil, Int.ofNat_zero] at h0
      simp only [F29B, F29T0, in29_0, SS, insA, wantedA, Opd.ev, putA, binA, eqbA, unA, fldA, partA, reduceIte, reduceCtorEq, Nat.reduceMod, Nat.reduceDiv, Nat.reduceBEq, resultA, resA, vI, Nat.reduceMul, Nat.reduceAdd, Nat.reduceSub, Nat.reduceEqDiff, Nat.reduceLT, Nat.reducePow, Nat.reduceLeDiff, st, Option.bind_eq_bind, Option.pure_def, List.length_nil, Int.cast_ofNat_Int, List.reverse_nil, UU, idxP, cellsAt, storeA, fillA, zerosA, putAll, optNat, sliceA, row, Int.reduceLT, Int.reduceLE, Int.reduceGT, Int.reduceGE, Int.reduceEq, Int.reduceNe, Int.reduceToNat, Int.reduceBEq, Int.reduceBNe, Nat.reduceLeDiff, Nat.reduceLT, Nat.reduceBNe, Nat.reduceGT, List.drop_nil, List.take_nil, Option.isSome_none, Int.ofNat_one, Int.ofNat_zero, hv.len, hw.len, c1, h0, c]
    · rw [if_neg c] at h0
      simp only [SS, insA, wantedA, Opd.ev, putA, binA, eqbA, unA, fldA, partA, reduceIte, reduceCtorEq, Nat.reduceMod, Nat.reduceDiv, Nat.reduceBEq, resultA, resA, vI, Nat.reduceMul, Nat.reduceAdd, Nat.reduceSub, Nat.reduceEqDiff, Nat.reduceLT, Nat.reducePow, Nat.reduceLeDiff, st, Option.bind_eq_bind, Option.pure_def, List.length_nil, Int.cast_ofNat_Int, List.reverse_nil, Int.ofNat_zero] at h0
      simp only [F29B, F29T0, in29_0, SS, insA, wantedA, Opd.ev, putA, binA, eqbA, unA, fldA, partA, reduceIte, reduceCtorEq, Nat.reduceMod, Nat.reduceDiv, Nat.reduceBEq, resultA, resA, vI, Nat.reduceMul, Nat.reduceAdd, Nat.reduceSub, Nat.reduceEqDiff, Nat.reduceLT, Nat.reducePow, Nat.reduceLeDiff, st, Option.bind_eq_bind, Option.pure_def, List.length_nil, Int.cast_ofNat_Int, List.reverse_nil, UU, idxP, cellsAt, storeA, fillA, zerosA, putAll, optNat, sliceA, row, Int.reduceLT, Int.reduceLE, Int.reduceGT, Int.reduceGE, Int.reduceEq, Int.reduceNe, Int.reduceToNat, Int.reduceBEq, Int.reduceBNe, Nat.reduceLeDiff, Nat.reduceLT, Nat.reduceBNe, Nat.reduceGT, List.drop_nil, List.take_nil, Option.isSome_none, Int.ofNat_one, Int.ofNat_zero, hv.len, hw.len, c1, h0, c]
  · have c1 : ((l.length : Int) != (q.length : Int)) = true := by simp; omega
    have c2 : decide (l = q) = false := decide_eq_false (fun e => he (by rw [e]))
    simp only [F29B, F29T0, in29_0, SS, insA, wantedA, Opd.ev, putA, binA, eqbA, unA, fldA, partA, reduceIte, reduceCtorEq, Nat.reduceMod, Nat.reduceDiv, Nat.reduceBEq, resultA, resA, vI, Nat.reduceMul, Nat.reduceAdd, Nat.reduceSub, Nat.reduceEqDiff, Nat.reduceLT, Nat.reducePow, Nat.reduceLeDiff, st, Option.bind_eq_bind, Option.pure_def, List.length_nil, Int.cast_ofNat_Int, List.reverse_nil, UU, idxP, cellsAt, storeA, fillA, zerosA, putAll, optNat, sliceA, row, Int.reduceLT, Int.reduceLE, Int.reduceGT, Int.reduceGE, Int.reduceEq, Int.reduceNe, Int.reduceToNat, Int.reduceBEq, Int.reduceBNe, Nat.reduceLeDiff, Nat.reduceLT, Nat.reduceBNe, Nat.reduceGT, List.drop_nil, List.take_nil, Option.isSome_none, Int.ofNat_one, Int.ofNat_zero, hv.len, hw.len, c1, c2]
/-- One's own copy of a list. -/
theorem own_copy {v : AV} {l : List Int} {H : Heap} (hv : IsRow v l) (hl : l.length ≤ 1000) : ∃ w H' u, appA (H ++ [(⟨0, []⟩ : Ob)]) 1 8 (.sl H.length 0 1 0 0 none) v = some (w, H') ∧ snapA H' 6 w = some u ∧ IsRow u l := by
  have hg : (H ++ [(⟨0, []⟩ : Ob)])[H.length]? = some ⟨0, []⟩ := get_last
  cases l with
  | nil =>
    refine ⟨.sl H.length 0 1 0 0 none, H ++ [⟨0, []⟩], .imm true [] 0, ?_, ?_, IsRow.imm true []⟩
    · have h1 : lenA (.sl H.length 0 1 0 0 none) = some 0 := rfl
      have h2 : content (H ++ [(⟨0, []⟩ : Ob)]) 1 v = some [] := hv.content
      simp only [appA, h1, hv.len, h2, List.length_nil, if_pos]
    · rw [snap_sl, hg]; rfl
  | cons x l =>
    have h1 : lenA (.sl H.length 0 1 0 0 none) = some 0 := rfl
    have h2 : content (H ++ [(⟨0, []⟩ : Ob)]) 1 v = some ((x :: l).map vI) := hv.content
    refine ⟨.sl H.length 1 1 0 (x :: l).length none, (H ++ [(⟨0, []⟩ : Ob)]).set H.length ⟨1, (x :: l).map vI⟩, .imm true ((x :: l).map vI) (x :: l).length, ?_, ?_, IsRow.imm true _⟩
    · simp only [appA, h1, hv.len, h2]
      rw [if_neg (by simp), if_pos ⟨by omega, by omega, ones_all _⟩]
      simp only [hg]
      rw [if_pos ⟨trivial, trivial, trivial, by simp⟩]
      simp
    · rw [snap_sl, List.getElem?_set_self (by simp), snapS_some, if_pos ⟨rfl, by simp⟩, List.drop_zero, Nat.mul_one, List.take_of_length_le (by simp), mapM_snap (n := 4), snapB_some]
end
end Go.X
