import Derived.Test.YtdkgicdbjemalaaDoorMO
import Derived.Test.YtdkgicdbjemalaaDoorMF
/-! Tones: what several laws need: sums, frames, Same, one's own copy. -/
set_option linter.unusedSimpArgs false
set_option linter.unusedVariables false
set_option maxHeartbeats 2000000
set_option maxRecDepth 10000
namespace Go.X
open Go Go.RowKit

def sumZ : List Nat → (Nat → Int) → Int
  | [], _ => 0
  | k :: l, g => g k + sumZ l g
theorem sumZ_congr {g h : Nat → Int} : ∀ {l : List Nat}, (∀ k ∈ l, g k = h k) → sumZ l g = sumZ l h
  | [], _ => rfl
  | k :: l, e => by
    simp only [sumZ]
    rw [e k List.mem_cons_self, sumZ_congr fun k' h' => e k' (List.mem_cons_of_mem _ h')]
theorem sumZ_zero : ∀ (l : List Nat), sumZ l (fun _ => 0) = 0
  | [] => rfl
  | k :: l => by simp only [sumZ]; rw [sumZ_zero l]; rfl
theorem sumZ_add (g h : Nat → Int) : ∀ (l : List Nat), sumZ l (fun k => g k + h k) = sumZ l g + sumZ l h
  | [] => rfl
  | k :: l => by simp only [sumZ]; rw [sumZ_add g h l]; omega
theorem sumZ_mul (c : Int) (g : Nat → Int) : ∀ (l : List Nat), sumZ l (fun k => c * g k) = c * sumZ l g
  | [] => by simp [sumZ]
  | k :: l => by simp only [sumZ]; rw [sumZ_mul c g l, Int.mul_add]
theorem sumZ_swap (g : Nat → Nat → Int) (m : List Nat) : ∀ (l : List Nat), sumZ l (fun a => sumZ m (fun b => g a b)) = sumZ m (fun b => sumZ l (fun a => g a b))
  | [] => by simp only [sumZ]; rw [sumZ_zero]
  | k :: l => by simp only [sumZ]; rw [sumZ_swap g m l, ← sumZ_add]
theorem pc_pos {met : Nat} (h : met < 128) : 0 < met ↔ 1 ≤ pc met := by
  constructor
  · intro h0
    have hb := ctz_ok h (by omega)
    have := pc_del hb (ctz_lt met)
    omega
  · intro h1
    rcases Nat.eq_zero_or_pos met with e | e
    · subst e; exact absurd h1 (by decide)
    · exact e
theorem dl_sub_all : (List.range 128).all (fun m => (List.range 7).all fun j => !m.testBit j || (dl m (2 ^ j) + 2 ^ j == m)) = true := by decide +kernel
theorem dl_sub {m j : Nat} (h : m < 128) (hj : j < 7) (hb : m.testBit j = true) : IntKind.wrap .i64 ((m : Int) - ((2 ^ j : Nat) : Int)) = ((dl m (2 ^ j) : Nat) : Int) := by
  have := List.all_eq_true.1 (List.all_eq_true.1 dl_sub_all m (List.mem_range.2 h)) j (List.mem_range.2 hj)
  rw [hb, Bool.not_true, Bool.false_or, beq_iff_eq] at this
  generalize 2 ^ j = q at *
  generalize dl m q = r at *
  rw [wrap_id (by omega) (by omega)]; omega
theorem frame_n {l : List Int} (hf : frameB l = true) : 1 ≤ l.length ∧ l.length ≤ 7 := by simp only [frameB, Bool.and_eq_true, decide_eq_true_eq] at hf; exact hf.1.1
theorem pc_full {n : Nat} (hn : n ≤ 7) : pc (2 ^ n - 1) ≤ n := by
  unfold pc
  have e : (List.range 7).filter (fun j => (2 ^ n - 1).testBit j) = (List.range 7).filter (fun j => decide (j < n)) := by
    apply List.filter_congr
    intro j _
    rw [Nat.testBit_two_pow_sub_one]
  rw [e]
  have : ∀ m, m ≤ 7 → ((List.range 7).filter (fun j => decide (j < m))).length ≤ m := by decide
  exact this _ hn
theorem full_lt {n : Nat} (hn : n ≤ 7) : 2 ^ n - 1 < 128 := by
  have : (2 : Nat) ^ n ≤ 2 ^ 7 := Nat.pow_le_pow_right (by decide) hn
  have h2 : 1 ≤ 2 ^ n := Nat.pow_pos (by decide)
  omega
theorem ext_getD {l q : List Int} (h : l.length = q.length) (e : ∀ j, j < l.length → l.getD j 0 = q.getD j 0) : l = q := by
  apply List.ext_getElem h
  intro j h1 h2
  have := e j h1
  rwa [getD_get h1, getD_get h2] at this
theorem getD_app {L : List Nat} {k j : Nat} (h : j < L.length) : (L ++ [k]).getD j 0 = L.getD j 0 := by
  simp [List.getD_eq_getElem?_getD, List.getElem?_append_left h]
theorem getD_app_last {L : List Nat} {k : Nat} : (L ++ [k]).getD ((L ++ [k]).length - 1) 0 = k := by
  simp [List.getD_eq_getElem?_getD]
/-- Both ways round. -/
def Sy (f : List Nat) : Prop := ∀ i k, i < f.length → k < f.length → (f.getD i 0).testBit k = (f.getD k 0).testBit i
theorem frame_sy {l : List Int} (hf : frameB l = true) : Sy (l.map Int.toNat) := by
  unfold frameB at hf
  simp only [Bool.and_eq_true, decide_eq_true_eq] at hf
  obtain ⟨⟨⟨h1, h2⟩, h3⟩, h4⟩ := hf
  intro i k hi hk
  rw [List.length_map] at hi hk
  have := List.all_eq_true.1 (List.all_eq_true.1 h4 i (List.mem_range.2 hi)) k (List.mem_range.2 hk)
  unfold symE at this
  have hnn := okL_nn h3
  have e : ∀ j, j < l.length → l.getD j 0 = (((l.map Int.toNat).getD j 0 : Nat) : Int) := fun j hj => by
    have := hnn j hj
    rw [getD_get hj] at this ⊢
    rw [getD_get (by simpa using hj), List.getElem_map]
    omega
  rw [e i hi, e k hk, sh_bit, sh_bit] at this
  generalize ((l.map Int.toNat).getD i 0).testBit k = x at *
  generalize ((l.map Int.toNat).getD k 0).testBit i = y at *
  clear e hnn h4 h3
  cases x <;> cases y <;> first | rfl | (exact absurd this (by decide))

theorem rep_getD (n j : Nat) : (List.replicate n (0 : Int)).getD j 0 = 0 := by
  rw [List.getD_eq_getElem?_getD, List.getElem?_replicate]; split <;> rfl
/-- A list in the heap. -/
def Rw (H : Heap) (v : AV) (p : Nat) (l : List Int) : Prop := v = .sl p 0 1 0 l.length none ∧ H[p]? = some ⟨0, l.map vW⟩
theorem Rw.gro {H : Heap} {v : AV} {p : Nat} {l : List Int} (h : Rw H v p l) : Gro 0 1 H v l.length ((l.map wr).map vI) := by
  have := h.2; rw [map_vW] at this
  exact ⟨by simp, .inr ⟨p, 0, Nat.zero_le _, h.1, this⟩⟩
theorem Rw.add {H : Heap} {v : AV} {p : Nat} {l : List Int} (h : Rw H v p l) (x : Heap) : Rw (H ++ x) v p l := ⟨h.1, by rw [List.getElem?_append_left (hlt_of h.2)]; exact h.2⟩
theorem Rw.st {H : Heap} {v : AV} {p i : Nat} {l : List Int} (h : Rw H v p l) (hi : i < l.length) (y : Int) : ∃ H', storeA H 1 (gptr 1 v i) (vW y) = some H' ∧ Rw H' v p (l.set i y) ∧ (∀ v' p' l', p' ≠ p → Rw H v' p' l' → Rw H' v' p' l') ∧ H'.length = H.length := by
  obtain ⟨id, ver, e1, e2, e3, e4⟩ := h.gro.store (i := i) (x := wr y) hi
  rw [h.1] at e1; cases e1
  have hh := h.2; rw [map_vW] at hh
  rw [hh] at e2; cases e2
  refine ⟨_, e3, ⟨by rw [h.1]; simp, ?_⟩, fun v' p' l' hp h' => ⟨h'.1, by rw [List.getElem?_set_ne (Ne.symm hp)]; exact h'.2⟩, by simp⟩
  rw [List.getElem?_set_self (hlt_of h.2)]; simp [map_vW, List.map_set]
theorem Rw.fresh (H : Heap) (n : Nat) : Rw (H ++ [⟨0, (List.replicate n (0 : Int)).map vI⟩]) (.sl H.length 0 1 0 n none) H.length (List.replicate n 0) := by
  refine ⟨by simp, ?_⟩
  rw [get_last]
  simp [vW, wr, IntKind.wrap_i64]
theorem free_row {H : Heap} {p : Nat} {l : List Int} (h : H[p]? = some ⟨0, l.map vW⟩) : freeA H 6 (.sl p 0 1 0 l.length none) = some (.imm false ((l.map wr).map vI) l.length) := by
  rw [map_vW] at h
  have hfree := mapM_free (H := H) (n := 4) (l.map wr)
  rw [free_sl, h, freeS_some, if_pos ⟨rfl, by simp⟩, List.drop_zero, Nat.mul_one, List.take_of_length_le (by simp), hfree, freeB_some]

section
variable {Y : Run}
theorem L29 {v w : AV} {l q : List Int} {H : Heap} (hv : IsRow v l) (hw : IsRow w q) (he : l.length = q.length) (hl : l.length ≤ 1000) (d : Nat) : ∀ (i : Nat), i + d = l.length →
    lp ET Y F29L0 (sp 26 [(5, vI i), (1, w), (0, v)]) H = if l.drop i = q.drop i then some (.x 0, sp 26 [], H) else some (.r, sp 26 [(4, .bool false)], H) := by
  induction d with
  | zero =>
    intro i hi
    rw [un29_0, List.drop_eq_nil_of_le (by omega), List.drop_eq_nil_of_le (by omega), if_pos rfl]
    have : ¬ ((i : Int) < (l.length : Int)) := by omega
    simp only [F29L0b, SS, insA, wantedA, Opd.ev, putA, binA, eqbA, unA, fldA, partA, reduceIte, reduceCtorEq, Nat.reduceMod, Nat.reduceDiv, Nat.reduceBEq, resultA, resA, vI, Nat.reduceMul, Nat.reduceAdd, Nat.reduceSub, Nat.reduceEqDiff, Nat.reduceLT, Nat.reducePow, Nat.reduceLeDiff, st, Option.bind_eq_bind, Option.pure_def, List.length_nil, Int.cast_ofNat_Int, List.reverse_nil, UU, idxP, cellsAt, storeA, fillA, zerosA, putAll, optNat, sliceA, row, Int.reduceLT, Int.reduceLE, Int.reduceGT, Int.reduceGE, Int.reduceEq, Int.reduceNe, Int.reduceToNat, Int.reduceBEq, Int.reduceBNe, Nat.reduceLeDiff, Nat.reduceLT, Nat.reduceBNe, Nat.reduceGT, List.drop_nil, List.take_nil, Option.isSome_none, Int.ofNat_one, Int.ofNat_zero, hv.len, this]
  | succ d ih =>
    intro i hi
    have hlt : i < l.length := by omega
    have hc : (i : Int) < (l.length : Int) := by omega
    have hw1 := wrap_succ (n := i) (by omega)
    have ih := ih (i + 1) (by omega)
    have e1 : l.getD i 0 = l[i] := getD_get hlt
    have e2 : q.getD i 0 = q[i]'(by omega) := getD_get (by omega)
    rw [un29_0, List.drop_eq_getElem_cons hlt, List.drop_eq_getElem_cons (show i < q.length by omega), ← e1, ← e2]
    by_cases c : l.getD i 0 = q.getD i 0
    · have c1 : (l.getD i 0 != q.getD i 0) = false := by rw [c]; simp
      have ec : (l.getD i 0 :: List.drop (i + 1) l = q.getD i 0 :: List.drop (i + 1) q) = (List.drop (i + 1) l = List.drop (i + 1) q) := by
        apply propext
        constructor
        · intro h; exact (List.cons.inj h).2
        · intro h; rw [c, h]
      simp only [ec]
      simp only [SS, insA, wantedA, Opd.ev, putA, binA, eqbA, unA, fldA, partA, reduceIte, reduceCtorEq, Nat.reduceMod, Nat.reduceDiv, Nat.reduceBEq, resultA, resA, vI, Nat.reduceMul, Nat.reduceAdd, Nat.reduceSub, Nat.reduceEqDiff, Nat.reduceLT, Nat.reducePow, Nat.reduceLeDiff, st, Option.bind_eq_bind, Option.pure_def, List.length_nil, Int.cast_ofNat_Int, List.reverse_nil] at ih
      simp only [F29L0b, SS, insA, wantedA, Opd.ev, putA, binA, eqbA, unA, fldA, partA, reduceIte, reduceCtorEq, Nat.reduceMod, Nat.reduceDiv, Nat.reduceBEq, resultA, resA, vI, Nat.reduceMul, Nat.reduceAdd, Nat.reduceSub, Nat.reduceEqDiff, Nat.reduceLT, Nat.reducePow, Nat.reduceLeDiff, st, Option.bind_eq_bind, Option.pure_def, List.length_nil, Int.cast_ofNat_Int, List.reverse_nil, UU, idxP, cellsAt, storeA, fillA, zerosA, putAll, optNat, sliceA, row, Int.reduceLT, Int.reduceLE, Int.reduceGT, Int.reduceGE, Int.reduceEq, Int.reduceNe, Int.reduceToNat, Int.reduceBEq, Int.reduceBNe, Nat.reduceLeDiff, Nat.reduceLT, Nat.reduceBNe, Nat.reduceGT, List.drop_nil, List.take_nil, Option.isSome_none, Int.ofNat_one, Int.ofNat_zero, hv.len, hc, hv.idx hlt, hv.load hlt, hw.idx (show i < q.length by omega), hw.load (show i < q.length by omega), c1, hw1, ih]
    · have c1 : (l.getD i 0 != q.getD i 0) = true := bne_iff_ne.2 c
      rw [if_neg (fun h => c (List.cons.inj h).1)]
      simp only [F29L0b, SS, insA, wantedA, Opd.ev, putA, binA, eqbA, unA, fldA, partA, reduceIte, reduceCtorEq, Nat.reduceMod, Nat.reduceDiv, Nat.reduceBEq, resultA, resA, vI, Nat.reduceMul, Nat.reduceAdd, Nat.reduceSub, Nat.reduceEqDiff, Nat.reduceLT, Nat.reducePow, Nat.reduceLeDiff, st, Option.bind_eq_bind, Option.pure_def, List.length_nil, Int.cast_ofNat_Int, List.reverse_nil, UU, idxP, cellsAt, storeA, fillA, zerosA, putAll, optNat, sliceA, row, Int.reduceLT, Int.reduceLE, Int.reduceGT, Int.reduceGE, Int.reduceEq, Int.reduceNe, Int.reduceToNat, Int.reduceBEq, Int.reduceBNe, Nat.reduceLeDiff, Nat.reduceLT, Nat.reduceBNe, Nat.reduceGT, List.drop_nil, List.take_nil, Option.isSome_none, Int.ofNat_one, Int.ofNat_zero, hv.len, hc, hv.idx hlt, hv.load hlt, hw.idx (show i < q.length by omega), hw.load (show i < q.length by omega), c1]
theorem same29 {v w : AV} {l q : List Int} {H : Heap} (hv : IsRow v l) (hw : IsRow w q) (hl : l.length ≤ 1000) : freeX H (callL ET Y 29 [v, w] []) = some (.bool (decide (l = q)), H) := by
  rw [call29 rfl]
  by_cases he : l.length = q.length
  · have c1 : ((l.length : Int) != (q.length : Int)) = false := by rw [he]; simp
    have h0 := L29 (Y := Y) (H := []) hv hw he hl l.length 0 (by omega)
    rw [List.drop_zero, List.drop_zero] at h0
    by_cases c : l = q
    · rw [if_pos c] at h0
      simp only [SS, insA, wantedA, Opd.ev, putA, binA, eqbA, unA, fldA, partA, reduceIte, reduceCtorEq, Nat.reduceMod, Nat.reduceDiv, Nat.reduceBEq, resultA, resA, vI, Nat.reduceMul, Nat.reduceAdd, Nat.reduceSub, Nat.reduceEqDiff, Nat.reduceLT, Nat.reducePow, Nat.reduceLeDiff, st, Option.bind_eq_bind, Option.pure_def, List.length_nil, Int.cast_ofNat_Int, List.reverse_nil, Int.ofNat_zero] at h0
      simp only [F29B, F29T0, in29_0, SS, insA, wantedA, Opd.ev, putA, binA, eqbA, unA, fldA, partA, reduceIte, reduceCtorEq, Nat.reduceMod, Nat.reduceDiv, Nat.reduceBEq, resultA, resA, vI, Nat.reduceMul, Nat.reduceAdd, Nat.reduceSub, Nat.reduceEqDiff, Nat.reduceLT, Nat.reducePow, Nat.reduceLeDiff, st, Option.bind_eq_bind, Option.pure_def, List.length_nil, Int.cast_ofNat_Int, List.reverse_nil, UU, idxP, cellsAt, storeA, fillA, zerosA, putAll, optNat, sliceA, row, Int.reduceLT, Int.reduceLE, Int.reduceGT, Int.reduceGE, Int.reduceEq, Int.reduceNe, Int.reduceToNat, Int.reduceBEq, Int.reduceBNe, Nat.reduceLeDiff, Nat.reduceLT, Nat.reduceBNe, Nat.reduceGT, List.drop_nil, List.take_nil, Option.isSome_none, Int.ofNat_one, Int.ofNat_zero, hv.len, hw.len, c1, h0, c]
    · rw [if_neg c] at h0
      simp only [SS, insA, wantedA, Opd.ev, putA, binA, eqbA, unA, fldA, partA, reduceIte, reduceCtorEq, Nat.reduceMod, Nat.reduceDiv, Nat.reduceBEq, resultA, resA, vI, Nat.reduceMul, Nat.reduceAdd, Nat.reduceSub, Nat.reduceEqDiff, Nat.reduceLT, Nat.reducePow, Nat.reduceLeDiff, st, Option.bind_eq_bind, Option.pure_def, List.length_nil, Int.cast_ofNat_Int, List.reverse_nil, Int.ofNat_zero] at h0
      simp only [F29B, F29T0, in29_0, SS, insA, wantedA, Opd.ev, putA, binA, eqbA, unA, fldA, partA, reduceIte, reduceCtorEq, Nat.reduceMod, Nat.reduceDiv, Nat.reduceBEq, resultA, resA, vI, Nat.reduceMul, Nat.reduceAdd, Nat.reduceSub, Nat.reduceEqDiff, Nat.reduceLT, Nat.reducePow, Nat.reduceLeDiff, st, Option.bind_eq_bind, Option.pure_def, List.length_nil, Int.cast_ofNat_Int, List.reverse_nil, UU, idxP, cellsAt, storeA, fillA, zerosA, putAll, optNat, sliceA, row, Int.reduceLT, Int.reduceLE, Int.reduceGT, Int.reduceGE, Int.reduceEq, Int.reduceNe, Int.reduceToNat, Int.reduceBEq, Int.reduceBNe, Nat.reduceLeDiff, Nat.reduceLT, Nat.reduceBNe, Nat.reduceGT, List.drop_nil, List.take_nil, Option.isSome_none, Int.ofNat_one, Int.ofNat_zero, hv.len, hw.len, c1, h0, c]
  · have c1 : ((l.length : Int) != (q.length : Int)) = true := by simp; omega
    have c2 : decide (l = q) = false := decide_eq_false (fun e => he (by rw [e]))
    simp only [F29B, F29T0, in29_0, SS, insA, wantedA, Opd.ev, putA, binA, eqbA, unA, fldA, partA, reduceIte, reduceCtorEq, Nat.reduceMod, Nat.reduceDiv, Nat.reduceBEq, resultA, resA, vI, Nat.reduceMul, Nat.reduceAdd, Nat.reduceSub, Nat.reduceEqDiff, Nat.reduceLT, Nat.reducePow, Nat.reduceLeDiff, st, Option.bind_eq_bind, Option.pure_def, List.length_nil, Int.cast_ofNat_Int, List.reverse_nil, UU, idxP, cellsAt, storeA, fillA, zerosA, putAll, optNat, sliceA, row, Int.reduceLT, Int.reduceLE, Int.reduceGT, Int.reduceGE, Int.reduceEq, Int.reduceNe, Int.reduceToNat, Int.reduceBEq, Int.reduceBNe, Nat.reduceLeDiff, Nat.reduceLT, Nat.reduceBNe, Nat.reduceGT, List.drop_nil, List.take_nil, Option.isSome_none, Int.ofNat_one, Int.ofNat_zero, hv.len, hw.len, c1, c2]
/-- One's own copy of a list. -/
theorem own_copy {v : AV} {l : List Int} {H : Heap} (hv : IsRow v l) (hl : l.length ≤ 1000) : ∃ w H' u, appA (H ++ [(⟨0, []⟩ : Ob)]) 1 8 (.sl H.length 0 1 0 0 none) v = some (w, H') ∧ snapA H' 6 w = some u ∧ IsRow u l := by
  have hg : (H ++ [(⟨0, []⟩ : Ob)])[H.length]? = some ⟨0, []⟩ := get_last
  cases l with
  | nil =>
    refine ⟨.sl H.length 0 1 0 0 none, H ++ [⟨0, []⟩], .imm true [] 0, ?_, ?_, IsRow.imm true []⟩
    · have h1 : lenA (.sl H.length 0 1 0 0 none) = some 0 := rfl
      have h2 : content (H ++ [(⟨0, []⟩ : Ob)]) 1 v = some [] := hv.content
      simp only [appA, h1, hv.len, h2, List.length_nil, if_pos]
    · rw [snap_sl, hg]; rfl
  | cons x l =>
    have h1 : lenA (.sl H.length 0 1 0 0 none) = some 0 := rfl
    have h2 : content (H ++ [(⟨0, []⟩ : Ob)]) 1 v = some ((x :: l).map vI) := hv.content
    refine ⟨.sl H.length 1 1 0 (x :: l).length none, (H ++ [(⟨0, []⟩ : Ob)]).set H.length ⟨1, (x :: l).map vI⟩, .imm true ((x :: l).map vI) (x :: l).length, ?_, ?_, IsRow.imm true _⟩
    · simp only [appA, h1, hv.len, h2]
      rw [if_neg (by simp), if_pos ⟨by omega, by omega, ones_all _⟩]
      simp only [hg]
      rw [if_pos ⟨trivial, trivial, trivial, by simp⟩]
      simp
    · rw [snap_sl, List.getElem?_set_self (by simp), snapS_some, if_pos ⟨rfl, by simp⟩, List.drop_zero, Nat.mul_one, List.take_of_length_le (by simp), mapM_snap (n := 4), snapB_some]
end
end Go.X

/-! Tones: the sums over figures as sums. -/
set_option linter.unusedSimpArgs false
set_option linter.unusedVariables false
namespace Go.X

/-! ### Sums -/
/-- A list of numbers, moved on. -/
def sft (m : Nat) (p : Nat → Int) (j : Nat) : Int := if m ≤ j then p (j - m) else 0
theorem sft_zero (p : Nat → Int) (j : Nat) : sft 0 p j = p j := by simp [sft]
theorem sft_sft (a b : Nat) (p : Nat → Int) (j : Nat) : sft a (sft b p) j = sft (a + b) p j := by
  unfold sft
  by_cases h : a ≤ j
  · rw [if_pos h]
    by_cases h2 : b ≤ j - a
    · rw [if_pos h2, if_pos (by omega), show j - a - b = j - (a + b) by omega]
    · rw [if_neg h2, if_neg (by omega)]
  · rw [if_neg h, if_neg (by omega)]
theorem sft_add (a : Nat) (p q : Nat → Int) (j : Nat) : sft a (fun j => p j + q j) j = sft a p j + sft a q j := by
  unfold sft; split <;> simp
theorem sft_mul (a : Nat) (c : Int) (p : Nat → Int) (j : Nat) : sft a (fun j => c * p j) j = c * sft a p j := by
  unfold sft; split <;> simp
theorem sft_congr {a : Nat} {p q : Nat → Int} (h : ∀ j, p j = q j) (j : Nat) : sft a p j = sft a q j := by
  unfold sft; rw [h]
theorem sft_sum (a : Nat) (g : Nat → Nat → Int) (j : Nat) (l : List Nat) : sft a (fun j => sumZ l (fun k => g k j)) j = sumZ l (fun k => sft a (g k) j) := by
  unfold sft
  split
  · rfl
  · rw [sumZ_zero]

theorem sft_one (u j : Nat) (x : Int) : (if j = u then x else 0) = x * sft u (fun j => if j = 0 then 1 else 0) j := by
  unfold sft
  by_cases e : j = u
  · subst e; simp
  · rw [if_neg e]
    by_cases h : u ≤ j
    · have : j - u ≠ 0 := by omega
      simp only [if_pos h, if_neg this, Int.mul_zero]
    · rw [if_neg h, Int.mul_zero]

theorem foldl_get {F : List Int → Nat → List Int} {g : Nat → Int} {j : Nat} : ∀ (l : List Nat) (out : List Int), (∀ out k, k ∈ l → (F out k).getD j 0 = out.getD j 0 + g k) → (l.foldl F out).getD j 0 = out.getD j 0 + sumZ l g
  | [], out, _ => by simp [sumZ]
  | k :: l, out, h => by
    rw [List.foldl_cons, foldl_get l _ fun out k' h' => h out k' (List.mem_cons_of_mem _ h'), h out k List.mem_cons_self]
    simp only [sumZ]; omega

/-- What is added where a ring closes at k. -/
def clS (ov : Nat → Nat → Int) (f : List Nat) (i S : Nat) (c : Int) (sec met k j : Nat) : Int :=
  if 0 < met ∧ sec < k ∧ (f.getD k 0).testBit i = true then c * sft (pc met + 2) (ov (dl (dl S met) (2 ^ k))) j else 0

/-- The sum over the rings that go on from a knot. -/
def onS (ov : Nat → Nat → Int) (f : List Nat) (n i S : Nat) (c : Int) : Nat → Nat → Nat → Nat → Nat → Int
  | 0, _, _, _, _ => 0
  | e + 1, p, sec, met, j => sumZ (List.range n) fun k => if (dl (f.getD p 0 &&& S) met).testBit k then
      clS ov f i S c sec met k j + onS ov f n i S c e k (if met = 0 then k else sec) (met ||| 2 ^ k) j else 0

/-- The sum over figures. -/
def ovS (f : List Nat) (w r : Int) : Nat → Nat → Nat → Int
  | 0, _, j => if j = 0 then 1 else 0
  | d + 1, left, j => if left = 0 then (if j = 0 then 1 else 0) else
    ovS f w r d (dl left (2 ^ ctz left)) j
      + sumZ (List.range f.length) (fun k => if (f.getD (ctz left) 0 &&& dl left (2 ^ ctz left)).testBit k then w * sft 2 (ovS f w r d (dl (dl left (2 ^ ctz left)) (2 ^ k))) j else 0)
      + onS (ovS f w r d) f f.length (ctz left) (dl left (2 ^ ctz left)) r 8 (ctz left) 0 0 j

theorem onL_get {ov : Nat → List Int} {f : List Nat} {n i S : Nat} {c : Int} {j : Nat} : ∀ (e p sec met : Nat) (out : List Int),
    (onL ov f n i S c e p sec met out).getD j 0 = out.getD j 0 + onS (fun T j => (ov T).getD j 0) f n i S c e p sec met j
  | 0, _, _, _, out => by simp [onL, onS]
  | e + 1, p, sec, met, out => by
    simp only [onL, onS]
    refine foldl_get _ _ fun out k _ => ?_
    split
    · rw [onL_get e]
      unfold clS
      split
      · simp only [morL_get, sft, Int.add_assoc]
      · omega
    · omega

theorem ovL_get {f : List Nat} {w r : Int} : ∀ (d left j : Nat), (ovL f w r d left).getD j 0 = ovS f w r d left j
  | 0, left, j => by cases j <;> simp [ovL, ovS]
  | d + 1, left, j => by
    simp only [ovL, ovS]
    split
    · cases j <;> simp
    · rw [onL_get]
      have h : (fun T j => (ovL f w r d T).getD j 0) = ovS f w r d := by
        funext T j
        exact ovL_get d T j
      rw [h]
      congr 1
      rw [foldl_get (g := fun k => if (f.getD (ctz left) 0 &&& dl left (2 ^ ctz left)).testBit k = true then w * sft 2 (ovS f w r d (dl (dl left (2 ^ ctz left)) (2 ^ k))) j else 0), ovL_get d]
      intro out k _
      split
      · rw [morL_get]
        unfold sft
        split
        · rw [ovL_get d]
        · rfl
      · omega

theorem onS_zero {ov : Nat → Nat → Int} {f : List Nat} {n i S : Nat} : ∀ (e p sec met j : Nat), onS ov f n i S 0 e p sec met j = 0
  | 0, _, _, _, _ => rfl
  | e + 1, p, sec, met, j => by
    simp only [onS]
    rw [sumZ_congr (h := fun _ => 0) fun k _ => ?_, sumZ_zero]
    split
    · rw [onS_zero e]; unfold clS; split <;> simp
    · rfl
theorem polyL_get {f : List Nat} {w r : Int} {j : Nat} (hj : j ≤ f.length) : (polyL f w r).getD j 0 = ovS f w r 7 (2 ^ f.length - 1) (f.length - j) := by
  unfold polyL
  have := ofL_get (n := f.length) (k := f.length - j) (ov := ovL f w r 7 (2 ^ f.length - 1)) (by omega)
  rw [show f.length - (f.length - j) = j by omega] at this
  rw [this, ovL_get]

/-! ### The specification's way: figure and ring -/
abbrev PP := List Int × List Int
def put (P : PP) (u : Nat) (wt : Int) : PP := (P.1.set u (P.1.getD u 0 + wt), P.2.set u (P.2.getD u 0 + 1))

def ringP (fg : Nat → Nat → Int → PP → PP) (f : List Nat) (n i used : Nat) (wt : Int) : Nat → Nat → Nat → Nat → Nat → PP → PP
  | 0, last, sec, len, left, P => if 3 ≤ len ∧ sec < last ∧ (f.getD last 0).testBit i = true then fg left (used + len) (-2 * wt) P else P
  | e + 1, last, sec, len, left, P => (List.range n).foldl (fun P k => if (f.getD last 0 &&& left).testBit k then ringP fg f n i used wt e k sec (len + 1) (dl left (2 ^ k)) P else P)
      (if 3 ≤ len ∧ sec < last ∧ (f.getD last 0).testBit i = true then fg left (used + len) (-2 * wt) P else P)

def figP (f : List Nat) (n : Nat) : Nat → Nat → Nat → Int → PP → PP
  | 0, _, used, wt, P => put P used wt
  | d + 1, left, used, wt, P => if left = 0 then put P used wt else
    (List.range n).foldl (fun P k => if (f.getD (ctz left) 0 &&& dl left (2 ^ ctz left)).testBit k then
        ringP (figP f n d) f n (ctz left) used wt 7 k k 2 (dl (dl left (2 ^ ctz left)) (2 ^ k)) (figP f n d (dl (dl left (2 ^ ctz left)) (2 ^ k)) (used + 2) (-wt) P)
      else P) (figP f n d (dl left (2 ^ ctz left)) used wt P)

/-- Two lists after something has been added, at a place. -/
structure Add (n : Nat) (P Q : PP) (s m : Nat → Int) : Prop where
  l1 : P.1.length = n + 1 → Q.1.length = n + 1
  l2 : P.2.length = n + 1 → Q.2.length = n + 1
  g1 : P.1.length = n + 1 → ∀ j, Q.1.getD j 0 = P.1.getD j 0 + s j
  g2 : P.2.length = n + 1 → ∀ j, Q.2.getD j 0 = P.2.getD j 0 + m j

theorem Add.refl (n : Nat) (P : PP) : Add n P P (fun _ => 0) (fun _ => 0) := ⟨id, id, fun _ _ => by omega, fun _ _ => by omega⟩
theorem Add.trans {n : Nat} {P Q R : PP} {s m s' m' : Nat → Int} (h : Add n P Q s m) (k : Add n Q R s' m') : Add n P R (fun j => s j + s' j) (fun j => m j + m' j) :=
  ⟨fun e => k.l1 (h.l1 e), fun e => k.l2 (h.l2 e), fun e j => by rw [k.g1 (h.l1 e), h.g1 e]; omega, fun e j => by rw [k.g2 (h.l2 e), h.g2 e]; omega⟩
theorem Add.congr {n : Nat} {P Q : PP} {s m s' m' : Nat → Int} (h : Add n P Q s m) (e : ∀ j, s j = s' j) (e' : ∀ j, m j = m' j) : Add n P Q s' m' :=
  ⟨h.l1, h.l2, fun k j => by rw [h.g1 k, e], fun k j => by rw [h.g2 k, e']⟩
theorem Add.foldl {n : Nat} {F : PP → Nat → PP} {s m : Nat → Nat → Int} : ∀ (l : List Nat) (P : PP), (∀ P k, k ∈ l → Add n P (F P k) (s k) (m k)) → Add n P (l.foldl F P) (fun j => sumZ l (fun k => s k j)) (fun j => sumZ l (fun k => m k j))
  | [], P, _ => Add.refl n P
  | k :: l, P, h => by
    rw [List.foldl_cons]
    exact (h P k List.mem_cons_self).trans (Add.foldl l _ fun P k' h' => h P k' (List.mem_cons_of_mem _ h'))
theorem Add.put {n : Nat} (P : PP) {u : Nat} (hu : u ≤ n) (wt : Int) : Add n P (put P u wt) (fun j => if j = u then wt else 0) (fun j => if j = u then 1 else 0) := by
  have : ∀ (l : List Int) (x : Int), l.length = n + 1 → ∀ j, (l.set u (l.getD u 0 + x)).getD j 0 = l.getD j 0 + if j = u then x else 0 := by
    intro l x hl j
    simp only [List.getD_eq_getElem?_getD, List.getElem?_set]
    by_cases h : u = j
    · subst h; rw [if_pos rfl, if_pos (by omega), if_pos rfl]; simp
    · rw [if_neg h, if_neg (fun e => h e.symm)]; omega
  exact ⟨fun e => by simp [Go.X.put, e], fun e => by simp [Go.X.put, e], fun e j => this _ _ e j, fun e j => this _ _ e j⟩

theorem dl_or (S met k : Nat) : dl S (met ||| 2 ^ k) = dl (dl S met) (2 ^ k) := by
  apply Nat.eq_of_testBit_eq
  intro j
  simp only [dl_bit, Nat.testBit_or]
  cases S.testBit j <;> cases met.testBit j <;> cases (2 ^ k).testBit j <;> rfl

theorem pc_or {met k : Nat} (h : met.testBit k = false) (hk : k < 7) : pc (met ||| 2 ^ k) = pc met + 1 := by
  have hs : Sub (2 ^ k) (met ||| 2 ^ k) := fun j hj => by rw [Nat.testBit_or, hj, Bool.or_true]
  have h1 := pc_add hs
  rw [pc_two hk] at h1
  have h2 : dl (met ||| 2 ^ k) (2 ^ k) = met := by
    apply Nat.eq_of_testBit_eq
    intro j
    rw [dl_bit, Nat.testBit_or]
    by_cases e : k = j
    · subst e; rw [h]; simp
    · have : (2 ^ k).testBit j = false := by rw [Nat.testBit_two_pow]; simpa using e
      rw [this]; simp
  rw [h2] at h1; omega

theorem or_pos (met k : Nat) : met ||| 2 ^ k ≠ 0 := fun h => by
  have : (met ||| 2 ^ k).testBit k = true := by rw [Nat.testBit_or, Nat.testBit_two_pow_self, Bool.or_true]
  rw [h] at this; simp at this


section
variable {f : List Nat} {n : Nat} {fg : Nat → Nat → Int → PP → PP} {os om : Nat → Nat → Int}

/-- What the recursion adds. -/
def FgOk (n S : Nat) (fg : Nat → Nat → Int → PP → PP) (os om : Nat → Nat → Int) : Prop :=
  ∀ T, Sub T S → ∀ u wt P, u + pc T ≤ n → Add n P (fg T u wt P) (fun j => wt * sft u (os T) j) (fun j => sft u (om T) j)

theorem ring_close {i S used : Nat} {wt : Int} (hfg : FgOk n S fg os om) (hS : used + pc S + 1 ≤ n) {k sec met : Nat} (hk : k < 7) (hm : Sub met S) (hkS : S.testBit k = true) (hkm : met.testBit k = false) (h0 : 0 < met ↔ 1 ≤ pc met) (P : PP) :
    Add n P (if 3 ≤ pc met + 2 ∧ (if met = 0 then k else sec) < k ∧ (f.getD k 0).testBit i = true then fg (dl (dl S met) (2 ^ k)) (used + (pc met + 2)) (-2 * wt) P else P)
      (fun j => wt * sft used (clS os f i S (-2) sec met k) j) (fun j => sft used (clS om f i S 1 sec met k) j) := by
  have e : (3 ≤ pc met + 2 ∧ (if met = 0 then k else sec) < k ∧ (f.getD k 0).testBit i = true) ↔ (0 < met ∧ sec < k ∧ (f.getD k 0).testBit i = true) := by
    constructor
    · rintro ⟨a, b, c⟩
      have : 0 < met := h0.2 (by omega)
      rw [if_neg (by omega)] at b
      exact ⟨this, b, c⟩
    · rintro ⟨a, b, c⟩
      rw [if_neg (by omega)]
      exact ⟨by have := h0.1 a; omega, b, c⟩
  by_cases h : 0 < met ∧ sec < k ∧ (f.getD k 0).testBit i = true
  · rw [if_pos (e.2 h)]
    have h1 := pc_add hm
    have h2 := pc_del (a := dl S met) (k := k) (by rw [dl_bit, hkS, hkm]; rfl) hk
    refine (hfg _ ((sub_dl _ _).trans (sub_dl _ _)) (used + (pc met + 2)) (-2 * wt) P (by omega)).congr (fun j => ?_) (fun j => ?_)
    · have : ∀ j, clS os f i S (-2) sec met k j = (-2) * sft (pc met + 2) (os (dl (dl S met) (2 ^ k))) j := fun j => by unfold clS; rw [if_pos h]
      rw [sft_congr this, sft_mul, sft_sft, ← Int.mul_assoc, Int.mul_comm (-2) wt]
    · have : ∀ j, clS om f i S 1 sec met k j = 1 * sft (pc met + 2) (om (dl (dl S met) (2 ^ k))) j := fun j => by unfold clS; rw [if_pos h]
      rw [sft_congr this, sft_mul, sft_sft, Int.one_mul]
  · rw [if_neg (fun c => h (e.1 c))]
    refine (Add.refl n P).congr (fun j => ?_) (fun j => ?_)
    · have : ∀ j, clS os f i S (-2) sec met k j = 0 := fun j => by unfold clS; rw [if_neg h]
      rw [sft_congr this]; simp [sft]
    · have : ∀ j, clS om f i S 1 sec met k j = 0 := fun j => by unfold clS; rw [if_neg h]
      rw [sft_congr this]; simp [sft]

theorem ring_get {i S used : Nat} {wt : Int} (hn : n ≤ 7) (hS128 : S < 128) (hfg : FgOk n S fg os om) (hS : used + pc S + 1 ≤ n) : ∀ (e k sec met : Nat) (P : PP), k < 7 → Sub met S → S.testBit k = true → met.testBit k = false →
    Add n P (ringP fg f n i used wt e k (if met = 0 then k else sec) (pc met + 2) (dl (dl S met) (2 ^ k)) P)
      (fun j => wt * sft used (fun j => clS os f i S (-2) sec met k j + onS os f n i S (-2) e k (if met = 0 then k else sec) (met ||| 2 ^ k) j) j)
      (fun j => sft used (fun j => clS om f i S 1 sec met k j + onS om f n i S 1 e k (if met = 0 then k else sec) (met ||| 2 ^ k) j) j)
  | 0, k, sec, met, P, hk, hm, h1, h2 => by
    simp only [ringP, onS]
    exact (ring_close (f := f) (i := i) hfg hS hk hm h1 h2 (pc_pos (Nat.lt_of_le_of_lt hm.le hS128)) P).congr (fun j => by simp [sft]) (fun j => by simp [sft])
  | e + 1, k, sec, met, P, hk, hm, h1, h2 => by
    simp only [ringP, onS]
    have hm2 : Sub (met ||| 2 ^ k) S := sub_or hm h1
    have hp2 := pc_or h2 hk
    refine ((ring_close (f := f) (i := i) hfg hS hk hm h1 h2 (pc_pos (Nat.lt_of_le_of_lt hm.le hS128)) P).trans
      (Add.foldl (s := fun k' j => wt * sft used (fun j => if (dl (f.getD k 0 &&& S) (met ||| 2 ^ k)).testBit k' = true then clS os f i S (-2) (if met = 0 then k else sec) (met ||| 2 ^ k) k' j + onS os f n i S (-2) e k' (if met ||| 2 ^ k = 0 then k' else if met = 0 then k else sec) (met ||| 2 ^ k ||| 2 ^ k') j else 0) j)
        (m := fun k' j => sft used (fun j => if (dl (f.getD k 0 &&& S) (met ||| 2 ^ k)).testBit k' = true then clS om f i S 1 (if met = 0 then k else sec) (met ||| 2 ^ k) k' j + onS om f n i S 1 e k' (if met ||| 2 ^ k = 0 then k' else if met = 0 then k else sec) (met ||| 2 ^ k ||| 2 ^ k') j else 0) j)
        (List.range n) _ fun P k' hk' => ?_)).congr (fun j => ?_) (fun j => ?_)
    · have hb : (f.getD k 0 &&& dl (dl S met) (2 ^ k)).testBit k' = (dl (f.getD k 0 &&& S) (met ||| 2 ^ k)).testBit k' := by
        rw [← dl_or, Nat.testBit_and, dl_bit, dl_bit, Nat.testBit_and, Bool.and_assoc]
      rw [hb]
      by_cases c : (dl (f.getD k 0 &&& S) (met ||| 2 ^ k)).testBit k' = true
      · rw [if_pos c]
        have c' := c
        rw [dl_bit, Nat.testBit_and, Bool.and_eq_true, Bool.and_eq_true, Bool.not_eq_true'] at c'
        have hk7 : k' < 7 := by have := List.mem_range.1 hk'; omega
        have := ring_get (i := i) (wt := wt) hn hS128 hfg hS e k' (if met = 0 then k else sec) (met ||| 2 ^ k) P hk7 hm2 c'.1.2 c'.2
        rw [if_neg (or_pos _ _), hp2, dl_or] at this
        refine this.congr (fun j => ?_) (fun j => ?_)
        · congr 1; exact sft_congr (fun j => by rw [if_pos c, if_neg (or_pos _ _)]) j
        · exact sft_congr (fun j => by rw [if_pos c, if_neg (or_pos _ _)]) j
      · rw [if_neg c]
        refine (Add.refl n P).congr (fun j => ?_) (fun j => ?_)
        · rw [sft_congr (q := fun _ => 0) (fun j => if_neg c)]; simp [sft]
        · rw [sft_congr (q := fun _ => 0) (fun j => if_neg c)]; simp [sft]
    · rw [sumZ_mul, ← sft_sum, ← Int.mul_add, ← sft_add]
    · rw [← sft_sum, ← sft_add]

theorem fig_get (hn : f.length ≤ 7) : ∀ (d left : Nat), left < 128 → ∀ (used : Nat) (wt : Int) (P : PP), used + pc left ≤ f.length →
    Add f.length P (figP f f.length d left used wt P) (fun j => wt * sft used (ovS f (-1) (-2) d left) j) (fun j => sft used (ovS f 1 1 d left) j)
  | 0, left, _, used, wt, P, hu => by
    simp only [figP, ovS]
    refine (Add.put P (by omega : used ≤ f.length) wt).congr (fun j => ?_) (fun j => ?_)
    · exact sft_one used j wt
    · have := sft_one used j 1; rw [Int.one_mul] at this; exact this
  | d + 1, left, hl, used, wt, P, hu => by
    simp only [figP, ovS]
    by_cases h0 : left = 0
    · simp only [if_pos h0]
      refine (Add.put P (by omega : used ≤ f.length) wt).congr (fun j => ?_) (fun j => ?_)
      · have := sft_one used j wt; simpa using this
      · have := sft_one used j 1; rw [Int.one_mul] at this; simpa using this
    · simp only [if_neg h0]
      have hb := ctz_ok hl h0
      have hp := pc_del hb (ctz_lt left)
      have hS : dl left (2 ^ ctz left) < 128 := Nat.lt_of_le_of_lt (dl_le _ _) hl
      have hfg : FgOk f.length (dl left (2 ^ ctz left)) (figP f f.length d) (ovS f (-1) (-2) d) (ovS f 1 1 d) := fun T hT u wt P h => fig_get hn d T (Nat.lt_of_le_of_lt hT.le hS) u wt P h
      have hu' : used + pc (dl left (2 ^ ctz left)) + 1 ≤ f.length := by omega
      generalize ctz left = i at *
      generalize dl left (2 ^ i) = S at *
      refine ((hfg S (Sub.refl S) used wt P (by omega)).trans
        (Add.foldl (s := fun k j => wt * sft used (fun j => if (f.getD i 0 &&& S).testBit k = true then (-1) * sft 2 (ovS f (-1) (-2) d (dl S (2 ^ k))) j + onS (ovS f (-1) (-2) d) f f.length i S (-2) 7 k k (2 ^ k) j else 0) j)
          (m := fun k j => sft used (fun j => if (f.getD i 0 &&& S).testBit k = true then 1 * sft 2 (ovS f 1 1 d (dl S (2 ^ k))) j + onS (ovS f 1 1 d) f f.length i S 1 7 k k (2 ^ k) j else 0) j)
          (List.range f.length) _ fun P k hk => ?_)).congr (fun j => ?_) (fun j => ?_)
      · by_cases c : (f.getD i 0 &&& S).testBit k = true
        · rw [if_pos c]
          have c' := c
          rw [Nat.testBit_and, Bool.and_eq_true] at c'
          have hk7 : k < 7 := by have := List.mem_range.1 hk; omega
          have hpk := pc_del c'.2 hk7
          have h1 := hfg (dl S (2 ^ k)) (sub_dl _ _) (used + 2) (-wt) P (by omega)
          have h2 := ring_get (f := f) (n := f.length) (i := i) (S := S) (used := used) (wt := wt) hn hS hfg hu' 7 k k 0 (figP f f.length d (dl S (2 ^ k)) (used + 2) (-wt) P) hk7 (fun j h => by simp at h) c'.2 (by simp)
          have e0 : dl S 0 = S := by unfold dl; simp
          rw [if_pos rfl, e0, show pc 0 + 2 = 2 from by decide] at h2
          refine (h1.trans h2).congr (fun j => ?_) (fun j => ?_)
          · have e1 : ∀ j, clS (ovS f (-1) (-2) d) f i S (-2) k 0 k j = 0 := fun j => by unfold clS; rw [if_neg (by omega)]
            have e2 : (fun j => clS (ovS f (-1) (-2) d) f i S (-2) k 0 k j + onS (ovS f (-1) (-2) d) f f.length i S (-2) 7 k (if 0 = 0 then k else k) (0 ||| 2 ^ k) j) = onS (ovS f (-1) (-2) d) f f.length i S (-2) 7 k k (2 ^ k) := by
              funext j; rw [e1, if_pos rfl, Nat.zero_or, Int.zero_add]
            have e3 : (fun j => if (f.getD i 0 &&& S).testBit k = true then (-1) * sft 2 (ovS f (-1) (-2) d (dl S (2 ^ k))) j + onS (ovS f (-1) (-2) d) f f.length i S (-2) 7 k k (2 ^ k) j else 0) = fun j => (-1) * sft 2 (ovS f (-1) (-2) d (dl S (2 ^ k))) j + onS (ovS f (-1) (-2) d) f f.length i S (-2) 7 k k (2 ^ k) j := by
              funext j; rw [if_pos c]
            simp only [if_pos] at e2
            rw [e2, e3, sft_add, sft_mul, sft_sft, Int.mul_add, ← Int.mul_assoc, Int.mul_neg, Int.mul_one]
          · have e1 : ∀ j, clS (ovS f 1 1 d) f i S 1 k 0 k j = 0 := fun j => by unfold clS; rw [if_neg (by omega)]
            have e2 : (fun j => clS (ovS f 1 1 d) f i S 1 k 0 k j + onS (ovS f 1 1 d) f f.length i S 1 7 k (if 0 = 0 then k else k) (0 ||| 2 ^ k) j) = onS (ovS f 1 1 d) f f.length i S 1 7 k k (2 ^ k) := by
              funext j; rw [e1, if_pos rfl, Nat.zero_or, Int.zero_add]
            have e3 : (fun j => if (f.getD i 0 &&& S).testBit k = true then 1 * sft 2 (ovS f 1 1 d (dl S (2 ^ k))) j + onS (ovS f 1 1 d) f f.length i S 1 7 k k (2 ^ k) j else 0) = fun j => 1 * sft 2 (ovS f 1 1 d (dl S (2 ^ k))) j + onS (ovS f 1 1 d) f f.length i S 1 7 k k (2 ^ k) j := by
              funext j; rw [if_pos c]
            simp only [if_pos] at e2
            rw [e2, e3, sft_add, sft_mul, sft_sft, Int.one_mul]
        · rw [if_neg c]
          refine (Add.refl _ P).congr (fun j => ?_) (fun j => ?_)
          · rw [sft_congr (q := fun _ => 0) (fun j => if_neg c)]; simp [sft]
          · rw [sft_congr (q := fun _ => 0) (fun j => if_neg c)]; simp [sft]
      · have : ∀ j, onS (ovS f (-1) (-2) d) f f.length i S (-2) 8 i 0 0 j = sumZ (List.range f.length) (fun k => if (f.getD i 0 &&& S).testBit k = true then onS (ovS f (-1) (-2) d) f f.length i S (-2) 7 k k (2 ^ k) j else 0) := fun j => by
          rw [onS]
          refine sumZ_congr fun k _ => ?_
          have e0 : dl (f.getD i 0 &&& S) 0 = f.getD i 0 &&& S := by unfold dl; simp
          rw [e0]
          split
          · unfold clS; rw [if_neg (by omega), if_pos rfl, Nat.zero_or, Int.zero_add]
          · rfl
        rw [sumZ_mul, ← sft_sum, ← Int.mul_add, ← sft_add]
        congr 1
        refine sft_congr (fun j => ?_) j
        rw [this, Int.add_assoc, ← sumZ_add]
        congr 1
        refine sumZ_congr fun k _ => ?_
        split <;> simp
      · have : ∀ j, onS (ovS f 1 1 d) f f.length i S 1 8 i 0 0 j = sumZ (List.range f.length) (fun k => if (f.getD i 0 &&& S).testBit k = true then onS (ovS f 1 1 d) f f.length i S 1 7 k k (2 ^ k) j else 0) := fun j => by
          rw [onS]
          refine sumZ_congr fun k _ => ?_
          have e0 : dl (f.getD i 0 &&& S) 0 = f.getD i 0 &&& S := by unfold dl; simp
          rw [e0]
          split
          · unfold clS; rw [if_neg (by omega), if_pos rfl, Nat.zero_or, Int.zero_add]
          · rfl
        rw [← sft_sum, ← sft_add]
        refine sft_congr (fun j => ?_) j
        rw [this, Int.add_assoc, ← sumZ_add]
        congr 1
        refine sumZ_congr fun k _ => ?_
        split <;> simp
end
end Go.X
