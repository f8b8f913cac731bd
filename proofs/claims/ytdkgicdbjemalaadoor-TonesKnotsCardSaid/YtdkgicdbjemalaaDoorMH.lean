import Derived.Test.YtdkgicdbjemalaaDoorMG
import Derived.Test.YtdkgicdbjemalaaDoorQB
import Derived.Test.YtdkgicdbjemalaaDoorME
/-! Tones: sums over figures: what is added (the closure 'more'). -/
set_option linter.unusedSimpArgs false
set_option linter.unusedVariables false
set_option maxHeartbeats 2000000
set_option maxRecDepth 10000
namespace Go.X
open Go Go.RowKit

/-! ### Sets -/
/-- a without b. -/
def dl (a b : Nat) : Nat := a &&& (a ^^^ b)
theorem dl_bit (a b j : Nat) : (dl a b).testBit j = (a.testBit j && !b.testBit j) := by
  unfold dl
  rw [Nat.testBit_and, Nat.testBit_xor]
  cases a.testBit j <;> cases b.testBit j <;> rfl
theorem dl_le (a b : Nat) : dl a b ≤ a := Nat.and_le_left

def pc (a : Nat) : Nat := ((List.range 7).filter fun j => a.testBit j).length

theorem filt_le {p q : Nat → Bool} (h : ∀ j, p j = true → q j = true) : ∀ (l : List Nat), (l.filter p).length ≤ (l.filter q).length
  | [] => Nat.le_refl _
  | x :: l => by
    have ih := filt_le h l
    cases hp : p x with
    | true => rw [List.filter_cons_of_pos hp, List.filter_cons_of_pos (h x hp)]; simpa using ih
    | false =>
      rw [List.filter_cons_of_neg (by simp [hp])]
      cases hq : q x with
      | true => rw [List.filter_cons_of_pos hq]; simp; omega
      | false => rw [List.filter_cons_of_neg (by simp [hq])]; exact ih

theorem filt_lt {p q : Nat → Bool} (h : ∀ j, p j = true → q j = true) {k : Nat} (hk : p k = false ∧ q k = true) : ∀ (l : List Nat), k ∈ l → (l.filter p).length < (l.filter q).length
  | x :: l, hm => by
    rcases List.mem_cons.1 hm with rfl | hm
    · rw [List.filter_cons_of_neg (by simp [hk.1]), List.filter_cons_of_pos hk.2]
      have := filt_le h l
      simp; omega
    · have ih := filt_lt h hk l hm
      cases hp : p x with
      | true => rw [List.filter_cons_of_pos hp, List.filter_cons_of_pos (h x hp)]; simpa using ih
      | false =>
        rw [List.filter_cons_of_neg (by simp [hp])]
        cases hq : q x with
        | true => rw [List.filter_cons_of_pos hq]; simp; omega
        | false => rw [List.filter_cons_of_neg (by simp [hq])]; exact ih

theorem pc_le {a b : Nat} (h : ∀ j, b.testBit j = true → a.testBit j = true) : pc b ≤ pc a := filt_le h _
theorem pc_lt {a b k : Nat} (h : ∀ j, b.testBit j = true → a.testBit j = true) (hk : k < 7) (h1 : b.testBit k = false) (h2 : a.testBit k = true) : pc b < pc a := filt_lt h ⟨h1, h2⟩ _ (List.mem_range.2 hk)
theorem pc_dl (a b : Nat) : pc (dl a b) ≤ pc a := pc_le fun j h => by rw [dl_bit] at h; simp at h; exact h.1

theorem sh_bit (a k : Nat) : sh (a : Int) k % 2 = if a.testBit k then 1 else 0 := by
  have h : sh (a : Int) k = ((a >>> k : Nat) : Int) := by
    unfold sh
    rw [Int.fdiv_eq_ediv_of_nonneg _ (Int.le_of_lt (Int.pow_pos (by decide))), Nat.shiftRight_eq_div_pow]
    simp
  rw [h, Nat.testBit, Nat.and_comm, Nat.and_one_is_mod]
  split
  · rename_i hh
    simp at hh
    omega
  · rename_i hh
    simp at hh
    omega
theorem sh_beq (a k : Nat) : (sh (a : Int) k % 2 == 1) = a.testBit k := by
  rw [sh_bit]; cases a.testBit k <;> rfl
theorem sh_beq0 (a k : Nat) : (sh (a : Int) k % 2 == 0) = !a.testBit k := by
  rw [sh_bit]; cases a.testBit k <;> rfl

/-! ### Numbers that wrap -/
abbrev wr (x : Int) : Int := IntKind.wrap .i64 x
abbrev vW (x : Int) : AV := vI (wr x)
theorem wr_add (a b : Int) : wr (wr a + wr b) = wr (a + b) := by
  simp only [wr, IntKind.wrap_i64]; omega
theorem wr_wr (a : Int) : wr (wr a) = wr a := by
  simp only [wr, IntKind.wrap_i64]; omega

/-- What a figure's part counts. -/
def cm (c : Nat) : Int := if c = 139 ∨ c = 141 then -1 else if c = 140 then -2 else if c = 142 then 0 else 1

section
variable {Y : Run} {H : Heap}

theorem fn_part {c : Nat} (hc : c = 139 ∨ c = 140 ∨ c = 141 ∨ c = 142 ∨ c = 143 ∨ c = 144) (x : Int) : freeX H (callL ET Y c [vW x] []) = some (vW (cm c * x), H) := by
  rcases hc with rfl | rfl | rfl | rfl | rfl | rfl
  · rw [call139 rfl]
    have : IntKind.wrap .i64 (0 - wr x) = wr (cm 139 * x) := by simp only [cm, wr, IntKind.wrap_i64]; simp; omega
    simp only [F139B, SS, insA, wantedA, Opd.ev, putA, binA, eqbA, unA, fldA, partA, reduceIte, reduceCtorEq, Nat.reduceMod, Nat.reduceDiv, Nat.reduceBEq, resultA, resA, vI, Nat.reduceMul, Nat.reduceAdd, Nat.reduceSub, Nat.reduceEqDiff, Nat.reduceLT, Nat.reducePow, Nat.reduceLeDiff, st, Option.bind_eq_bind, Option.pure_def, List.length_nil, Int.cast_ofNat_Int, List.reverse_nil, UU, idxP, cellsAt, storeA, fillA, zerosA, putAll, optNat, sliceA, row, Int.reduceLT, Int.reduceLE, Int.reduceGT, Int.reduceGE, Int.reduceEq, Int.reduceNe, Int.reduceToNat, Int.reduceBEq, Int.reduceBNe, Nat.reduceLeDiff, Nat.reduceLT, Nat.reduceBNe, Nat.reduceGT, List.drop_nil, List.take_nil, Option.isSome_none, Int.ofNat_one, Int.ofNat_zero, this]
  · rw [call140 rfl]
    have : IntKind.wrap .i64 (-2 * wr x) = wr (cm 140 * x) := by simp only [cm, wr, IntKind.wrap_i64]; simp; omega
    simp only [F140B, SS, insA, wantedA, Opd.ev, putA, binA, eqbA, unA, fldA, partA, reduceIte, reduceCtorEq, Nat.reduceMod, Nat.reduceDiv, Nat.reduceBEq, resultA, resA, vI, Nat.reduceMul, Nat.reduceAdd, Nat.reduceSub, Nat.reduceEqDiff, Nat.reduceLT, Nat.reducePow, Nat.reduceLeDiff, st, Option.bind_eq_bind, Option.pure_def, List.length_nil, Int.cast_ofNat_Int, List.reverse_nil, UU, idxP, cellsAt, storeA, fillA, zerosA, putAll, optNat, sliceA, row, Int.reduceLT, Int.reduceLE, Int.reduceGT, Int.reduceGE, Int.reduceEq, Int.reduceNe, Int.reduceToNat, Int.reduceBEq, Int.reduceBNe, Nat.reduceLeDiff, Nat.reduceLT, Nat.reduceBNe, Nat.reduceGT, List.drop_nil, List.take_nil, Option.isSome_none, Int.ofNat_one, Int.ofNat_zero, this]
  · rw [call141 rfl]
    have : IntKind.wrap .i64 (0 - wr x) = wr (cm 141 * x) := by simp only [cm, wr, IntKind.wrap_i64]; simp; omega
    simp only [F141B, SS, insA, wantedA, Opd.ev, putA, binA, eqbA, unA, fldA, partA, reduceIte, reduceCtorEq, Nat.reduceMod, Nat.reduceDiv, Nat.reduceBEq, resultA, resA, vI, Nat.reduceMul, Nat.reduceAdd, Nat.reduceSub, Nat.reduceEqDiff, Nat.reduceLT, Nat.reducePow, Nat.reduceLeDiff, st, Option.bind_eq_bind, Option.pure_def, List.length_nil, Int.cast_ofNat_Int, List.reverse_nil, UU, idxP, cellsAt, storeA, fillA, zerosA, putAll, optNat, sliceA, row, Int.reduceLT, Int.reduceLE, Int.reduceGT, Int.reduceGE, Int.reduceEq, Int.reduceNe, Int.reduceToNat, Int.reduceBEq, Int.reduceBNe, Nat.reduceLeDiff, Nat.reduceLT, Nat.reduceBNe, Nat.reduceGT, List.drop_nil, List.take_nil, Option.isSome_none, Int.ofNat_one, Int.ofNat_zero, this]
  · rw [call142 rfl]
    have : wr (cm 142 * x) = 0 := by simp [cm, wr, IntKind.wrap_i64]
    simp only [F142B, SS, insA, wantedA, Opd.ev, putA, binA, eqbA, unA, fldA, partA, reduceIte, reduceCtorEq, Nat.reduceMod, Nat.reduceDiv, Nat.reduceBEq, resultA, resA, vI, Nat.reduceMul, Nat.reduceAdd, Nat.reduceSub, Nat.reduceEqDiff, Nat.reduceLT, Nat.reducePow, Nat.reduceLeDiff, st, Option.bind_eq_bind, Option.pure_def, List.length_nil, Int.cast_ofNat_Int, List.reverse_nil, UU, idxP, cellsAt, storeA, fillA, zerosA, putAll, optNat, sliceA, row, Int.reduceLT, Int.reduceLE, Int.reduceGT, Int.reduceGE, Int.reduceEq, Int.reduceNe, Int.reduceToNat, Int.reduceBEq, Int.reduceBNe, Nat.reduceLeDiff, Nat.reduceLT, Nat.reduceBNe, Nat.reduceGT, List.drop_nil, List.take_nil, Option.isSome_none, Int.ofNat_one, Int.ofNat_zero, vW, this]
  · rw [call143 rfl]
    have : wr (cm 143 * x) = wr x := by simp [cm]
    simp only [F143B, SS, insA, wantedA, Opd.ev, putA, binA, eqbA, unA, fldA, partA, reduceIte, reduceCtorEq, Nat.reduceMod, Nat.reduceDiv, Nat.reduceBEq, resultA, resA, vI, Nat.reduceMul, Nat.reduceAdd, Nat.reduceSub, Nat.reduceEqDiff, Nat.reduceLT, Nat.reducePow, Nat.reduceLeDiff, st, Option.bind_eq_bind, Option.pure_def, List.length_nil, Int.cast_ofNat_Int, List.reverse_nil, UU, idxP, cellsAt, storeA, fillA, zerosA, putAll, optNat, sliceA, row, Int.reduceLT, Int.reduceLE, Int.reduceGT, Int.reduceGE, Int.reduceEq, Int.reduceNe, Int.reduceToNat, Int.reduceBEq, Int.reduceBNe, Nat.reduceLeDiff, Nat.reduceLT, Nat.reduceBNe, Nat.reduceGT, List.drop_nil, List.take_nil, Option.isSome_none, Int.ofNat_one, Int.ofNat_zero, vW, this]
  · rw [call144 rfl]
    have : wr (cm 144 * x) = wr x := by simp [cm]
    simp only [F144B, SS, insA, wantedA, Opd.ev, putA, binA, eqbA, unA, fldA, partA, reduceIte, reduceCtorEq, Nat.reduceMod, Nat.reduceDiv, Nat.reduceBEq, resultA, resA, vI, Nat.reduceMul, Nat.reduceAdd, Nat.reduceSub, Nat.reduceEqDiff, Nat.reduceLT, Nat.reducePow, Nat.reduceLeDiff, st, Option.bind_eq_bind, Option.pure_def, List.length_nil, Int.cast_ofNat_Int, List.reverse_nil, UU, idxP, cellsAt, storeA, fillA, zerosA, putAll, optNat, sliceA, row, Int.reduceLT, Int.reduceLE, Int.reduceGT, Int.reduceGE, Int.reduceEq, Int.reduceNe, Int.reduceToNat, Int.reduceBEq, Int.reduceBNe, Nat.reduceLeDiff, Nat.reduceLT, Nat.reduceBNe, Nat.reduceGT, List.drop_nil, List.take_nil, Option.isSome_none, Int.ofNat_one, Int.ofNat_zero, vW, this]

/-! ### The list that is added to -/
def adL (out : List Int) (k : Nat) (x : Int) : List Int := (out ++ List.replicate (k + 1 - out.length) 0).set k ((out ++ List.replicate (k + 1 - out.length) 0).getD k 0 + x)
def morL (c : Int) : List Int → Nat → List Int → List Int
  | out, _, [] => out
  | out, j, x :: l => morL c (adL out j (c * x)) (j + 1) l

theorem adL_len (out : List Int) (k : Nat) (x : Int) : (adL out k x).length = max out.length (k + 1) := by
  unfold adL; simp; omega

/-- The list 'out' in the heap, behind its box; other objects stand. -/
structure Out (fz : List (Nat × Ob)) (a8 j0 : Nat) (H : Heap) (out : List Int) : Prop where
  st : ∀ p ∈ fz, H[p.1]? = some p.2
  ap : ∀ p ∈ fz, p.1 ≠ a8 ∧ p.1 ≠ j0
  ne : a8 ≠ j0
  out : ∃ ver, H[a8]? = some ⟨0, [.sl j0 ver 1 0 out.length none]⟩ ∧ H[j0]? = some ⟨ver, out.map vW⟩

theorem Out.to {fz : List (Nat × Ob)} {a8 j0 : Nat} {H' : Heap} {out out' : List Int} (h : Out fz a8 j0 H out) (hs : ∀ i, i < H.length → i ≠ a8 → i ≠ j0 → H'[i]? = H[i]?) {ver : Nat} (h8 : H'[a8]? = some ⟨0, [.sl j0 ver 1 0 out'.length none]⟩) (h0 : H'[j0]? = some ⟨ver, out'.map vW⟩) : Out fz a8 j0 H' out' :=
  ⟨fun p hp => (hs p.1 (hlt_of (h.st p hp)) (h.ap p hp).1 (h.ap p hp).2).trans (h.st p hp), h.ap, h.ne, ver, h8, h0⟩

theorem Out.mono {fz fz' : List (Nat × Ob)} {a8 j0 : Nat} {out : List Int} (h : Out fz a8 j0 H out) (hf : ∀ p ∈ fz', p ∈ fz) : Out fz' a8 j0 H out := ⟨fun p hp => h.st p (hf p hp), fun p hp => h.ap p (hf p hp), h.ne, h.out⟩

theorem app_one {j0 ver L : Nat} {cells : List AV} (h : H[j0]? = some ⟨ver, cells⟩) (hl : cells.length = L) (hb : L ≤ 1000) :
    appA (H ++ [(⟨0, [vI 0]⟩ : Ob)]) 1 8 (.sl j0 ver 1 0 L none) (.sl H.length 0 1 0 1 none) = some (.sl j0 (ver + 1) 1 0 (L + 1) none, (H ++ [(⟨0, [vI 0]⟩ : Ob)]).set j0 ⟨ver + 1, cells ++ [vI 0]⟩) := by
  have h1 : (H ++ [(⟨0, [vI 0]⟩ : Ob)])[j0]? = some ⟨ver, cells⟩ := by rw [List.getElem?_append_left (hlt_of h)]; exact h
  have h2 : (H ++ [(⟨0, [vI 0]⟩ : Ob)])[H.length]? = some ⟨0, [vI 0]⟩ := get_last
  have e1 : (L + 1) * 8 ≤ 140737488355328 := by omega
  have e2 : L + 1 ≤ 9223372036854775807 := by omega
  simp [appA, lenA, content, h1, h2, hl, e1, e2, one]

theorem L92_0 {fz : List (Nat × Ob)} {a8 j0 : Nat} {va vb lv of' vx : AV} {k kn : Nat} (hk : k + kn ≤ 100) (d : Nat) : ∀ {H : Heap} {out : List Int}, Out fz a8 j0 H out → k + kn + 1 - out.length = d →
    ∃ H', lp ET Y F92L0 (sp 37 [(11, va), (10, vb), (9, lv), (8, vx), (7, vI k), (3, .ptr a8 0 0), (2, of'), (0, vI kn)]) H = some (.x 2, sp 37 [(11, va), (10, vb), (9, lv), (8, vx), (7, vI k), (3, .ptr a8 0 0), (2, of'), (0, vI kn)], H') ∧
      Out fz a8 j0 H' (out ++ List.replicate d 0) ∧ H.length ≤ H'.length := by
  have hw : IntKind.wrap .i64 ((k : Int) + (kn : Int)) = ((k + kn : Nat) : Int) := by rw [wrap_id (by omega) (by omega)]; simp
  induction d with
  | zero =>
    intro H out h hd
    obtain ⟨ver, h8, h0⟩ := h.out
    refine ⟨H, ?_, by simpa using h, Nat.le_refl _⟩
    rw [un92_0]
    have c : ¬ ((out.length : Int) ≤ ((k + kn : Nat) : Int)) := by omega
    simp only [F92L0b, SS, insA, wantedA, Opd.ev, putA, binA, eqbA, unA, fldA, partA, reduceIte, reduceCtorEq, Nat.reduceMod, Nat.reduceDiv, Nat.reduceBEq, resultA, resA, vI, Nat.reduceMul, Nat.reduceAdd, Nat.reduceSub, Nat.reduceEqDiff, Nat.reduceLT, Nat.reducePow, Nat.reduceLeDiff, st, Option.bind_eq_bind, Option.pure_def, List.length_nil, Int.cast_ofNat_Int, List.reverse_nil, UU, idxP, cellsAt, storeA, fillA, zerosA, putAll, optNat, sliceA, row, Int.reduceLT, Int.reduceLE, Int.reduceGT, Int.reduceGE, Int.reduceEq, Int.reduceNe, Int.reduceToNat, Int.reduceBEq, Int.reduceBNe, Nat.reduceLeDiff, Nat.reduceLT, Nat.reduceBNe, Nat.reduceGT, List.drop_nil, List.take_nil, Option.isSome_none, Int.ofNat_one, Int.ofNat_zero, h8, hw, c]
  | succ d ih =>
    intro H out h hd
    obtain ⟨ver, h8, h0⟩ := h.out
    have c : (out.length : Int) ≤ ((k + kn : Nat) : Int) := by omega
    have e0 := app_one (L := out.length) h0 (by simp) (by omega)
    have l8 := hlt_of h8
    have l0 := hlt_of h0
    have g8 : ((H ++ [(⟨0, [vI 0]⟩ : Ob)]).set j0 ⟨ver + 1, out.map vW ++ [vI 0]⟩)[a8]? = some ⟨0, [.sl j0 ver 1 0 out.length none]⟩ := by
      rw [List.getElem?_set_ne (Ne.symm h.ne), List.getElem?_append_left l8]; exact h8
    have hn : Out fz a8 j0 (((H ++ [(⟨0, [vI 0]⟩ : Ob)]).set j0 ⟨ver + 1, out.map vW ++ [vI 0]⟩).set a8 ⟨0, [.sl j0 (ver + 1) 1 0 (out.length + 1) none]⟩) (out ++ [0]) := by
      refine h.to (ver := ver + 1) (fun i hi n1 n2 => ?_) ?_ ?_
      · rw [List.getElem?_set_ne (Ne.symm n1), List.getElem?_set_ne (Ne.symm n2), List.getElem?_append_left hi]
      · rw [List.getElem?_set_self (by simp; omega)]; simp
      · rw [List.getElem?_set_ne h.ne, List.getElem?_set_self (by simp; omega)]; simp [vW, wr, IntKind.wrap_i64]
    obtain ⟨H', e1, e2, e3⟩ := ih hn (by simp; omega)
    refine ⟨H', ?_, by rw [List.append_assoc] at e2; exact e2, by simp at e3; omega⟩
    rw [un92_0]
    simp only [SS, insA, wantedA, Opd.ev, putA, binA, eqbA, unA, fldA, partA, reduceIte, reduceCtorEq, Nat.reduceMod, Nat.reduceDiv, Nat.reduceBEq, resultA, resA, vI, Nat.reduceMul, Nat.reduceAdd, Nat.reduceSub, Nat.reduceEqDiff, Nat.reduceLT, Nat.reducePow, Nat.reduceLeDiff, st, Option.bind_eq_bind, Option.pure_def, List.length_nil, Int.cast_ofNat_Int, List.reverse_nil] at e1
    simp only [vI] at e0 g8 e1
    simp only [F92L0b, SS, insA, wantedA, Opd.ev, putA, binA, eqbA, unA, fldA, partA, reduceIte, reduceCtorEq, Nat.reduceMod, Nat.reduceDiv, Nat.reduceBEq, resultA, resA, vI, Nat.reduceMul, Nat.reduceAdd, Nat.reduceSub, Nat.reduceEqDiff, Nat.reduceLT, Nat.reducePow, Nat.reduceLeDiff, st, Option.bind_eq_bind, Option.pure_def, List.length_nil, Int.cast_ofNat_Int, List.reverse_nil, UU, idxP, cellsAt, storeA, fillA, zerosA, putAll, optNat, sliceA, row, Int.reduceLT, Int.reduceLE, Int.reduceGT, Int.reduceGE, Int.reduceEq, Int.reduceNe, Int.reduceToNat, Int.reduceBEq, Int.reduceBNe, Nat.reduceLeDiff, Nat.reduceLT, Nat.reduceBNe, Nat.reduceGT, List.drop_nil, List.take_nil, Option.isSome_none, Int.ofNat_one, Int.ofNat_zero, h8, hw, c, get_last, e0, g8, e1]

theorem map_vW (l : List Int) : l.map vW = (l.map wr).map vI := by simp [vW]

/-- The list, with its slice held abstract. -/
theorem Out.gro {fz : List (Nat × Ob)} {a8 j0 : Nat} {out : List Int} (h : Out fz a8 j0 H out) : ∃ v, H[a8]? = some ⟨0, [v]⟩ ∧ Gro 0 1 H v out.length ((out.map wr).map vI) ∧
    ∀ i, i < out.length → ∀ y, ∃ H', storeA H 1 (gptr 1 v i) (vW y) = some H' ∧ Out fz a8 j0 H' (out.set i y) ∧ H'.length = H.length := by
  obtain ⟨ver, h8, h0⟩ := h.out
  rw [map_vW] at h0
  have hG : Gro 0 1 H (.sl j0 ver 1 0 out.length none) out.length ((out.map wr).map vI) := ⟨by simp, .inr ⟨j0, ver, Nat.zero_le _, rfl, h0⟩⟩
  refine ⟨_, h8, hG, fun i hi y => ?_⟩
  obtain ⟨id, ver', e1, e2, e3, e4⟩ := hG.store (i := i) (x := wr y) hi
  cases e1
  rw [h0] at e2
  cases e2
  refine ⟨_, e3, h.to (ver := ver) (fun k hk n1 n2 => by rw [List.getElem?_set_ne (Ne.symm n2)]) ?_ ?_, by simp⟩
  · rw [List.getElem?_set_ne (Ne.symm h.ne), h8]; simp
  · rw [List.getElem?_set_self (hlt_of h0)]; simp [map_vW, List.map_set]

/-- A list that is read. -/
def Src (fz : List (Nat × Ob)) (lv : AV) (src : List Int) : Prop := ∃ q vq, lv = .sl q vq 1 0 src.length none ∧ (q, (⟨vq, src.map vW⟩ : Ob)) ∈ fz

theorem Src.gro {fz : List (Nat × Ob)} {lv : AV} {src : List Int} (h : Src fz lv src) (hf : ∀ p ∈ fz, H[p.1]? = some p.2) : Gro 0 1 H lv src.length ((src.map wr).map vI) := by
  obtain ⟨q, vq, rfl, hm⟩ := h
  have := hf _ hm
  simp only [map_vW] at this
  exact ⟨by simp, .inr ⟨q, vq, Nat.zero_le _, rfl, this⟩⟩

theorem getD_wr {l : List Int} {i : Nat} (h : i < l.length) : ((l.map wr).map vI).getD i .undef = vW (l.getD i 0) := by
  simp [List.getD_eq_getElem?_getD, h, vW]

theorem L92_1 {fz : List (Nat × Ob)} {a8 j0 c : Nat} {lv : AV} {src : List Int} {kn : Nat} (hc : c = 139 ∨ c = 140 ∨ c = 141 ∨ c = 142 ∨ c = 143 ∨ c = 144) (hs : Src fz lv src) (hl : src.length + kn ≤ 100) (d : Nat) : ∀ {H : Heap} {out : List Int} (m : Nat), m + d = src.length → Out fz a8 j0 H out →
    ∃ H', lp ET Y F92L1 (sp 37 [(11, vI m), (10, vI src.length), (9, lv), (3, .ptr a8 0 0), (2, .fn c []), (0, vI kn)]) H = some (.x 0, sp 37 [], H') ∧
      Out fz a8 j0 H' (morL (cm c) out (m + kn) (src.drop m)) ∧ H.length ≤ H'.length := by
  induction d with
  | zero =>
    intro H out m hm h
    refine ⟨H, ?_, by rw [List.drop_eq_nil_of_le (by omega)]; exact h, Nat.le_refl _⟩
    rw [un92_1]
    have : ¬ ((m : Int) < (src.length : Int)) := by omega
    simp only [F92L1b, SS, insA, wantedA, Opd.ev, putA, binA, eqbA, unA, fldA, partA, reduceIte, reduceCtorEq, Nat.reduceMod, Nat.reduceDiv, Nat.reduceBEq, resultA, resA, vI, Nat.reduceMul, Nat.reduceAdd, Nat.reduceSub, Nat.reduceEqDiff, Nat.reduceLT, Nat.reducePow, Nat.reduceLeDiff, st, Option.bind_eq_bind, Option.pure_def, List.length_nil, Int.cast_ofNat_Int, List.reverse_nil, UU, idxP, cellsAt, fillA, zerosA, putAll, row, Int.reduceLT, Int.reduceLE, Int.reduceGT, Int.reduceGE, Int.reduceEq, Int.reduceNe, Int.reduceToNat, Int.reduceBEq, Int.reduceBNe, Nat.reduceLeDiff, Nat.reduceLT, Nat.reduceBNe, Nat.reduceGT, List.drop_nil, List.take_nil, Option.isSome_none, Int.ofNat_one, Int.ofNat_zero, this]
  | succ d ih =>
    intro H out m hm h
    have hlt : m < src.length := by omega
    have hc1 : (m : Int) < (src.length : Int) := by omega
    have hG := hs.gro h.st
    have hld := hG.load hlt
    rw [getD_wr hlt] at hld
    obtain ⟨H1, e1, h1, g1⟩ := L92_0 (Y := Y) (va := vI m) (vb := vI src.length) (lv := lv) (of' := .fn c []) (vx := vW (src.getD m 0)) (k := m) (kn := kn) (by omega) _ h rfl
    have hw : IntKind.wrap .i64 ((m : Int) + (kn : Int)) = ((m + kn : Nat) : Int) := by rw [wrap_id (by omega) (by omega)]; simp
    have hw1 := wrap_succ (n := m) (by omega)
    generalize hod : out ++ List.replicate (m + kn + 1 - out.length) 0 = od at h1
    have hlen : m + kn < od.length := by rw [← hod]; simp; omega
    obtain ⟨v, v8, vG, vs⟩ := h1.gro
    have hld1 := vG.load hlen
    rw [getD_wr hlen] at hld1
    obtain ⟨H2, e2, h2, g2⟩ := vs (m + kn) hlen (od.getD (m + kn) 0 + cm c * src.getD m 0)
    have hf := fun H => fn_part (Y := Y) (H := H) hc (src.getD m 0)
    have ha := wr_add (od.getD (m + kn) 0) (cm c * src.getD m 0)
    obtain ⟨H', e3, h3, g3⟩ := ih (m + 1) (by omega) h2
    refine ⟨H', ?_, ?_, by omega⟩
    · rw [un92_1]
      simp only [vW, wr, SS, insA, wantedA, Opd.ev, putA, binA, eqbA, unA, fldA, partA, reduceIte, reduceCtorEq, Nat.reduceMod, Nat.reduceDiv, Nat.reduceBEq, resultA, resA, vI, Nat.reduceMul, Nat.reduceAdd, Nat.reduceSub, Nat.reduceEqDiff, Nat.reduceLT, Nat.reducePow, Nat.reduceLeDiff, st, Option.bind_eq_bind, Option.pure_def, List.length_nil, Int.cast_ofNat_Int, List.reverse_nil] at e1 e2 e3 hld hld1 hf ha
      simp only [F92L1b, F92T0, F92T1, in92_0, SS, insA, wantedA, Opd.ev, putA, binA, eqbA, unA, fldA, partA, reduceIte, reduceCtorEq, Nat.reduceMod, Nat.reduceDiv, Nat.reduceBEq, resultA, resA, vI, Nat.reduceMul, Nat.reduceAdd, Nat.reduceSub, Nat.reduceEqDiff, Nat.reduceLT, Nat.reducePow, Nat.reduceLeDiff, st, Option.bind_eq_bind, Option.pure_def, List.length_nil, Int.cast_ofNat_Int, List.reverse_nil, UU, idxP, cellsAt, fillA, zerosA, putAll, row, Int.reduceLT, Int.reduceLE, Int.reduceGT, Int.reduceGE, Int.reduceEq, Int.reduceNe, Int.reduceToNat, Int.reduceBEq, Int.reduceBNe, Nat.reduceLeDiff, Nat.reduceLT, Nat.reduceBNe, Nat.reduceGT, List.drop_nil, List.take_nil, Option.isSome_none, Int.ofNat_one, Int.ofNat_zero, hc1, hG.idx hlt, hld, e1, v8, hw, vG.idx hlen, hld1, hf, ha, e2, hw1, e3, List.append_nil, snap_int]
    · have hmor : morL (cm c) out (m + kn) (src.drop m) = morL (cm c) (od.set (m + kn) (od.getD (m + kn) 0 + cm c * src.getD m 0)) (m + 1 + kn) (src.drop (m + 1)) := by
        rw [List.drop_eq_getElem_cons hlt]
        simp only [morL]
        have : src.getD m 0 = src[m] := getD_get hlt
        rw [this, ← hod, show m + kn + 1 = m + 1 + kn by omega]
        unfold adL
        rw [show m + kn + 1 = m + 1 + kn by omega]
      rw [hmor]; exact h3

/-- The closure 'more': a list is added, so many knots on. -/
theorem more92 {fz : List (Nat × Ob)} {a8 j0 c : Nat} {lv : AV} {src out : List Int} {kn : Nat} (hc : c = 139 ∨ c = 140 ∨ c = 141 ∨ c = 142 ∨ c = 143 ∨ c = 144) (hs : Src fz lv src) (hl : src.length + kn ≤ 100) (h : Out fz a8 j0 H out) :
    ∃ H', callL ET Y 92 [vI kn, lv, .fn c [], .ptr a8 0 0] H = some (.tup [], H') ∧ Out fz a8 j0 H' (morL (cm c) out kn src) ∧ H.length ≤ H'.length := by
  obtain ⟨H', e1, h1, g1⟩ := L92_1 (Y := Y) hc hs hl src.length 0 (by omega) h
  have hG := hs.gro h.st
  refine ⟨H', ?_, by simpa using h1, g1⟩
  rw [call92 rfl]
  simp only [SS, insA, wantedA, Opd.ev, putA, binA, eqbA, unA, fldA, partA, reduceIte, reduceCtorEq, Nat.reduceMod, Nat.reduceDiv, Nat.reduceBEq, resultA, resA, vI, Nat.reduceMul, Nat.reduceAdd, Nat.reduceSub, Nat.reduceEqDiff, Nat.reduceLT, Nat.reducePow, Nat.reduceLeDiff, st, Option.bind_eq_bind, Option.pure_def, List.length_nil, Int.cast_ofNat_Int, List.reverse_nil, Int.ofNat_zero] at e1
  simp only [F92B, in92_1, SS, insA, wantedA, Opd.ev, putA, binA, eqbA, unA, fldA, partA, reduceIte, reduceCtorEq, Nat.reduceMod, Nat.reduceDiv, Nat.reduceBEq, resultA, resA, vI, Nat.reduceMul, Nat.reduceAdd, Nat.reduceSub, Nat.reduceEqDiff, Nat.reduceLT, Nat.reducePow, Nat.reduceLeDiff, st, Option.bind_eq_bind, Option.pure_def, List.length_nil, Int.cast_ofNat_Int, List.reverse_nil, UU, idxP, cellsAt, fillA, zerosA, putAll, row, Int.reduceLT, Int.reduceLE, Int.reduceGT, Int.reduceGE, Int.reduceEq, Int.reduceNe, Int.reduceToNat, Int.reduceBEq, Int.reduceBNe, Nat.reduceLeDiff, Nat.reduceLT, Nat.reduceBNe, Nat.reduceGT, List.drop_nil, List.take_nil, Option.isSome_none, Int.ofNat_one, Int.ofNat_zero, hG.len, e1, endX, List.mapM_nil]
end
end Go.X
