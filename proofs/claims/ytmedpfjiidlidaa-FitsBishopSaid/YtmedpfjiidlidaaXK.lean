import Derived.Test.YtmedpfjiidlidaaXJ
/-! Which mixtures last. -/
set_option linter.unusedSimpArgs false
set_option linter.unusedVariables false
namespace Go.X
open Go Go.RowKit
section
variable {Y : Run} {H : Heap}

/-- What a table holds at a place. -/
def tat (t : List (List Int)) (i k : Nat) : Int := (t.getD i []).getD k 0
/-- The form of two changes from i, to k and to l. -/
def formS (t : List (List Int)) (i k l : Nat) : Int := tat t k l - tat t k i - tat t i l + tat t i i

theorem tat_bound {t : List (List Int)} (h : okTab t) {i k : Nat} (hi : i < t.length) (hk : k < t.length) : -20 ≤ tat t i k ∧ tat t i k ≤ 20 := by
  have hr := h.rows t[i] (by simp)
  have hk' : k < t[i].length := by omega
  have := h.tame t[i] (by simp) t[i][k] (by simp)
  simpa [tat, List.getD_eq_getElem?_getD, hi, hk'] using this

/-- Reading a table's place. -/
theorem tab_read {vt : AV} {t : List (List Int)} (ht : IsTab vt t) (h : okTab t) {i k : Nat} (hi : i < t.length) (hk : k < t.length) :
    idxA 1 vt (.int .i64 i) = some (ptrAt vt i) ∧ (∀ H, loadA H none (ptrAt vt i) = some (cellAt vt i)) ∧ idxA 1 (cellAt vt i) (.int .i64 k) = some (ptrAt (cellAt vt i) k) ∧ ∀ H, loadA H none (ptrAt (cellAt vt i) k) = some (.int .i64 (tat t i k)) := by
  have hr := h.rows t[i] (by simp)
  have hrow := ht.row hi
  have hg : t.getD i [] = t[i] := by simp [List.getD_eq_getElem?_getD, hi]
  rw [hg] at hrow
  refine ⟨ht.idx hi, fun H => ht.load hi, hrow.idx (by omega), fun H => ?_⟩
  rw [hrow.load (by omega), tat, hg]

theorem form70 {vt : AV} {t : List (List Int)} (ht : IsTab vt t) (h : okTab t) {i k l : Nat} (hi : i < t.length) (hk : k < t.length) (hl : l < t.length) :
    freeX H (callL E Y 70 [vt, vI i, vI k, vI l] []) = some (vI (formS t i k l), H) := by
  obtain ⟨a1, a2, a3, a4⟩ := tab_read ht h hk hl
  obtain ⟨b1, b2, b3, b4⟩ := tab_read ht h hk hi
  obtain ⟨c1, c2, c3, c4⟩ := tab_read ht h hi hl
  obtain ⟨d1, d2, d3, d4⟩ := tab_read ht h hi hi
  have e1 := tat_bound h hk hl
  have e2 := tat_bound h hk hi
  have e3 := tat_bound h hi hl
  have e4 := tat_bound h hi hi
  have w1 : IntKind.wrap .i64 (tat t k l - tat t k i) = tat t k l - tat t k i := wrap_id (by omega) (by omega)
  have w2 : IntKind.wrap .i64 (tat t k l - tat t k i - tat t i l) = tat t k l - tat t k i - tat t i l := wrap_id (by omega) (by omega)
  have w3 : IntKind.wrap .i64 (tat t k l - tat t k i - tat t i l + tat t i i) = tat t k l - tat t k i - tat t i l + tat t i i := wrap_id (by omega) (by omega)
  rw [call70 rfl]
  simp only [F70, F70B, SS, insA, wantedA, Opd.ev, putA, binA, eqbA, unA, fldA, partA, reduceIte, reduceCtorEq, Nat.reduceMod, Nat.reduceDiv, Nat.reduceBEq, resultA, resA, vI, Nat.reduceMul, Nat.reduceAdd, Nat.reduceSub, Nat.reduceEqDiff, Nat.reduceLT, Nat.reducePow, Nat.reduceLeDiff, st, Option.bind_eq_bind, Option.pure_def, List.length_nil, Int.cast_ofNat_Int, List.reverse_nil, a1, a2, a3, a4, b1, b2, b3, b4, c1, c2, c3, c4, d1, d2, d3, d4, w1, w2, w3, formS]

/-- What one gains more, by a change from one fashion. -/
def gainW (t : List (List Int)) (f a b : Nat) : Int := tat t a b - tat t a f - tat t f b + tat t f f

theorem load_0 {c : AV} {R : Heap} : loadA (⟨0, [c]⟩ :: R) none (.ptr 0 0 0) = some c := rfl
theorem load_1 {o : Ob} {c : AV} {R : Heap} : loadA (o :: ⟨0, [c]⟩ :: R) none (.ptr 1 0 0) = some c := rfl

theorem c72 {vt : AV} {t : List (List Int)} (ht : IsTab vt t) (h : okTab t) {f a b : Nat} (hf : f < t.length) (ha : a < t.length) (hb : b < t.length) :
    callL E Y 72 [vI a, vI b, .ptr 0 0 0, .ptr 1 0 0] [⟨0, [vt]⟩, ⟨0, [vI f]⟩] = some (vI (gainW t f a b), [⟨0, [vt]⟩, ⟨0, [vI f]⟩]) := by
  obtain ⟨a1, a2, a3, a4⟩ := tab_read ht h ha hb
  obtain ⟨b1, b2, b3, b4⟩ := tab_read ht h ha hf
  obtain ⟨c1, c2, c3, c4⟩ := tab_read ht h hf hb
  obtain ⟨d1, d2, d3, d4⟩ := tab_read ht h hf hf
  have e1 := tat_bound h ha hb
  have e2 := tat_bound h ha hf
  have e3 := tat_bound h hf hb
  have e4 := tat_bound h hf hf
  have w1 : IntKind.wrap .i64 (tat t a b - tat t a f) = tat t a b - tat t a f := wrap_id (by omega) (by omega)
  have w2 : IntKind.wrap .i64 (tat t a b - tat t a f - tat t f b) = tat t a b - tat t a f - tat t f b := wrap_id (by omega) (by omega)
  have w3 : IntKind.wrap .i64 (tat t a b - tat t a f - tat t f b + tat t f f) = tat t a b - tat t a f - tat t f b + tat t f f := wrap_id (by omega) (by omega)
  rw [call72 rfl]
  simp only [F72, F72B, SS, insA, wantedA, Opd.ev, putA, binA, eqbA, unA, fldA, partA, reduceIte, reduceCtorEq, Nat.reduceMod, Nat.reduceDiv, Nat.reduceBEq, resultA, resA, vI, Nat.reduceMul, Nat.reduceAdd, Nat.reduceSub, Nat.reduceEqDiff, Nat.reduceLT, Nat.reducePow, Nat.reduceLeDiff, st, Option.bind_eq_bind, Option.pure_def, List.length_nil, Int.cast_ofNat_Int, List.reverse_nil, load_0, load_1, a1, a2, a3, a4, b1, b2, b3, b4, c1, c2, c3, c4, d1, d2, d3, d4, w1, w2, w3, gainW]

def wayS (t : List (List Int)) (f i k : Nat) : Int := gainW t f i k + gainW t f k i

theorem IsTab.cells {v : AV} {t : List (List Int)} (h : IsTab v t) : isU v = false ∧ cellsOf v = [v] := by cases h <;> exact ⟨rfl, rfl⟩

theorem way68 {vt : AV} {t : List (List Int)} (ht : IsTab vt t) (h : okTab t) {f i k : Nat} (hf : f < t.length) (hi : i < t.length) (hk : k < t.length) :
    freeX H (callL E Y 68 [vt, vI f, vI i, vI k] []) = some (vI (wayS t f i k), H) := by
  have h1 := c72 (Y := Y) ht h hf hi hk
  have h2 := c72 (Y := Y) ht h hf hk hi
  have e1 := tat_bound h hi hk
  have e2 := tat_bound h hi hf
  have e3 := tat_bound h hf hk
  have e4 := tat_bound h hf hf
  have e5 := tat_bound h hk hi
  have e6 := tat_bound h hk hf
  have e7 := tat_bound h hf hi
  have w : IntKind.wrap .i64 (gainW t f i k + gainW t f k i) = gainW t f i k + gainW t f k i := by
    unfold gainW; exact wrap_id (by omega) (by omega)
  rw [call68 rfl]
  simp only [SS, insA, wantedA, Opd.ev, putA, binA, eqbA, unA, fldA, partA, reduceIte, reduceCtorEq, Nat.reduceMod, Nat.reduceDiv, Nat.reduceBEq, resultA, resA, vI, Nat.reduceMul, Nat.reduceAdd, Nat.reduceSub, Nat.reduceEqDiff, Nat.reduceLT, Nat.reducePow, Nat.reduceLeDiff, st, Option.bind_eq_bind, Option.pure_def, List.length_nil, Int.cast_ofNat_Int, List.reverse_nil] at h1 h2
  simp only [F68, F68B, SS, insA, wantedA, Opd.ev, putA, binA, eqbA, unA, fldA, partA, reduceIte, reduceCtorEq, Nat.reduceMod, Nat.reduceDiv, Nat.reduceBEq, resultA, resA, vI, Nat.reduceMul, Nat.reduceAdd, Nat.reduceSub, Nat.reduceEqDiff, Nat.reduceLT, Nat.reducePow, Nat.reduceLeDiff, st, Option.bind_eq_bind, Option.pure_def, List.length_nil, Int.cast_ofNat_Int, List.reverse_nil, ht.cells, isU_int, cells_int, List.length_nil, List.length_cons, h1, h2, w, wayS, List.length_append, Nat.zero_add]
end
end Go.X
