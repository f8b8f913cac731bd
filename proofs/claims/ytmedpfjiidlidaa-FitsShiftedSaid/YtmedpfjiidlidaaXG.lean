import Derived.Test.YtmedpfjiidlidaaXF
/-! What the functions of fits compute. -/
set_option linter.unusedSimpArgs false
set_option linter.unusedVariables false
namespace Go.X
open Go Go.RowKit
section
variable {Y : Run} {H : Heap}


theorem tmod_lt {a b : Int} (hb : b ≠ 0) : (a.tmod b).natAbs < b.natAbs := by
  rw [Int.natAbs_tmod]; exact Nat.mod_lt _ (by omega)

theorem tmod_gcd {a b : Int} (hb : b ≠ 0) : Int.gcd b (a.tmod b) = Int.gcd a b := by
  show Nat.gcd _ _ = Nat.gcd _ _
  rw [Int.natAbs_tmod, Nat.gcd_comm a.natAbs, Nat.gcd_rec b.natAbs a.natAbs, Nat.gcd_comm]

theorem L52 (n : Nat) : ∀ (a b : Int), b.natAbs = n → ∃ g : Int, g.natAbs = Int.gcd a b ∧ lp E Y F52L0 (st 15 [(0, vI a), (1, vI b)]) H = some (.x 0, st 15 [(0, vI g)], H) := by
  induction n using Nat.strongRecOn with
  | _ n ih =>
    intro a b hb
    rw [un52_0]
    by_cases h0 : b = 0
    · refine ⟨a, by simp [h0], ?_⟩
      simp only [F52L0b, SS, insA, wantedA, Opd.ev, putA, binA, eqbA, unA, fldA, partA, reduceIte, reduceCtorEq, Nat.reduceMod, Nat.reduceDiv, Nat.reduceBEq, resultA, resA, vI, Nat.reduceMul, Nat.reduceAdd, Nat.reduceSub, Nat.reduceEqDiff, Nat.reduceLT, Nat.reducePow, Nat.reduceLeDiff, st, Option.bind_eq_bind, Option.pure_def, List.length_nil, Int.cast_ofNat_Int, List.reverse_nil, h0]
    · obtain ⟨g, h1, h2⟩ := ih _ (by rw [← hb]; exact tmod_lt (a := a) h0) b (a.tmod b) rfl
      refine ⟨g, by rw [h1, tmod_gcd h0], ?_⟩
      simp only [SS, insA, wantedA, Opd.ev, putA, binA, eqbA, unA, fldA, partA, reduceIte, reduceCtorEq, Nat.reduceMod, Nat.reduceDiv, Nat.reduceBEq, resultA, resA, vI, Nat.reduceMul, Nat.reduceAdd, Nat.reduceSub, Nat.reduceEqDiff, Nat.reduceLT, Nat.reducePow, Nat.reduceLeDiff, st, Option.bind_eq_bind, Option.pure_def, List.length_nil, Int.cast_ofNat_Int, List.reverse_nil] at h2
      simp only [F52L0b, SS, insA, wantedA, Opd.ev, putA, binA, eqbA, unA, fldA, partA, reduceIte, reduceCtorEq, Nat.reduceMod, Nat.reduceDiv, Nat.reduceBEq, resultA, resA, vI, Nat.reduceMul, Nat.reduceAdd, Nat.reduceSub, Nat.reduceEqDiff, Nat.reduceLT, Nat.reducePow, Nat.reduceLeDiff, st, Option.bind_eq_bind, Option.pure_def, List.length_nil, Int.cast_ofNat_Int, List.reverse_nil, h0, h2]

theorem gcd52 {a b : Int} (ha : a.natAbs < 4611686018427387904) (hb : b.natAbs < 4611686018427387904) : callL E Y 52 [vI a, vI b] H = some (vI (Int.gcd a b), H) := by
  obtain ⟨g, h1, h2⟩ := L52 (Y := Y) (H := H) _ a b rfl
  have hg : g.natAbs < 9223372036854775808 := by
    rw [h1]
    by_cases h0 : a = 0
    · subst h0; simp; omega
    · have := Int.gcd_le_natAbs_left (b := b) h0; omega
  rw [call52 rfl]
  simp only [SS, insA, wantedA, Opd.ev, putA, binA, eqbA, unA, fldA, partA, reduceIte, reduceCtorEq, Nat.reduceMod, Nat.reduceDiv, Nat.reduceBEq, resultA, resA, vI, Nat.reduceMul, Nat.reduceAdd, Nat.reduceSub, Nat.reduceEqDiff, Nat.reduceLT, Nat.reducePow, Nat.reduceLeDiff, st, Option.bind_eq_bind, Option.pure_def, List.length_nil, Int.cast_ofNat_Int, List.reverse_nil] at h2
  simp only [F52, F52B, F52T0, in52_0, SS, insA, wantedA, Opd.ev, putA, binA, eqbA, unA, fldA, partA, reduceIte, reduceCtorEq, Nat.reduceMod, Nat.reduceDiv, Nat.reduceBEq, resultA, resA, vI, Nat.reduceMul, Nat.reduceAdd, Nat.reduceSub, Nat.reduceEqDiff, Nat.reduceLT, Nat.reducePow, Nat.reduceLeDiff, st, Option.bind_eq_bind, Option.pure_def, List.length_nil, Int.cast_ofNat_Int, List.reverse_nil, h2, mnx_max]
  rw [wrap_id (by omega) (by omega), ← h1]
  have : max g (0 - g) = g.natAbs := by omega
  rw [this]

theorem L53 (n : Nat) : ∀ (a b : Int), 0 ≤ a → 0 ≤ b → b.natAbs = n → lp E Y F53L0 (st 22 [(0, vI a), (1, vI b)]) H = some (.x 0, st 22 [(0, vI (Int.gcd a b))], H) := by
  induction n using Nat.strongRecOn with
  | _ n ih =>
    intro a b ha hb0 hb
    rw [un53_0]
    by_cases h0 : b = 0
    · have : (Int.gcd a b : Int) = a := by simp [h0]; omega
      rw [this]
      simp only [F53L0b, SS, insA, wantedA, Opd.ev, putA, binA, eqbA, unA, fldA, partA, reduceIte, reduceCtorEq, Nat.reduceMod, Nat.reduceDiv, Nat.reduceBEq, resultA, resA, vI, Nat.reduceMul, Nat.reduceAdd, Nat.reduceSub, Nat.reduceEqDiff, Nat.reduceLT, Nat.reducePow, Nat.reduceLeDiff, st, Option.bind_eq_bind, Option.pure_def, List.length_nil, Int.cast_ofNat_Int, List.reverse_nil, h0]
      simp (config := {decide := true})
    · have h2 := ih _ (by rw [← hb]; exact tmod_lt (a := a) h0) b (a.tmod b) hb0 (Int.tmod_nonneg _ ha) rfl
      rw [tmod_gcd h0] at h2
      have hpos : b > 0 := by omega
      simp only [SS, insA, wantedA, Opd.ev, putA, binA, eqbA, unA, fldA, partA, reduceIte, reduceCtorEq, Nat.reduceMod, Nat.reduceDiv, Nat.reduceBEq, resultA, resA, vI, Nat.reduceMul, Nat.reduceAdd, Nat.reduceSub, Nat.reduceEqDiff, Nat.reduceLT, Nat.reducePow, Nat.reduceLeDiff, st, Option.bind_eq_bind, Option.pure_def, List.length_nil, Int.cast_ofNat_Int, List.reverse_nil] at h2
      simp only [F53L0b, SS, insA, wantedA, Opd.ev, putA, binA, eqbA, unA, fldA, partA, reduceIte, reduceCtorEq, Nat.reduceMod, Nat.reduceDiv, Nat.reduceBEq, resultA, resA, vI, Nat.reduceMul, Nat.reduceAdd, Nat.reduceSub, Nat.reduceEqDiff, Nat.reduceLT, Nat.reducePow, Nat.reduceLeDiff, st, Option.bind_eq_bind, Option.pure_def, List.length_nil, Int.cast_ofNat_Int, List.reverse_nil, h0, h2, hpos]

theorem gcd53 {a b : Int} (ha : a.natAbs < 4611686018427387904) (hb : b.natAbs < 4611686018427387904) : callL E Y 53 [vI a, vI b] H = some (vI (Int.gcd a b), H) := by
  have h2 := L53 (Y := Y) (H := H) _ a.natAbs b.natAbs (by omega) (by omega) rfl
  rw [call53 rfl]
  have e1 : max a (0 - a) = a.natAbs := by omega
  have e2 : max b (0 - b) = b.natAbs := by omega
  have e3 : IntKind.wrap .i64 (0 - a) = 0 - a := wrap_id (by omega) (by omega)
  have e4 : IntKind.wrap .i64 (0 - b) = 0 - b := wrap_id (by omega) (by omega)
  simp only [SS, insA, wantedA, Opd.ev, putA, binA, eqbA, unA, fldA, partA, reduceIte, reduceCtorEq, Nat.reduceMod, Nat.reduceDiv, Nat.reduceBEq, resultA, resA, vI, Nat.reduceMul, Nat.reduceAdd, Nat.reduceSub, Nat.reduceEqDiff, Nat.reduceLT, Nat.reducePow, Nat.reduceLeDiff, st, Option.bind_eq_bind, Option.pure_def, List.length_nil, Int.cast_ofNat_Int, List.reverse_nil] at h2
  simp only [F53, F53B, F53T0, in53_0, SS, insA, wantedA, Opd.ev, putA, binA, eqbA, unA, fldA, partA, reduceIte, reduceCtorEq, Nat.reduceMod, Nat.reduceDiv, Nat.reduceBEq, resultA, resA, vI, Nat.reduceMul, Nat.reduceAdd, Nat.reduceSub, Nat.reduceEqDiff, Nat.reduceLT, Nat.reducePow, Nat.reduceLeDiff, st, Option.bind_eq_bind, Option.pure_def, List.length_nil, Int.cast_ofNat_Int, List.reverse_nil, mnx_max, e1, e2, e3, e4, h2]
  simp [Int.gcd]

/-! ### Least and greatest -/
def minI : List Int → Int
  | [] => 0
  | x :: xs => xs.foldl min x
def maxI : List Int → Int
  | [] => 0
  | x :: xs => xs.foldl max x

theorem L65 {v : AV} {l : List Int} (hv : IsRow v l) (hl : l.length < 1000) (d : Nat) : ∀ (i : Nat) (a : Int), i + d = l.length →
    lp E Y F65L0 (st 25 [(0, v), (3, vI a), (4, vI i)]) H = some (.x 0, st 25 [(3, vI ((l.drop i).foldl min a))], H) := by
  induction d with
  | zero =>
    intro i a hi
    rw [un65_0, List.drop_eq_nil_of_le (by omega)]
    have : ¬ ((i : Int) < (l.length : Int)) := by omega
    simp only [F65L0b, SS, insA, wantedA, Opd.ev, putA, binA, eqbA, unA, fldA, partA, reduceIte, reduceCtorEq, Nat.reduceMod, Nat.reduceDiv, Nat.reduceBEq, resultA, resA, vI, Nat.reduceMul, Nat.reduceAdd, Nat.reduceSub, Nat.reduceEqDiff, Nat.reduceLT, Nat.reducePow, Nat.reduceLeDiff, st, Option.bind_eq_bind, Option.pure_def, List.length_nil, Int.cast_ofNat_Int, List.reverse_nil, hv.len, this]
  | succ d ih =>
    intro i a hi
    have hlt : i < l.length := by omega
    have h1 := ih (i + 1) (min a l[i]) (by omega)
    rw [un65_0, List.drop_eq_getElem_cons hlt]
    have hc : (i : Int) < (l.length : Int) := by omega
    have hw := wrap_succ (n := i) (by omega)
    have hg : l.getD i 0 = l[i] := by simp [List.getD_eq_getElem?_getD, hlt]
    simp only [SS, insA, wantedA, Opd.ev, putA, binA, eqbA, unA, fldA, partA, reduceIte, reduceCtorEq, Nat.reduceMod, Nat.reduceDiv, Nat.reduceBEq, resultA, resA, vI, Nat.reduceMul, Nat.reduceAdd, Nat.reduceSub, Nat.reduceEqDiff, Nat.reduceLT, Nat.reducePow, Nat.reduceLeDiff, st, Option.bind_eq_bind, Option.pure_def, List.length_nil, Int.cast_ofNat_Int, List.reverse_nil] at h1
    simp only [F65L0b, SS, insA, wantedA, Opd.ev, putA, binA, eqbA, unA, fldA, partA, reduceIte, reduceCtorEq, Nat.reduceMod, Nat.reduceDiv, Nat.reduceBEq, resultA, resA, vI, Nat.reduceMul, Nat.reduceAdd, Nat.reduceSub, Nat.reduceEqDiff, Nat.reduceLT, Nat.reducePow, Nat.reduceLeDiff, st, Option.bind_eq_bind, Option.pure_def, List.length_nil, Int.cast_ofNat_Int, List.reverse_nil, hv.len, hc, hv.idx hlt, hv.load hlt, mnx_min, hw, hg, h1]

theorem min65 {v : AV} {l : List Int} (hv : IsRow v l) (hl : l.length < 1000) (h0 : 0 < l.length) : callL E Y 65 [v] H = some (vI (minI l), H) := by
  rw [call65 rfl]
  cases l with
  | nil => simp at h0
  | cons x xs =>
    have h1 := L65 (Y := Y) (H := H) hv hl xs.length 1 x (by simp; omega)
    have hc : ¬ (((xs.length + 1 : Nat) : Int) < 1) := by omega
    have h2 : idxA 1 v (.int .i64 0) = some (ptrAt v 0) := hv.idx (i := 0) (by simp)
    have h3 := hv.load (H := H) (i := 0) (by simp)
    have hlen := hv.len
    simp only [List.length_cons] at hlen
    simp only [SS, insA, wantedA, Opd.ev, putA, binA, eqbA, unA, fldA, partA, reduceIte, reduceCtorEq, Nat.reduceMod, Nat.reduceDiv, Nat.reduceBEq, resultA, resA, vI, Nat.reduceMul, Nat.reduceAdd, Nat.reduceSub, Nat.reduceEqDiff, Nat.reduceLT, Nat.reducePow, Nat.reduceLeDiff, st, Option.bind_eq_bind, Option.pure_def, List.length_nil, Int.cast_ofNat_Int, List.reverse_nil, List.drop_succ_cons, List.drop_zero] at h1
    simp only [F65, F65B, F65T0, in65_0, SS, insA, wantedA, Opd.ev, putA, binA, eqbA, unA, fldA, partA, reduceIte, reduceCtorEq, Nat.reduceMod, Nat.reduceDiv, Nat.reduceBEq, resultA, resA, vI, Nat.reduceMul, Nat.reduceAdd, Nat.reduceSub, Nat.reduceEqDiff, Nat.reduceLT, Nat.reducePow, Nat.reduceLeDiff, st, Option.bind_eq_bind, Option.pure_def, List.length_nil, Int.cast_ofNat_Int, List.reverse_nil, hlen, hc, h2, h3, h1, minI]

theorem L66 {v : AV} {l : List Int} (hv : IsRow v l) (hl : l.length < 1000) (d : Nat) : ∀ (i : Nat) (a : Int), i + d = l.length →
    lp E Y F66L0 (st 25 [(0, v), (3, vI a), (4, vI i)]) H = some (.x 0, st 25 [(3, vI ((l.drop i).foldl max a))], H) := by
  induction d with
  | zero =>
    intro i a hi
    rw [un66_0, List.drop_eq_nil_of_le (by omega)]
    have : ¬ ((i : Int) < (l.length : Int)) := by omega
    simp only [F66L0b, SS, insA, wantedA, Opd.ev, putA, binA, eqbA, unA, fldA, partA, reduceIte, reduceCtorEq, Nat.reduceMod, Nat.reduceDiv, Nat.reduceBEq, resultA, resA, vI, Nat.reduceMul, Nat.reduceAdd, Nat.reduceSub, Nat.reduceEqDiff, Nat.reduceLT, Nat.reducePow, Nat.reduceLeDiff, st, Option.bind_eq_bind, Option.pure_def, List.length_nil, Int.cast_ofNat_Int, List.reverse_nil, hv.len, this]
  | succ d ih =>
    intro i a hi
    have hlt : i < l.length := by omega
    have h1 := ih (i + 1) (max a l[i]) (by omega)
    rw [un66_0, List.drop_eq_getElem_cons hlt]
    have hc : (i : Int) < (l.length : Int) := by omega
    have hw := wrap_succ (n := i) (by omega)
    have hg : l.getD i 0 = l[i] := by simp [List.getD_eq_getElem?_getD, hlt]
    simp only [SS, insA, wantedA, Opd.ev, putA, binA, eqbA, unA, fldA, partA, reduceIte, reduceCtorEq, Nat.reduceMod, Nat.reduceDiv, Nat.reduceBEq, resultA, resA, vI, Nat.reduceMul, Nat.reduceAdd, Nat.reduceSub, Nat.reduceEqDiff, Nat.reduceLT, Nat.reducePow, Nat.reduceLeDiff, st, Option.bind_eq_bind, Option.pure_def, List.length_nil, Int.cast_ofNat_Int, List.reverse_nil] at h1
    simp only [F66L0b, SS, insA, wantedA, Opd.ev, putA, binA, eqbA, unA, fldA, partA, reduceIte, reduceCtorEq, Nat.reduceMod, Nat.reduceDiv, Nat.reduceBEq, resultA, resA, vI, Nat.reduceMul, Nat.reduceAdd, Nat.reduceSub, Nat.reduceEqDiff, Nat.reduceLT, Nat.reducePow, Nat.reduceLeDiff, st, Option.bind_eq_bind, Option.pure_def, List.length_nil, Int.cast_ofNat_Int, List.reverse_nil, hv.len, hc, hv.idx hlt, hv.load hlt, mnx_max, hw, hg, h1]

theorem max66 {v : AV} {l : List Int} (hv : IsRow v l) (hl : l.length < 1000) (h0 : 0 < l.length) : callL E Y 66 [v] H = some (vI (maxI l), H) := by
  rw [call66 rfl]
  cases l with
  | nil => simp at h0
  | cons x xs =>
    have h1 := L66 (Y := Y) (H := H) hv hl xs.length 1 x (by simp; omega)
    have hc : ¬ (((xs.length + 1 : Nat) : Int) < 1) := by omega
    have h2 : idxA 1 v (.int .i64 0) = some (ptrAt v 0) := hv.idx (i := 0) (by simp)
    have h3 := hv.load (H := H) (i := 0) (by simp)
    have hlen := hv.len
    simp only [List.length_cons] at hlen
    simp only [SS, insA, wantedA, Opd.ev, putA, binA, eqbA, unA, fldA, partA, reduceIte, reduceCtorEq, Nat.reduceMod, Nat.reduceDiv, Nat.reduceBEq, resultA, resA, vI, Nat.reduceMul, Nat.reduceAdd, Nat.reduceSub, Nat.reduceEqDiff, Nat.reduceLT, Nat.reducePow, Nat.reduceLeDiff, st, Option.bind_eq_bind, Option.pure_def, List.length_nil, Int.cast_ofNat_Int, List.reverse_nil, List.drop_succ_cons, List.drop_zero] at h1
    simp only [F66, F66B, F66T0, in66_0, SS, insA, wantedA, Opd.ev, putA, binA, eqbA, unA, fldA, partA, reduceIte, reduceCtorEq, Nat.reduceMod, Nat.reduceDiv, Nat.reduceBEq, resultA, resA, vI, Nat.reduceMul, Nat.reduceAdd, Nat.reduceSub, Nat.reduceEqDiff, Nat.reduceLT, Nat.reducePow, Nat.reduceLeDiff, st, Option.bind_eq_bind, Option.pure_def, List.length_nil, Int.cast_ofNat_Int, List.reverse_nil, hlen, hc, h2, h3, h1, maxI]

theorem foldl_min_lt {c : Int} : ∀ (l : List Int) (a : Int), l.foldl min a < c ↔ a < c ∨ ∃ x ∈ l, x < c
  | [], a => by simp
  | x :: l, a => by
    rw [List.foldl_cons, foldl_min_lt l]
    simp only [List.mem_cons, exists_eq_or_imp, ← or_assoc]
    have : min a x < c ↔ a < c ∨ x < c := by omega
    rw [this]
theorem foldl_max_gt {c : Int} : ∀ (l : List Int) (a : Int), c < l.foldl max a ↔ c < a ∨ ∃ x ∈ l, c < x
  | [], a => by simp
  | x :: l, a => by
    rw [List.foldl_cons, foldl_max_gt l]
    simp only [List.mem_cons, exists_eq_or_imp, ← or_assoc]
    have : c < max a x ↔ c < a ∨ c < x := by omega
    rw [this]
theorem minI_lt {c : Int} {l : List Int} (h : 0 < l.length) : minI l < c ↔ ∃ x ∈ l, x < c := by
  cases l with
  | nil => simp at h
  | cons x l => simp [minI, foldl_min_lt]
theorem maxI_gt {c : Int} {l : List Int} (h : 0 < l.length) : c < maxI l ↔ ∃ x ∈ l, c < x := by
  cases l with
  | nil => simp at h
  | cons x l => simp [maxI, foldl_max_gt]

/-! ### Tables -/
def inB (r : List Int) : Prop := ∀ x ∈ r, -20 ≤ x ∧ x ≤ 20
instance (r : List Int) : Decidable (inB r) := by unfold inB; exact inferInstance
theorem inB_cons {x : Int} {r : List Int} : inB (x :: r) ↔ (-20 ≤ x ∧ x ≤ 20) ∧ inB r := by unfold inB; exact List.forall_mem_cons
theorem inB_nil : inB [] := fun _ h => by simp at h
def okRow (n : Nat) (r : List Int) : Prop := r.length = n ∧ inB r
instance (n : Nat) (r : List Int) : Decidable (okRow n r) := by unfold okRow; exact inferInstance
def okTab (t : List (List Int)) : Prop := 1 ≤ t.length ∧ t.length ≤ 3 ∧ ∀ r ∈ t, okRow t.length r
instance (t : List (List Int)) : Decidable (okTab t) := by unfold okTab; exact inferInstance

theorem L47 {v : AV} {t : List (List Int)} (hv : IsTab v t) (h1 : 1 ≤ t.length) (h3 : t.length ≤ 3) (d : Nat) : ∀ (i : Nat), i + d = t.length →
    lp E Y F47L0 (st 37 [(0, v), (14, v), (15, vI t.length), (16, vI i)]) H = if ∀ r ∈ t.drop i, okRow t.length r then some (.x 0, st 37 [(0, v)], H) else some (.r, st 37 [(2, .nils), (3, .bool false)], H) := by
  induction d with
  | zero =>
    intro i hi
    rw [un47_0, List.drop_eq_nil_of_le (by omega)]
    have : ¬ ((i : Int) < (t.length : Int)) := by omega
    simp only [F47L0b, SS, insA, wantedA, Opd.ev, putA, binA, eqbA, unA, fldA, partA, reduceIte, reduceCtorEq, Nat.reduceMod, Nat.reduceDiv, Nat.reduceBEq, resultA, resA, vI, Nat.reduceMul, Nat.reduceAdd, Nat.reduceSub, Nat.reduceEqDiff, Nat.reduceLT, Nat.reducePow, Nat.reduceLeDiff, st, Option.bind_eq_bind, Option.pure_def, List.length_nil, Int.cast_ofNat_Int, List.reverse_nil, this]
    simp
  | succ d ih =>
    intro i hi
    have hlt : i < t.length := by omega
    have h1 := ih (i + 1) (by omega)
    rw [un47_0, List.drop_eq_getElem_cons hlt]
    have hc : (i : Int) < (t.length : Int) := by omega
    have hw := wrap_succ (n := i) (by omega)
    have hrow := hv.row hlt
    have hg : t.getD i [] = t[i] := by simp [List.getD_eq_getElem?_getD, hlt]
    rw [hg] at hrow
    simp only [SS, insA, wantedA, Opd.ev, putA, binA, eqbA, unA, fldA, partA, reduceIte, reduceCtorEq, Nat.reduceMod, Nat.reduceDiv, Nat.reduceBEq, resultA, resA, vI, Nat.reduceMul, Nat.reduceAdd, Nat.reduceSub, Nat.reduceEqDiff, Nat.reduceLT, Nat.reducePow, Nat.reduceLeDiff, st, Option.bind_eq_bind, Option.pure_def, List.length_nil, Int.cast_ofNat_Int, List.reverse_nil] at h1
    simp only [List.mem_cons, forall_eq_or_imp]
    by_cases hlen : t[i].length = t.length
    · have hlc : ((t[i].length : Nat) : Int) = (t.length : Int) := by omega
      have hm := min65 (Y := Y) (H := []) hrow (by omega) (by omega)
      have hM := max66 (Y := Y) (H := []) hrow (by omega) (by omega)
      simp only [F47L0b, SS, insA, wantedA, Opd.ev, putA, binA, eqbA, unA, fldA, partA, reduceIte, reduceCtorEq, Nat.reduceMod, Nat.reduceDiv, Nat.reduceBEq, resultA, resA, vI, Nat.reduceMul, Nat.reduceAdd, Nat.reduceSub, Nat.reduceEqDiff, Nat.reduceLT, Nat.reducePow, Nat.reduceLeDiff, st, Option.bind_eq_bind, Option.pure_def, List.length_nil, Int.cast_ofNat_Int, List.reverse_nil, hc, hv.idx hlt, hv.load hlt, hw, hrow.len, hrow.snap, hv.len, hm, hM, h1, hlc]
      by_cases c1 : minI t[i] < -20
      · have : ¬ okRow t.length t[i] := fun h => by
          obtain ⟨x, hx, hx2⟩ := (minI_lt (by omega)).1 c1
          have := h.2 x hx; omega
        simp [c1, this, SS, insA, wantedA, Opd.ev, putA, binA, eqbA, unA, fldA, partA, reduceIte, reduceCtorEq, Nat.reduceMod, Nat.reduceDiv, Nat.reduceBEq, resultA, resA, vI, Nat.reduceMul, Nat.reduceAdd, Nat.reduceSub, Nat.reduceEqDiff, Nat.reduceLT, Nat.reducePow, Nat.reduceLeDiff, st, Option.bind_eq_bind, Option.pure_def, List.length_nil, Int.cast_ofNat_Int, List.reverse_nil]
      · by_cases c2 : maxI t[i] > 20
        · have : ¬ okRow t.length t[i] := fun h => by
            obtain ⟨x, hx, hx2⟩ := (maxI_gt (by omega)).1 c2
            have := h.2 x hx; omega
          simp [c1, c2, this, SS, insA, wantedA, Opd.ev, putA, binA, eqbA, unA, fldA, partA, reduceIte, reduceCtorEq, Nat.reduceMod, Nat.reduceDiv, Nat.reduceBEq, resultA, resA, vI, Nat.reduceMul, Nat.reduceAdd, Nat.reduceSub, Nat.reduceEqDiff, Nat.reduceLT, Nat.reducePow, Nat.reduceLeDiff, st, Option.bind_eq_bind, Option.pure_def, List.length_nil, Int.cast_ofNat_Int, List.reverse_nil]
        · have : okRow t.length t[i] := ⟨hlen, fun x hx => by
            refine ⟨?_, ?_⟩
            · by_cases h : x < -20
              · exact absurd ((minI_lt (by omega)).2 ⟨x, hx, h⟩) c1
              · omega
            · by_cases h : 20 < x
              · exact absurd ((maxI_gt (by omega)).2 ⟨x, hx, h⟩) c2
              · omega⟩
          simp only [c1, c2, this, SS, insA, wantedA, Opd.ev, putA, binA, eqbA, unA, fldA, partA, reduceIte, reduceCtorEq, Nat.reduceMod, Nat.reduceDiv, Nat.reduceBEq, resultA, resA, vI, Nat.reduceMul, Nat.reduceAdd, Nat.reduceSub, Nat.reduceEqDiff, Nat.reduceLT, Nat.reducePow, Nat.reduceLeDiff, st, Option.bind_eq_bind, Option.pure_def, List.length_nil, Int.cast_ofNat_Int, List.reverse_nil, hw, h1, not_false_eq_true, decide_false, BEq.rfl, Bool.or_false, Bool.or_self, decide_true, gt_iff_lt]
          try simp
    · have hlc : ¬ ((t[i].length : Nat) : Int) = (t.length : Int) := by omega
      have : ¬ okRow t.length t[i] := fun h => hlen h.1
      simp only [F47L0b, SS, insA, wantedA, Opd.ev, putA, binA, eqbA, unA, fldA, partA, reduceIte, reduceCtorEq, Nat.reduceMod, Nat.reduceDiv, Nat.reduceBEq, resultA, resA, vI, Nat.reduceMul, Nat.reduceAdd, Nat.reduceSub, Nat.reduceEqDiff, Nat.reduceLT, Nat.reducePow, Nat.reduceLeDiff, st, Option.bind_eq_bind, Option.pure_def, List.length_nil, Int.cast_ofNat_Int, List.reverse_nil, hc, hv.idx hlt, hv.load hlt, hw, hrow.len, hrow.snap, hv.len, h1, hlc]
      simp [this, hlc, SS, insA, wantedA, Opd.ev, putA, binA, eqbA, unA, fldA, partA, reduceIte, reduceCtorEq, Nat.reduceMod, Nat.reduceDiv, Nat.reduceBEq, resultA, resA, vI, Nat.reduceMul, Nat.reduceAdd, Nat.reduceSub, Nat.reduceEqDiff, Nat.reduceLT, Nat.reducePow, Nat.reduceLeDiff, st, Option.bind_eq_bind, Option.pure_def, List.length_nil, Int.cast_ofNat_Int, List.reverse_nil]

theorem read47 {v : AV} {t : List (List Int)} (hv : IsTab v t) (hs : t.length < 1000) : callL E Y 47 [v] H = some (.tup [if okTab t then v else .nils, .bool (decide (okTab t))], H) := by
  rw [call47 rfl]
  by_cases c1 : t.length < 1
  · have : ¬ okTab t := fun h => by have := h.1; omega
    have c1' : (t.length : Int) < 1 := by omega
    simp only [F47, F47B, F47T0, in47_0, SS, insA, wantedA, Opd.ev, putA, binA, eqbA, unA, fldA, partA, reduceIte, reduceCtorEq, Nat.reduceMod, Nat.reduceDiv, Nat.reduceBEq, resultA, resA, vI, Nat.reduceMul, Nat.reduceAdd, Nat.reduceSub, Nat.reduceEqDiff, Nat.reduceLT, Nat.reducePow, Nat.reduceLeDiff, st, Option.bind_eq_bind, Option.pure_def, List.length_nil, Int.cast_ofNat_Int, List.reverse_nil, hv.len, c1', this, decide_true, decide_false, BEq.rfl]
  · by_cases c2 : t.length > 3
    · have : ¬ okTab t := fun h => by have := h.2.1; omega
      have c1' : ¬ (t.length : Int) < 1 := by omega
      have c2' : (t.length : Int) > 3 := by omega
      simp only [F47, F47B, F47T0, in47_0, SS, insA, wantedA, Opd.ev, putA, binA, eqbA, unA, fldA, partA, reduceIte, reduceCtorEq, Nat.reduceMod, Nat.reduceDiv, Nat.reduceBEq, resultA, resA, vI, Nat.reduceMul, Nat.reduceAdd, Nat.reduceSub, Nat.reduceEqDiff, Nat.reduceLT, Nat.reducePow, Nat.reduceLeDiff, st, Option.bind_eq_bind, Option.pure_def, List.length_nil, Int.cast_ofNat_Int, List.reverse_nil, hv.len, c1', c2', this, decide_true, decide_false, BEq.rfl]
    · have c1' : ¬ (t.length : Int) < 1 := by omega
      have c2' : ¬ (t.length : Int) > 3 := by omega
      have h1 := L47 (Y := Y) (H := H) hv (by omega) (by omega) t.length 0 (by omega)
      simp only [SS, insA, wantedA, Opd.ev, putA, binA, eqbA, unA, fldA, partA, reduceIte, reduceCtorEq, Nat.reduceMod, Nat.reduceDiv, Nat.reduceBEq, resultA, resA, vI, Nat.reduceMul, Nat.reduceAdd, Nat.reduceSub, Nat.reduceEqDiff, Nat.reduceLT, Nat.reducePow, Nat.reduceLeDiff, st, Option.bind_eq_bind, Option.pure_def, List.length_nil, Int.cast_ofNat_Int, List.reverse_nil, List.drop_zero] at h1
      simp only [F47, F47B, F47T0, in47_0, SS, insA, wantedA, Opd.ev, putA, binA, eqbA, unA, fldA, partA, reduceIte, reduceCtorEq, Nat.reduceMod, Nat.reduceDiv, Nat.reduceBEq, resultA, resA, vI, Nat.reduceMul, Nat.reduceAdd, Nat.reduceSub, Nat.reduceEqDiff, Nat.reduceLT, Nat.reducePow, Nat.reduceLeDiff, st, Option.bind_eq_bind, Option.pure_def, List.length_nil, Int.cast_ofNat_Int, List.reverse_nil, hv.len, c1', c2', decide_false, BEq.rfl, Int.ofNat_zero, h1]
      by_cases hr : ∀ r ∈ t, okRow t.length r
      · have : okTab t := ⟨by omega, by omega, hr⟩
        rw [if_pos hr]
        simp only [SS, insA, wantedA, Opd.ev, putA, binA, eqbA, unA, fldA, partA, reduceIte, reduceCtorEq, Nat.reduceMod, Nat.reduceDiv, Nat.reduceBEq, resultA, resA, vI, Nat.reduceMul, Nat.reduceAdd, Nat.reduceSub, Nat.reduceEqDiff, Nat.reduceLT, Nat.reducePow, Nat.reduceLeDiff, st, Option.bind_eq_bind, Option.pure_def, List.length_nil, Int.cast_ofNat_Int, List.reverse_nil, this, decide_true]
      · have : ¬ okTab t := fun h => hr h.2.2
        rw [if_neg hr]
        simp only [SS, insA, wantedA, Opd.ev, putA, binA, eqbA, unA, fldA, partA, reduceIte, reduceCtorEq, Nat.reduceMod, Nat.reduceDiv, Nat.reduceBEq, resultA, resA, vI, Nat.reduceMul, Nat.reduceAdd, Nat.reduceSub, Nat.reduceEqDiff, Nat.reduceLT, Nat.reducePow, Nat.reduceLeDiff, st, Option.bind_eq_bind, Option.pure_def, List.length_nil, Int.cast_ofNat_Int, List.reverse_nil, this, decide_false]

def Small (t : List (List Int)) : Prop := t.length ≤ 20 ∧ ∀ r ∈ t, r.length ≤ 20

theorem L34_0 {v : AV} {t : List (List Int)} (hv : IsTab v t) (hs : Small t) {i : Nat} (hi : i < t.length) (d : Nat) : ∀ (k : Nat), k + d = t[i].length →
    lp E Y F34L0 (st 54 [(0, v), (3, vI i), (4, vI k)]) H = if inB (t[i].drop k) then some (.x 2, st 54 [(0, v), (3, vI i)], H) else some (.r, st 54 [(2, .bool false)], H) := by
  have hrow := hv.row hi
  have hg : t.getD i [] = t[i] := by simp [List.getD_eq_getElem?_getD, hi]
  rw [hg] at hrow
  have hr20 := hs.2 t[i] (by simp)
  induction d with
  | zero =>
    intro k hk
    rw [un34_0, List.drop_eq_nil_of_le (by omega)]
    have : ¬ ((k : Int) < (t[i].length : Int)) := by omega
    simp only [F34L0b, SS, insA, wantedA, Opd.ev, putA, binA, eqbA, unA, fldA, partA, reduceIte, reduceCtorEq, Nat.reduceMod, Nat.reduceDiv, Nat.reduceBEq, resultA, resA, vI, Nat.reduceMul, Nat.reduceAdd, Nat.reduceSub, Nat.reduceEqDiff, Nat.reduceLT, Nat.reducePow, Nat.reduceLeDiff, st, Option.bind_eq_bind, Option.pure_def, List.length_nil, Int.cast_ofNat_Int, List.reverse_nil, hv.idx hi, hv.load hi, hrow.len, this, inB_nil]
  | succ d ih =>
    intro k hk
    have hlt : k < t[i].length := by omega
    have h1 := ih (k + 1) (by omega)
    rw [un34_0, List.drop_eq_getElem_cons hlt]
    have hc : (k : Int) < (t[i].length : Int) := by omega
    have hw := wrap_succ (n := k) (by omega)
    have hgk : t[i].getD k 0 = t[i][k] := by simp [List.getD_eq_getElem?_getD, hlt]
    simp only [SS, insA, wantedA, Opd.ev, putA, binA, eqbA, unA, fldA, partA, reduceIte, reduceCtorEq, Nat.reduceMod, Nat.reduceDiv, Nat.reduceBEq, resultA, resA, vI, Nat.reduceMul, Nat.reduceAdd, Nat.reduceSub, Nat.reduceEqDiff, Nat.reduceLT, Nat.reducePow, Nat.reduceLeDiff, st, Option.bind_eq_bind, Option.pure_def, List.length_nil, Int.cast_ofNat_Int, List.reverse_nil] at h1
    simp only [inB_cons]
    by_cases c1 : t[i][k] < -20
    · have : ¬ (-20 ≤ t[i][k] ∧ t[i][k] ≤ 20) := by omega
      simp only [F34L0b, SS, insA, wantedA, Opd.ev, putA, binA, eqbA, unA, fldA, partA, reduceIte, reduceCtorEq, Nat.reduceMod, Nat.reduceDiv, Nat.reduceBEq, resultA, resA, vI, Nat.reduceMul, Nat.reduceAdd, Nat.reduceSub, Nat.reduceEqDiff, Nat.reduceLT, Nat.reducePow, Nat.reduceLeDiff, st, Option.bind_eq_bind, Option.pure_def, List.length_nil, Int.cast_ofNat_Int, List.reverse_nil, hv.idx hi, hv.load hi, hrow.len, hrow.idx hlt, hrow.load hlt, hgk, hc, hw, c1, this, decide_true, BEq.rfl, false_and]
    · by_cases c2 : t[i][k] > 20
      · have : ¬ (-20 ≤ t[i][k] ∧ t[i][k] ≤ 20) := by omega
        simp only [F34L0b, SS, insA, wantedA, Opd.ev, putA, binA, eqbA, unA, fldA, partA, reduceIte, reduceCtorEq, Nat.reduceMod, Nat.reduceDiv, Nat.reduceBEq, resultA, resA, vI, Nat.reduceMul, Nat.reduceAdd, Nat.reduceSub, Nat.reduceEqDiff, Nat.reduceLT, Nat.reducePow, Nat.reduceLeDiff, st, Option.bind_eq_bind, Option.pure_def, List.length_nil, Int.cast_ofNat_Int, List.reverse_nil, hv.idx hi, hv.load hi, hrow.len, hrow.idx hlt, hrow.load hlt, hgk, hc, hw, c1, c2, this, decide_true, decide_false, BEq.rfl, false_and]
      · have : (-20 ≤ t[i][k] ∧ t[i][k] ≤ 20) := by omega
        simp only [F34L0b, SS, insA, wantedA, Opd.ev, putA, binA, eqbA, unA, fldA, partA, reduceIte, reduceCtorEq, Nat.reduceMod, Nat.reduceDiv, Nat.reduceBEq, resultA, resA, vI, Nat.reduceMul, Nat.reduceAdd, Nat.reduceSub, Nat.reduceEqDiff, Nat.reduceLT, Nat.reducePow, Nat.reduceLeDiff, st, Option.bind_eq_bind, Option.pure_def, List.length_nil, Int.cast_ofNat_Int, List.reverse_nil, hv.idx hi, hv.load hi, hrow.len, hrow.idx hlt, hrow.load hlt, hgk, hc, hw, c1, c2, this, decide_true, decide_false, BEq.rfl, h1]

theorem L34_1 {v : AV} {t : List (List Int)} (hv : IsTab v t) (hs : Small t) (d : Nat) : ∀ (i : Nat), i + d = t.length →
    lp E Y F34L1 (st 54 [(0, v), (3, vI i)]) H = if ∀ r ∈ t.drop i, okRow t.length r then some (.x 0, st 54 [(0, v)], H) else some (.r, st 54 [(2, .bool false)], H) := by
  induction d with
  | zero =>
    intro i hi
    rw [un34_1, List.drop_eq_nil_of_le (by omega)]
    have : ¬ ((i : Int) < (t.length : Int)) := by omega
    simp only [F34L1b, F34, F34B, F34T0, F34T1, in34_0, in34_1, SS, insA, wantedA, Opd.ev, putA, binA, eqbA, unA, fldA, partA, reduceIte, reduceCtorEq, Nat.reduceMod, Nat.reduceDiv, Nat.reduceBEq, resultA, resA, vI, Nat.reduceMul, Nat.reduceAdd, Nat.reduceSub, Nat.reduceEqDiff, Nat.reduceLT, Nat.reducePow, Nat.reduceLeDiff, st, Option.bind_eq_bind, Option.pure_def, List.length_nil, Int.cast_ofNat_Int, List.reverse_nil, hv.len, this]
    simp
  | succ d ih =>
    intro i hi
    have hlt : i < t.length := by omega
    have h20 := hs.1
    have h1 := ih (i + 1) (by omega)
    have h0 := L34_0 (Y := Y) (H := H) hv hs hlt t[i].length 0 (by omega)
    rw [un34_1, List.drop_eq_getElem_cons hlt]
    have hc : (i : Int) < (t.length : Int) := by omega
    have hw := wrap_succ (n := i) (by omega)
    have hrow := hv.row hlt
    have hg : t.getD i [] = t[i] := by simp [List.getD_eq_getElem?_getD, hlt]
    rw [hg] at hrow
    simp only [SS, insA, wantedA, Opd.ev, putA, binA, eqbA, unA, fldA, partA, reduceIte, reduceCtorEq, Nat.reduceMod, Nat.reduceDiv, Nat.reduceBEq, resultA, resA, vI, Nat.reduceMul, Nat.reduceAdd, Nat.reduceSub, Nat.reduceEqDiff, Nat.reduceLT, Nat.reducePow, Nat.reduceLeDiff, st, Option.bind_eq_bind, Option.pure_def, List.length_nil, Int.cast_ofNat_Int, List.reverse_nil] at h1
    simp only [SS, insA, wantedA, Opd.ev, putA, binA, eqbA, unA, fldA, partA, reduceIte, reduceCtorEq, Nat.reduceMod, Nat.reduceDiv, Nat.reduceBEq, resultA, resA, vI, Nat.reduceMul, Nat.reduceAdd, Nat.reduceSub, Nat.reduceEqDiff, Nat.reduceLT, Nat.reducePow, Nat.reduceLeDiff, st, Option.bind_eq_bind, Option.pure_def, List.length_nil, Int.cast_ofNat_Int, List.reverse_nil, List.drop_zero, Int.ofNat_zero] at h0
    simp only [List.mem_cons, forall_eq_or_imp]
    by_cases hlen : t[i].length = t.length
    · have hlc : ((t[i].length : Nat) : Int) = (t.length : Int) := by omega
      by_cases hr : inB t[i]
      · have : okRow t.length t[i] := ⟨hlen, hr⟩
        rw [if_pos hr] at h0
        simp only [F34L1b, F34, F34B, F34T0, F34T1, in34_0, in34_1, SS, insA, wantedA, Opd.ev, putA, binA, eqbA, unA, fldA, partA, reduceIte, reduceCtorEq, Nat.reduceMod, Nat.reduceDiv, Nat.reduceBEq, resultA, resA, vI, Nat.reduceMul, Nat.reduceAdd, Nat.reduceSub, Nat.reduceEqDiff, Nat.reduceLT, Nat.reducePow, Nat.reduceLeDiff, st, Option.bind_eq_bind, Option.pure_def, List.length_nil, Int.cast_ofNat_Int, List.reverse_nil, hc, hv.idx hlt, hv.load hlt, hw, hrow.len, hv.len, hlc, h0, h1, this]
      · have : ¬ okRow t.length t[i] := fun h => hr h.2
        rw [if_neg hr] at h0
        simp only [F34L1b, F34, F34B, F34T0, F34T1, in34_0, in34_1, SS, insA, wantedA, Opd.ev, putA, binA, eqbA, unA, fldA, partA, reduceIte, reduceCtorEq, Nat.reduceMod, Nat.reduceDiv, Nat.reduceBEq, resultA, resA, vI, Nat.reduceMul, Nat.reduceAdd, Nat.reduceSub, Nat.reduceEqDiff, Nat.reduceLT, Nat.reducePow, Nat.reduceLeDiff, st, Option.bind_eq_bind, Option.pure_def, List.length_nil, Int.cast_ofNat_Int, List.reverse_nil, hc, hv.idx hlt, hv.load hlt, hw, hrow.len, hv.len, hlc, h0, this, false_and]
    · have hlc : ¬ ((t[i].length : Nat) : Int) = (t.length : Int) := by omega
      have : ¬ okRow t.length t[i] := fun h => hlen h.1
      simp only [F34L1b, F34, F34B, F34T0, F34T1, in34_0, in34_1, SS, insA, wantedA, Opd.ev, putA, binA, eqbA, unA, fldA, partA, reduceIte, reduceCtorEq, Nat.reduceMod, Nat.reduceDiv, Nat.reduceBEq, resultA, resA, vI, Nat.reduceMul, Nat.reduceAdd, Nat.reduceSub, Nat.reduceEqDiff, Nat.reduceLT, Nat.reducePow, Nat.reduceLeDiff, st, Option.bind_eq_bind, Option.pure_def, List.length_nil, Int.cast_ofNat_Int, List.reverse_nil, hc, hv.idx hlt, hv.load hlt, hw, hrow.len, hv.len, hlc, this, false_and]

theorem table34 {v : AV} {t : List (List Int)} (hv : IsTab v t) (hs : Small t) : callL E Y 34 [v] H = some (.bool (decide (okTab t)), H) := by
  rw [call34 rfl]
  have h1 := L34_1 (Y := Y) (H := H) hv hs t.length 0 (by omega)
  simp only [SS, insA, wantedA, Opd.ev, putA, binA, eqbA, unA, fldA, partA, reduceIte, reduceCtorEq, Nat.reduceMod, Nat.reduceDiv, Nat.reduceBEq, resultA, resA, vI, Nat.reduceMul, Nat.reduceAdd, Nat.reduceSub, Nat.reduceEqDiff, Nat.reduceLT, Nat.reducePow, Nat.reduceLeDiff, st, Option.bind_eq_bind, Option.pure_def, List.length_nil, Int.cast_ofNat_Int, List.reverse_nil, List.drop_zero, Int.ofNat_zero] at h1
  by_cases hr : ∀ r ∈ t, okRow t.length r
  · rw [if_pos hr] at h1
    have hiff : okTab t ↔ 1 ≤ t.length ∧ t.length ≤ 3 := ⟨fun h => ⟨h.1, h.2.1⟩, fun h => ⟨h.1, h.2, hr⟩⟩
    by_cases c1 : (t.length : Int) ≥ 1
    · by_cases c2 : (t.length : Int) ≤ 3
      · have : okTab t := hiff.2 ⟨by omega, by omega⟩
        simp only [F34, F34B, F34T0, F34T1, in34_0, in34_1, SS, insA, wantedA, Opd.ev, putA, binA, eqbA, unA, fldA, partA, reduceIte, reduceCtorEq, Nat.reduceMod, Nat.reduceDiv, Nat.reduceBEq, resultA, resA, vI, Nat.reduceMul, Nat.reduceAdd, Nat.reduceSub, Nat.reduceEqDiff, Nat.reduceLT, Nat.reducePow, Nat.reduceLeDiff, st, Option.bind_eq_bind, Option.pure_def, List.length_nil, Int.cast_ofNat_Int, List.reverse_nil, hv.len, h1, c1, c2, decide_true, BEq.rfl, this]
      · have : ¬ okTab t := fun h => by have := hiff.1 h; omega
        simp only [F34, F34B, F34T0, F34T1, in34_0, in34_1, SS, insA, wantedA, Opd.ev, putA, binA, eqbA, unA, fldA, partA, reduceIte, reduceCtorEq, Nat.reduceMod, Nat.reduceDiv, Nat.reduceBEq, resultA, resA, vI, Nat.reduceMul, Nat.reduceAdd, Nat.reduceSub, Nat.reduceEqDiff, Nat.reduceLT, Nat.reducePow, Nat.reduceLeDiff, st, Option.bind_eq_bind, Option.pure_def, List.length_nil, Int.cast_ofNat_Int, List.reverse_nil, hv.len, h1, c1, c2, decide_true, decide_false, BEq.rfl, this]
    · have : ¬ okTab t := fun h => by have := hiff.1 h; omega
      simp only [F34, F34B, F34T0, F34T1, in34_0, in34_1, SS, insA, wantedA, Opd.ev, putA, binA, eqbA, unA, fldA, partA, reduceIte, reduceCtorEq, Nat.reduceMod, Nat.reduceDiv, Nat.reduceBEq, resultA, resA, vI, Nat.reduceMul, Nat.reduceAdd, Nat.reduceSub, Nat.reduceEqDiff, Nat.reduceLT, Nat.reducePow, Nat.reduceLeDiff, st, Option.bind_eq_bind, Option.pure_def, List.length_nil, Int.cast_ofNat_Int, List.reverse_nil, hv.len, h1, c1, decide_true, decide_false, BEq.rfl, this]
  · rw [if_neg hr] at h1
    have : ¬ okTab t := fun h => hr h.2.2
    simp only [F34, F34B, F34T0, F34T1, in34_0, in34_1, SS, insA, wantedA, Opd.ev, putA, binA, eqbA, unA, fldA, partA, reduceIte, reduceCtorEq, Nat.reduceMod, Nat.reduceDiv, Nat.reduceBEq, resultA, resA, vI, Nat.reduceMul, Nat.reduceAdd, Nat.reduceSub, Nat.reduceEqDiff, Nat.reduceLT, Nat.reducePow, Nat.reduceLeDiff, st, Option.bind_eq_bind, Option.pure_def, List.length_nil, Int.cast_ofNat_Int, List.reverse_nil, hv.len, h1, this, decide_false]
end
end Go.X
