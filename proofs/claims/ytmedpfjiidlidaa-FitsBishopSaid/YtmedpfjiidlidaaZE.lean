import Derived.Test.YtmedpfjiidlidaaZD
import Derived.Test.YtmedpfjiidlidaaXH2
/-! Limits: both ways. -/
set_option linter.unusedSimpArgs false
set_option linter.unusedVariables false
set_option maxHeartbeats 2000000
set_option maxRecDepth 10000
namespace Go.X
open Go Go.RowKit
section
variable {Y : Run} {H : Heap}

def big (l : List Int) : Prop := ∀ x ∈ l, -100000000 ≤ x ∧ x ≤ 100000000

theorem B59_0 {vt xv yv : AV} {t : List (List Int)} {xs ys : List Int} (ht : IsTab vt t) (hx : IsRow xv xs) (hy : IsRow yv ys) (hn : t.length ≤ 3) (hxl : xs.length = t.length) (hyl : ys.length = t.length)
    (hT : tame t) (hX : big xs) (hY : big ys) {i : Nat} (hi : i < t.length) (hr : t[i].length = t.length) (d : Nat) : ∀ (k : Nat) (acc : Int), k + d = t.length → acc.natAbs + d * 200000000000000000 ≤ 4000000000000000000 →
    lp E Y F59L0 (st 42 [(0, vt), (1, xv), (2, yv), (7, vI acc), (8, vI i), (9, vI k)]) H = some (.x 2, st 42 [(0, vt), (1, xv), (2, yv), (7, vI (acc + dotX (xs.getD i 0) (t[i].drop k) (ys.drop k))), (8, vI i)], H) := by
  have hrow := ht.row hi
  have hg : t.getD i [] = t[i] := by simp [List.getD_eq_getElem?_getD, hi]
  rw [hg] at hrow
  have hix : i < xs.length := by omega
  have hxi : xs.getD i 0 = xs[i] := by simp [List.getD_eq_getElem?_getD, hix]
  induction d with
  | zero =>
    intro k acc hk hacc
    rw [un59_0, List.drop_eq_nil_of_le (by omega)]
    have : ¬ ((k : Int) < (t.length : Int)) := by omega
    simp only [F59L0b, F59, F59B, F59T0, F59T1, in59_0, in59_1, SS, insA, wantedA, Opd.ev, putA, binA, eqbA, unA, fldA, partA, reduceIte, reduceCtorEq, Nat.reduceMod, Nat.reduceDiv, Nat.reduceBEq, resultA, resA, vI, Nat.reduceMul, Nat.reduceAdd, Nat.reduceSub, Nat.reduceEqDiff, Nat.reduceLT, Nat.reducePow, Nat.reduceLeDiff, st, Option.bind_eq_bind, Option.pure_def, List.length_nil, Int.cast_ofNat_Int, List.reverse_nil, ht.len, this, dotX, Int.add_zero]
  | succ d ih =>
    intro k acc hk hacc
    have hlt : k < t.length := by omega
    have hky : k < ys.length := by omega
    have hkr : k < t[i].length := by omega
    rw [un59_0, List.drop_eq_getElem_cons hkr, List.drop_eq_getElem_cons hky]
    have hc : (k : Int) < (t.length : Int) := by omega
    have hw := wrap_succ (n := k) (by omega)
    have hgy : ys.getD k 0 = ys[k] := by simp [List.getD_eq_getElem?_getD, hky]
    have hga : t[i].getD k 0 = t[i][k] := by simp [List.getD_eq_getElem?_getD, hkr]
    have b1 := hX xs[i] (by simp)
    have b2 := hY ys[k] (by simp)
    have b3 := hT t[i] (by simp) t[i][k] (by simp)
    have b4 := mulB b1 b2
    have b5 := mulB b4 (B := 20) (by omega)
    have w1 : IntKind.wrap .i64 (xs[i] * ys[k]) = xs[i] * ys[k] := wrap_id (by omega) (by omega)
    have w2 : IntKind.wrap .i64 (xs[i] * ys[k] * t[i][k]) = xs[i] * ys[k] * t[i][k] := wrap_id (by omega) (by omega)
    have w3 : IntKind.wrap .i64 (acc + xs[i] * ys[k] * t[i][k]) = acc + xs[i] * ys[k] * t[i][k] := wrap_id (by omega) (by omega)
    have h3 := ih (k + 1) (acc + xs[i] * ys[k] * t[i][k]) (by omega) (by omega)
    rw [hxi] at h3 ⊢
    simp only [SS, insA, wantedA, Opd.ev, putA, binA, eqbA, unA, fldA, partA, reduceIte, reduceCtorEq, Nat.reduceMod, Nat.reduceDiv, Nat.reduceBEq, resultA, resA, vI, Nat.reduceMul, Nat.reduceAdd, Nat.reduceSub, Nat.reduceEqDiff, Nat.reduceLT, Nat.reducePow, Nat.reduceLeDiff, st, Option.bind_eq_bind, Option.pure_def, List.length_nil, Int.cast_ofNat_Int, List.reverse_nil] at h3
    simp only [F59L0b, F59, F59B, F59T0, F59T1, in59_0, in59_1, SS, insA, wantedA, Opd.ev, putA, binA, eqbA, unA, fldA, partA, reduceIte, reduceCtorEq, Nat.reduceMod, Nat.reduceDiv, Nat.reduceBEq, resultA, resA, vI, Nat.reduceMul, Nat.reduceAdd, Nat.reduceSub, Nat.reduceEqDiff, Nat.reduceLT, Nat.reducePow, Nat.reduceLeDiff, st, Option.bind_eq_bind, Option.pure_def, List.length_nil, Int.cast_ofNat_Int, List.reverse_nil, ht.len, ht.idx hi, ht.load hi, hrow.idx hkr, hrow.load hkr, hx.idx hix, hx.load hix, hy.idx hky, hy.load hky, hxi, hgy, hga, hc, hw, w1, w2, w3, h3, dotX, Int.add_assoc]

theorem dotX_big {x : Int} (hx : -100000000 ≤ x ∧ x ≤ 100000000) : ∀ {r ys : List Int}, inB r → big ys → (dotX x r ys).natAbs ≤ r.length * 200000000000000000
  | [], _, _, _ => by simp [dotX]
  | a :: r, [], _, _ => by simp [dotX]
  | a :: r, y :: ys, hr, hy => by
    have h1 := dotX_big hx (r := r) (ys := ys) (fun z hz => hr z (List.mem_cons_of_mem _ hz)) (fun z hz => hy z (List.mem_cons_of_mem _ hz))
    have b4 := mulB hx (hy y (by simp))
    have b5 := mulB b4 (B := 20) (hr a (by simp))
    simp only [dotX, List.length_cons]
    omega

theorem B59_1 {vt xv yv : AV} {t : List (List Int)} {xs ys : List Int} (ht : IsTab vt t) (hx : IsRow xv xs) (hy : IsRow yv ys) (hn : t.length ≤ 3) (hxl : xs.length = t.length) (hyl : ys.length = t.length)
    (hT : tame t) (hX : big xs) (hY : big ys) (hr : ∀ r ∈ t, r.length = t.length) (d : Nat) : ∀ (i : Nat) (acc : Int), i + d = t.length → acc.natAbs + d * 600000000000000000 ≤ 2000000000000000000 →
    lp E Y F59L1 (st 42 [(0, vt), (1, xv), (2, yv), (7, vI acc), (8, vI i)]) H = some (.x 0, st 42 [(7, vI (acc + gainS (t.drop i) (xs.drop i) ys))], H) := by
  induction d with
  | zero =>
    intro i acc hi hacc
    rw [un59_1, List.drop_eq_nil_of_le (by omega)]
    have : ¬ ((i : Int) < (t.length : Int)) := by omega
    simp only [F59L1b, F59, F59B, F59T0, F59T1, in59_0, in59_1, SS, insA, wantedA, Opd.ev, putA, binA, eqbA, unA, fldA, partA, reduceIte, reduceCtorEq, Nat.reduceMod, Nat.reduceDiv, Nat.reduceBEq, resultA, resA, vI, Nat.reduceMul, Nat.reduceAdd, Nat.reduceSub, Nat.reduceEqDiff, Nat.reduceLT, Nat.reducePow, Nat.reduceLeDiff, st, Option.bind_eq_bind, Option.pure_def, List.length_nil, Int.cast_ofNat_Int, List.reverse_nil, ht.len, this, gainS, Int.add_zero]
  | succ d ih =>
    intro i acc hi hacc
    have hlt : i < t.length := by omega
    have hix : i < xs.length := by omega
    rw [un59_1, List.drop_eq_getElem_cons hlt, List.drop_eq_getElem_cons hix]
    have hc : (i : Int) < (t.length : Int) := by omega
    have hw := wrap_succ (n := i) (by omega)
    have hxi : xs.getD i 0 = xs[i] := by simp [List.getD_eq_getElem?_getD, hix]
    have hri := hr t[i] (by simp)
    have hq1 : t.length * 200000000000000000 ≤ 3 * 200000000000000000 := Nat.mul_le_mul_right _ hn
    have hq2 : acc.natAbs ≤ 2000000000000000000 := Nat.le_trans (Nat.le_add_right _ _) hacc
    have hq : acc.natAbs + t.length * 200000000000000000 ≤ 4000000000000000000 := Nat.le_trans (Nat.add_le_add hq2 hq1) (by decide)
    have h0 := B59_0 (Y := Y) (H := H) ht hx hy hn hxl hyl hT hX hY hlt hri t.length 0 acc (Nat.zero_add _) hq
    have hb := dotX_big (hX xs[i] (by simp)) (hT t[i] (by simp)) hY
    rw [hri] at hb
    have h3 := ih (i + 1) (acc + dotX xs[i] t[i] ys) (by omega) (by omega)
    rw [hxi] at h0
    simp only [SS, insA, wantedA, Opd.ev, putA, binA, eqbA, unA, fldA, partA, reduceIte, reduceCtorEq, Nat.reduceMod, Nat.reduceDiv, Nat.reduceBEq, resultA, resA, vI, Nat.reduceMul, Nat.reduceAdd, Nat.reduceSub, Nat.reduceEqDiff, Nat.reduceLT, Nat.reducePow, Nat.reduceLeDiff, st, Option.bind_eq_bind, Option.pure_def, List.length_nil, Int.cast_ofNat_Int, List.reverse_nil, List.drop_zero, Int.ofNat_zero] at h0
    simp only [SS, insA, wantedA, Opd.ev, putA, binA, eqbA, unA, fldA, partA, reduceIte, reduceCtorEq, Nat.reduceMod, Nat.reduceDiv, Nat.reduceBEq, resultA, resA, vI, Nat.reduceMul, Nat.reduceAdd, Nat.reduceSub, Nat.reduceEqDiff, Nat.reduceLT, Nat.reducePow, Nat.reduceLeDiff, st, Option.bind_eq_bind, Option.pure_def, List.length_nil, Int.cast_ofNat_Int, List.reverse_nil] at h3
    simp only [F59L1b, F59, F59B, F59T0, F59T1, in59_0, in59_1, SS, insA, wantedA, Opd.ev, putA, binA, eqbA, unA, fldA, partA, reduceIte, reduceCtorEq, Nat.reduceMod, Nat.reduceDiv, Nat.reduceBEq, resultA, resA, vI, Nat.reduceMul, Nat.reduceAdd, Nat.reduceSub, Nat.reduceEqDiff, Nat.reduceLT, Nat.reducePow, Nat.reduceLeDiff, st, Option.bind_eq_bind, Option.pure_def, List.length_nil, Int.cast_ofNat_Int, List.reverse_nil, ht.len, hc, hw, h0, h3, gainS, Int.add_assoc]

theorem gain59b {vt xv yv : AV} {t : List (List Int)} {xs ys : List Int} (ht : IsTab vt t) (hx : IsRow xv xs) (hy : IsRow yv ys) (hn : t.length ≤ 3) (hxl : xs.length = t.length) (hyl : ys.length = t.length)
    (hT : tame t) (hX : big xs) (hY : big ys) (hr : ∀ r ∈ t, r.length = t.length) : freeX H (callL E Y 59 [vt, xv, yv] []) = some (vI (gainS t xs ys), H) := by
  rw [call59 rfl]
  have h1 := B59_1 (Y := Y) (H := []) ht hx hy hn hxl hyl hT hX hY hr t.length 0 0 (by omega) (by omega)
  simp only [SS, insA, wantedA, Opd.ev, putA, binA, eqbA, unA, fldA, partA, reduceIte, reduceCtorEq, Nat.reduceMod, Nat.reduceDiv, Nat.reduceBEq, resultA, resA, vI, Nat.reduceMul, Nat.reduceAdd, Nat.reduceSub, Nat.reduceEqDiff, Nat.reduceLT, Nat.reducePow, Nat.reduceLeDiff, st, Option.bind_eq_bind, Option.pure_def, List.length_nil, Int.cast_ofNat_Int, List.reverse_nil, List.drop_zero, Int.ofNat_zero, Int.zero_add] at h1
  simp only [F59, F59B, F59T0, F59T1, in59_0, in59_1, SS, insA, wantedA, Opd.ev, putA, binA, eqbA, unA, fldA, partA, reduceIte, reduceCtorEq, Nat.reduceMod, Nat.reduceDiv, Nat.reduceBEq, resultA, resA, vI, Nat.reduceMul, Nat.reduceAdd, Nat.reduceSub, Nat.reduceEqDiff, Nat.reduceLT, Nat.reducePow, Nat.reduceLeDiff, st, Option.bind_eq_bind, Option.pure_def, List.length_nil, Int.cast_ofNat_Int, List.reverse_nil, h1]


/-! ### Pure laws -/
theorem scal_bound {A a y : Int} (ha : -A ≤ a ∧ a ≤ A) (hy : 0 ≤ y) : -(A * y) ≤ a * y ∧ a * y ≤ A * y := by
  constructor
  · rw [← Int.neg_mul]; exact Int.mul_le_mul_of_nonneg_right ha.1 hy
  · exact Int.mul_le_mul_of_nonneg_right ha.2 hy

theorem sum_nonneg {l : List Int} (h : ∀ x ∈ l, 0 ≤ x) : 0 ≤ sumL l := by
  induction l with
  | nil => simp [sumL]
  | cons x l ih =>
    have h1 := ih fun y hy => h y (List.mem_cons_of_mem _ hy)
    have h2 := h x (by simp)
    simp only [sumL, List.foldr_cons] at h1 ⊢
    omega

theorem dotS_sum {A : Int} (hA : 0 ≤ A) : ∀ {r ys : List Int}, (∀ a ∈ r, -A ≤ a ∧ a ≤ A) → (∀ y ∈ ys, 0 ≤ y) → -(A * sumL ys) ≤ dotS r ys ∧ dotS r ys ≤ A * sumL ys
  | [], ys, _, h => by
    have := Int.mul_nonneg hA (sum_nonneg h)
    simp only [dotS]; omega
  | _ :: _, [], _, _ => by simp [dotS, sumL]
  | a :: r, y :: ys, h1, h2 => by
    have h3 := dotS_sum hA (r := r) (ys := ys) (fun x hx => h1 x (List.mem_cons_of_mem _ hx)) (fun x hx => h2 x (List.mem_cons_of_mem _ hx))
    have h4 := scal_bound (h1 a (by simp)) (h2 y (by simp))
    have e : A * sumL (y :: ys) = A * y + A * sumL ys := by simp only [sumL, List.foldr_cons, Int.mul_add]
    simp only [dotS, e]
    omega

theorem dotS_comm : ∀ (r ys : List Int), dotS r ys = dotS ys r
  | [], ys => by cases ys <;> rfl
  | _ :: _, [] => rfl
  | a :: r, y :: ys => by simp only [dotS, dotS_comm r ys, Int.mul_comm a y]

theorem gainM_bound {t : List (List Int)} {xs ys : List Int} {dx dy : Int} (hok : okTab t) (hx : fit dx xs) (hy : fit dy ys) (sx : sumL xs = dx) (sy : sumL ys = dy) (d1 : 1 ≤ dx ∧ dx ≤ 10000) (d2 : 1 ≤ dy ∧ dy ≤ 10000) : (gainS t xs ys).natAbs ≤ 2000000000 := by
  rw [gain_dot, dotS_comm]
  have hg : ∀ x ∈ t.map (dotS · ys), -200000 ≤ x ∧ x ≤ 200000 := by
    intro x hx
    obtain ⟨r, hr, rfl⟩ := List.mem_map.1 hx
    have h1 := dotS_sum (A := 20) (by omega) (r := r) (ys := ys) (hok.tame r hr) fun y h => (hy y h).1
    rw [sy] at h1
    omega
  have h1 := dotS_sum (A := 200000) (by omega) (r := t.map (dotS · ys)) (ys := xs) hg fun y h => (hx y h).1
  rw [sx] at h1
  omega

theorem dot_scal (c : Int) : ∀ (r ys : List Int), dotS r (ys.map (· * c)) = dotS r ys * c
  | [], ys => by simp [dotS]
  | _ :: _, [] => by simp [dotS]
  | a :: r, y :: ys => by
    simp only [List.map_cons, dotS, dot_scal c r ys, Int.add_mul, Int.mul_assoc]

theorem dot_diff (c e : Int) : ∀ (xs ys g : List Int), xs.length = ys.length → dotS (List.zipWith (fun x y => x * c - y * e) xs ys) g = dotS xs g * c - dotS ys g * e
  | [], [], g, _ => by simp [dotS]
  | x :: xs, y :: ys, [], _ => by simp [dotS]
  | x :: xs, y :: ys, a :: g, h => by
    have := dot_diff c e xs ys g (by simpa using h)
    simp only [List.zipWith_cons_cons, dotS, this, Int.sub_mul, Int.add_mul]
    have e1 : x * c * a = x * a * c := Int.mul_right_comm _ _ _
    have e2 : y * e * a = y * a * e := Int.mul_right_comm _ _ _
    rw [e1, e2]
    omega

/-- What the one gains more than the other one, against the first, and against the second. -/
def pS (t : List (List Int)) (x y : List Int × Int) : Int := (gainS t x.1 x.1 * y.2 - gainS t y.1 x.1 * x.2) * y.2
def qS (t : List (List Int)) (x y : List Int × Int) : Int := (gainS t x.1 y.1 * y.2 - gainS t y.1 y.1 * x.2) * x.2

theorem gain_scal (t : List (List Int)) (d ys : List Int) (c : Int) : gainS t d (ys.map (· * c)) = dotS d (t.map (dotS · ys)) * c := by
  rw [gain_dot, ← dot_scal, List.map_map]
  congr 1
  exact List.map_congr_left fun r _ => dot_scal c r ys

theorem p_eq (t : List (List Int)) (xs ys : List Int) (dx dy : Int) (h : xs.length = ys.length) : gainS t (List.zipWith (fun x y => x * dy - y * dx) xs ys) (xs.map (· * dy)) = pS t (xs, dx) (ys, dy) := by
  rw [gain_scal, dot_diff _ _ _ _ _ h, ← gain_dot, ← gain_dot]; rfl
theorem q_eq (t : List (List Int)) (xs ys : List Int) (dx dy : Int) (h : xs.length = ys.length) : gainS t (List.zipWith (fun x y => x * dy - y * dx) xs ys) (ys.map (· * dx)) = qS t (xs, dx) (ys, dy) := by
  rw [gain_scal, dot_diff _ _ _ _ _ h, ← gain_dot, ← gain_dot]; rfl

theorem pq_bound {t : List (List Int)} {xs ys : List Int} {dx dy : Int} (h : askS t [(xs, dx), (ys, dy)] = true) : (pS t (xs, dx) (ys, dy)).natAbs ≤ 400000000000000000 ∧ (qS t (xs, dx) (ys, dy)).natAbs ≤ 400000000000000000 := by
  obtain ⟨hok, m1, m2⟩ := ask2 h
  obtain ⟨l1, d1, d2, f1, s1, _⟩ := mix_ok m1
  obtain ⟨l2, d3, d4, f2, s2, _⟩ := mix_ok m2
  simp only at l1 d1 d2 f1 s1 l2 d3 d4 f2 s2
  have b1 := gainM_bound hok f1 f1 s1 s1 ⟨d1, d2⟩ ⟨d1, d2⟩
  have b2 := gainM_bound hok f2 f1 s2 s1 ⟨d3, d4⟩ ⟨d1, d2⟩
  have b3 := gainM_bound hok f1 f2 s1 s2 ⟨d1, d2⟩ ⟨d3, d4⟩
  have b4 := gainM_bound hok f2 f2 s2 s2 ⟨d3, d4⟩ ⟨d3, d4⟩
  have c1 := mulB (A := 2000000000) (B := 10000) (a := gainS t xs xs) (b := dy) (by omega) (by omega)
  have c2 := mulB (A := 2000000000) (B := 10000) (a := gainS t ys xs) (b := dx) (by omega) (by omega)
  have c3 := mulB (A := 2000000000) (B := 10000) (a := gainS t xs ys) (b := dy) (by omega) (by omega)
  have c4 := mulB (A := 2000000000) (B := 10000) (a := gainS t ys ys) (b := dx) (by omega) (by omega)
  have e1 := mulB (A := 40000000000000) (B := 10000) (a := gainS t xs xs * dy - gainS t ys xs * dx) (b := dy) (by omega) (by omega)
  have e2 := mulB (A := 40000000000000) (B := 10000) (a := gainS t xs ys * dy - gainS t ys ys * dx) (b := dx) (by omega) (by omega)
  unfold pS qS
  exact ⟨by simp only; omega, by simp only; omega⟩

def limV (p q : Int) : AV :=
  if p < 0 ∨ p = 0 ∧ q ≤ 0 then .tup [.agg [vI 0, vI 0], vI 9] else if q ≥ 0 then .tup [.agg [vI 1, vI 1], vI 0] else .tup [ratA p (p - q), vI 0]
def limR (t : List (List Int)) (x y : List Int × Int) : AV :=
  if askS t [x, y] = true then (if x.2 = y.2 ∧ x.1 = y.1 then .tup [.agg [vI 0, vI 0], vI 10] else limV (pS t x y) (qS t x y)) else .tup [.agg [vI 0, vI 0], vI 2]

/-! ### The specification's lists -/
theorem c39_1 {s sx sy : Bool} {cs : List AV} {a e dx dy : Int} (ha : -10000 ≤ a ∧ a ≤ 10000) (he : -10000 ≤ e ∧ e ≤ 10000) (hdx : -10000 ≤ dx ∧ dx ≤ 10000) (hdy : -10000 ≤ dy ∧ dy ≤ 10000) :
    lp E2 Y F39L0 (sp 95 [(12, vI 0), (11, .nils), (10, .nils), (9, .nils), (6, .ptr 2 0 0), (5, .ptr 1 0 0), (4, .ptr 0 0 0), (0, .imm s cs 1)]) [⟨0, [.imm sx [vI a] 1, vI dx]⟩, ⟨0, [.imm sy [vI e] 1, vI dy]⟩, ⟨0, [vI 0, vI 0]⟩, ⟨0, [.imm sx [vI a] 1, vI dx, .imm sy [vI e] 1, vI dy]⟩] =
      some (.x 0, sp 95 [(11, .sl 9 0 1 0 1 none), (10, .sl 7 0 1 0 1 none), (9, .sl 5 0 1 0 1 none), (6, .ptr 2 0 0), (0, .imm s cs 1)], [⟨0, [.imm sx [vI a] 1, vI dx]⟩, ⟨0, [.imm sy [vI e] 1, vI dy]⟩, ⟨0, [vI 0, vI 0]⟩, ⟨0, [.imm sx [vI a] 1, vI dx, .imm sy [vI e] 1, vI dy]⟩, ⟨0, [vI (a * dy)]⟩, ⟨0, [vI (a * dy)]⟩, ⟨0, [vI (e * dx)]⟩, ⟨0, [vI (e * dx)]⟩, ⟨0, [vI (a * dy - e * dx)]⟩, ⟨0, [vI (a * dy - e * dx)]⟩]) := by
  have p0 := mulB (A := 10000) (B := 10000) (a := a) (b := dy) ha hdy
  have q0 := mulB (A := 10000) (B := 10000) (a := e) (b := dx) he hdx
  have u0 : IntKind.wrap .i64 (a * dy) = a * dy := wrap_id (by omega) (by omega)
  have v0 : IntKind.wrap .i64 (e * dx) = e * dx := wrap_id (by omega) (by omega)
  have w0 : IntKind.wrap .i64 (a * dy - e * dx) = a * dy - e * dx := wrap_id (by omega) (by omega)
  have k := runE (E := E2) (Y := Y) (k := 300) (c := F39L0) (fr := sp 95 [(12, vI 0), (11, .nils), (10, .nils), (9, .nils), (6, .ptr 2 0 0), (5, .ptr 1 0 0), (4, .ptr 0 0 0), (0, .imm s cs 1)]) (H := [⟨0, [.imm sx [vI a] 1, vI dx]⟩, ⟨0, [.imm sy [vI e] 1, vI dy]⟩, ⟨0, [vI 0, vI 0]⟩, ⟨0, [.imm sx [vI a] 1, vI dx, .imm sy [vI e] 1, vI dy]⟩]) (r := (.x 0, sp 95 [(11, .sl 9 0 1 0 1 none), (10, .sl 7 0 1 0 1 none), (9, .sl 5 0 1 0 1 none), (6, .ptr 2 0 0), (0, .imm s cs 1)], [⟨0, [.imm sx [vI a] 1, vI dx]⟩, ⟨0, [.imm sy [vI e] 1, vI dy]⟩, ⟨0, [vI 0, vI 0]⟩, ⟨0, [.imm sx [vI a] 1, vI dx, .imm sy [vI e] 1, vI dy]⟩, ⟨0, [vI (IntKind.wrap .i64 (a * dy))]⟩, ⟨0, [vI (IntKind.wrap .i64 (a * dy))]⟩, ⟨0, [vI (IntKind.wrap .i64 (e * dx))]⟩, ⟨0, [vI (IntKind.wrap .i64 (e * dx))]⟩, ⟨0, [vI (IntKind.wrap .i64 (IntKind.wrap .i64 (a * dy) - IntKind.wrap .i64 (e * dx)))]⟩, ⟨0, [vI (IntKind.wrap .i64 (IntKind.wrap .i64 (a * dy) - IntKind.wrap .i64 (e * dx)))]⟩])) (by kernel_rfl)
  simp only [u0, v0, w0] at k
  exact k

theorem c39_2 {s sx sy : Bool} {cs : List AV} {a b e f dx dy : Int} (ha : -10000 ≤ a ∧ a ≤ 10000) (hb : -10000 ≤ b ∧ b ≤ 10000) (he : -10000 ≤ e ∧ e ≤ 10000) (hf : -10000 ≤ f ∧ f ≤ 10000) (hdx : -10000 ≤ dx ∧ dx ≤ 10000) (hdy : -10000 ≤ dy ∧ dy ≤ 10000) :
    lp E2 Y F39L0 (sp 95 [(12, vI 0), (11, .nils), (10, .nils), (9, .nils), (6, .ptr 2 0 0), (5, .ptr 1 0 0), (4, .ptr 0 0 0), (0, .imm s cs 2)]) [⟨0, [.imm sx [vI a, vI b] 2, vI dx]⟩, ⟨0, [.imm sy [vI e, vI f] 2, vI dy]⟩, ⟨0, [vI 0, vI 0]⟩, ⟨0, [.imm sx [vI a, vI b] 2, vI dx, .imm sy [vI e, vI f] 2, vI dy]⟩] =
      some (.x 0, sp 95 [(11, .sl 9 1 1 0 2 none), (10, .sl 7 1 1 0 2 none), (9, .sl 5 1 1 0 2 none), (6, .ptr 2 0 0), (0, .imm s cs 2)], [⟨0, [.imm sx [vI a, vI b] 2, vI dx]⟩, ⟨0, [.imm sy [vI e, vI f] 2, vI dy]⟩, ⟨0, [vI 0, vI 0]⟩, ⟨0, [.imm sx [vI a, vI b] 2, vI dx, .imm sy [vI e, vI f] 2, vI dy]⟩, ⟨0, [vI (a * dy)]⟩, ⟨1, [vI (a * dy), vI (b * dy)]⟩, ⟨0, [vI (e * dx)]⟩, ⟨1, [vI (e * dx), vI (f * dx)]⟩, ⟨0, [vI (a * dy - e * dx)]⟩, ⟨1, [vI (a * dy - e * dx), vI (b * dy - f * dx)]⟩, ⟨0, [vI (b * dy)]⟩, ⟨0, [vI (f * dx)]⟩, ⟨0, [vI (b * dy - f * dx)]⟩]) := by
  have p0 := mulB (A := 10000) (B := 10000) (a := a) (b := dy) ha hdy
  have q0 := mulB (A := 10000) (B := 10000) (a := e) (b := dx) he hdx
  have u0 : IntKind.wrap .i64 (a * dy) = a * dy := wrap_id (by omega) (by omega)
  have v0 : IntKind.wrap .i64 (e * dx) = e * dx := wrap_id (by omega) (by omega)
  have w0 : IntKind.wrap .i64 (a * dy - e * dx) = a * dy - e * dx := wrap_id (by omega) (by omega)
  have p1 := mulB (A := 10000) (B := 10000) (a := b) (b := dy) hb hdy
  have q1 := mulB (A := 10000) (B := 10000) (a := f) (b := dx) hf hdx
  have u1 : IntKind.wrap .i64 (b * dy) = b * dy := wrap_id (by omega) (by omega)
  have v1 : IntKind.wrap .i64 (f * dx) = f * dx := wrap_id (by omega) (by omega)
  have w1 : IntKind.wrap .i64 (b * dy - f * dx) = b * dy - f * dx := wrap_id (by omega) (by omega)
  have k := runE (E := E2) (Y := Y) (k := 300) (c := F39L0) (fr := sp 95 [(12, vI 0), (11, .nils), (10, .nils), (9, .nils), (6, .ptr 2 0 0), (5, .ptr 1 0 0), (4, .ptr 0 0 0), (0, .imm s cs 2)]) (H := [⟨0, [.imm sx [vI a, vI b] 2, vI dx]⟩, ⟨0, [.imm sy [vI e, vI f] 2, vI dy]⟩, ⟨0, [vI 0, vI 0]⟩, ⟨0, [.imm sx [vI a, vI b] 2, vI dx, .imm sy [vI e, vI f] 2, vI dy]⟩]) (r := (.x 0, sp 95 [(11, .sl 9 1 1 0 2 none), (10, .sl 7 1 1 0 2 none), (9, .sl 5 1 1 0 2 none), (6, .ptr 2 0 0), (0, .imm s cs 2)], [⟨0, [.imm sx [vI a, vI b] 2, vI dx]⟩, ⟨0, [.imm sy [vI e, vI f] 2, vI dy]⟩, ⟨0, [vI 0, vI 0]⟩, ⟨0, [.imm sx [vI a, vI b] 2, vI dx, .imm sy [vI e, vI f] 2, vI dy]⟩, ⟨0, [vI (IntKind.wrap .i64 (a * dy))]⟩, ⟨1, [vI (IntKind.wrap .i64 (a * dy)), vI (IntKind.wrap .i64 (b * dy))]⟩, ⟨0, [vI (IntKind.wrap .i64 (e * dx))]⟩, ⟨1, [vI (IntKind.wrap .i64 (e * dx)), vI (IntKind.wrap .i64 (f * dx))]⟩, ⟨0, [vI (IntKind.wrap .i64 (IntKind.wrap .i64 (a * dy) - IntKind.wrap .i64 (e * dx)))]⟩, ⟨1, [vI (IntKind.wrap .i64 (IntKind.wrap .i64 (a * dy) - IntKind.wrap .i64 (e * dx))), vI (IntKind.wrap .i64 (IntKind.wrap .i64 (b * dy) - IntKind.wrap .i64 (f * dx)))]⟩, ⟨0, [vI (IntKind.wrap .i64 (b * dy))]⟩, ⟨0, [vI (IntKind.wrap .i64 (f * dx))]⟩, ⟨0, [vI (IntKind.wrap .i64 (IntKind.wrap .i64 (b * dy) - IntKind.wrap .i64 (f * dx)))]⟩])) (by kernel_rfl)
  simp only [u0, v0, w0, u1, v1, w1] at k
  exact k

theorem c39_3 {s sx sy : Bool} {cs : List AV} {a b c e f g dx dy : Int} (ha : -10000 ≤ a ∧ a ≤ 10000) (hb : -10000 ≤ b ∧ b ≤ 10000) (hc : -10000 ≤ c ∧ c ≤ 10000) (he : -10000 ≤ e ∧ e ≤ 10000) (hf : -10000 ≤ f ∧ f ≤ 10000) (hg : -10000 ≤ g ∧ g ≤ 10000) (hdx : -10000 ≤ dx ∧ dx ≤ 10000) (hdy : -10000 ≤ dy ∧ dy ≤ 10000) :
    lp E2 Y F39L0 (sp 95 [(12, vI 0), (11, .nils), (10, .nils), (9, .nils), (6, .ptr 2 0 0), (5, .ptr 1 0 0), (4, .ptr 0 0 0), (0, .imm s cs 3)]) [⟨0, [.imm sx [vI a, vI b, vI c] 3, vI dx]⟩, ⟨0, [.imm sy [vI e, vI f, vI g] 3, vI dy]⟩, ⟨0, [vI 0, vI 0]⟩, ⟨0, [.imm sx [vI a, vI b, vI c] 3, vI dx, .imm sy [vI e, vI f, vI g] 3, vI dy]⟩] =
      some (.x 0, sp 95 [(11, .sl 9 2 1 0 3 none), (10, .sl 7 2 1 0 3 none), (9, .sl 5 2 1 0 3 none), (6, .ptr 2 0 0), (0, .imm s cs 3)], [⟨0, [.imm sx [vI a, vI b, vI c] 3, vI dx]⟩, ⟨0, [.imm sy [vI e, vI f, vI g] 3, vI dy]⟩, ⟨0, [vI 0, vI 0]⟩, ⟨0, [.imm sx [vI a, vI b, vI c] 3, vI dx, .imm sy [vI e, vI f, vI g] 3, vI dy]⟩, ⟨0, [vI (a * dy)]⟩, ⟨2, [vI (a * dy), vI (b * dy), vI (c * dy)]⟩, ⟨0, [vI (e * dx)]⟩, ⟨2, [vI (e * dx), vI (f * dx), vI (g * dx)]⟩, ⟨0, [vI (a * dy - e * dx)]⟩, ⟨2, [vI (a * dy - e * dx), vI (b * dy - f * dx), vI (c * dy - g * dx)]⟩, ⟨0, [vI (b * dy)]⟩, ⟨0, [vI (f * dx)]⟩, ⟨0, [vI (b * dy - f * dx)]⟩, ⟨0, [vI (c * dy)]⟩, ⟨0, [vI (g * dx)]⟩, ⟨0, [vI (c * dy - g * dx)]⟩]) := by
  have p0 := mulB (A := 10000) (B := 10000) (a := a) (b := dy) ha hdy
  have q0 := mulB (A := 10000) (B := 10000) (a := e) (b := dx) he hdx
  have u0 : IntKind.wrap .i64 (a * dy) = a * dy := wrap_id (by omega) (by omega)
  have v0 : IntKind.wrap .i64 (e * dx) = e * dx := wrap_id (by omega) (by omega)
  have w0 : IntKind.wrap .i64 (a * dy - e * dx) = a * dy - e * dx := wrap_id (by omega) (by omega)
  have p1 := mulB (A := 10000) (B := 10000) (a := b) (b := dy) hb hdy
  have q1 := mulB (A := 10000) (B := 10000) (a := f) (b := dx) hf hdx
  have u1 : IntKind.wrap .i64 (b * dy) = b * dy := wrap_id (by omega) (by omega)
  have v1 : IntKind.wrap .i64 (f * dx) = f * dx := wrap_id (by omega) (by omega)
  have w1 : IntKind.wrap .i64 (b * dy - f * dx) = b * dy - f * dx := wrap_id (by omega) (by omega)
  have p2 := mulB (A := 10000) (B := 10000) (a := c) (b := dy) hc hdy
  have q2 := mulB (A := 10000) (B := 10000) (a := g) (b := dx) hg hdx
  have u2 : IntKind.wrap .i64 (c * dy) = c * dy := wrap_id (by omega) (by omega)
  have v2 : IntKind.wrap .i64 (g * dx) = g * dx := wrap_id (by omega) (by omega)
  have w2 : IntKind.wrap .i64 (c * dy - g * dx) = c * dy - g * dx := wrap_id (by omega) (by omega)
  have k := runE (E := E2) (Y := Y) (k := 300) (c := F39L0) (fr := sp 95 [(12, vI 0), (11, .nils), (10, .nils), (9, .nils), (6, .ptr 2 0 0), (5, .ptr 1 0 0), (4, .ptr 0 0 0), (0, .imm s cs 3)]) (H := [⟨0, [.imm sx [vI a, vI b, vI c] 3, vI dx]⟩, ⟨0, [.imm sy [vI e, vI f, vI g] 3, vI dy]⟩, ⟨0, [vI 0, vI 0]⟩, ⟨0, [.imm sx [vI a, vI b, vI c] 3, vI dx, .imm sy [vI e, vI f, vI g] 3, vI dy]⟩]) (r := (.x 0, sp 95 [(11, .sl 9 2 1 0 3 none), (10, .sl 7 2 1 0 3 none), (9, .sl 5 2 1 0 3 none), (6, .ptr 2 0 0), (0, .imm s cs 3)], [⟨0, [.imm sx [vI a, vI b, vI c] 3, vI dx]⟩, ⟨0, [.imm sy [vI e, vI f, vI g] 3, vI dy]⟩, ⟨0, [vI 0, vI 0]⟩, ⟨0, [.imm sx [vI a, vI b, vI c] 3, vI dx, .imm sy [vI e, vI f, vI g] 3, vI dy]⟩, ⟨0, [vI (IntKind.wrap .i64 (a * dy))]⟩, ⟨2, [vI (IntKind.wrap .i64 (a * dy)), vI (IntKind.wrap .i64 (b * dy)), vI (IntKind.wrap .i64 (c * dy))]⟩, ⟨0, [vI (IntKind.wrap .i64 (e * dx))]⟩, ⟨2, [vI (IntKind.wrap .i64 (e * dx)), vI (IntKind.wrap .i64 (f * dx)), vI (IntKind.wrap .i64 (g * dx))]⟩, ⟨0, [vI (IntKind.wrap .i64 (IntKind.wrap .i64 (a * dy) - IntKind.wrap .i64 (e * dx)))]⟩, ⟨2, [vI (IntKind.wrap .i64 (IntKind.wrap .i64 (a * dy) - IntKind.wrap .i64 (e * dx))), vI (IntKind.wrap .i64 (IntKind.wrap .i64 (b * dy) - IntKind.wrap .i64 (f * dx))), vI (IntKind.wrap .i64 (IntKind.wrap .i64 (c * dy) - IntKind.wrap .i64 (g * dx)))]⟩, ⟨0, [vI (IntKind.wrap .i64 (b * dy))]⟩, ⟨0, [vI (IntKind.wrap .i64 (f * dx))]⟩, ⟨0, [vI (IntKind.wrap .i64 (IntKind.wrap .i64 (b * dy) - IntKind.wrap .i64 (f * dx)))]⟩, ⟨0, [vI (IntKind.wrap .i64 (c * dy))]⟩, ⟨0, [vI (IntKind.wrap .i64 (g * dx))]⟩, ⟨0, [vI (IntKind.wrap .i64 (IntKind.wrap .i64 (c * dy) - IntKind.wrap .i64 (g * dx)))]⟩])) (by kernel_rfl)
  simp only [u0, v0, w0, u1, v1, w1, u2, v2, w2] at k
  exact k

end
end Go.X
