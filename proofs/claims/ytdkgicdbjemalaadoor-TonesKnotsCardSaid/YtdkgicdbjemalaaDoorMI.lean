import Derived.Test.YtdkgicdbjemalaaDoorMH
import Derived.Test.YtdkgicdbjemalaaDoorQC
/-! Tones: the rings that begin with a knot (the closure 'on'). -/
set_option linter.unusedSimpArgs false
set_option linter.unusedVariables false
set_option maxHeartbeats 2000000
set_option maxRecDepth 10000
namespace Go.X
open Go Go.RowKit

def isInt (z : Int) (r : Option (AV × Heap)) : Bool := match r with
  | some (.int .i64 a, _) => a == z
  | _ => false

section
variable {Y : Run} {H : Heap}

theorem int_run {k f : Nat} {args : List AV} {z : Int} (h : isInt z (callT ET noR k f args []) = true) : freeX H (callL ET Y f args []) = some (vI z, H) := by
  have h2 : RLe noR (callL ET Y) := fun _ _ _ _ h => by cases h
  cases hc : callT ET noR k f args [] with
  | none => rw [hc] at h; cases h
  | some q =>
    obtain ⟨v, H'⟩ := q
    rw [hc] at h
    have := memoT (E := ET) (Y := Y) (fun _ _ h => h) h2 hc
    rw [this]
    unfold isInt at h
    split at h
    · rename_i a H2 e
      cases e
      have : a = z := by simpa using h
      subst this; rfl
    · cases h

def ctz (a : Nat) : Nat := ((List.range 7).find? fun j => a.testBit j).getD 0

set_option maxRecDepth 100000 in
theorem pop_all : (List.range 128).all (fun m => isInt (pc m) (callT ET noR 300 68 [.int .u64 (m : Int)] [])) = true := by kernel_rfl
set_option maxRecDepth 100000 in
theorem ctz_all : (List.range 128).all (fun m => m == 0 || isInt (ctz m) (callT ET noR 300 91 [vI (m : Int)] [])) = true := by kernel_rfl

theorem pop68 {m : Nat} (h : m < 128) : freeX H (callL ET Y 68 [.int .u64 (m : Int)] []) = some (vI (pc m), H) :=
  int_run (List.all_eq_true.1 pop_all m (List.mem_range.2 h))
theorem first91 {m : Nat} (h : m < 128) (h0 : m ≠ 0) : freeX H (callL ET Y 91 [vI (m : Int)] []) = some (vI (ctz m), H) := by
  have := List.all_eq_true.1 ctz_all m (List.mem_range.2 h)
  rw [Bool.or_eq_true] at this
  rcases this with h1 | h1
  · exact absurd (by simpa using h1) h0
  · exact int_run h1

/-- A call that hands on a list. -/
theorem call_row {R : Run} {f : Nat} {args bs : List AV} {v : AV} {R0 : Heap} {j0 ver : Nat} {l : List Int} (hs : args.mapM (snapA H 6) = some bs) (hr : R f bs [] = some (v, R0)) (hv : v = .sl j0 ver 1 0 l.length none) (h0 : R0[j0]? = some ⟨ver, l.map vW⟩) :
    callA R 2 f args H = some (.sl (j0 + H.length) ver 1 0 l.length none, H ++ R0.map (shO H.length)) ∧ (H ++ R0.map (shO H.length))[j0 + H.length]? = some ⟨ver, l.map vW⟩ := by
  subst hv
  refine ⟨?_, ?_⟩
  · simp only [callA, show depth = 6 from rfl, hs, hr, mapM_shO]
    rfl
  · rw [shift_get h0, map_vW, shO_row]

/-- What the recursion hands on: a list. -/
def OvOk (Y : Run) (fr : AV) (w r : Nat) (ov : Nat → List Int) (S : Nat) : Prop :=
  ∃ v R0 j0 ver, callL ET Y 71 [fr, vI S, .agg [.fn w [], .fn r []]] [] = some (v, R0) ∧ v = .sl j0 ver 1 0 (ov S).length none ∧ R0[j0]? = some ⟨ver, (ov S).map vW⟩ ∧ (ov S).length ≤ 8

/-- The rings that go on from a knot. -/
def onL (ov : Nat → List Int) (f : List Nat) (n i S : Nat) (c : Int) : Nat → Nat → Nat → Nat → List Int → List Int
  | 0, _, _, _, out => out
  | e + 1, p, sec, met, out => (List.range n).foldl (fun out k => if (dl (f.getD p 0 &&& S) met).testBit k then
      onL ov f n i S c e k (if met = 0 then k else sec) (met ||| 2 ^ k)
        (if 0 < met ∧ sec < k ∧ (f.getD k 0).testBit i = true then morL c out (pc met + 2) (ov (dl (dl S met) (2 ^ k))) else out)
      else out) out

/-- What the closures look at. -/
def fz6 (fr : AV) (S i w r a3 a4 a5 a7 a8 a9 a11 : Nat) : List (Nat × Ob) :=
  [(a3, ⟨0, [fr]⟩), (a4, ⟨0, [vI S]⟩), (a5, ⟨0, [.fn w [], .fn r []]⟩), (a7, ⟨0, [vI i]⟩), (a9, ⟨0, [.fn 92 [.ptr a8 0 0]]⟩),
   (a11, ⟨0, [.fn 93 [.ptr a3 0 0, .ptr a4 0 0, .ptr a7 0 0, .ptr a9 0 0, .ptr a5 0 0, .ptr a11 0 0]]⟩)]

theorem pow_lt {k : Nat} (h : k < 7) : 2 ^ k < 128 := by
  have : 2 ^ k ≤ 2 ^ 6 := Nat.pow_le_pow_right (by decide) (by omega)
  omega

theorem wrap_u64 {n : Nat} (h : n < 128) : IntKind.wrap .u64 (n : Int) = (n : Int) := by
  rw [IntKind.wrap_u64]; omega

theorem or_lt {a k : Nat} (ha : a < 128) (hk : k < 7) : a ||| 2 ^ k < 128 := Nat.or_lt_two_pow (n := 7) ha (by have := pow_lt hk; omega)

structure OnCtx (fr : AV) (f : List Nat) (S i w r : Nat) (ov : Nat → List Int) (Y : Run) : Prop where
  hv : IsRow fr (f.map fun n : Nat => (n : Int))
  fl : f.length ≤ 7
  fb : ∀ j, f.getD j 0 < 128
  Sb : S < 128
  ib : i < f.length
  hr : r = 139 ∨ r = 140 ∨ r = 141 ∨ r = 142 ∨ r = 143 ∨ r = 144
  hov : ∀ T, (∀ j, T.testBit j = true → S.testBit j = true) → OvOk Y fr w r ov T

theorem getD_nat {f : List Nat} {j : Nat} (h : j < f.length) : (f.map fun n : Nat => (n : Int)).getD j 0 = ((f.getD j 0 : Nat) : Int) := by
  simp [List.getD_eq_getElem?_getD, h]

theorem L93 {fr : AV} {f : List Nat} {S i w r : Nat} {ov : Nat → List Int} {a3 a4 a5 a7 a8 a9 a11 j0 e : Nat} (C : OnCtx fr f S i w r ov Y)
    (ih : ∀ (p sec met : Nat) {H : Heap} {out : List Int}, p < f.length → sec < 7 → met < 128 → pc (dl S met) < e → Out (fz6 fr S i w r a3 a4 a5 a7 a8 a9 a11) a8 j0 H out →
      ∃ H', callL ET Y 93 [vI p, vI sec, vI met, .ptr a3 0 0, .ptr a4 0 0, .ptr a7 0 0, .ptr a9 0 0, .ptr a5 0 0, .ptr a11 0 0] H = some (.tup [], H') ∧ Out (fz6 fr S i w r a3 a4 a5 a7 a8 a9 a11) a8 j0 H' (onL ov f f.length i S (cm r) e p sec met out) ∧ H.length ≤ H'.length)
    {p sec met : Nat} (hp : p < f.length) (hsec : sec < 7) (hmet : met < 128) (hpc : pc (dl S met) < e + 1) (d : Nat) : ∀ {H : Heap} {out : List Int} (k : Nat), k + d = f.length → Out (fz6 fr S i w r a3 a4 a5 a7 a8 a9 a11) a8 j0 H out →
    ∃ H', lp ET Y F93L0 (sp 78 [(16, vI k), (15, vI f.length), (8, .ptr a11 0 0), (7, .ptr a5 0 0), (6, .ptr a9 0 0), (5, .ptr a7 0 0), (4, .ptr a4 0 0), (3, .ptr a3 0 0), (2, vI met), (1, vI sec), (0, vI p)]) H = some (.x 0, sp 78 [], H') ∧
      Out (fz6 fr S i w r a3 a4 a5 a7 a8 a9 a11) a8 j0 H' ((List.range' k d).foldl (fun out k => if (dl (f.getD p 0 &&& S) met).testBit k then
      onL ov f f.length i S (cm r) e k (if met = 0 then k else sec) (met ||| 2 ^ k)
        (if 0 < met ∧ sec < k ∧ (f.getD k 0).testBit i = true then morL (cm r) out (pc met + 2) (ov (dl (dl S met) (2 ^ k))) else out)
      else out) out) ∧ H.length ≤ H'.length := by
  have fb := C.fb
  have hlen : (f.map fun n : Nat => (n : Int)).length = f.length := by simp
  induction d with
  | zero =>
    intro H out k hk h
    refine ⟨H, ?_, by simpa using h, Nat.le_refl _⟩
    rw [un93_0]
    have : ¬ ((k : Int) < (f.length : Int)) := by omega
    simp only [F93L0b, SS, insA, wantedA, Opd.ev, putA, binA, eqbA, unA, fldA, partA, reduceIte, reduceCtorEq, Nat.reduceMod, Nat.reduceDiv, Nat.reduceBEq, resultA, resA, vI, Nat.reduceMul, Nat.reduceAdd, Nat.reduceSub, Nat.reduceEqDiff, Nat.reduceLT, Nat.reducePow, Nat.reduceLeDiff, st, Option.bind_eq_bind, Option.pure_def, List.length_nil, Int.cast_ofNat_Int, List.reverse_nil, UU, idxP, cellsAt, fillA, zerosA, putAll, row, Int.reduceLT, Int.reduceLE, Int.reduceGT, Int.reduceGE, Int.reduceEq, Int.reduceNe, Int.reduceToNat, Int.reduceBEq, Int.reduceBNe, Nat.reduceLeDiff, Nat.reduceLT, Nat.reduceBNe, Nat.reduceGT, List.drop_nil, List.take_nil, Option.isSome_none, Int.ofNat_one, Int.ofNat_zero, this]
  | succ d ihd =>
    intro H out k hk h
    have hk1 : k < f.length := by omega
    have hk7 : k < 7 := by have := C.fl; omega
    have hc : (k : Int) < (f.length : Int) := by omega
    have hw := wrap_succ (n := k) (by omega)
    have g3 := h.st (a3, ⟨0, [fr]⟩) (by simp [fz6])
    have g4 := h.st (a4, ⟨0, [vI S]⟩) (by simp [fz6])
    have g7 := h.st (a7, ⟨0, [vI i]⟩) (by simp [fz6])
    have g11 := h.st (a11, ⟨0, [.fn 93 [.ptr a3 0 0, .ptr a4 0 0, .ptr a7 0 0, .ptr a9 0 0, .ptr a5 0 0, .ptr a11 0 0]]⟩) (by simp [fz6])
    simp only at g3 g4 g7 g11
    have hip := C.hv.idx (i := p) (by simpa using hp)
    have hlp := C.hv.load (H := H) (i := p) (by simpa using hp)
    rw [getD_nat hp] at hlp
    have b1 := (nat_bits (a := f.getD p 0) (b := S) (by have := fb p; omega) (by have := C.Sb; omega)).1
    have hfS : f.getD p 0 &&& S < 128 := Nat.lt_of_le_of_lt Nat.and_le_left (fb p)
    have b2 : bitsA .andNot .i64 ((f.getD p 0 &&& S : Nat) : Int) (met : Int) = some (vI ((dl (f.getD p 0 &&& S) met : Nat) : Int)) := (nat_bits (by omega) (by omega)).2.2
    have hp2 : (0 : Int) ≤ (k : Int) := by omega
    have hs2 := shr_eq (k := k) (by omega)
    have hs3 := shl_eq (k := k) (by omega)
    have q0 := sh_beq0 (dl (f.getD p 0 &&& S) met) k
    rw [un93_0, List.range'_succ, List.foldl_cons]
    cases c1 : (dl (f.getD p 0 &&& S) met).testBit k with
    | false =>
      rw [c1, Bool.not_false] at q0
      obtain ⟨H', e1, h1, n1⟩ := ihd (k + 1) (by omega) h
      refine ⟨H', ?_, by simpa using h1, n1⟩
      simp only [SS, insA, wantedA, Opd.ev, putA, binA, eqbA, unA, fldA, partA, reduceIte, reduceCtorEq, Nat.reduceMod, Nat.reduceDiv, Nat.reduceBEq, resultA, resA, vI, Nat.reduceMul, Nat.reduceAdd, Nat.reduceSub, Nat.reduceEqDiff, Nat.reduceLT, Nat.reducePow, Nat.reduceLeDiff, st, Option.bind_eq_bind, Option.pure_def, List.length_nil, Int.cast_ofNat_Int, List.reverse_nil] at e1
      simp only [F93L0b, SS, insA, wantedA, Opd.ev, putA, binA, eqbA, unA, fldA, partA, reduceIte, reduceCtorEq, Nat.reduceMod, Nat.reduceDiv, Nat.reduceBEq, resultA, resA, vI, Nat.reduceMul, Nat.reduceAdd, Nat.reduceSub, Nat.reduceEqDiff, Nat.reduceLT, Nat.reducePow, Nat.reduceLeDiff, st, Option.bind_eq_bind, Option.pure_def, List.length_nil, Int.cast_ofNat_Int, List.reverse_nil, UU, idxP, cellsAt, fillA, zerosA, putAll, row, Int.reduceLT, Int.reduceLE, Int.reduceGT, Int.reduceGE, Int.reduceEq, Int.reduceNe, Int.reduceToNat, Int.reduceBEq, Int.reduceBNe, Nat.reduceLeDiff, Nat.reduceLT, Nat.reduceBNe, Nat.reduceGT, List.drop_nil, List.take_nil, Option.isSome_none, Int.ofNat_one, Int.ofNat_zero, hc, g3, g4, hip, hlp, b1, b2, hp2, hs2, and_one, q0, hw, e1]
    | true =>
      rw [c1, Bool.not_true] at q0
      have hbit := c1
      rw [dl_bit, Nat.testBit_and, Bool.and_eq_true, Bool.and_eq_true, Bool.not_eq_true'] at hbit
      obtain ⟨⟨hb1, hb2⟩, hb3⟩ := hbit
      have hmet' : met ||| 2 ^ k < 128 := or_lt hmet hk7
      have hpc' : pc (dl S (met ||| 2 ^ k)) < e := by
        have : pc (dl S (met ||| 2 ^ k)) < pc (dl S met) := pc_lt (k := k) (fun j hj => by
          rw [dl_bit] at hj ⊢
          rw [Nat.testBit_or] at hj
          simp only [Bool.and_eq_true, Bool.not_eq_true', Bool.or_eq_false_iff] at hj ⊢
          exact ⟨hj.1, hj.2.1⟩) hk7 (by rw [dl_bit, Nat.testBit_or, Nat.testBit_two_pow_self]; simp) (by rw [dl_bit, hb2, hb3]; rfl)
        omega
      have b5 : bitsA .or .i64 (met : Int) ((2 ^ k : Nat) : Int) = some (vI ((met ||| 2 ^ k : Nat) : Int)) := (nat_bits (by omega) (by have := pow_lt hk7; omega)).2.1
      have hik := C.hv.idx (i := k) (by simpa using hk1)
      have hlk := C.hv.load (H := H) (i := k) (by simpa using hk1)
      rw [getD_nat hk1] at hlk
      have hpi : (0 : Int) ≤ (i : Int) := by omega
      have hsi := shr_eq (k := i) (by have := C.ib; have := C.fl; omega)
      have qi := sh_beq (f.getD k 0) i
      by_cases c2 : met = 0
      · have hgt : ¬ ((met : Int) > 0) := by omega
        have heq : ((met : Int) == 0) = true := by simp [c2]
        obtain ⟨H2, e2, h2, n2⟩ := ih k k (met ||| 2 ^ k) hk1 hk7 hmet' hpc' h
        obtain ⟨H', e3, h3, n3⟩ := ihd (k + 1) (by omega) h2
        refine ⟨H', ?_, ?_, by omega⟩
        · simp only [SS, insA, wantedA, Opd.ev, putA, binA, eqbA, unA, fldA, partA, reduceIte, reduceCtorEq, Nat.reduceMod, Nat.reduceDiv, Nat.reduceBEq, resultA, resA, vI, Nat.reduceMul, Nat.reduceAdd, Nat.reduceSub, Nat.reduceEqDiff, Nat.reduceLT, Nat.reducePow, Nat.reduceLeDiff, st, Option.bind_eq_bind, Option.pure_def, List.length_nil, Int.cast_ofNat_Int, List.reverse_nil] at e2 e3
          simp only [F93L0b, SS, insA, wantedA, Opd.ev, putA, binA, eqbA, unA, fldA, partA, reduceIte, reduceCtorEq, Nat.reduceMod, Nat.reduceDiv, Nat.reduceBEq, resultA, resA, vI, Nat.reduceMul, Nat.reduceAdd, Nat.reduceSub, Nat.reduceEqDiff, Nat.reduceLT, Nat.reducePow, Nat.reduceLeDiff, st, Option.bind_eq_bind, Option.pure_def, List.length_nil, Int.cast_ofNat_Int, List.reverse_nil, UU, idxP, cellsAt, fillA, zerosA, putAll, row, Int.reduceLT, Int.reduceLE, Int.reduceGT, Int.reduceGE, Int.reduceEq, Int.reduceNe, Int.reduceToNat, Int.reduceBEq, Int.reduceBNe, Nat.reduceLeDiff, Nat.reduceLT, Nat.reduceBNe, Nat.reduceGT, List.drop_nil, List.take_nil, Option.isSome_none, Int.ofNat_one, Int.ofNat_zero, hc, g3, g4, g11, hip, hlp, b1, b2, b5, hp2, hs2, hs3, and_one, q0, hgt, heq, hw, e2, e3, List.cons_append, List.nil_append]
        · have hn : ¬ (0 < met ∧ sec < k ∧ (f.getD k 0).testBit i = true) := fun h => by omega
          rw [if_pos rfl, if_neg hn, if_pos c2]; exact h3
      · have hgt : (met : Int) > 0 := by omega
        have heq : ((met : Int) == 0) = false := by simp [c2]
        by_cases c3 : sec < k
        · have hgk : (k : Int) > (sec : Int) := by omega
          cases c4 : (f.getD k 0).testBit i with
          | false =>
            rw [c4] at qi
            obtain ⟨H2, e2, h2, n2⟩ := ih k sec (met ||| 2 ^ k) hk1 hsec hmet' hpc' h
            obtain ⟨H', e3, h3, n3⟩ := ihd (k + 1) (by omega) h2
            refine ⟨H', ?_, ?_, by omega⟩
            · simp only [SS, insA, wantedA, Opd.ev, putA, binA, eqbA, unA, fldA, partA, reduceIte, reduceCtorEq, Nat.reduceMod, Nat.reduceDiv, Nat.reduceBEq, resultA, resA, vI, Nat.reduceMul, Nat.reduceAdd, Nat.reduceSub, Nat.reduceEqDiff, Nat.reduceLT, Nat.reducePow, Nat.reduceLeDiff, st, Option.bind_eq_bind, Option.pure_def, List.length_nil, Int.cast_ofNat_Int, List.reverse_nil] at e2 e3
              simp only [F93L0b, SS, insA, wantedA, Opd.ev, putA, binA, eqbA, unA, fldA, partA, reduceIte, reduceCtorEq, Nat.reduceMod, Nat.reduceDiv, Nat.reduceBEq, resultA, resA, vI, Nat.reduceMul, Nat.reduceAdd, Nat.reduceSub, Nat.reduceEqDiff, Nat.reduceLT, Nat.reducePow, Nat.reduceLeDiff, st, Option.bind_eq_bind, Option.pure_def, List.length_nil, Int.cast_ofNat_Int, List.reverse_nil, UU, idxP, cellsAt, fillA, zerosA, putAll, row, Int.reduceLT, Int.reduceLE, Int.reduceGT, Int.reduceGE, Int.reduceEq, Int.reduceNe, Int.reduceToNat, Int.reduceBEq, Int.reduceBNe, Nat.reduceLeDiff, Nat.reduceLT, Nat.reduceBNe, Nat.reduceGT, List.drop_nil, List.take_nil, Option.isSome_none, Int.ofNat_one, Int.ofNat_zero, hc, g3, g4, g7, g11, hip, hlp, hik, hlk, b1, b2, b5, hp2, hpi, hs2, hs3, hsi, and_one, q0, qi, hgt, hgk, heq, hw, e2, e3, List.cons_append, List.nil_append]
            · rw [if_pos rfl, if_neg c2, if_neg (fun h => absurd h.2.2 (by simp))]; exact h3
          | true =>
            rw [c4] at qi
            have g5 := h.st (a5, ⟨0, [.fn w [], .fn r []]⟩) (by simp [fz6])
            have g9 := h.st (a9, ⟨0, [.fn 92 [.ptr a8 0 0]]⟩) (by simp [fz6])
            simp only at g5 g9
            have hpop := fun H => pop68 (Y := Y) (H := H) hmet
            have hu := wrap_u64 hmet
            have hpl : pc met ≤ 7 := by unfold pc; exact Nat.le_trans (List.length_filter_le _ _) (by simp)
            have hw2 : IntKind.wrap .i64 ((pc met : Int) + 2) = ((pc met + 2 : Nat) : Int) := by rw [wrap_id (by omega) (by omega)]; simp
            have b3 : bitsA .andNot .i64 (S : Int) (met : Int) = some (vI ((dl S met : Nat) : Int)) := (nat_bits (by have := C.Sb; omega) (by omega)).2.2
            have hdS : dl S met < 128 := Nat.lt_of_le_of_lt (dl_le _ _) C.Sb
            have b4 : bitsA .andNot .i64 ((dl S met : Nat) : Int) ((2 ^ k : Nat) : Int) = some (vI ((dl (dl S met) (2 ^ k) : Nat) : Int)) := (nat_bits (by omega) (by have := pow_lt hk7; omega)).2.2
            obtain ⟨v, R0, q0', ver, o1, o2, o3, o4⟩ := C.hov (dl (dl S met) (2 ^ k)) (fun j hj => by
              rw [dl_bit, dl_bit] at hj
              simp only [Bool.and_eq_true] at hj
              exact hj.1.1)
            obtain ⟨m1, m2⟩ := call_row (H := H) (R := callL ET Y) (f := 71) (args := [fr, vI ((dl (dl S met) (2 ^ k) : Nat) : Int), .agg [.fn w [], .fn r []]]) (bs := [fr, vI ((dl (dl S met) (2 ^ k) : Nat) : Int), .agg [.fn w [], .fn r []]]) (by rw [mapM_cons', C.hv.snap]; rfl) o1 o2 o3
            have hl8 := hlt_of (h.out.choose_spec.1)
            have hl0 := hlt_of (h.out.choose_spec.2)
            have hbig : Out ((q0' + H.length, ⟨ver, (ov (dl (dl S met) (2 ^ k))).map vW⟩) :: fz6 fr S i w r a3 a4 a5 a7 a8 a9 a11) a8 j0 (H ++ R0.map (shO H.length)) out := by
              obtain ⟨vr, k8, k0⟩ := h.out
              refine ⟨fun x hx => ?_, fun x hx => ?_, h.ne, vr, ?_, ?_⟩
              · rcases List.mem_cons.1 hx with rfl | hx
                · exact m2
                · rw [List.getElem?_append_left (hlt_of (h.st x hx))]; exact h.st x hx
              · rcases List.mem_cons.1 hx with rfl | hx
                · simp only; omega
                · exact h.ap x hx
              · rw [List.getElem?_append_left hl8]; exact k8
              · rw [List.getElem?_append_left hl0]; exact k0
            obtain ⟨H1, e1, h1, n1⟩ := more92 (Y := Y) (c := r) (kn := pc met + 2) C.hr ⟨_, _, rfl, List.mem_cons_self⟩ (by omega) hbig
            have h1' := h1.mono (fz' := fz6 fr S i w r a3 a4 a5 a7 a8 a9 a11) (fun x hx => List.mem_cons_of_mem _ hx)
            have g11' := h1'.st (a11, ⟨0, [.fn 93 [.ptr a3 0 0, .ptr a4 0 0, .ptr a7 0 0, .ptr a9 0 0, .ptr a5 0 0, .ptr a11 0 0]]⟩) (by simp [fz6])
            simp only at g11'
            have g5' : (H ++ R0.map (shO H.length))[a5]? = some ⟨0, [.fn w [], .fn r []]⟩ := by rw [List.getElem?_append_left (hlt_of g5)]; exact g5
            obtain ⟨H2, e2, h2, n2⟩ := ih k sec (met ||| 2 ^ k) hk1 hsec hmet' hpc' h1'
            obtain ⟨H', e3, h3, n3⟩ := ihd (k + 1) (by omega) h2
            have n0 : H.length ≤ (H ++ R0.map (shO H.length)).length := by simp
            refine ⟨H', ?_, ?_, by omega⟩
            · simp only [SS, insA, wantedA, Opd.ev, putA, binA, eqbA, unA, fldA, partA, reduceIte, reduceCtorEq, Nat.reduceMod, Nat.reduceDiv, Nat.reduceBEq, resultA, resA, vI, Nat.reduceMul, Nat.reduceAdd, Nat.reduceSub, Nat.reduceEqDiff, Nat.reduceLT, Nat.reducePow, Nat.reduceLeDiff, st, Option.bind_eq_bind, Option.pure_def, List.length_nil, Int.cast_ofNat_Int, List.reverse_nil] at e1 e2 e3 m1
              simp only [F93L0b, SS, insA, wantedA, Opd.ev, putA, binA, eqbA, unA, fldA, partA, reduceIte, reduceCtorEq, Nat.reduceMod, Nat.reduceDiv, Nat.reduceBEq, resultA, resA, vI, Nat.reduceMul, Nat.reduceAdd, Nat.reduceSub, Nat.reduceEqDiff, Nat.reduceLT, Nat.reducePow, Nat.reduceLeDiff, st, Option.bind_eq_bind, Option.pure_def, List.length_nil, Int.cast_ofNat_Int, List.reverse_nil, UU, idxP, cellsAt, fillA, zerosA, putAll, row, Int.reduceLT, Int.reduceLE, Int.reduceGT, Int.reduceGE, Int.reduceEq, Int.reduceNe, Int.reduceToNat, Int.reduceBEq, Int.reduceBNe, Nat.reduceLeDiff, Nat.reduceLT, Nat.reduceBNe, Nat.reduceGT, List.drop_nil, List.take_nil, Option.isSome_none, Int.ofNat_one, Int.ofNat_zero, hc, g3, g4, g5, g7, g9, g11, hip, hlp, hik, hlk, b1, b2, b3, b4, b5, hp2, hpi, hs2, hs3, hsi, and_one, q0, qi, hgt, hgk, heq, hw, hpop, hu, hw2, m1, g5', e1, g11', e2, e3, List.cons_append, List.nil_append]
            · rw [if_pos rfl, if_neg c2, if_pos ⟨by omega, c3, rfl⟩]; exact h3
        · have hgk : ¬ ((k : Int) > (sec : Int)) := by omega
          obtain ⟨H2, e2, h2, n2⟩ := ih k sec (met ||| 2 ^ k) hk1 hsec hmet' hpc' h
          obtain ⟨H', e3, h3, n3⟩ := ihd (k + 1) (by omega) h2
          refine ⟨H', ?_, ?_, by omega⟩
          · simp only [SS, insA, wantedA, Opd.ev, putA, binA, eqbA, unA, fldA, partA, reduceIte, reduceCtorEq, Nat.reduceMod, Nat.reduceDiv, Nat.reduceBEq, resultA, resA, vI, Nat.reduceMul, Nat.reduceAdd, Nat.reduceSub, Nat.reduceEqDiff, Nat.reduceLT, Nat.reducePow, Nat.reduceLeDiff, st, Option.bind_eq_bind, Option.pure_def, List.length_nil, Int.cast_ofNat_Int, List.reverse_nil] at e2 e3
            simp only [F93L0b, SS, insA, wantedA, Opd.ev, putA, binA, eqbA, unA, fldA, partA, reduceIte, reduceCtorEq, Nat.reduceMod, Nat.reduceDiv, Nat.reduceBEq, resultA, resA, vI, Nat.reduceMul, Nat.reduceAdd, Nat.reduceSub, Nat.reduceEqDiff, Nat.reduceLT, Nat.reducePow, Nat.reduceLeDiff, st, Option.bind_eq_bind, Option.pure_def, List.length_nil, Int.cast_ofNat_Int, List.reverse_nil, UU, idxP, cellsAt, fillA, zerosA, putAll, row, Int.reduceLT, Int.reduceLE, Int.reduceGT, Int.reduceGE, Int.reduceEq, Int.reduceNe, Int.reduceToNat, Int.reduceBEq, Int.reduceBNe, Nat.reduceLeDiff, Nat.reduceLT, Nat.reduceBNe, Nat.reduceGT, List.drop_nil, List.take_nil, Option.isSome_none, Int.ofNat_one, Int.ofNat_zero, hc, g3, g4, g11, hip, hlp, b1, b2, b5, hp2, hs2, hs3, and_one, q0, hgt, hgk, heq, hw, e2, e3, List.cons_append, List.nil_append]
          · rw [if_pos rfl, if_neg c2, if_neg (fun h => c3 h.2.1)]; exact h3

/-- The closure 'on'. -/
theorem on93 {fr : AV} {f : List Nat} {S i w r : Nat} {ov : Nat → List Int} {a3 a4 a5 a7 a8 a9 a11 j0 : Nat} (C : OnCtx fr f S i w r ov Y) : ∀ (e p sec met : Nat) {H : Heap} {out : List Int}, p < f.length → sec < 7 → met < 128 → pc (dl S met) < e → Out (fz6 fr S i w r a3 a4 a5 a7 a8 a9 a11) a8 j0 H out →
      ∃ H', callL ET Y 93 [vI p, vI sec, vI met, .ptr a3 0 0, .ptr a4 0 0, .ptr a7 0 0, .ptr a9 0 0, .ptr a5 0 0, .ptr a11 0 0] H = some (.tup [], H') ∧ Out (fz6 fr S i w r a3 a4 a5 a7 a8 a9 a11) a8 j0 H' (onL ov f f.length i S (cm r) e p sec met out) ∧ H.length ≤ H'.length
  | 0, p, sec, met, H, out, hp, hsec, hmet, hpc, h => by omega
  | e + 1, p, sec, met, H, out, hp, hsec, hmet, hpc, h => by
    obtain ⟨H', e1, h1, n1⟩ := L93 C (fun p sec met {H out} => on93 C e p sec met) hp hsec hmet hpc f.length 0 (by omega) h
    have g3 := h.st (a3, ⟨0, [fr]⟩) (by simp [fz6])
    simp only at g3
    have hlen := C.hv.len
    rw [List.length_map] at hlen
    refine ⟨H', ?_, ?_, n1⟩
    · rw [call93 rfl]
      simp only [SS, insA, wantedA, Opd.ev, putA, binA, eqbA, unA, fldA, partA, reduceIte, reduceCtorEq, Nat.reduceMod, Nat.reduceDiv, Nat.reduceBEq, resultA, resA, vI, Nat.reduceMul, Nat.reduceAdd, Nat.reduceSub, Nat.reduceEqDiff, Nat.reduceLT, Nat.reducePow, Nat.reduceLeDiff, st, Option.bind_eq_bind, Option.pure_def, List.length_nil, Int.cast_ofNat_Int, List.reverse_nil, Int.ofNat_zero] at e1
      simp only [F93B, in93_0, SS, insA, wantedA, Opd.ev, putA, binA, eqbA, unA, fldA, partA, reduceIte, reduceCtorEq, Nat.reduceMod, Nat.reduceDiv, Nat.reduceBEq, resultA, resA, vI, Nat.reduceMul, Nat.reduceAdd, Nat.reduceSub, Nat.reduceEqDiff, Nat.reduceLT, Nat.reducePow, Nat.reduceLeDiff, st, Option.bind_eq_bind, Option.pure_def, List.length_nil, Int.cast_ofNat_Int, List.reverse_nil, UU, idxP, cellsAt, fillA, zerosA, putAll, row, Int.reduceLT, Int.reduceLE, Int.reduceGT, Int.reduceGE, Int.reduceEq, Int.reduceNe, Int.reduceToNat, Int.reduceBEq, Int.reduceBNe, Nat.reduceLeDiff, Nat.reduceLT, Nat.reduceBNe, Nat.reduceGT, List.drop_nil, List.take_nil, Option.isSome_none, Int.ofNat_one, Int.ofNat_zero, g3, hlen, e1, endX, List.mapM_nil]
    · rw [← List.range_eq_range'] at h1; exact h1
end
end Go.X
