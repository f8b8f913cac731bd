import Derived.Test.YtdkgicdbjemalaaDoorMH
import Derived.Test.YtdkgicdbjemalaaDoorQC
/-! Tones: the rings that begin with a knot (the closure 'on'). -/
set_option linter.unusedSimpArgs false
set_option linter.unusedVariables false
set_option maxHeartbeats 2000000
set_option maxRecDepth 10000
namespace Go.X
open Go Go.RowKit

def isInt (z : Int) (r : Option (AV × Heap)) : Bool := match r with
  | some (.int .i64 a, _) => a == z
  | _ => false

section
variable {Y : Run} {H : Heap}

theorem int_run {k f : Nat} {args : List AV} {z : Int} (h : isInt z (callT ET noR k f args []) = true) : freeX H (callL ET Y f args []) = some (vI z, H) := by
  have h2 : RLe noR (callL ET Y) := fun _ _ _ _ h => by cases h
  cases hc : callT ET noR k f args [] with
  | none => rw [hc] at h; cases h
  | some q =>
    obtain ⟨v, H'⟩ := q
    rw [hc] at h
    have := memoT (E := ET) (Y := Y) (fun _ _ h => h) h2 hc
    rw [this]
    unfold isInt at h
    split at h
    · rename_i a H2 e
      cases e
      have : a = z := by simpa using h
      subst this; rfl
    · cases h

def ctz (a : Nat) : Nat := ((List.range 7).find? fun j => a.testBit j).getD 0

set_option maxRecDepth 100000 in
theorem pop_all : (List.range 128).all (fun m => isInt (pc m) (callT ET noR 300 68 [.int .u64 (m : Int)] [])) = true := by kernel_rfl
set_option maxRecDepth 100000 in
theorem ctz_all : (List.range 128).all (fun m => m == 0 || isInt (ctz m) (callT ET noR 300 91 [vI (m : Int)] [])) = true := by kernel_rfl

theorem pop68 {m : Nat} (h : m < 128) : freeX H (callL ET Y 68 [.int .u64 (m : Int)] []) = some (vI (pc m), H) :=
  int_run (List.all_eq_true.1 pop_all m (List.mem_range.2 h))
theorem first91 {m : Nat} (h : m < 128) (h0 : m ≠ 0) : freeX H (callL ET Y 91 [vI (m : Int)] []) = some (vI (ctz m), H) := by
  have := List.all_eq_true.1 ctz_all m (List.mem_range.2 h)
  rw [Bool.or_eq_true] at this
  rcases this with h1 | h1
  · exact absurd (by simpa using h1) h0
  · exact int_run h1

/-- A call that hands on a list. -/
theorem call_row {R : Run} {f : Nat} {args bs : List AV} {v : AV} {R0 : Heap} {j0 ver : Nat} {l : List Int} (hs : args.mapM (snapA H 6) = some bs) (hr : R f bs [] = some (v, R0)) (hv : v = .sl j0 ver 1 0 l.length none) (h0 : R0[j0]? = some ⟨ver, l.map vW⟩) :
    callA R 2 f args H = some (.sl (j0 + H.length) ver 1 0 l.length none, H ++ R0.map (shO H.length)) ∧ (H ++ R0.map (shO H.length))[j0 + H.length]? = some ⟨ver, l.map vW⟩ := by
  subst hv
  refine ⟨?_, ?_⟩
  · simp only [callA, show depth = 6 from rfl, hs, hr, mapM_shO]
    rfl
  · rw [shift_get h0, map_vW, shO_row]

/-- What the recursion hands on: a list. -/
def OvOk (Y : Run) (fr : AV) (w r : Nat) (ov : Nat → List Int) (S : Nat) : Prop :=
  ∃ v R0 j0 ver, callL ET Y 71 [fr, vI S, .agg [.fn w [], .fn r []]] [] = some (v, R0) ∧ v = .sl j0 ver 1 0 (ov S).length none ∧ R0[j0]? = some ⟨ver, (ov S).map vW⟩ ∧ (ov S).length ≤ 8

/-- The rings that go on from a knot. -/
def onL (ov : Nat → List Int) (f : List Nat) (n i S : Nat) (c : Int) : Nat → Nat → Nat → Nat → List Int → List Int
  | 0, _, _, _, out => out
  | e + 1, p, sec, met, out => (List.range n).foldl (fun out k => if (dl (f.getD p 0 &&& S) met).testBit k then
      onL ov f n i S c e k (if met = 0 then k else sec) (met ||| 2 ^ k)
        (if 0 < met ∧ sec < k ∧ (f.getD k 0).testBit i = true then morL c out (pc met + 2) (ov (dl (dl S met) (2 ^ k))) else out)
      else out) out

/-- What the closures look at. -/
def fz6 (fr : AV) (S i w r a3 a4 a5 a7 a8 a9 a11 : Nat) : List (Nat × Ob) :=
  [(a3, ⟨0, [fr]⟩), (a4, ⟨0, [vI S]⟩), (a5, ⟨0, [.fn w [], .fn r []]⟩), (a7, ⟨0, [vI i]⟩), (a9, ⟨0, [.fn 92 [.ptr a8 0 0]]⟩),
   (a11, ⟨0, [.fn 93 [.ptr a3 0 0, .ptr a4 0 0, .ptr a7 0 0, .ptr a9 0 0, .ptr a5 0 0, .ptr a11 0 0]]⟩)]

theorem pow_lt {k : Nat} (h : k < 7) : 2 ^ k < 128 := by
  have : 2 ^ k ≤ 2 ^ 6 := Nat.pow_le_pow_right (by decide) (by omega)
  omega

theorem wrap_u64 {n : Nat} (h : n < 128) : IntKind.wrap .u64 (n : Int) = (n : Int) := by
  rw [IntKind.wrap_u64]; omega

theorem or_lt {a k : Nat} (ha : a < 128) (hk : k < 7) : a ||| 2 ^ k < 128 := Nat.or_lt_two_pow (n := 7) ha (by have := pow_lt hk; omega)

structure OnCtx (fr : AV) (f : List Nat) (S i w r : Nat) (ov : Nat → List Int) (Y : Run) : Prop where
  hv : IsRow fr (f.map fun n : Nat => (n : Int))
  fl : f.length ≤ 7
  fb : ∀ j, f.getD j 0 < 128
  Sb : S < 128
  ib : i < f.length
  hr : r = 139 ∨ r = 140 ∨ r = 141 ∨ r = 142 ∨ r = 143 ∨ r = 144
  hov : ∀ T, (∀ j, T.testBit j = true → S.testBit j = true) → OvOk Y fr w r ov T

theorem getD_nat {f : List Nat} {j : Nat} (h : j < f.length) : (f.map fun n : Nat => (n : Int)).getD j 0 = ((f.getD j 0 : Nat) : Int) := by
  simp [List.getD_eq_getElem?_getD, h]

theorem L93 {fr : AV} {f : List Nat} {S i w r : Nat} {ov : Nat → List Int} {a3 a4 a5 a7 a8 a9 a11 j0 e : Nat} (C : OnCtx fr f S i w r ov Y)
    (ih : ∀ (p sec met : Nat) {H : Heap} {out : List Int}, p < f.length → sec < 7 → met < 128 → pc (dl S met) < e → Out (fz6 fr S i w r a3 a4 a5 a7 a8 a9 a11) a8 j0 H out →
      ∃ H', callL ET Y 93 [vI p, vI sec, vI met, .ptr a3 0 0, .ptr a4 0 0, .ptr a7 0 0, .ptr a9 0 0, .ptr a5 0 0, .ptr a11 0 0] H = some (.tup [], H') ∧ Out (fz6 fr S i w r a3 a4 a5 a7 a8 a9 a11) a8 j0 H' (onL ov f f.length i S (cm r) e p sec met out) ∧ H.length ≤ H'.length)
    {p sec met : Nat} (hp : p < f.length) (hsec : sec < 7) (hmet : met < 128) (hpc : pc (dl S met) < e + 1) (d : Nat) : ∀ {H : Heap} {out : List Int} (k : Nat), k + d = f.length → Out (fz6 fr S i w r a3 a4 a5 a7 a8 a9 a11) a8 j0 H out →
    ∃ H', lp ET Y F93L0 (sp 78 [(16, vI k), (15, vI f.length), (8, .ptr a11 0 0), (7, .ptr a5 0 0), (6, .ptr a9 0 0), (5, .ptr a7 0 0), (4, .ptr a4 0 0), (3, .ptr a3 0 0), (2, vI met), (1, vI sec), (0, vI p)]) H = some (.x 0, sp 78 [], H') ∧
      Out (fz6 fr S i w r a3 a4 a5 a7 a8 a9 a11) a8 j0 H' ((List.range' k d).foldl (fun out k => if (dl (f.getD p 0 &&& S) met).testBit k then
      onL ov f f.length i S (cm r) e k (if met = 0 then k else sec) (met ||| 2 ^ k)
        (if 0 < met ∧ sec < k ∧ (f.getD k 0).testBit i = true then morL (cm r) out (pc met + 2) (ov (dl (dl S met) (2 ^ k))) else out)
      else out) out) ∧ H.length ≤ H'.length := by
  have fb := C.fb
  have hlen : (f.map fun n : Nat => (n : Int)).length = f.length := by simp
  induction d with
  | zero =>
    intro H out k hk h
    refine ⟨H, ?_, by simpa using h, Nat.le_refl _⟩
    rw [un93_0]
    have : ¬ ((k : Int) < (f.length : Int)) := by omega
    simp only [F93L0b, SS, insA, wantedA, Opd.ev, putA, binA, eqbA, unA, fldA, partA, reduceIte, reduceCtorEq, Nat.reduceMod, Nat.reduceDiv, Nat.reduceBEq, resultA, resA, vI, Nat.reduceMul, Nat.reduceAdd, Nat.reduceSub, Nat.reduceEqDiff, Nat.reduceLT, Nat.reducePow, Nat.reduceLeDiff, st, Option.bind_eq_bind, Option.pure_def, List.length_nil, Int.cast_ofNat_Int, List.reverse_nil, UU, idxP, cellsAt, fillA, zerosA, putAll, row, Int.reduceLT, Int.reduceLE, Int.reduceGT, Int.reduceGE, Int.reduceEq, Int.reduceNe, Int.reduceToNat, Int.reduceBEq, Int.reduceBNe, Nat.reduceLeDiff, Nat.reduceLT, Nat.reduceBNe, Nat.reduceGT, List.drop_nil, List.take_nil, Option.isSome_none, Int.ofNat_one, Int.ofNat_zero, this]
  | succ d ihd =>
    intro H out k hk h
    have hk1 : k < f.length := by omega
    have hk7 : k < 7 := by have := C.fl; omega
    have hc : (k : Int) < (f.length : Int) := by omega
    have hw := wrap_succ (n := k) (by omega)
    have g3 := h.st (a3, ⟨0, [fr]⟩) (by simp [fz6])
    have g4 := h.st (a4, ⟨0, [vI S]⟩) (by simp [fz6])
    have g7 := h.st (a7, ⟨0, [vI i]⟩) (by simp [fz6])
    have g11 := h.st (a11, ⟨0, [.fn 93 [.ptr a3 0 0, .ptr a4 0 0, .ptr a7 0 0, .ptr a9 0 0, .ptr a5 0 0, .ptr a11 0 0]]⟩) (by simp [fz6])
    simp only at g3 g4 g7 g11
    have hip := C.hv.idx (i := p) (by simpa using hp)
    have hlp := C.hv.load (H := H) (i := p) (by simpa using hp)
    rw [getD_nat hp] at hlp
    have b1 := (nat_bits (a := f.getD p 0) (b := S) (by have := fb p; omega) (by have := C.Sb; omega)).1
    have hfS : f.getD p 0 &&& S < 128 := Nat.lt_of_le_of_lt Nat.and_le_left (fb p)
    have b2 : bitsA .andNot .i64 ((f.getD p 0 &&& S : Nat) : Int) (met : Int) = some (vI ((dl (f.getD p 0 &&& S) met : Nat) : Int)) := (nat_bits (by omega) (by omega)).2.2
    have hp2 : (0 : Int) ≤ (k : Int) := by omega
    have hs2 := shr_eq (k := k) (by omega)
    have hs3 := shl_eq (k := k) (by omega)
    have q0 := sh_beq0 (dl (f.getD p 0 &&& S) met) k
    rw [un93_0, List.range'_succ, List.foldl_cons]
    cases c1 : (dl (f.getD p 0 &&& S) met).testBit k with
    | false =>
      rw [c1, Bool.not_false] at q0
      obtain ⟨H', e1, h1, n1⟩ := ihd (k + 1) (by omega) h
      refine ⟨H', ?_, by simpa using h1, n1⟩
      simp only [SS, insA, wantedA, Opd.ev, putA, binA, eqbA, unA, fldA, partA, reduceIte, reduceCtorEq, Nat.reduceMod, Nat.reduceDiv, Nat.reduceBEq, resultA, resA, vI, Nat.reduceMul, Nat.reduceAdd, Nat.reduceSub, Nat.reduceEqDiff, Nat.reduceLT, Nat.reducePow, Nat.reduceLeDiff, st, Option.bind_eq_bind, Option.pure_def, List.length_nil, Int.cast_ofNat_Int, List.reverse_nil] at e1
      simp only [F93L0b, SS, insA, wantedA, Opd.ev, putA, binA, eqbA, unA, fldA, partA, reduceIte, reduceCtorEq, Nat.reduceMod, Nat.reduceDiv, Nat.reduceBEq, resultA, resA, vI, Nat.reduceMul, Nat.reduceAdd, Nat.reduceSub, Nat.reduceEqDiff, Nat.reduceLT, Nat.reducePow, Nat.reduceLeDiff, st, Option.bind_eq_bind, Option.pure_def, List.length_nil, Int.cast_ofNat_Int, List.reverse_nil, UU, idxP, cellsAt, fillA, zerosA, putAll, row, Int.reduceLT, Int.reduceLE, Int.reduceGT, Int.reduceGE, Int.reduceEq, Int.reduceNe, Int.reduceToNat, Int.reduceBEq, Int.reduceBNe, Nat.reduceLeDiff, Nat.reduceLT, Nat.reduceBNe, Nat.reduceGT, List.drop_nil, List.take_nil, Option.isSome_none, Int.ofNat_one, Int.ofNat_zero, hc, g3, g4, hip, hlp, b1, b2, hp2, hs2, and_one, q0, hw, e1]
    | true =>
      rw [c1, Bool.not_true] at q0
      have hbit := c1
      rw [dl_bit, Nat.testBit_and, Bool.and_eq_true, Bool.and_eq_true, Bool.not_eq_true'] at hbit
      obtain ⟨⟨hb1, hb2⟩, hb3⟩ := hbit
      have hmet' : met ||| 2 ^ k < 128 := or_lt hmet hk7
      have hpc' : pc (dl S (met ||| 2 ^ k)) < e := by
        have : pc (dl S (met ||| 2 ^ k)) < pc (dl S met) := pc_lt (k := k) (fun j hj => by
          rw [dl_bit] at hj ⊢
          rw [Nat.testBit_or] at hj
          simp only [Bool.and_eq_true, Bool.not_eq_true', Bool.or_eq_false_iff] at hj ⊢
          exact ⟨hj.1, hj.2.1⟩) hk7 (by rw [dl_bit, Nat.testBit_or, Nat.testBit_two_pow_self]; simp) (by rw [dl_bit, hb2, hb3]; rfl)
        omega
      have b5 : bitsA .or .i64 (met : Int) ((2 ^ k : Nat) : Int) = some (vI ((met ||| 2 ^ k : Nat) : Int)) := (nat_bits (by omega) (by have := pow_lt hk7; omega)).2.1
      have hik := C.hv.idx (i := k) (by simpa using hk1)
      have hlk := C.hv.load (H := H) (i := k) (by simpa using hk1)
      rw [getD_nat hk1] at hlk
      have hpi : (0 : Int) ≤ (i : Int) := by omega
      have hsi := shr_eq (k := i) (by have := C.ib; have := C.fl; omega)
      have qi := sh_beq (f.getD k 0) i
      by_cases c2 : met = 0
      · have hgt : ¬ ((met : Int) > 0) := by omega
        have heq : ((met : Int) == 0) = true := by simp [c2]
        obtain ⟨H2, e2, h2, n2⟩ := ih k k (met ||| 2 ^ k) hk1 hk7 hmet' hpc' h
        obtain ⟨H', e3, h3, n3⟩ := ihd (k + 1) (by omega) h2
        refine ⟨H', ?_, ?_, by omega⟩
        · simp only [SS, insA, wantedA, Opd.ev, putA, binA, eqbA, unA, fldA, partA, reduceIte, reduceCtorEq, Nat.reduceMod, Nat.reduceDiv, Nat.reduceBEq, resultA, resA, vI, Nat.reduceMul, Nat.reduceAdd, Nat.reduceSub, Nat.reduceEqDiff, Nat.reduceLT, Nat.reducePow, Nat.reduceLeDiff, st, Option.bind_eq_bind, Option.pure_def, List.length_nil, Int.cast_ofNat_Int, List.reverse_nil] at e2 e3
          simp only [F93L0b, SS, insA, wantedA, Opd.ev, putA, binA, eqbA, unA, fldA, partA, reduceIte, reduceCtorEq, Nat.reduceMod, Nat.reduceDiv, Nat.reduceBEq, resultA, resA, vI, Nat.reduceMul, Nat.reduceAdd, Nat.reduceSub, Nat.reduceEqDiff, Nat.reduceLT, Nat.reducePow, Nat.reduceLeDiff, st, Option.bind_eq_bind, Option.pure_def, List.length_nil, Int.cast_ofNat_Int, List.reverse_nil, UU, idxP, cellsAt, fillA, zerosA, putAll, row, Int.reduceLT, Int.reduceLE, Int.reduceGT, Int.reduceGE, Int.reduceEq, Int.reduceNe, Int.reduceToNat, Int.reduceBEq, Int.reduceBNe, Nat.reduceLeDiff, Nat.reduceLT, Nat.reduceBNe, Nat.reduceGT, List.drop_nil, List.take_nil, Option.isSome_none, Int.ofNat_one, Int.ofNat_zero, hc, g3, g4, g11, hip, hlp, b1, b2, b5, hp2, hs2, hs3, and_one, q0, hgt, heq, hw, e2, e3, List.cons_append, List.nil_append]
        · have hn : ¬ (0 < met ∧ sec < k ∧ (f.getD k 0).testBit i = true) := fun h => by omega
          rw [if_pos rfl, if_neg hn, if_pos c2]; exact h3
      · have hgt : (met : Int) > 0 := by omega
        have heq : ((met : Int) == 0) = false := by simp [c2]
        by_cases c3 : sec < k
        · have hgk : (k : Int) > (sec : Int) := by omega
          cases c4 : (f.getD k 0).testBit i with
          | false =>
            rw [c4] at qi
            obtain ⟨H2, e2, h2, n2⟩ := ih k sec (met ||| 2 ^ k) hk1 hsec hmet' hpc' h
            obtain ⟨H', e3, h3, n3⟩ := ihd (k + 1) (by omega) h2
            refine ⟨H', ?_, ?_, by omega⟩
            · simp only [SS, insA, wantedA, Opd.ev, putA, binA, eqbA, unA, fldA, partA, reduceIte, reduceCtorEq, Nat.reduceMod, Nat.reduceDiv, Nat.reduceBEq, resultA, resA, vI, Nat.reduceMul, Nat.reduceAdd, Nat.reduceSub, Nat.reduceEqDiff, Nat.reduceLT, Nat.reducePow, Nat.reduceLeDiff, st, Option.bind_eq_bind, Option.pure_def, List.length_nil, Int.cast_ofNat_Int, List.reverse_nil] at e2 e3
              simp only [F93L0b, SS, insA, wantedA, Opd.ev, putA, binA, eqbA, unA, fldA, partA, reduceIte, reduceCtorEq, Nat.reduceMod, Nat.reduceDiv, Nat.reduceBEq, resultA, resA, vI, Nat.reduceMul, Nat.reduceAdd, Nat.reduceSub, Nat.reduceEqDiff, Nat.reduceLT, Nat.reducePow, Nat.reduceLeDiff, st, Option.bind_eq_bind, Option.pure_def, List.length_nil, Int.cast_ofNat_Int, List.reverse_nil, UU, idxP, cellsAt, fillA, zerosA, putAll, row, Int.reduceLT, Int.reduceLE, Int.reduceGT, Int.reduceGE, Int.reduceEq, Int.reduceNe, Int.reduceToNat, Int.reduceBEq, Int.reduceBNe, Nat.reduceLeDiff, Nat.reduceLT, Nat.reduceBNe, Nat.reduceGT, List.drop_nil, List.take_nil, Option.isSome_none, Int.ofNat_one, Int.ofNat_zero, hc, g3, g4, g7, g11, hip, hlp, hik, hlk, b1, b2, b5, hp2, hpi, hs2, hs3, hsi, and_one, q0, qi, hgt, hgk, heq, hw, e2, e3, List.cons_append, List.nil_append]
            · rw [if_pos rfl, if_neg c2, if_neg (fun h => absurd h.2.2 (by simp))]; exact h3
          | true =>
            rw [c4] at qi
            have g5 := h.st (a5, ⟨0, [.fn w [], .fn r []]⟩) (by simp [fz6])
            have g9 := h.st (a9, ⟨0, [.fn 92 [.ptr a8 0 0]]⟩) (by simp [fz6])
            simp only at g5 g9
            have hpop := fun H => pop68 (Y := Y) (H := H) hmet
            have hu := wrap_u64 hmet
            have hpl : pc met ≤ 7 := by unfold pc; exact Nat.le_trans (List.length_filter_le _ _) (by simp)
            have hw2 : IntKind.wrap .i64 ((pc met : Int) + 2) = ((pc met + 2 : Nat) : Int) := by rw [wrap_id (by omega) (by omega)]; simp
            have b3 : bitsA .andNot .i64 (S : Int) (met : Int) = some (vI ((dl S met : Nat) : Int)) := (nat_bits (by have := C.Sb; omega) (by omega)).2.2
            have hdS : dl S met < 128 := Nat.lt_of_le_of_lt (dl_le _ _) C.Sb
            have b4 : bitsA .andNot .i64 ((dl S met : Nat) : Int) ((2 ^ k : Nat) : Int) = some (vI ((dl (dl S met) (2 ^ k) : Nat) : Int)) := (nat_bits (by omega) (by have := pow_lt hk7; omega)).2.2
            obtain ⟨v, R0, q0', ver, o1, o2, o3, o4⟩ := C.hov (dl (dl S met) (2 ^ k)) (fun j hj => by
              rw [dl_bit, dl_bit] at hj
              simp only [Bool.and_eq_true] at hj
              exact hj.1.1)
            obtain ⟨m1, m2⟩ := call_row (H := H) (R := callL ET Y) (f := 71) (args := [fr, vI ((dl (dl S met) (2 ^ k) : Nat) : Int), .agg [.fn w [], .fn r []]]) (bs := [fr, vI ((dl (dl S met) (2 ^ k) : Nat) : Int), .agg [.fn w [], .fn r []]]) (by rw [mapM_cons', C.hv.snap]; rfl) o1 o2 o3
            have hl8 := hlt_of (h.out.choose_spec.1)
            have hl0 := hlt_of (h.out.choose_spec.2)
            have hbig : Out ((q0' + H.length, ⟨ver, (ov (dl (dl S met) (2 ^ k))).map vW⟩) :: fz6 fr S i w r a3 a4 a5 a7 a8 a9 a11) a8 j0 (H ++ R0.map (shO H.length)) out := by
              obtain ⟨vr, k8, k0⟩ := h.out
              refine ⟨fun x hx => ?_, fun x hx => ?_, h.ne, vr, ?_, ?_⟩
              · rcases List.mem_cons.1 hx with rfl | hx
                · exact m2
                · rw [List.getElem?_append_left (hlt_of (h.st x hx))]; exact h.st x hx
              · rcases List.mem_cons.1 hx with rfl | hx
                · simp only; omega
                · exact h.ap x hx
              · rw [List.getElem?_append_left hl8]; exact k8
              · rw [List.getElem?_append_left hl0]; exact k0
            obtain ⟨H1, e1, h1, n1⟩ := more92 (Y := Y) (c := r) (kn := pc met + 2) C.hr ⟨_, _, rfl, List.mem_cons_self⟩ (by omega) hbig
            have h1' := h1.mono (fz' := fz6 fr S i w r a3 a4 a5 a7 a8 a9 a11) (fun x hx => List.mem_cons_of_mem _ hx)
            have g11' := h1'.st (a11, ⟨0, [.fn 93 [.ptr a3 0 0, .ptr a4 0 0, .ptr a7 0 0, .ptr a9 0 0, .ptr a5 0 0, .ptr a11 0 0]]⟩) (by simp [fz6])
            simp only at g11'
            have g5' : (H ++ R0.map (shO H.length))[a5]? = some ⟨0, [.fn w [], .fn r []]⟩ := by rw [List.getElem?_append_left (hlt_of g5)]; exact g5
            obtain ⟨H2, e2, h2, n2⟩ := ih k sec (met ||| 2 ^ k) hk1 hsec hmet' hpc' h1'
            obtain ⟨H', e3, h3, n3⟩ := ihd (k + 1) (by omega) h2
            have n0 : H.length ≤ (H ++ R0.map (shO H.length)).length := by simp
            refine ⟨H', ?_, ?_, by omega⟩
            · simp only [SS, insA, wantedA, Opd.ev, putA, binA, eqbA, unA, fldA, partA, reduceIte, reduceCtorEq, Nat.reduceMod, Nat.reduceDiv, Nat.reduceBEq, resultA, resA, vI, Nat.reduceMul, Nat.reduceAdd, Nat.reduceSub, Nat.reduceEqDiff, Nat.reduceLT, Nat.reducePow, Nat.reduceLeDiff, st, Option.bind_eq_bind, Option.pure_def, List.length_nil, Int.cast_ofNat_Int, List.reverse_nil] at e1 e2 e3 m1
              simp only [F93L0b, SS, insA, wantedA, Opd.ev, putA, binA, eqbA, unA, fldA, partA, reduceIte, reduceCtorEq, Nat.reduceMod, Nat.reduceDiv, Nat.reduceBEq, resultA, resA, vI, Nat.reduceMul, Nat.reduceAdd, Nat.reduceSub, Nat.reduceEqDiff, Nat.reduceLT, Nat.reducePow, Nat.reduceLeDiff, st, Option.bind_eq_bind, Option.pure_def, List.length_nil, Int.cast_ofNat_Int, List.reverse_nil, UU, idxP, cellsAt, fillA, zerosA, putAll, row, Int.reduceLT, Int.reduceLE, Int.reduceGT, Int.reduceGE, Int.reduceEq, Int.reduceNe, Int.reduceToNat, Int.reduceBEq, Int.reduceBNe, Nat.reduceLeDiff, Nat.reduceLT, Nat.reduceBNe, Nat.reduceGT, List.drop_nil, List.take_nil, Option.isSome_none, Int.ofNat_one, Int.ofNat_zero, hc, g3, g4, g5, g7, g9, g11, hip, hlp, hik, hlk, b1, b2, b3, b4, b5, hp2, hpi, hs2, hs3, hsi, and_one, q0, qi, hgt, hgk, heq, hw, hpop, hu, hw2, m1, g5', e1, g11', e2, e3, List.cons_append, List.nil_append]
            · rw [if_pos rfl, if_neg c2, if_pos ⟨by omega, c3, rfl⟩]; exact h3
        · have hgk : ¬ ((k : Int) > (sec : Int)) := by omega
          obtain ⟨H2, e2, h2, n2⟩ := ih k sec (met ||| 2 ^ k) hk1 hsec hmet' hpc' h
          obtain ⟨H', e3, h3, n3⟩ := ihd (k + 1) (by omega) h2
          refine ⟨H', ?_, ?_, by omega⟩
          · simp only [SS, insA, wantedA, Opd.ev, putA, binA, eqbA, unA, fldA, partA, reduceIte, reduceCtorEq, Nat.reduceMod, Nat.reduceDiv, Nat.reduceBEq, resultA, resA, vI, Nat.reduceMul, Nat.reduceAdd, Nat.reduceSub, Nat.reduceEqDiff, Nat.reduceLT, Nat.reducePow, Nat.reduceLeDiff, st, Option.bind_eq_bind, Option.pure_def, List.length_nil, Int.cast_ofNat_Int, List.reverse_nil] at e2 e3
            simp only [F93L0b, SS, insA, wantedA, Opd.ev, putA, binA, eqbA, unA, fldA, partA, reduceIte, reduceCtorEq, Nat.reduceMod, Nat.reduceDiv, Nat.reduceBEq, resultA, resA, vI, Nat.reduceMul, Nat.reduceAdd, Nat.reduceSub, Nat.reduceEqDiff, Nat.reduceLT, Nat.reducePow, Nat.reduceLeDiff, st, Option.bind_eq_bind, Option.pure_def, List.length_nil, Int.cast_ofNat_Int, List.reverse_nil, UU, idxP, cellsAt, fillA, zerosA, putAll, row, Int.reduceLT, Int.reduceLE, Int.reduceGT, Int.reduceGE, Int.reduceEq, Int.reduceNe, Int.reduceToNat, Int.reduceBEq, Int.reduceBNe, Nat.reduceLeDiff, Nat.reduceLT, Nat.reduceBNe, Nat.reduceGT, List.drop_nil, List.take_nil, Option.isSome_none, Int.ofNat_one, Int.ofNat_zero, hc, g3, g4, g11, hip, hlp, b1, b2, b5, hp2, hs2, hs3, and_one, q0, hgt, hgk, heq, hw, e2, e3, List.cons_append, List.nil_append]
          · rw [if_pos rfl, if_neg c2, if_neg (fun h => c3 h.2.1)]; exact h3

/-- The closure 'on'. -/
theorem on93 {fr : AV} {f : List Nat} {S i w r : Nat} {ov : Nat → List Int} {a3 a4 a5 a7 a8 a9 a11 j0 : Nat} (C : OnCtx fr f S i w r ov Y) : ∀ (e p sec met : Nat) {H : Heap} {out : List Int}, p < f.length → sec < 7 → met < 128 → pc (dl S met) < e → Out (fz6 fr S i w r a3 a4 a5 a7 a8 a9 a11) a8 j0 H out →
      ∃ H', callL ET Y 93 [vI p, vI sec, vI met, .ptr a3 0 0, .ptr a4 0 0, .ptr a7 0 0, .ptr a9 0 0, .ptr a5 0 0, .ptr a11 0 0] H = some (.tup [], H') ∧ Out (fz6 fr S i w r a3 a4 a5 a7 a8 a9 a11) a8 j0 H' (onL ov f f.length i S (cm r) e p sec met out) ∧ H.length ≤ H'.length
  | 0, p, sec, met, H, out, hp, hsec, hmet, hpc, h => by omega
  | e + 1, p, sec, met, H, out, hp, hsec, hmet, hpc, h => by
    obtain ⟨H', e1, h1, n1⟩ := L93 C (fun p sec met {H out} => on93 C e p sec met) hp hsec hmet hpc f.length 0 (by omega) h
    have g3 := h.st (a3, ⟨0, [fr]⟩) (by simp [fz6])
    simp only at g3
    have hlen := C.hv.len
    rw [List.length_map] at hlen
    refine ⟨H', ?_, ?_, n1⟩
    · rw [call93 rfl]
      simp only [SS, insA, wantedA, Opd.ev, putA, binA, eqbA, unA, fldA, partA, reduceIte, reduceCtorEq, Nat.reduceMod, Nat.reduceDiv, Nat.reduceBEq, resultA, resA, vI, Nat.reduceMul, Nat.reduceAdd, Nat.reduceSub, Nat.reduceEqDiff, Nat.reduceLT, Nat.reducePow, Nat.reduceLeDiff, st, Option.bind_eq_bind, Option.pure_def, List.length_nil, Int.cast_ofNat_Int, List.reverse_nil, Int.ofNat_zero] at e1
      simp only [F93B, in93_0, SS, insA, wantedA, Opd.ev, putA, binA, eqbA, unA, fldA, partA, reduceIte, reduceCtorEq, Nat.reduceMod, Nat.reduceDiv, Nat.reduceBEq, resultA, resA, vI, Nat.reduceMul, Nat.reduceAdd, Nat.reduceSub, Nat.reduceEqDiff, Nat.reduceLT, Nat.reducePow, Nat.reduceLeDiff, st, Option.bind_eq_bind, Option.pure_def, List.length_nil, Int.cast_ofNat_Int, List.reverse_nil, UU, idxP, cellsAt, fillA, zerosA, putAll, row, Int.reduceLT, Int.reduceLE, Int.reduceGT, Int.reduceGE, Int.reduceEq, Int.reduceNe, Int.reduceToNat, Int.reduceBEq, Int.reduceBNe, Nat.reduceLeDiff, Nat.reduceLT, Nat.reduceBNe, Nat.reduceGT, List.drop_nil, List.take_nil, Option.isSome_none, Int.ofNat_one, Int.ofNat_zero, g3, hlen, e1, endX, List.mapM_nil]
    · rw [← List.range_eq_range'] at h1; exact h1
end
end Go.X

/-! Tones: sums over figures (over). -/
set_option linter.unusedSimpArgs false
set_option linter.unusedVariables false
set_option maxHeartbeats 2000000
set_option maxRecDepth 10000
namespace Go.X
open Go Go.RowKit

/-! ### How long the lists are -/
def Sub (b a : Nat) : Prop := ∀ j, b.testBit j = true → a.testBit j = true
theorem Sub.refl (a : Nat) : Sub a a := fun _ h => h
theorem Sub.trans {a b c : Nat} (h : Sub a b) (k : Sub b c) : Sub a c := fun j hj => k j (h j hj)
theorem sub_dl (a b : Nat) : Sub (dl a b) a := fun j h => by rw [dl_bit] at h; simp at h; exact h.1
theorem Sub.le {a b : Nat} (h : Sub b a) : b ≤ a := by
  have : b = b &&& a := by
    apply Nat.eq_of_testBit_eq
    intro j
    rw [Nat.testBit_and]
    cases hb : b.testBit j with
    | false => rfl
    | true => rw [h j hb]; rfl
  rw [this]; exact Nat.and_le_right

theorem pc_add {a b : Nat} (h : Sub b a) : pc (dl a b) + pc b = pc a := by
  unfold pc
  have : ∀ l : List Nat, (l.filter fun j => (dl a b).testBit j).length + (l.filter fun j => b.testBit j).length = (l.filter fun j => a.testBit j).length := by
    intro l
    induction l with
    | nil => rfl
    | cons x l ih =>
      simp only [List.filter_cons, dl_bit] at ih ⊢
      cases hb : b.testBit x with
      | true => rw [h x hb]; simp; omega
      | false => cases a.testBit x <;> simp <;> omega
  exact this _

theorem pc_two {k : Nat} (h : k < 7) : pc (2 ^ k) = 1 := by
  match k, h with
  | 0, _ => decide
  | 1, _ => decide
  | 2, _ => decide
  | 3, _ => decide
  | 4, _ => decide
  | 5, _ => decide
  | 6, _ => decide

theorem sub_two {a k : Nat} (h : a.testBit k = true) : Sub (2 ^ k) a := fun j hj => by
  rw [Nat.testBit_two_pow] at hj
  have : k = j := by simpa using hj
  subst this; exact h

theorem pc_del {a k : Nat} (h : a.testBit k = true) (hk : k < 7) : pc (dl a (2 ^ k)) + 1 = pc a := by
  have := pc_add (sub_two h)
  rw [pc_two hk] at this; exact this

theorem sub_or {a b k : Nat} (h : Sub b a) (hk : a.testBit k = true) : Sub (b ||| 2 ^ k) a := fun j hj => by
  rw [Nat.testBit_or, Bool.or_eq_true] at hj
  rcases hj with hj | hj
  · exact h j hj
  · exact sub_two hk j hj

theorem adL_le {out : List Int} {k L : Nat} (x : Int) (h : out.length ≤ L) (hk : k < L) : (adL out k x).length ≤ L := by rw [adL_len]; omega

theorem morL_le (c : Int) {L : Nat} : ∀ (l out : List Int) (j : Nat), out.length ≤ L → j + l.length ≤ L → (morL c out j l).length ≤ L
  | [], out, j, h, _ => h
  | x :: l, out, j, h, hj => by
    simp only [morL]
    simp only [List.length_cons] at hj
    exact morL_le c l _ _ (adL_le _ h (by omega)) (by omega)

theorem onL_le {ov : Nat → List Int} {f : List Nat} {n i S : Nat} {c : Int} (hn : n ≤ 7) (hov : ∀ T, Sub T S → (ov T).length ≤ pc T + 1) : ∀ (e p sec met : Nat) (out : List Int), Sub met S → out.length ≤ pc S + 2 → (onL ov f n i S c e p sec met out).length ≤ pc S + 2
  | 0, _, _, _, out, _, h => h
  | e + 1, p, sec, met, out, hm, h => by
    simp only [onL]
    have : ∀ (ks : List Nat) (out : List Int), (∀ k ∈ ks, k < n) → out.length ≤ pc S + 2 → (ks.foldl (fun out k => if (dl (f.getD p 0 &&& S) met).testBit k = true then
      onL ov f n i S c e k (if met = 0 then k else sec) (met ||| 2 ^ k)
        (if 0 < met ∧ sec < k ∧ (f.getD k 0).testBit i = true then morL c out (pc met + 2) (ov (dl (dl S met) (2 ^ k))) else out)
      else out) out).length ≤ pc S + 2 := by
      intro ks
      induction ks with
      | nil => intro out _ h; exact h
      | cons k ks ih =>
        intro out hk h
        rw [List.foldl_cons]
        refine ih _ (fun k' h' => hk k' (List.mem_cons_of_mem _ h')) ?_
        split
        · rename_i hb
          rw [dl_bit, Nat.testBit_and, Bool.and_eq_true, Bool.and_eq_true, Bool.not_eq_true'] at hb
          obtain ⟨⟨_, hb2⟩, hb3⟩ := hb
          have hk7 : k < 7 := by have := hk k List.mem_cons_self; omega
          refine onL_le hn hov e _ _ _ _ (sub_or hm hb2) ?_
          split
          · refine morL_le _ _ _ _ h ?_
            have h1 := hov (dl (dl S met) (2 ^ k)) ((sub_dl _ _).trans (sub_dl _ _))
            have h2 := pc_del (a := dl S met) (k := k) (by rw [dl_bit, hb2, hb3]; rfl) hk7
            have h3 := pc_add hm
            omega
          · exact h
        · exact h
    exact this _ _ (fun k hk => List.mem_range.1 hk) h

/-- The sums over figures, by how many knots they have. -/
def ovL (f : List Nat) (w r : Int) : Nat → Nat → List Int
  | 0, _ => [1]
  | d + 1, left => if left = 0 then [1] else
    onL (ovL f w r d) f f.length (ctz left) (dl left (2 ^ ctz left)) r 8 (ctz left) 0 0
      ((List.range f.length).foldl (fun out k => if (f.getD (ctz left) 0 &&& dl left (2 ^ ctz left)).testBit k then morL w out 2 (ovL f w r d (dl (dl left (2 ^ ctz left)) (2 ^ k))) else out) (ovL f w r d (dl left (2 ^ ctz left))))

theorem ctz_ok_all : (List.range 128).all (fun m => m == 0 || m.testBit (ctz m)) = true := by decide
theorem ctz_ok {m : Nat} (h : m < 128) (h0 : m ≠ 0) : m.testBit (ctz m) = true := by
  have := List.all_eq_true.1 ctz_ok_all m (List.mem_range.2 h)
  rw [Bool.or_eq_true] at this
  rcases this with h1 | h1
  · exact absurd (by simpa using h1) h0
  · exact h1
theorem ctz_lt (m : Nat) : ctz m < 7 := by
  unfold ctz
  cases hf : (List.range 7).find? fun j => m.testBit j with
  | none => decide
  | some j => have := List.mem_of_find?_eq_some hf; simpa using this

theorem ovL_le {f : List Nat} {w r : Int} (hf : f.length ≤ 7) : ∀ (d left : Nat), left < 128 → (ovL f w r d left).length ≤ pc left + 1
  | 0, left, _ => by simp [ovL]
  | d + 1, left, h => by
    simp only [ovL]
    split
    · simp
    · rename_i h0
      have hb := ctz_ok h h0
      have hp := pc_del hb (ctz_lt left)
      have hS : dl left (2 ^ ctz left) < 128 := Nat.lt_of_le_of_lt (dl_le _ _) h
      have hov : ∀ T, Sub T (dl left (2 ^ ctz left)) → (ovL f w r d T).length ≤ pc T + 1 := fun T hT => ovL_le hf d T (Nat.lt_of_le_of_lt hT.le hS)
      have hgoal : pc left + 1 = pc (dl left (2 ^ ctz left)) + 2 := by omega
      rw [hgoal]
      generalize dl left (2 ^ ctz left) = S at hov hS
      refine onL_le hf hov _ _ _ _ _ (fun j hj => by simp at hj) ?_
      have : ∀ (ks : List Nat) (out : List Int), (∀ k ∈ ks, k < f.length) → out.length ≤ pc S + 2 → (ks.foldl (fun out k => if (f.getD (ctz left) 0 &&& S).testBit k = true then morL w out 2 (ovL f w r d (dl S (2 ^ k))) else out) out).length ≤ pc S + 2 := by
        intro ks
        induction ks with
        | nil => intro out _ h; exact h
        | cons k ks ih =>
          intro out hk h
          rw [List.foldl_cons]
          refine ih _ (fun k' h' => hk k' (List.mem_cons_of_mem _ h')) ?_
          split
          · rename_i hb
            rw [Nat.testBit_and, Bool.and_eq_true] at hb
            refine morL_le _ _ _ _ h ?_
            have h1 := hov (dl S (2 ^ k)) (sub_dl _ _)
            have h2 := pc_del hb.2 (by have := hk k List.mem_cons_self; omega)
            omega
          · exact h
      refine this _ _ (fun k hk => List.mem_range.1 hk) ?_
      have := hov S (Sub.refl S)
      omega
end Go.X

/-! Tones: sums over figures, walked. -/
set_option linter.unusedSimpArgs false
set_option linter.unusedVariables false
set_option maxHeartbeats 2000000
set_option maxRecDepth 10000
namespace Go.X
open Go Go.RowKit
section
variable {Y : Run} {H : Heap}

def fz5 (fr : AV) (S i w r a3 a4 a5 a7 a8 a9 : Nat) : List (Nat × Ob) :=
  [(a3, ⟨0, [fr]⟩), (a4, ⟨0, [vI S]⟩), (a5, ⟨0, [.fn w [], .fn r []]⟩), (a7, ⟨0, [vI i]⟩), (a9, ⟨0, [.fn 92 [.ptr a8 0 0]]⟩)]

theorem L71 {fr : AV} {f : List Nat} {S i w r : Nat} {ov : Nat → List Int} {a3 a4 a5 a7 a8 a9 j0 : Nat} (C : OnCtx fr f S i w r ov Y) (hw' : w = 139 ∨ w = 140 ∨ w = 141 ∨ w = 142 ∨ w = 143 ∨ w = 144) (d : Nat) : ∀ {H : Heap} {out : List Int} (k : Nat), k + d = f.length → Out (fz5 fr S i w r a3 a4 a5 a7 a8 a9) a8 j0 H out →
    ∃ H', lp ET Y F71L0 (sp 58 [(28, vI k), (27, vI f.length), (9, .ptr a9 0 0), (8, .ptr a8 0 0), (7, .ptr a7 0 0), (5, .ptr a5 0 0), (4, .ptr a4 0 0), (3, .ptr a3 0 0)]) H =
        some (.x 0, sp 58 [(9, .ptr a9 0 0), (8, .ptr a8 0 0), (7, .ptr a7 0 0), (5, .ptr a5 0 0), (4, .ptr a4 0 0), (3, .ptr a3 0 0)], H') ∧
      Out (fz5 fr S i w r a3 a4 a5 a7 a8 a9) a8 j0 H' ((List.range' k d).foldl (fun out k => if (f.getD i 0 &&& S).testBit k then morL (cm w) out 2 (ov (dl S (2 ^ k))) else out) out) ∧ H.length ≤ H'.length := by
  have fb := C.fb
  induction d with
  | zero =>
    intro H out k hk h
    refine ⟨H, ?_, by simpa using h, Nat.le_refl _⟩
    rw [un71_0]
    have : ¬ ((k : Int) < (f.length : Int)) := by omega
    simp only [F71L0b, SS, insA, wantedA, Opd.ev, putA, binA, eqbA, unA, fldA, partA, reduceIte, reduceCtorEq, Nat.reduceMod, Nat.reduceDiv, Nat.reduceBEq, resultA, resA, vI, Nat.reduceMul, Nat.reduceAdd, Nat.reduceSub, Nat.reduceEqDiff, Nat.reduceLT, Nat.reducePow, Nat.reduceLeDiff, st, Option.bind_eq_bind, Option.pure_def, List.length_nil, Int.cast_ofNat_Int, List.reverse_nil, UU, idxP, cellsAt, fillA, zerosA, putAll, row, Int.reduceLT, Int.reduceLE, Int.reduceGT, Int.reduceGE, Int.reduceEq, Int.reduceNe, Int.reduceToNat, Int.reduceBEq, Int.reduceBNe, Nat.reduceLeDiff, Nat.reduceLT, Nat.reduceBNe, Nat.reduceGT, List.drop_nil, List.take_nil, Option.isSome_none, Int.ofNat_one, Int.ofNat_zero, this]
  | succ d ihd =>
    intro H out k hk h
    have hk1 : k < f.length := by omega
    have hk7 : k < 7 := by have := C.fl; omega
    have hc : (k : Int) < (f.length : Int) := by omega
    have hw := wrap_succ (n := k) (by omega)
    have g3 := h.st (a3, ⟨0, [fr]⟩) (by simp [fz5])
    have g4 := h.st (a4, ⟨0, [vI S]⟩) (by simp [fz5])
    have g7 := h.st (a7, ⟨0, [vI i]⟩) (by simp [fz5])
    simp only at g3 g4 g7
    have hip := C.hv.idx (i := i) (by simpa using C.ib)
    have hlp := C.hv.load (H := H) (i := i) (by simpa using C.ib)
    rw [getD_nat C.ib] at hlp
    have b1 := (nat_bits (a := f.getD i 0) (b := S) (by have := fb i; omega) (by have := C.Sb; omega)).1
    have hp2 : (0 : Int) ≤ (k : Int) := by omega
    have hs2 := shr_eq (k := k) (by omega)
    have hs3 := shl_eq (k := k) (by omega)
    have q0 := sh_beq (f.getD i 0 &&& S) k
    rw [un71_0, List.range'_succ, List.foldl_cons]
    cases c1 : (f.getD i 0 &&& S).testBit k with
    | false =>
      rw [c1] at q0
      obtain ⟨H', e1, h1, n1⟩ := ihd (k + 1) (by omega) h
      refine ⟨H', ?_, by simpa using h1, n1⟩
      simp only [SS, insA, wantedA, Opd.ev, putA, binA, eqbA, unA, fldA, partA, reduceIte, reduceCtorEq, Nat.reduceMod, Nat.reduceDiv, Nat.reduceBEq, resultA, resA, vI, Nat.reduceMul, Nat.reduceAdd, Nat.reduceSub, Nat.reduceEqDiff, Nat.reduceLT, Nat.reducePow, Nat.reduceLeDiff, st, Option.bind_eq_bind, Option.pure_def, List.length_nil, Int.cast_ofNat_Int, List.reverse_nil] at e1
      simp only [F71L0b, SS, insA, wantedA, Opd.ev, putA, binA, eqbA, unA, fldA, partA, reduceIte, reduceCtorEq, Nat.reduceMod, Nat.reduceDiv, Nat.reduceBEq, resultA, resA, vI, Nat.reduceMul, Nat.reduceAdd, Nat.reduceSub, Nat.reduceEqDiff, Nat.reduceLT, Nat.reducePow, Nat.reduceLeDiff, st, Option.bind_eq_bind, Option.pure_def, List.length_nil, Int.cast_ofNat_Int, List.reverse_nil, UU, idxP, cellsAt, fillA, zerosA, putAll, row, Int.reduceLT, Int.reduceLE, Int.reduceGT, Int.reduceGE, Int.reduceEq, Int.reduceNe, Int.reduceToNat, Int.reduceBEq, Int.reduceBNe, Nat.reduceLeDiff, Nat.reduceLT, Nat.reduceBNe, Nat.reduceGT, List.drop_nil, List.take_nil, Option.isSome_none, Int.ofNat_one, Int.ofNat_zero, hc, g3, g4, g7, hip, hlp, b1, hp2, hs2, and_one, q0, hw, e1]
    | true =>
      rw [c1] at q0
      have g5 := h.st (a5, ⟨0, [.fn w [], .fn r []]⟩) (by simp [fz5])
      have g9 := h.st (a9, ⟨0, [.fn 92 [.ptr a8 0 0]]⟩) (by simp [fz5])
      simp only at g5 g9
      have b4 : bitsA .andNot .i64 (S : Int) ((2 ^ k : Nat) : Int) = some (vI ((dl S (2 ^ k) : Nat) : Int)) := (nat_bits (by have := C.Sb; omega) (by have := pow_lt hk7; omega)).2.2
      obtain ⟨v, R0, q0', ver, o1, o2, o3, o4⟩ := C.hov (dl S (2 ^ k)) (sub_dl _ _)
      obtain ⟨m1, m2⟩ := call_row (H := H) (R := callL ET Y) (f := 71) (args := [fr, vI ((dl S (2 ^ k) : Nat) : Int), .agg [.fn w [], .fn r []]]) (bs := [fr, vI ((dl S (2 ^ k) : Nat) : Int), .agg [.fn w [], .fn r []]]) (by rw [mapM_cons', C.hv.snap]; rfl) o1 o2 o3
      have hl8 := hlt_of (h.out.choose_spec.1)
      have hl0 := hlt_of (h.out.choose_spec.2)
      have hbig : Out ((q0' + H.length, ⟨ver, (ov (dl S (2 ^ k))).map vW⟩) :: fz5 fr S i w r a3 a4 a5 a7 a8 a9) a8 j0 (H ++ R0.map (shO H.length)) out := by
        obtain ⟨vr, k8, k0⟩ := h.out
        refine ⟨fun x hx => ?_, fun x hx => ?_, h.ne, vr, ?_, ?_⟩
        · rcases List.mem_cons.1 hx with rfl | hx
          · exact m2
          · rw [List.getElem?_append_left (hlt_of (h.st x hx))]; exact h.st x hx
        · rcases List.mem_cons.1 hx with rfl | hx
          · simp only; omega
          · exact h.ap x hx
        · rw [List.getElem?_append_left hl8]; exact k8
        · rw [List.getElem?_append_left hl0]; exact k0
      obtain ⟨H1, e1, h1, n1⟩ := more92 (Y := Y) (c := w) (kn := 2) hw' ⟨_, _, rfl, List.mem_cons_self⟩ (by omega) hbig
      have h1' := h1.mono (fz' := fz5 fr S i w r a3 a4 a5 a7 a8 a9) (fun x hx => List.mem_cons_of_mem _ hx)
      have g5' : (H ++ R0.map (shO H.length))[a5]? = some ⟨0, [.fn w [], .fn r []]⟩ := by rw [List.getElem?_append_left (hlt_of g5)]; exact g5
      obtain ⟨H', e3, h3, n3⟩ := ihd (k + 1) (by omega) h1'
      have n0 : H.length ≤ (H ++ R0.map (shO H.length)).length := by simp
      refine ⟨H', ?_, ?_, by omega⟩
      · simp only [SS, insA, wantedA, Opd.ev, putA, binA, eqbA, unA, fldA, partA, reduceIte, reduceCtorEq, Nat.reduceMod, Nat.reduceDiv, Nat.reduceBEq, resultA, resA, vI, Nat.reduceMul, Nat.reduceAdd, Nat.reduceSub, Nat.reduceEqDiff, Nat.reduceLT, Nat.reducePow, Nat.reduceLeDiff, st, Option.bind_eq_bind, Option.pure_def, List.length_nil, Int.cast_ofNat_Int, List.reverse_nil, Int.cast_ofNat_Int] at e1 e3 m1
        simp only [F71L0b, SS, insA, wantedA, Opd.ev, putA, binA, eqbA, unA, fldA, partA, reduceIte, reduceCtorEq, Nat.reduceMod, Nat.reduceDiv, Nat.reduceBEq, resultA, resA, vI, Nat.reduceMul, Nat.reduceAdd, Nat.reduceSub, Nat.reduceEqDiff, Nat.reduceLT, Nat.reducePow, Nat.reduceLeDiff, st, Option.bind_eq_bind, Option.pure_def, List.length_nil, Int.cast_ofNat_Int, List.reverse_nil, UU, idxP, cellsAt, fillA, zerosA, putAll, row, Int.reduceLT, Int.reduceLE, Int.reduceGT, Int.reduceGE, Int.reduceEq, Int.reduceNe, Int.reduceToNat, Int.reduceBEq, Int.reduceBNe, Nat.reduceLeDiff, Nat.reduceLT, Nat.reduceBNe, Nat.reduceGT, List.drop_nil, List.take_nil, Option.isSome_none, Int.ofNat_one, Int.ofNat_zero, hc, g3, g4, g5, g7, g9, hip, hlp, b1, b4, hp2, hs2, hs3, and_one, q0, hw, m1, g5', e1, e3, List.cons_append, List.nil_append]
      · rw [if_pos rfl]; exact h3

theorem two_get {a b : Ob} : (H ++ [a, b])[H.length + 1]? = some b := by
  rw [List.getElem?_append_right (by omega)]; simp
theorem two_set {a b c : Ob} : (H ++ [a, b]).set (H.length + 1) c = H ++ [a, c] := by
  simp [List.set_append]

theorem over71_zero {fr : AV} {w r : Nat} {l : List Int} (hv : IsRow fr l) {ov : Nat → List Int} (h0 : ov 0 = [1]) : OvOk Y fr w r ov 0 := by
  refine ⟨.sl 3 0 1 0 1 none, [⟨0, [fr]⟩, ⟨0, [vI 0]⟩, ⟨0, [.fn w [], .fn r []]⟩, ⟨0, [vI 1]⟩], 3, 0, ?_, by rw [h0]; rfl, by rw [h0]; rfl, by rw [h0]; simp⟩
  rw [call71 rfl]
  simp only [F71B, SS, insA, wantedA, Opd.ev, putA, binA, eqbA, unA, fldA, partA, reduceIte, reduceCtorEq, Nat.reduceMod, Nat.reduceDiv, Nat.reduceBEq, resultA, resA, vI, Nat.reduceMul, Nat.reduceAdd, Nat.reduceSub, Nat.reduceEqDiff, Nat.reduceLT, Nat.reducePow, Nat.reduceLeDiff, st, Option.bind_eq_bind, Option.pure_def, List.length_nil, Int.cast_ofNat_Int, List.reverse_nil, UU, idxP, cellsAt, storeA, fillA, zerosA, putAll, optNat, sliceA, row, Int.reduceLT, Int.reduceLE, Int.reduceGT, Int.reduceGE, Int.reduceEq, Int.reduceNe, Int.reduceToNat, Int.reduceBEq, Int.reduceBNe, Nat.reduceLeDiff, Nat.reduceLT, Nat.reduceBNe, Nat.reduceGT, List.drop_nil, List.take_nil, Option.isSome_none, Int.ofNat_one, Int.ofNat_zero, hv.one, Int.ofNat_zero]

theorem over71_step {fr : AV} {f : List Nat} {w r left : Nat} {ov : Nat → List Int} (hw' : w = 139 ∨ w = 140 ∨ w = 141 ∨ w = 142 ∨ w = 143 ∨ w = 144) (hl : left < 128) (h0 : left ≠ 0) (C : OnCtx fr f (dl left (2 ^ ctz left)) (ctz left) w r ov Y) :
    ∃ v R0 j0 ver out, callL ET Y 71 [fr, vI left, .agg [.fn w [], .fn r []]] [] = some (v, R0) ∧ v = .sl j0 ver 1 0 out.length none ∧ R0[j0]? = some ⟨ver, out.map vW⟩ ∧
      out = onL ov f f.length (ctz left) (dl left (2 ^ ctz left)) (cm r) 8 (ctz left) 0 0
      ((List.range f.length).foldl (fun out k => if (f.getD (ctz left) 0 &&& dl left (2 ^ ctz left)).testBit k then morL (cm w) out 2 (ov (dl (dl left (2 ^ ctz left)) (2 ^ k))) else out) (ov (dl left (2 ^ ctz left)))) := by
  have hfirst := fun H => first91 (Y := Y) (H := H) hl h0
  have hi7 := ctz_lt left
  have hsh := shl_eq (k := ctz left) (by omega)
  have hpi : (0 : Int) ≤ ((ctz left : Nat) : Int) := by omega
  have b4 : bitsA .andNot .i64 (left : Int) ((2 ^ ctz left : Nat) : Int) = some (vI ((dl left (2 ^ ctz left) : Nat) : Int)) := (nat_bits (by omega) (by have := pow_lt hi7; omega)).2.2
  have hne : ((left : Int) == 0) = false := by simp [h0]
  generalize ctz left = i at *
  generalize dl left (2 ^ i) = S at *
  obtain ⟨v0, R0, q0, ver0, o1, o2, o3, o4⟩ := C.hov S (fun _ h => h)
  obtain ⟨m1, m2⟩ := call_row (H := [⟨0, [fr]⟩, ⟨0, [vI S]⟩, ⟨0, [.fn w [], .fn r []]⟩, ⟨0, [vI i]⟩]) (R := callL ET Y) (f := 71) (args := [fr, vI S, .agg [.fn w [], .fn r []]]) (bs := [fr, vI S, .agg [.fn w [], .fn r []]]) (by rw [mapM_cons', C.hv.snap]; rfl) o1 o2 o3
  generalize hH5 : ([⟨0, [fr]⟩, ⟨0, [vI S]⟩, ⟨0, [.fn w [], .fn r []]⟩, ⟨0, [vI i]⟩] : Heap) ++ R0.map (shO ([⟨0, [fr]⟩, ⟨0, [vI S]⟩, ⟨0, [.fn w [], .fn r []]⟩, ⟨0, [vI i]⟩] : Heap).length) = H5 at m1 m2
  have g0 : H5[0]? = some ⟨0, [fr]⟩ := by rw [← hH5]; rfl
  have g1 : H5[1]? = some ⟨0, [vI S]⟩ := by rw [← hH5]; rfl
  have g2 : H5[2]? = some ⟨0, [.fn w [], .fn r []]⟩ := by rw [← hH5]; rfl
  have g3 : H5[3]? = some ⟨0, [vI i]⟩ := by rw [← hH5]; rfl
  have hq : q0 + [(⟨0, [fr]⟩ : Ob), ⟨0, [vI S]⟩, ⟨0, [.fn w [], .fn r []]⟩, ⟨0, [vI i]⟩].length = q0 + 4 := rfl
  rw [hq] at m1 m2
  clear hH5 hq
  have hq5 := hlt_of m2
  have hl5 := hlt_of g3
  generalize hsl : AV.sl (q0 + 4) ver0 1 0 (ov S).length none = sl0 at m1
  -- the two boxes
  have hone : one sl0 = true ∧ isU sl0 = false ∧ cellsOf sl0 = [sl0] := by rw [← hsl]; exact ⟨rfl, rfl, rfl⟩
  have hOut : Out (fz5 fr S i w r 0 1 2 3 H5.length (H5.length + 1)) H5.length (q0 + 4) (H5 ++ [⟨0, [sl0]⟩, ⟨0, [.fn 92 [.ptr H5.length 0 0]]⟩]) (ov S) := by
    have hg : ∀ (j : Nat) (o : Ob), H5[j]? = some o → (H5 ++ [(⟨0, [sl0]⟩ : Ob), ⟨0, [.fn 92 [.ptr H5.length 0 0]]⟩])[j]? = some o := fun j o h => by
      rw [List.getElem?_append_left (hlt_of h)]; exact h
    refine ⟨fun p hp => ?_, fun p hp => ?_, by omega, ver0, ?_, hg _ _ m2⟩
    · simp only [fz5, List.mem_cons, List.not_mem_nil, or_false] at hp
      rcases hp with rfl | rfl | rfl | rfl | rfl
      · exact hg _ _ g0
      · exact hg _ _ g1
      · exact hg _ _ g2
      · exact hg _ _ g3
      · exact two_get
    · simp only [fz5, List.mem_cons, List.not_mem_nil, or_false] at hp
      have := hq5
      rcases hp with rfl | rfl | rfl | rfl | rfl <;> simp only <;> omega
    · rw [hsl, List.getElem?_append_right (Nat.le_refl _)]; simp
  obtain ⟨H6, e1, h6, n6⟩ := L71 C hw' f.length 0 (by omega) hOut
  generalize hout6 : (List.range' 0 f.length).foldl (fun out k => if (f.getD i 0 &&& S).testBit k = true then morL (cm w) out 2 (ov (dl S (2 ^ k))) else out) (ov S) = out6 at h6
  rw [← List.range_eq_range'] at hout6
  rw [hout6]
  have hOut7 : Out (fz6 fr S i w r 0 1 2 3 H5.length (H5.length + 1) H6.length) H5.length (q0 + 4) (H6 ++ [⟨0, [.fn 93 [.ptr 0 0 0, .ptr 1 0 0, .ptr 3 0 0, .ptr (H5.length + 1) 0 0, .ptr 2 0 0, .ptr H6.length 0 0]]⟩]) out6 := by
    obtain ⟨vr, k8, k0⟩ := h6.out
    have l8 := hlt_of k8
    have l0 := hlt_of k0
    refine ⟨fun p hp => ?_, fun p hp => ?_, h6.ne, vr, ?_, ?_⟩
    · rcases (List.mem_append.1 (show p ∈ fz5 fr S i w r 0 1 2 3 H5.length (H5.length + 1) ++ [(H6.length, ⟨0, [.fn 93 [.ptr 0 0 0, .ptr 1 0 0, .ptr 3 0 0, .ptr (H5.length + 1) 0 0, .ptr 2 0 0, .ptr H6.length 0 0]]⟩)] from hp)) with hp | hp
      · rw [List.getElem?_append_left (hlt_of (h6.st p hp))]; exact h6.st p hp
      · simp only [List.mem_singleton] at hp; subst hp; simp
    · rcases (List.mem_append.1 (show p ∈ fz5 fr S i w r 0 1 2 3 H5.length (H5.length + 1) ++ [(H6.length, ⟨0, [.fn 93 [.ptr 0 0 0, .ptr 1 0 0, .ptr 3 0 0, .ptr (H5.length + 1) 0 0, .ptr 2 0 0, .ptr H6.length 0 0]]⟩)] from hp)) with hp | hp
      · exact h6.ap p hp
      · simp only [List.mem_singleton] at hp; subst hp; simp only; omega
    · rw [List.getElem?_append_left l8]; exact k8
    · rw [List.getElem?_append_left l0]; exact k0
  have hp8 : pc (dl S 0) < 8 := by
    have : pc (dl S 0) ≤ 7 := by unfold pc; exact Nat.le_trans (List.length_filter_le _ _) (by simp)
    omega
  obtain ⟨H8, e2, h8, n8⟩ := on93 C 8 i 0 0 C.ib (by omega) (by omega) hp8 hOut7
  obtain ⟨vr, k8, k0⟩ := h8.out
  have g6 := h6.st (3, ⟨0, [vI i]⟩) (by simp [fz5])
  simp only at g6
  refine ⟨_, H8, q0 + 4, vr, _, ?_, rfl, k0, rfl⟩
  have p0 := hOut.st (0, ⟨0, [fr]⟩) (by simp [fz5])
  simp only at p0
  have g6' : ∀ x, (H6 ++ [x])[3]? = some ⟨0, [vI i]⟩ := fun x => by rw [List.getElem?_append_left (hlt_of g6)]; exact g6
  have hrow := C.hv.one
  have hlen := C.hv.len
  rw [List.length_map] at hlen
  rw [call71 rfl]
  simp only [SS, insA, wantedA, Opd.ev, putA, binA, eqbA, unA, fldA, partA, reduceIte, reduceCtorEq, Nat.reduceMod, Nat.reduceDiv, Nat.reduceBEq, resultA, resA, vI, Nat.reduceMul, Nat.reduceAdd, Nat.reduceSub, Nat.reduceEqDiff, Nat.reduceLT, Nat.reducePow, Nat.reduceLeDiff, st, Option.bind_eq_bind, Option.pure_def, List.length_nil, Int.cast_ofNat_Int, List.reverse_nil, Int.ofNat_zero] at e1 e2 m1
  simp only [F71B, F71T0, in71_0, SS, insA, wantedA, Opd.ev, putA, binA, eqbA, unA, fldA, partA, reduceIte, reduceCtorEq, Nat.reduceMod, Nat.reduceDiv, Nat.reduceBEq, resultA, resA, vI, Nat.reduceMul, Nat.reduceAdd, Nat.reduceSub, Nat.reduceEqDiff, Nat.reduceLT, Nat.reducePow, Nat.reduceLeDiff, st, Option.bind_eq_bind, Option.pure_def, List.length_nil, Int.cast_ofNat_Int, List.reverse_nil, UU, idxP, cellsAt, storeA, fillA, zerosA, putAll, optNat, sliceA, row, Int.reduceLT, Int.reduceLE, Int.reduceGT, Int.reduceGE, Int.reduceEq, Int.reduceNe, Int.reduceToNat, Int.reduceBEq, Int.reduceBNe, Nat.reduceLeDiff, Nat.reduceLT, Nat.reduceBNe, Nat.reduceGT, List.drop_nil, List.take_nil, Option.isSome_none, Int.ofNat_one, Int.ofNat_zero, hrow, hone, hne, hfirst, hsh, hpi, b4, m1, hlen, p0, e1, e2, k8, g6, g6', get_last, set_last, two_get, two_set, List.cons_append, List.nil_append]

theorem over71 {fr : AV} {f : List Nat} {w r : Nat} (hv : IsRow fr (f.map fun n : Nat => (n : Int))) (fl : f.length ≤ 7) (fb : ∀ j, f.getD j 0 < 128) (hw' : w = 139 ∨ w = 140 ∨ w = 141 ∨ w = 142 ∨ w = 143 ∨ w = 144) (hr' : r = 139 ∨ r = 140 ∨ r = 141 ∨ r = 142 ∨ r = 143 ∨ r = 144) :
    ∀ (d left : Nat), left < 2 ^ f.length → pc left ≤ d → OvOk Y fr w r (ovL f (cm w) (cm r) d) left := by
  have hp7 : 2 ^ f.length ≤ 128 := by
    have : (2 : Nat) ^ f.length ≤ 2 ^ 7 := Nat.pow_le_pow_right (by decide) fl
    omega
  intro d
  induction d with
  | zero =>
    intro left hl hpc
    have h0 : left = 0 := by
      rcases Nat.eq_zero_or_pos left with h | h
      · exact h
      · have := ctz_ok (m := left) (by omega) (by omega)
        have h2 := pc_del this (ctz_lt left)
        omega
    subst h0
    exact over71_zero hv rfl
  | succ d ih =>
    intro left hl hpc
    by_cases h0 : left = 0
    · subst h0; exact over71_zero hv (by simp [ovL])
    · have hb := ctz_ok (m := left) (by omega) h0
      have hd := pc_del hb (ctz_lt left)
      have hin : ctz left < f.length := by
        rcases Nat.lt_or_ge (ctz left) f.length with h | h
        · exact h
        · rw [Nat.testBit_lt_two_pow (Nat.lt_of_lt_of_le hl (Nat.pow_le_pow_right (by decide) h))] at hb; cases hb
      have C : OnCtx fr f (dl left (2 ^ ctz left)) (ctz left) w r (ovL f (cm w) (cm r) d) Y :=
        ⟨hv, fl, fb, Nat.lt_of_le_of_lt (dl_le _ _) (by omega), hin, hr', fun T hT => ih T (Nat.lt_of_le_of_lt (Sub.le (Sub.trans (show Sub T _ from hT) (sub_dl _ _))) hl) (by have := pc_le hT; omega)⟩
      obtain ⟨v, R0, j0, ver, out, e1, e2, e3, e4⟩ := over71_step hw' (by omega) h0 C
      have e5 : out = ovL f (cm w) (cm r) (d + 1) left := by rw [e4]; simp only [ovL]; rw [if_neg h0]
      rw [e5] at e2 e3
      refine ⟨v, R0, j0, ver, e1, e2, e3, ?_⟩
      have := ovL_le (f := f) (w := cm w) (r := cm r) fl (d + 1) left (by omega)
      have h7 : pc left ≤ 7 := by unfold pc; exact Nat.le_trans (List.length_filter_le _ _) (by simp)
      omega
end
end Go.X
