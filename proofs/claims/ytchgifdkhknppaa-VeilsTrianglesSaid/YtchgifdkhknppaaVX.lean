import Derived.Test.YtchgifdkhknppaaVQ
/-! Veils: Of, its inner loop. Printed by a program of our own (gen43.py). -/
set_option linter.unusedSimpArgs false
set_option linter.unusedVariables false
set_option maxHeartbeats 4000000
set_option maxRecDepth 10000
namespace Go.X
open Go Go.RowKit

theorem tabsB {b : Bool} {ut vt : AV} {s t : List (List Int)} (hu : IsTab ut s) (ht : IsTab vt t) : IsTabs (.imm b [ut, vt] 2) [s, t] :=
  ⟨b, [ut, vt], rfl, rfl, fun i hi => by
    match i, hi with
    | 0, _ => exact hu
    | 1, _ => exact ht⟩
theorem fewB {s t : List (List Int)} : fewS [s, t] ↔ Small s ∧ Small t := by simp [fewS]
def E43a : List Op1 := [⟨none, (some 38), .mov (.t 5)⟩,
  ⟨none, (some 39), .bin .eql (.t 38) (.c (.int .i64 (0)))⟩,
  ⟨none, (some 40), .mov (.t 39)⟩,
  ⟨(some (40, true)), (some 41), .mov (.t 8)⟩,
  ⟨(some (40, true)), (some 42), .mov (.t 7)⟩,
  ⟨(some (40, true)), (some 43), .bin .neq (.t 41) (.t 42)⟩,
  ⟨none, (some 44), .pick (.t 40) (.t 43) (.c (.bool false))⟩]
def E43b : List Op1 := [⟨none, (some 45), .mov (.t 44)⟩,
  ⟨(some (45, false)), (some 46), .mov (.t 7)⟩,
  ⟨(some (45, false)), (some 47), .bin .eql (.t 46) (.c (.int .i64 (0)))⟩,
  ⟨(some (45, false)), (some 48), .mov (.t 47)⟩,
  ⟨(some (48, true)), (some 49), .mov (.t 8)⟩,
  ⟨(some (48, true)), (some 50), .mov (.t 5)⟩,
  ⟨(some (48, true)), (some 51), .bin .neq (.t 49) (.t 50)⟩,
  ⟨(some (45, false)), (some 52), .pick (.t 48) (.t 51) (.c (.bool false))⟩,
  ⟨none, (some 53), .pick (.t 45) (.c (.bool true)) (.t 52)⟩]
def E43c : List Op1 := [⟨none, (some 54), .mov (.t 53)⟩,
  ⟨(some (54, false)), (some 55), .mov (.t 5)⟩,
  ⟨(some (54, false)), (some 56), .mov (.t 4)⟩,
  ⟨(some (54, false)), (some 57), .bin .eql (.t 55) (.t 56)⟩,
  ⟨(some (54, false)), (some 58), .mov (.t 57)⟩,
  ⟨(some (58, true)), (some 59), .mov (.t 8)⟩,
  ⟨(some (58, true)), (some 60), .mov (.t 4)⟩,
  ⟨(some (58, true)), (some 61), .mov (.t 7)⟩,
  ⟨(some (58, true)), (some 62), .bin .sub (.t 60) (.t 61)⟩,
  ⟨(some (58, true)), (some 63), .bin .neq (.t 59) (.t 62)⟩,
  ⟨(some (54, false)), (some 64), .pick (.t 58) (.t 63) (.c (.bool false))⟩,
  ⟨none, (some 65), .pick (.t 54) (.c (.bool true)) (.t 64)⟩]
def E43d : List Op1 := [⟨none, (some 66), .mov (.t 65)⟩,
  ⟨(some (66, false)), (some 67), .mov (.t 7)⟩,
  ⟨(some (66, false)), (some 68), .mov (.t 4)⟩,
  ⟨(some (66, false)), (some 69), .bin .eql (.t 67) (.t 68)⟩,
  ⟨(some (66, false)), (some 70), .mov (.t 69)⟩,
  ⟨(some (70, true)), (some 71), .mov (.t 8)⟩,
  ⟨(some (70, true)), (some 72), .mov (.t 4)⟩,
  ⟨(some (70, true)), (some 73), .mov (.t 5)⟩,
  ⟨(some (70, true)), (some 74), .bin .sub (.t 72) (.t 73)⟩,
  ⟨(some (70, true)), (some 75), .bin .neq (.t 71) (.t 74)⟩,
  ⟨(some (66, false)), (some 76), .pick (.t 70) (.t 75) (.c (.bool false))⟩,
  ⟨none, (some 77), .pick (.t 66) (.c (.bool true)) (.t 76)⟩,
  ⟨none, (some 9), .mov (.t 77)⟩]
def E43e : List Op1 := [⟨none, (some 78), .mov (.t 9)⟩,
  ⟨none, (some 79), .mov (.t 78)⟩,
  ⟨(some (79, false)), (some 80), .mov (.t 5)⟩,
  ⟨(some (79, false)), (some 81), .bin .gtr (.t 80) (.c (.int .i64 (0)))⟩,
  ⟨(some (79, false)), (some 82), .mov (.t 81)⟩,
  ⟨(some (82, true)), (some 83), .mov (.t 8)⟩,
  ⟨(some (82, true)), (some 84), .mov (.t 0)⟩,
  ⟨(some (82, true)), (some 85), .mov (.t 5)⟩,
  ⟨(some (82, true)), (some 86), .bin .sub (.t 85) (.c (.int .i64 (1)))⟩,
  ⟨(some (82, true)), (some 87), .indexA 1 (.t 84) (.t 86)⟩,
  ⟨(some (82, true)), (some 88), .load none (.t 87)⟩,
  ⟨(some (82, true)), (some 89), .mov (.t 7)⟩,
  ⟨(some (82, true)), (some 90), .indexA 1 (.t 88) (.t 89)⟩,
  ⟨(some (82, true)), (some 91), .load none (.t 90)⟩,
  ⟨(some (82, true)), (some 92), .bin .add (.t 91) (.c (.int .i64 (1)))⟩,
  ⟨(some (82, true)), (some 93), .bin .neq (.t 83) (.t 92)⟩,
  ⟨(some (79, false)), (some 94), .pick (.t 82) (.t 93) (.c (.bool false))⟩,
  ⟨(some (79, false)), (some 95), .mov (.t 94)⟩,
  ⟨(some (95, true)), (some 96), .mov (.t 8)⟩,
  ⟨(some (95, true)), (some 97), .mov (.t 0)⟩,
  ⟨(some (95, true)), (some 98), .mov (.t 5)⟩,
  ⟨(some (95, true)), (some 99), .bin .sub (.t 98) (.c (.int .i64 (1)))⟩,
  ⟨(some (95, true)), (some 100), .indexA 1 (.t 97) (.t 99)⟩,
  ⟨(some (95, true)), (some 101), .load none (.t 100)⟩,
  ⟨(some (95, true)), (some 102), .mov (.t 7)⟩,
  ⟨(some (95, true)), (some 103), .indexA 1 (.t 101) (.t 102)⟩,
  ⟨(some (95, true)), (some 104), .load none (.t 103)⟩,
  ⟨(some (95, true)), (some 105), .bin .sub (.t 104) (.c (.int .i64 (1)))⟩,
  ⟨(some (95, true)), (some 106), .bin .neq (.t 96) (.t 105)⟩,
  ⟨(some (79, false)), (some 107), .pick (.t 95) (.t 106) (.c (.bool false))⟩,
  ⟨none, (some 108), .pick (.t 79) (.c (.bool true)) (.t 107)⟩]
def E43f : List Op1 := [⟨none, (some 109), .mov (.t 108)⟩,
  ⟨(some (109, false)), (some 110), .mov (.t 7)⟩,
  ⟨(some (109, false)), (some 111), .bin .gtr (.t 110) (.c (.int .i64 (0)))⟩,
  ⟨(some (109, false)), (some 112), .mov (.t 111)⟩,
  ⟨(some (112, true)), (some 113), .mov (.t 8)⟩,
  ⟨(some (112, true)), (some 114), .mov (.t 6)⟩,
  ⟨(some (112, true)), (some 115), .mov (.t 7)⟩,
  ⟨(some (112, true)), (some 116), .bin .sub (.t 115) (.c (.int .i64 (1)))⟩,
  ⟨(some (112, true)), (some 117), .indexA 1 (.t 114) (.t 116)⟩,
  ⟨(some (112, true)), (some 118), .load none (.t 117)⟩,
  ⟨(some (112, true)), (some 119), .bin .add (.t 118) (.c (.int .i64 (1)))⟩,
  ⟨(some (112, true)), (some 120), .bin .neq (.t 113) (.t 119)⟩,
  ⟨(some (109, false)), (some 121), .pick (.t 112) (.t 120) (.c (.bool false))⟩,
  ⟨(some (109, false)), (some 122), .mov (.t 121)⟩,
  ⟨(some (122, true)), (some 123), .mov (.t 8)⟩,
  ⟨(some (122, true)), (some 124), .mov (.t 6)⟩,
  ⟨(some (122, true)), (some 125), .mov (.t 7)⟩,
  ⟨(some (122, true)), (some 126), .bin .sub (.t 125) (.c (.int .i64 (1)))⟩,
  ⟨(some (122, true)), (some 127), .indexA 1 (.t 124) (.t 126)⟩,
  ⟨(some (122, true)), (some 128), .load none (.t 127)⟩,
  ⟨(some (122, true)), (some 129), .bin .sub (.t 128) (.c (.int .i64 (1)))⟩,
  ⟨(some (122, true)), (some 130), .bin .neq (.t 123) (.t 129)⟩,
  ⟨(some (109, false)), (some 131), .pick (.t 122) (.t 130) (.c (.bool false))⟩,
  ⟨none, (some 132), .pick (.t 109) (.c (.bool true)) (.t 131)⟩]
def F43c : XC :=
 .seq
  (.reg [⟨none, (some 34), .bin .lss (.t 33) (.t 32)⟩])
  (.seq
   (.cond (.t 34)
    (.skip)
    (.exit 2 (m 138 3670033)))
   (.seq
    (.block 3 (m 138 15036055665)
     (.seq
      (.reg [⟨none, (some 35), .mov (.t 33)⟩,
        ⟨none, (some 36), .indexA 1 (.t 31) (.t 33)⟩,
        ⟨none, (some 37), .load none (.t 36)⟩,
        ⟨none, (some 7), .mov (.t 35)⟩,
        ⟨none, (some 8), .mov (.t 37)⟩])
      (.seq
       (.reg (E43a ++ (E43b ++ (E43c ++ E43d))))
       (.seq
        (.reg (E43e ++ E43f))
        (.cond (.t 132)
         (.seq
          (.reg [⟨none, (some 2), .mov (.c (.nils))⟩,
            ⟨none, (some 3), .mov (.c (.int .i64 (2)))⟩])
          (.ret (m 138 12)))
         (.skip))))))
    (.reg [⟨none, (some 133), .bin .add (.t 33) (.c (.int .i64 (1)))⟩,
      ⟨none, (some 33), .mov (.t 133)⟩])))
theorem F43c_eq : F43L0b = F43c := rfl

section
variable {Y : Run} {H : Heap}
def K43 (L L' : List (Nat × AV)) : Prop := fget L' 0 = fget L 0 ∧ fget L' 4 = fget L 4 ∧ fget L' 5 = fget L 5 ∧ fget L' 6 = fget L 6 ∧ fget L' 7 = fget L 7 ∧ fget L' 8 = fget L 8 ∧ fget L' 19 = fget L 19 ∧ fget L' 20 = fget L 20 ∧ fget L' 21 = fget L 21 ∧ fget L' 31 = fget L 31 ∧ fget L' 32 = fget L 32 ∧ fget L' 33 = fget L 33

theorem E43a_run {L : List (Nat × AV)} {n i j : Nat} {x : Int} {hv rv : AV} (g0 : fget L 0 = hv) (g4 : fget L 4 = vI n) (g5 : fget L 5 = vI i) (g6 : fget L 6 = rv) (g7 : fget L 7 = vI j) (g8 : fget L 8 = vI x) : ∃ L', opsL EV Y E43a (sp 138 L) H = some (.n, sp 138 L', H) ∧ fget L' 44 = .bool (decide (((i : Int) = 0) ∧ (¬ x = (j : Int)))) ∧ K43 L L' := by
  simp only [SS, insA, wantedA, Opd.ev, putA, binA, eqbA, unA, fldA, partA, reduceIte, reduceCtorEq, Nat.reduceMod, Nat.reduceDiv, Nat.reduceBEq, resultA, resA, vI, Nat.reduceMul, Nat.reduceAdd, Nat.reduceSub, Nat.reduceEqDiff, Nat.reduceLT, Nat.reducePow, Nat.reduceLeDiff, st, Option.bind_eq_bind, Option.pure_def, List.length_nil, Int.cast_ofNat_Int, List.reverse_nil] at g4 g5 g7 g8
  by_cases c0 : (i : Int) = 0
  · have d0 : (((i : Int) == 0) = true) := by first | exact c0 | (simp; omega)
    by_cases c1 : ¬ x = (j : Int)
    · have d1 : ((x != (j : Int)) = true) := by first | exact c1 | (simp; omega)
      rw [decide_eq_true (p := ((i : Int) = 0) ∧ (¬ x = (j : Int))) (by simp only [c0, c1, and_self, not_false_eq_true])]
      simp only [E43a, SS, insA, wantedA, Opd.ev, putA, binA, eqbA, unA, fldA, partA, reduceIte, reduceCtorEq, Nat.reduceMod, Nat.reduceDiv, Nat.reduceBEq, resultA, resA, vI, Nat.reduceMul, Nat.reduceAdd, Nat.reduceSub, Nat.reduceEqDiff, Nat.reduceLT, Nat.reducePow, Nat.reduceLeDiff, st, Option.bind_eq_bind, Option.pure_def, List.length_nil, Int.cast_ofNat_Int, List.reverse_nil, UU, idxP, cellsAt, storeA, fillA, zerosA, putAll, optNat, sliceA, row, Int.reduceLT, Int.reduceLE, Int.reduceGT, Int.reduceGE, Int.reduceEq, Int.reduceNe, Int.reduceToNat, Int.reduceBEq, Int.reduceBNe, Nat.reduceLeDiff, Nat.reduceLT, Nat.reduceBNe, Nat.reduceGT, List.drop_nil, List.take_nil, Option.isSome_none, Int.ofNat_one, Int.ofNat_zero, fget_fins, g0, g4, g5, g6, g7, g8, d0, d1]
      refine ⟨_, rfl, ?_, ?_⟩
      · simp only [fget_fins, Nat.reduceEqDiff, if_true, if_false, reduceIte]
      · simp only [K43, fget_fins, Nat.reduceEqDiff, if_false, and_self]
    · have d1 : ((x != (j : Int)) = false) := by first | exact c1 | (simp; omega)
      rw [decide_eq_false (p := ((i : Int) = 0) ∧ (¬ x = (j : Int))) (fun h => c1 h.2)]
      simp only [E43a, SS, insA, wantedA, Opd.ev, putA, binA, eqbA, unA, fldA, partA, reduceIte, reduceCtorEq, Nat.reduceMod, Nat.reduceDiv, Nat.reduceBEq, resultA, resA, vI, Nat.reduceMul, Nat.reduceAdd, Nat.reduceSub, Nat.reduceEqDiff, Nat.reduceLT, Nat.reducePow, Nat.reduceLeDiff, st, Option.bind_eq_bind, Option.pure_def, List.length_nil, Int.cast_ofNat_Int, List.reverse_nil, UU, idxP, cellsAt, storeA, fillA, zerosA, putAll, optNat, sliceA, row, Int.reduceLT, Int.reduceLE, Int.reduceGT, Int.reduceGE, Int.reduceEq, Int.reduceNe, Int.reduceToNat, Int.reduceBEq, Int.reduceBNe, Nat.reduceLeDiff, Nat.reduceLT, Nat.reduceBNe, Nat.reduceGT, List.drop_nil, List.take_nil, Option.isSome_none, Int.ofNat_one, Int.ofNat_zero, fget_fins, g0, g4, g5, g6, g7, g8, d0, d1]
      refine ⟨_, rfl, ?_, ?_⟩
      · simp only [fget_fins, Nat.reduceEqDiff, if_true, if_false, reduceIte]
      · simp only [K43, fget_fins, Nat.reduceEqDiff, if_false, and_self]
  · have d0 : (((i : Int) == 0) = false) := by first | exact c0 | (simp; omega)
    rw [decide_eq_false (p := ((i : Int) = 0) ∧ (¬ x = (j : Int))) (fun h => c0 h.1)]
    simp only [E43a, SS, insA, wantedA, Opd.ev, putA, binA, eqbA, unA, fldA, partA, reduceIte, reduceCtorEq, Nat.reduceMod, Nat.reduceDiv, Nat.reduceBEq, resultA, resA, vI, Nat.reduceMul, Nat.reduceAdd, Nat.reduceSub, Nat.reduceEqDiff, Nat.reduceLT, Nat.reducePow, Nat.reduceLeDiff, st, Option.bind_eq_bind, Option.pure_def, List.length_nil, Int.cast_ofNat_Int, List.reverse_nil, UU, idxP, cellsAt, storeA, fillA, zerosA, putAll, optNat, sliceA, row, Int.reduceLT, Int.reduceLE, Int.reduceGT, Int.reduceGE, Int.reduceEq, Int.reduceNe, Int.reduceToNat, Int.reduceBEq, Int.reduceBNe, Nat.reduceLeDiff, Nat.reduceLT, Nat.reduceBNe, Nat.reduceGT, List.drop_nil, List.take_nil, Option.isSome_none, Int.ofNat_one, Int.ofNat_zero, fget_fins, g0, g4, g5, g6, g7, g8, d0]
    refine ⟨_, rfl, ?_, ?_⟩
    · simp only [fget_fins, Nat.reduceEqDiff, if_true, if_false, reduceIte]
    · simp only [K43, fget_fins, Nat.reduceEqDiff, if_false, and_self]

theorem E43b_run {L : List (Nat × AV)} {n i j : Nat} {x : Int} {hv rv : AV} {p : Bool} (g0 : fget L 0 = hv) (g4 : fget L 4 = vI n) (g5 : fget L 5 = vI i) (g6 : fget L 6 = rv) (g7 : fget L 7 = vI j) (g8 : fget L 8 = vI x) (gp : fget L 44 = .bool p) : ∃ L', opsL EV Y E43b (sp 138 L) H = some (.n, sp 138 L', H) ∧ fget L' 53 = .bool (p || decide (((j : Int) = 0) ∧ (¬ x = (i : Int)))) ∧ K43 L L' := by
  simp only [SS, insA, wantedA, Opd.ev, putA, binA, eqbA, unA, fldA, partA, reduceIte, reduceCtorEq, Nat.reduceMod, Nat.reduceDiv, Nat.reduceBEq, resultA, resA, vI, Nat.reduceMul, Nat.reduceAdd, Nat.reduceSub, Nat.reduceEqDiff, Nat.reduceLT, Nat.reducePow, Nat.reduceLeDiff, st, Option.bind_eq_bind, Option.pure_def, List.length_nil, Int.cast_ofNat_Int, List.reverse_nil] at g4 g5 g7 g8
  cases p
  case true =>
    simp only [E43b, SS, insA, wantedA, Opd.ev, putA, binA, eqbA, unA, fldA, partA, reduceIte, reduceCtorEq, Nat.reduceMod, Nat.reduceDiv, Nat.reduceBEq, resultA, resA, vI, Nat.reduceMul, Nat.reduceAdd, Nat.reduceSub, Nat.reduceEqDiff, Nat.reduceLT, Nat.reducePow, Nat.reduceLeDiff, st, Option.bind_eq_bind, Option.pure_def, List.length_nil, Int.cast_ofNat_Int, List.reverse_nil, UU, idxP, cellsAt, storeA, fillA, zerosA, putAll, optNat, sliceA, row, Int.reduceLT, Int.reduceLE, Int.reduceGT, Int.reduceGE, Int.reduceEq, Int.reduceNe, Int.reduceToNat, Int.reduceBEq, Int.reduceBNe, Nat.reduceLeDiff, Nat.reduceLT, Nat.reduceBNe, Nat.reduceGT, List.drop_nil, List.take_nil, Option.isSome_none, Int.ofNat_one, Int.ofNat_zero, fget_fins, g0, g4, g5, g6, g7, g8, gp, Bool.true_or]
    refine ⟨_, rfl, ?_, ?_⟩
    · simp only [fget_fins, Nat.reduceEqDiff, if_true, if_false, reduceIte]
    · simp only [K43, fget_fins, Nat.reduceEqDiff, if_false, and_self]
  case false =>
    simp only [Bool.false_or]
    by_cases c0 : (j : Int) = 0
    · have d0 : (((j : Int) == 0) = true) := by first | exact c0 | (simp; omega)
      by_cases c1 : ¬ x = (i : Int)
      · have d1 : ((x != (i : Int)) = true) := by first | exact c1 | (simp; omega)
        rw [decide_eq_true (p := ((j : Int) = 0) ∧ (¬ x = (i : Int))) (by simp only [c0, c1, and_self, not_false_eq_true])]
        simp only [E43b, SS, insA, wantedA, Opd.ev, putA, binA, eqbA, unA, fldA, partA, reduceIte, reduceCtorEq, Nat.reduceMod, Nat.reduceDiv, Nat.reduceBEq, resultA, resA, vI, Nat.reduceMul, Nat.reduceAdd, Nat.reduceSub, Nat.reduceEqDiff, Nat.reduceLT, Nat.reducePow, Nat.reduceLeDiff, st, Option.bind_eq_bind, Option.pure_def, List.length_nil, Int.cast_ofNat_Int, List.reverse_nil, UU, idxP, cellsAt, storeA, fillA, zerosA, putAll, optNat, sliceA, row, Int.reduceLT, Int.reduceLE, Int.reduceGT, Int.reduceGE, Int.reduceEq, Int.reduceNe, Int.reduceToNat, Int.reduceBEq, Int.reduceBNe, Nat.reduceLeDiff, Nat.reduceLT, Nat.reduceBNe, Nat.reduceGT, List.drop_nil, List.take_nil, Option.isSome_none, Int.ofNat_one, Int.ofNat_zero, fget_fins, g0, g4, g5, g6, g7, g8, gp, d0, d1]
        refine ⟨_, rfl, ?_, ?_⟩
        · simp only [fget_fins, Nat.reduceEqDiff, if_true, if_false, reduceIte]
        · simp only [K43, fget_fins, Nat.reduceEqDiff, if_false, and_self]
      · have d1 : ((x != (i : Int)) = false) := by first | exact c1 | (simp; omega)
        rw [decide_eq_false (p := ((j : Int) = 0) ∧ (¬ x = (i : Int))) (fun h => c1 h.2)]
        simp only [E43b, SS, insA, wantedA, Opd.ev, putA, binA, eqbA, unA, fldA, partA, reduceIte, reduceCtorEq, Nat.reduceMod, Nat.reduceDiv, Nat.reduceBEq, resultA, resA, vI, Nat.reduceMul, Nat.reduceAdd, Nat.reduceSub, Nat.reduceEqDiff, Nat.reduceLT, Nat.reducePow, Nat.reduceLeDiff, st, Option.bind_eq_bind, Option.pure_def, List.length_nil, Int.cast_ofNat_Int, List.reverse_nil, UU, idxP, cellsAt, storeA, fillA, zerosA, putAll, optNat, sliceA, row, Int.reduceLT, Int.reduceLE, Int.reduceGT, Int.reduceGE, Int.reduceEq, Int.reduceNe, Int.reduceToNat, Int.reduceBEq, Int.reduceBNe, Nat.reduceLeDiff, Nat.reduceLT, Nat.reduceBNe, Nat.reduceGT, List.drop_nil, List.take_nil, Option.isSome_none, Int.ofNat_one, Int.ofNat_zero, fget_fins, g0, g4, g5, g6, g7, g8, gp, d0, d1]
        refine ⟨_, rfl, ?_, ?_⟩
        · simp only [fget_fins, Nat.reduceEqDiff, if_true, if_false, reduceIte]
        · simp only [K43, fget_fins, Nat.reduceEqDiff, if_false, and_self]
    · have d0 : (((j : Int) == 0) = false) := by first | exact c0 | (simp; omega)
      rw [decide_eq_false (p := ((j : Int) = 0) ∧ (¬ x = (i : Int))) (fun h => c0 h.1)]
      simp only [E43b, SS, insA, wantedA, Opd.ev, putA, binA, eqbA, unA, fldA, partA, reduceIte, reduceCtorEq, Nat.reduceMod, Nat.reduceDiv, Nat.reduceBEq, resultA, resA, vI, Nat.reduceMul, Nat.reduceAdd, Nat.reduceSub, Nat.reduceEqDiff, Nat.reduceLT, Nat.reducePow, Nat.reduceLeDiff, st, Option.bind_eq_bind, Option.pure_def, List.length_nil, Int.cast_ofNat_Int, List.reverse_nil, UU, idxP, cellsAt, storeA, fillA, zerosA, putAll, optNat, sliceA, row, Int.reduceLT, Int.reduceLE, Int.reduceGT, Int.reduceGE, Int.reduceEq, Int.reduceNe, Int.reduceToNat, Int.reduceBEq, Int.reduceBNe, Nat.reduceLeDiff, Nat.reduceLT, Nat.reduceBNe, Nat.reduceGT, List.drop_nil, List.take_nil, Option.isSome_none, Int.ofNat_one, Int.ofNat_zero, fget_fins, g0, g4, g5, g6, g7, g8, gp, d0]
      refine ⟨_, rfl, ?_, ?_⟩
      · simp only [fget_fins, Nat.reduceEqDiff, if_true, if_false, reduceIte]
      · simp only [K43, fget_fins, Nat.reduceEqDiff, if_false, and_self]

theorem E43c_run {L : List (Nat × AV)} {n i j : Nat} {x : Int} {hv rv : AV} {p : Bool} (g0 : fget L 0 = hv) (g4 : fget L 4 = vI n) (g5 : fget L 5 = vI i) (g6 : fget L 6 = rv) (g7 : fget L 7 = vI j) (g8 : fget L 8 = vI x) (gp : fget L 53 = .bool p) (wnj : IntKind.wrap .i64 ((n : Int) - j) = (n : Int) - j) : ∃ L', opsL EV Y E43c (sp 138 L) H = some (.n, sp 138 L', H) ∧ fget L' 65 = .bool (p || decide (((i : Int) = (n : Int)) ∧ (¬ x = (n : Int) - (j : Int)))) ∧ K43 L L' := by
  simp only [SS, insA, wantedA, Opd.ev, putA, binA, eqbA, unA, fldA, partA, reduceIte, reduceCtorEq, Nat.reduceMod, Nat.reduceDiv, Nat.reduceBEq, resultA, resA, vI, Nat.reduceMul, Nat.reduceAdd, Nat.reduceSub, Nat.reduceEqDiff, Nat.reduceLT, Nat.reducePow, Nat.reduceLeDiff, st, Option.bind_eq_bind, Option.pure_def, List.length_nil, Int.cast_ofNat_Int, List.reverse_nil] at g4 g5 g7 g8
  cases p
  case true =>
    simp only [E43c, SS, insA, wantedA, Opd.ev, putA, binA, eqbA, unA, fldA, partA, reduceIte, reduceCtorEq, Nat.reduceMod, Nat.reduceDiv, Nat.reduceBEq, resultA, resA, vI, Nat.reduceMul, Nat.reduceAdd, Nat.reduceSub, Nat.reduceEqDiff, Nat.reduceLT, Nat.reducePow, Nat.reduceLeDiff, st, Option.bind_eq_bind, Option.pure_def, List.length_nil, Int.cast_ofNat_Int, List.reverse_nil, UU, idxP, cellsAt, storeA, fillA, zerosA, putAll, optNat, sliceA, row, Int.reduceLT, Int.reduceLE, Int.reduceGT, Int.reduceGE, Int.reduceEq, Int.reduceNe, Int.reduceToNat, Int.reduceBEq, Int.reduceBNe, Nat.reduceLeDiff, Nat.reduceLT, Nat.reduceBNe, Nat.reduceGT, List.drop_nil, List.take_nil, Option.isSome_none, Int.ofNat_one, Int.ofNat_zero, fget_fins, g0, g4, g5, g6, g7, g8, gp, wnj, Bool.true_or]
    refine ⟨_, rfl, ?_, ?_⟩
    · simp only [fget_fins, Nat.reduceEqDiff, if_true, if_false, reduceIte]
    · simp only [K43, fget_fins, Nat.reduceEqDiff, if_false, and_self]
  case false =>
    simp only [Bool.false_or]
    by_cases c0 : (i : Int) = (n : Int)
    · have d0 : (((i : Int) == (n : Int)) = true) := by first | exact c0 | (simp; omega)
      by_cases c1 : ¬ x = (n : Int) - (j : Int)
      · have d1 : ((x != (n : Int) - (j : Int)) = true) := by first | exact c1 | (simp; omega)
        rw [decide_eq_true (p := ((i : Int) = (n : Int)) ∧ (¬ x = (n : Int) - (j : Int))) (by simp only [c0, c1, and_self, not_false_eq_true])]
        simp only [E43c, SS, insA, wantedA, Opd.ev, putA, binA, eqbA, unA, fldA, partA, reduceIte, reduceCtorEq, Nat.reduceMod, Nat.reduceDiv, Nat.reduceBEq, resultA, resA, vI, Nat.reduceMul, Nat.reduceAdd, Nat.reduceSub, Nat.reduceEqDiff, Nat.reduceLT, Nat.reducePow, Nat.reduceLeDiff, st, Option.bind_eq_bind, Option.pure_def, List.length_nil, Int.cast_ofNat_Int, List.reverse_nil, UU, idxP, cellsAt, storeA, fillA, zerosA, putAll, optNat, sliceA, row, Int.reduceLT, Int.reduceLE, Int.reduceGT, Int.reduceGE, Int.reduceEq, Int.reduceNe, Int.reduceToNat, Int.reduceBEq, Int.reduceBNe, Nat.reduceLeDiff, Nat.reduceLT, Nat.reduceBNe, Nat.reduceGT, List.drop_nil, List.take_nil, Option.isSome_none, Int.ofNat_one, Int.ofNat_zero, fget_fins, g0, g4, g5, g6, g7, g8, gp, wnj, d0, d1]
        refine ⟨_, rfl, ?_, ?_⟩
        · simp only [fget_fins, Nat.reduceEqDiff, if_true, if_false, reduceIte]
        · simp only [K43, fget_fins, Nat.reduceEqDiff, if_false, and_self]
      · have d1 : ((x != (n : Int) - (j : Int)) = false) := by first | exact c1 | (simp; omega)
        rw [decide_eq_false (p := ((i : Int) = (n : Int)) ∧ (¬ x = (n : Int) - (j : Int))) (fun h => c1 h.2)]
        simp only [E43c, SS, insA, wantedA, Opd.ev, putA, binA, eqbA, unA, fldA, partA, reduceIte, reduceCtorEq, Nat.reduceMod, Nat.reduceDiv, Nat.reduceBEq, resultA, resA, vI, Nat.reduceMul, Nat.reduceAdd, Nat.reduceSub, Nat.reduceEqDiff, Nat.reduceLT, Nat.reducePow, Nat.reduceLeDiff, st, Option.bind_eq_bind, Option.pure_def, List.length_nil, Int.cast_ofNat_Int, List.reverse_nil, UU, idxP, cellsAt, storeA, fillA, zerosA, putAll, optNat, sliceA, row, Int.reduceLT, Int.reduceLE, Int.reduceGT, Int.reduceGE, Int.reduceEq, Int.reduceNe, Int.reduceToNat, Int.reduceBEq, Int.reduceBNe, Nat.reduceLeDiff, Nat.reduceLT, Nat.reduceBNe, Nat.reduceGT, List.drop_nil, List.take_nil, Option.isSome_none, Int.ofNat_one, Int.ofNat_zero, fget_fins, g0, g4, g5, g6, g7, g8, gp, wnj, d0, d1]
        refine ⟨_, rfl, ?_, ?_⟩
        · simp only [fget_fins, Nat.reduceEqDiff, if_true, if_false, reduceIte]
        · simp only [K43, fget_fins, Nat.reduceEqDiff, if_false, and_self]
    · have d0 : (((i : Int) == (n : Int)) = false) := by first | exact c0 | (simp; omega)
      rw [decide_eq_false (p := ((i : Int) = (n : Int)) ∧ (¬ x = (n : Int) - (j : Int))) (fun h => c0 h.1)]
      simp only [E43c, SS, insA, wantedA, Opd.ev, putA, binA, eqbA, unA, fldA, partA, reduceIte, reduceCtorEq, Nat.reduceMod, Nat.reduceDiv, Nat.reduceBEq, resultA, resA, vI, Nat.reduceMul, Nat.reduceAdd, Nat.reduceSub, Nat.reduceEqDiff, Nat.reduceLT, Nat.reducePow, Nat.reduceLeDiff, st, Option.bind_eq_bind, Option.pure_def, List.length_nil, Int.cast_ofNat_Int, List.reverse_nil, UU, idxP, cellsAt, storeA, fillA, zerosA, putAll, optNat, sliceA, row, Int.reduceLT, Int.reduceLE, Int.reduceGT, Int.reduceGE, Int.reduceEq, Int.reduceNe, Int.reduceToNat, Int.reduceBEq, Int.reduceBNe, Nat.reduceLeDiff, Nat.reduceLT, Nat.reduceBNe, Nat.reduceGT, List.drop_nil, List.take_nil, Option.isSome_none, Int.ofNat_one, Int.ofNat_zero, fget_fins, g0, g4, g5, g6, g7, g8, gp, wnj, d0]
      refine ⟨_, rfl, ?_, ?_⟩
      · simp only [fget_fins, Nat.reduceEqDiff, if_true, if_false, reduceIte]
      · simp only [K43, fget_fins, Nat.reduceEqDiff, if_false, and_self]

theorem E43d_run {L : List (Nat × AV)} {n i j : Nat} {x : Int} {hv rv : AV} {p : Bool} (g0 : fget L 0 = hv) (g4 : fget L 4 = vI n) (g5 : fget L 5 = vI i) (g6 : fget L 6 = rv) (g7 : fget L 7 = vI j) (g8 : fget L 8 = vI x) (gp : fget L 65 = .bool p) (wni : IntKind.wrap .i64 ((n : Int) - i) = (n : Int) - i) : ∃ L', opsL EV Y E43d (sp 138 L) H = some (.n, sp 138 L', H) ∧ fget L' 9 = .bool (p || decide (((j : Int) = (n : Int)) ∧ (¬ x = (n : Int) - (i : Int)))) ∧ K43 L L' := by
  simp only [SS, insA, wantedA, Opd.ev, putA, binA, eqbA, unA, fldA, partA, reduceIte, reduceCtorEq, Nat.reduceMod, Nat.reduceDiv, Nat.reduceBEq, resultA, resA, vI, Nat.reduceMul, Nat.reduceAdd, Nat.reduceSub, Nat.reduceEqDiff, Nat.reduceLT, Nat.reducePow, Nat.reduceLeDiff, st, Option.bind_eq_bind, Option.pure_def, List.length_nil, Int.cast_ofNat_Int, List.reverse_nil] at g4 g5 g7 g8
  cases p
  case true =>
    simp only [E43d, SS, insA, wantedA, Opd.ev, putA, binA, eqbA, unA, fldA, partA, reduceIte, reduceCtorEq, Nat.reduceMod, Nat.reduceDiv, Nat.reduceBEq, resultA, resA, vI, Nat.reduceMul, Nat.reduceAdd, Nat.reduceSub, Nat.reduceEqDiff, Nat.reduceLT, Nat.reducePow, Nat.reduceLeDiff, st, Option.bind_eq_bind, Option.pure_def, List.length_nil, Int.cast_ofNat_Int, List.reverse_nil, UU, idxP, cellsAt, storeA, fillA, zerosA, putAll, optNat, sliceA, row, Int.reduceLT, Int.reduceLE, Int.reduceGT, Int.reduceGE, Int.reduceEq, Int.reduceNe, Int.reduceToNat, Int.reduceBEq, Int.reduceBNe, Nat.reduceLeDiff, Nat.reduceLT, Nat.reduceBNe, Nat.reduceGT, List.drop_nil, List.take_nil, Option.isSome_none, Int.ofNat_one, Int.ofNat_zero, fget_fins, g0, g4, g5, g6, g7, g8, gp, wni, Bool.true_or]
    refine ⟨_, rfl, ?_, ?_⟩
    · simp only [fget_fins, Nat.reduceEqDiff, if_true, if_false, reduceIte]
    · simp only [K43, fget_fins, Nat.reduceEqDiff, if_false, and_self]
  case false =>
    simp only [Bool.false_or]
    by_cases c0 : (j : Int) = (n : Int)
    · have d0 : (((j : Int) == (n : Int)) = true) := by first | exact c0 | (simp; omega)
      by_cases c1 : ¬ x = (n : Int) - (i : Int)
      · have d1 : ((x != (n : Int) - (i : Int)) = true) := by first | exact c1 | (simp; omega)
        rw [decide_eq_true (p := ((j : Int) = (n : Int)) ∧ (¬ x = (n : Int) - (i : Int))) (by simp only [c0, c1, and_self, not_false_eq_true])]
        simp only [E43d, SS, insA, wantedA, Opd.ev, putA, binA, eqbA, unA, fldA, partA, reduceIte, reduceCtorEq, Nat.reduceMod, Nat.reduceDiv, Nat.reduceBEq, resultA, resA, vI, Nat.reduceMul, Nat.reduceAdd, Nat.reduceSub, Nat.reduceEqDiff, Nat.reduceLT, Nat.reducePow, Nat.reduceLeDiff, st, Option.bind_eq_bind, Option.pure_def, List.length_nil, Int.cast_ofNat_Int, List.reverse_nil, UU, idxP, cellsAt, storeA, fillA, zerosA, putAll, optNat, sliceA, row, Int.reduceLT, Int.reduceLE, Int.reduceGT, Int.reduceGE, Int.reduceEq, Int.reduceNe, Int.reduceToNat, Int.reduceBEq, Int.reduceBNe, Nat.reduceLeDiff, Nat.reduceLT, Nat.reduceBNe, Nat.reduceGT, List.drop_nil, List.take_nil, Option.isSome_none, Int.ofNat_one, Int.ofNat_zero, fget_fins, g0, g4, g5, g6, g7, g8, gp, wni, d0, d1]
        refine ⟨_, rfl, ?_, ?_⟩
        · simp only [fget_fins, Nat.reduceEqDiff, if_true, if_false, reduceIte]
        · simp only [K43, fget_fins, Nat.reduceEqDiff, if_false, and_self]
      · have d1 : ((x != (n : Int) - (i : Int)) = false) := by first | exact c1 | (simp; omega)
        rw [decide_eq_false (p := ((j : Int) = (n : Int)) ∧ (¬ x = (n : Int) - (i : Int))) (fun h => c1 h.2)]
        simp only [E43d, SS, insA, wantedA, Opd.ev, putA, binA, eqbA, unA, fldA, partA, reduceIte, reduceCtorEq, Nat.reduceMod, Nat.reduceDiv, Nat.reduceBEq, resultA, resA, vI, Nat.reduceMul, Nat.reduceAdd, Nat.reduceSub, Nat.reduceEqDiff, Nat.reduceLT, Nat.reducePow, Nat.reduceLeDiff, st, Option.bind_eq_bind, Option.pure_def, List.length_nil, Int.cast_ofNat_Int, List.reverse_nil, UU, idxP, cellsAt, storeA, fillA, zerosA, putAll, optNat, sliceA, row, Int.reduceLT, Int.reduceLE, Int.reduceGT, Int.reduceGE, Int.reduceEq, Int.reduceNe, Int.reduceToNat, Int.reduceBEq, Int.reduceBNe, Nat.reduceLeDiff, Nat.reduceLT, Nat.reduceBNe, Nat.reduceGT, List.drop_nil, List.take_nil, Option.isSome_none, Int.ofNat_one, Int.ofNat_zero, fget_fins, g0, g4, g5, g6, g7, g8, gp, wni, d0, d1]
        refine ⟨_, rfl, ?_, ?_⟩
        · simp only [fget_fins, Nat.reduceEqDiff, if_true, if_false, reduceIte]
        · simp only [K43, fget_fins, Nat.reduceEqDiff, if_false, and_self]
    · have d0 : (((j : Int) == (n : Int)) = false) := by first | exact c0 | (simp; omega)
      rw [decide_eq_false (p := ((j : Int) = (n : Int)) ∧ (¬ x = (n : Int) - (i : Int))) (fun h => c0 h.1)]
      simp only [E43d, SS, insA, wantedA, Opd.ev, putA, binA, eqbA, unA, fldA, partA, reduceIte, reduceCtorEq, Nat.reduceMod, Nat.reduceDiv, Nat.reduceBEq, resultA, resA, vI, Nat.reduceMul, Nat.reduceAdd, Nat.reduceSub, Nat.reduceEqDiff, Nat.reduceLT, Nat.reducePow, Nat.reduceLeDiff, st, Option.bind_eq_bind, Option.pure_def, List.length_nil, Int.cast_ofNat_Int, List.reverse_nil, UU, idxP, cellsAt, storeA, fillA, zerosA, putAll, optNat, sliceA, row, Int.reduceLT, Int.reduceLE, Int.reduceGT, Int.reduceGE, Int.reduceEq, Int.reduceNe, Int.reduceToNat, Int.reduceBEq, Int.reduceBNe, Nat.reduceLeDiff, Nat.reduceLT, Nat.reduceBNe, Nat.reduceGT, List.drop_nil, List.take_nil, Option.isSome_none, Int.ofNat_one, Int.ofNat_zero, fget_fins, g0, g4, g5, g6, g7, g8, gp, wni, d0]
      refine ⟨_, rfl, ?_, ?_⟩
      · simp only [fget_fins, Nat.reduceEqDiff, if_true, if_false, reduceIte]
      · simp only [K43, fget_fins, Nat.reduceEqDiff, if_false, and_self]

theorem E43e_run {L : List (Nat × AV)} {n i j : Nat} {x : Int} {hv rv : AV} {p : Bool} {u : Int} {a b d : AV} (g0 : fget L 0 = hv) (g4 : fget L 4 = vI n) (g5 : fget L 5 = vI i) (g6 : fget L 6 = rv) (g7 : fget L 7 = vI j) (g8 : fget L 8 = vI x) (gp : fget L 9 = .bool p) (hu : (i : Int) > 0 → IntKind.wrap .i64 ((i : Int) - 1) = ((i - 1 : Nat) : Int) ∧ idxA 1 hv (.int .i64 ((i - 1 : Nat) : Int)) = some a ∧ (∀ H, loadA H none a = some b) ∧ idxA 1 b (.int .i64 (j : Int)) = some d ∧ (∀ H, loadA H none d = some (vI u)) ∧ IntKind.wrap .i64 (u + 1) = u + 1 ∧ IntKind.wrap .i64 (u - 1) = u - 1) : ∃ L', opsL EV Y E43e (sp 138 L) H = some (.n, sp 138 L', H) ∧ fget L' 108 = .bool (p || decide (((i : Int) > 0) ∧ (¬ x = u + 1) ∧ (¬ x = u - 1))) ∧ K43 L L' := by
  simp only [SS, insA, wantedA, Opd.ev, putA, binA, eqbA, unA, fldA, partA, reduceIte, reduceCtorEq, Nat.reduceMod, Nat.reduceDiv, Nat.reduceBEq, resultA, resA, vI, Nat.reduceMul, Nat.reduceAdd, Nat.reduceSub, Nat.reduceEqDiff, Nat.reduceLT, Nat.reducePow, Nat.reduceLeDiff, st, Option.bind_eq_bind, Option.pure_def, List.length_nil, Int.cast_ofNat_Int, List.reverse_nil] at g4 g5 g7 g8
  cases p
  case true =>
    simp only [E43e, SS, insA, wantedA, Opd.ev, putA, binA, eqbA, unA, fldA, partA, reduceIte, reduceCtorEq, Nat.reduceMod, Nat.reduceDiv, Nat.reduceBEq, resultA, resA, vI, Nat.reduceMul, Nat.reduceAdd, Nat.reduceSub, Nat.reduceEqDiff, Nat.reduceLT, Nat.reducePow, Nat.reduceLeDiff, st, Option.bind_eq_bind, Option.pure_def, List.length_nil, Int.cast_ofNat_Int, List.reverse_nil, UU, idxP, cellsAt, storeA, fillA, zerosA, putAll, optNat, sliceA, row, Int.reduceLT, Int.reduceLE, Int.reduceGT, Int.reduceGE, Int.reduceEq, Int.reduceNe, Int.reduceToNat, Int.reduceBEq, Int.reduceBNe, Nat.reduceLeDiff, Nat.reduceLT, Nat.reduceBNe, Nat.reduceGT, List.drop_nil, List.take_nil, Option.isSome_none, Int.ofNat_one, Int.ofNat_zero, fget_fins, g0, g4, g5, g6, g7, g8, gp, Bool.true_or]
    refine ⟨_, rfl, ?_, ?_⟩
    · simp only [fget_fins, Nat.reduceEqDiff, if_true, if_false, reduceIte]
    · simp only [K43, fget_fins, Nat.reduceEqDiff, if_false, and_self]
  case false =>
    simp only [Bool.false_or]
    by_cases c0 : (i : Int) > 0
    · have d0 : ((i : Int) > 0) := by first | exact c0 | (simp; omega)
      obtain ⟨u1, u2, u3, u4, u5, u6, u7⟩ := hu c0
      simp only [SS, insA, wantedA, Opd.ev, putA, binA, eqbA, unA, fldA, partA, reduceIte, reduceCtorEq, Nat.reduceMod, Nat.reduceDiv, Nat.reduceBEq, resultA, resA, vI, Nat.reduceMul, Nat.reduceAdd, Nat.reduceSub, Nat.reduceEqDiff, Nat.reduceLT, Nat.reducePow, Nat.reduceLeDiff, st, Option.bind_eq_bind, Option.pure_def, List.length_nil, Int.cast_ofNat_Int, List.reverse_nil] at u2 u4 u5
      by_cases c1 : ¬ x = u + 1
      · have d1 : ((x != u + 1) = true) := by first | exact c1 | (simp; omega)
        by_cases c2 : ¬ x = u - 1
        · have d2 : ((x != u - 1) = true) := by first | exact c2 | (simp; omega)
          rw [decide_eq_true (p := ((i : Int) > 0) ∧ (¬ x = u + 1) ∧ (¬ x = u - 1)) (by simp only [c0, c1, c2, and_self, not_false_eq_true])]
          simp only [E43e, SS, insA, wantedA, Opd.ev, putA, binA, eqbA, unA, fldA, partA, reduceIte, reduceCtorEq, Nat.reduceMod, Nat.reduceDiv, Nat.reduceBEq, resultA, resA, vI, Nat.reduceMul, Nat.reduceAdd, Nat.reduceSub, Nat.reduceEqDiff, Nat.reduceLT, Nat.reducePow, Nat.reduceLeDiff, st, Option.bind_eq_bind, Option.pure_def, List.length_nil, Int.cast_ofNat_Int, List.reverse_nil, UU, idxP, cellsAt, storeA, fillA, zerosA, putAll, optNat, sliceA, row, Int.reduceLT, Int.reduceLE, Int.reduceGT, Int.reduceGE, Int.reduceEq, Int.reduceNe, Int.reduceToNat, Int.reduceBEq, Int.reduceBNe, Nat.reduceLeDiff, Nat.reduceLT, Nat.reduceBNe, Nat.reduceGT, List.drop_nil, List.take_nil, Option.isSome_none, Int.ofNat_one, Int.ofNat_zero, fget_fins, g0, g4, g5, g6, g7, g8, gp, d0, u1, u2, u3, u4, u5, u6, u7, d1, d2]
          refine ⟨_, rfl, ?_, ?_⟩
          · simp only [fget_fins, Nat.reduceEqDiff, if_true, if_false, reduceIte]
          · simp only [K43, fget_fins, Nat.reduceEqDiff, if_false, and_self]
        · have d2 : ((x != u - 1) = false) := by first | exact c2 | (simp; omega)
          rw [decide_eq_false (p := ((i : Int) > 0) ∧ (¬ x = u + 1) ∧ (¬ x = u - 1)) (fun h => c2 h.2.2)]
          simp only [E43e, SS, insA, wantedA, Opd.ev, putA, binA, eqbA, unA, fldA, partA, reduceIte, reduceCtorEq, Nat.reduceMod, Nat.reduceDiv, Nat.reduceBEq, resultA, resA, vI, Nat.reduceMul, Nat.reduceAdd, Nat.reduceSub, Nat.reduceEqDiff, Nat.reduceLT, Nat.reducePow, Nat.reduceLeDiff, st, Option.bind_eq_bind, Option.pure_def, List.length_nil, Int.cast_ofNat_Int, List.reverse_nil, UU, idxP, cellsAt, storeA, fillA, zerosA, putAll, optNat, sliceA, row, Int.reduceLT, Int.reduceLE, Int.reduceGT, Int.reduceGE, Int.reduceEq, Int.reduceNe, Int.reduceToNat, Int.reduceBEq, Int.reduceBNe, Nat.reduceLeDiff, Nat.reduceLT, Nat.reduceBNe, Nat.reduceGT, List.drop_nil, List.take_nil, Option.isSome_none, Int.ofNat_one, Int.ofNat_zero, fget_fins, g0, g4, g5, g6, g7, g8, gp, d0, u1, u2, u3, u4, u5, u6, u7, d1, d2]
          refine ⟨_, rfl, ?_, ?_⟩
          · simp only [fget_fins, Nat.reduceEqDiff, if_true, if_false, reduceIte]
          · simp only [K43, fget_fins, Nat.reduceEqDiff, if_false, and_self]
      · have d1 : ((x != u + 1) = false) := by first | exact c1 | (simp; omega)
        rw [decide_eq_false (p := ((i : Int) > 0) ∧ (¬ x = u + 1) ∧ (¬ x = u - 1)) (fun h => c1 h.2.1)]
        simp only [E43e, SS, insA, wantedA, Opd.ev, putA, binA, eqbA, unA, fldA, partA, reduceIte, reduceCtorEq, Nat.reduceMod, Nat.reduceDiv, Nat.reduceBEq, resultA, resA, vI, Nat.reduceMul, Nat.reduceAdd, Nat.reduceSub, Nat.reduceEqDiff, Nat.reduceLT, Nat.reducePow, Nat.reduceLeDiff, st, Option.bind_eq_bind, Option.pure_def, List.length_nil, Int.cast_ofNat_Int, List.reverse_nil, UU, idxP, cellsAt, storeA, fillA, zerosA, putAll, optNat, sliceA, row, Int.reduceLT, Int.reduceLE, Int.reduceGT, Int.reduceGE, Int.reduceEq, Int.reduceNe, Int.reduceToNat, Int.reduceBEq, Int.reduceBNe, Nat.reduceLeDiff, Nat.reduceLT, Nat.reduceBNe, Nat.reduceGT, List.drop_nil, List.take_nil, Option.isSome_none, Int.ofNat_one, Int.ofNat_zero, fget_fins, g0, g4, g5, g6, g7, g8, gp, d0, u1, u2, u3, u4, u5, u6, u7, d1]
        refine ⟨_, rfl, ?_, ?_⟩
        · simp only [fget_fins, Nat.reduceEqDiff, if_true, if_false, reduceIte]
        · simp only [K43, fget_fins, Nat.reduceEqDiff, if_false, and_self]
    · have d0 : (¬ (i : Int) > 0) := by first | exact c0 | (simp; omega)
      rw [decide_eq_false (p := ((i : Int) > 0) ∧ (¬ x = u + 1) ∧ (¬ x = u - 1)) (fun h => c0 h.1)]
      simp only [E43e, SS, insA, wantedA, Opd.ev, putA, binA, eqbA, unA, fldA, partA, reduceIte, reduceCtorEq, Nat.reduceMod, Nat.reduceDiv, Nat.reduceBEq, resultA, resA, vI, Nat.reduceMul, Nat.reduceAdd, Nat.reduceSub, Nat.reduceEqDiff, Nat.reduceLT, Nat.reducePow, Nat.reduceLeDiff, st, Option.bind_eq_bind, Option.pure_def, List.length_nil, Int.cast_ofNat_Int, List.reverse_nil, UU, idxP, cellsAt, storeA, fillA, zerosA, putAll, optNat, sliceA, row, Int.reduceLT, Int.reduceLE, Int.reduceGT, Int.reduceGE, Int.reduceEq, Int.reduceNe, Int.reduceToNat, Int.reduceBEq, Int.reduceBNe, Nat.reduceLeDiff, Nat.reduceLT, Nat.reduceBNe, Nat.reduceGT, List.drop_nil, List.take_nil, Option.isSome_none, Int.ofNat_one, Int.ofNat_zero, fget_fins, g0, g4, g5, g6, g7, g8, gp, d0]
      refine ⟨_, rfl, ?_, ?_⟩
      · simp only [fget_fins, Nat.reduceEqDiff, if_true, if_false, reduceIte]
      · simp only [K43, fget_fins, Nat.reduceEqDiff, if_false, and_self]

theorem E43f_run {L : List (Nat × AV)} {n i j : Nat} {x : Int} {hv rv : AV} {p : Bool} {l : Int} {a : AV} (g0 : fget L 0 = hv) (g4 : fget L 4 = vI n) (g5 : fget L 5 = vI i) (g6 : fget L 6 = rv) (g7 : fget L 7 = vI j) (g8 : fget L 8 = vI x) (gp : fget L 108 = .bool p) (hl : (j : Int) > 0 → IntKind.wrap .i64 ((j : Int) - 1) = ((j - 1 : Nat) : Int) ∧ idxA 1 rv (.int .i64 ((j - 1 : Nat) : Int)) = some a ∧ (∀ H, loadA H none a = some (vI l)) ∧ IntKind.wrap .i64 (l + 1) = l + 1 ∧ IntKind.wrap .i64 (l - 1) = l - 1) : ∃ L', opsL EV Y E43f (sp 138 L) H = some (.n, sp 138 L', H) ∧ fget L' 132 = .bool (p || decide (((j : Int) > 0) ∧ (¬ x = l + 1) ∧ (¬ x = l - 1))) ∧ K43 L L' := by
  simp only [SS, insA, wantedA, Opd.ev, putA, binA, eqbA, unA, fldA, partA, reduceIte, reduceCtorEq, Nat.reduceMod, Nat.reduceDiv, Nat.reduceBEq, resultA, resA, vI, Nat.reduceMul, Nat.reduceAdd, Nat.reduceSub, Nat.reduceEqDiff, Nat.reduceLT, Nat.reducePow, Nat.reduceLeDiff, st, Option.bind_eq_bind, Option.pure_def, List.length_nil, Int.cast_ofNat_Int, List.reverse_nil] at g4 g5 g7 g8
  cases p
  case true =>
    simp only [E43f, SS, insA, wantedA, Opd.ev, putA, binA, eqbA, unA, fldA, partA, reduceIte, reduceCtorEq, Nat.reduceMod, Nat.reduceDiv, Nat.reduceBEq, resultA, resA, vI, Nat.reduceMul, Nat.reduceAdd, Nat.reduceSub, Nat.reduceEqDiff, Nat.reduceLT, Nat.reducePow, Nat.reduceLeDiff, st, Option.bind_eq_bind, Option.pure_def, List.length_nil, Int.cast_ofNat_Int, List.reverse_nil, UU, idxP, cellsAt, storeA, fillA, zerosA, putAll, optNat, sliceA, row, Int.reduceLT, Int.reduceLE, Int.reduceGT, Int.reduceGE, Int.reduceEq, Int.reduceNe, Int.reduceToNat, Int.reduceBEq, Int.reduceBNe, Nat.reduceLeDiff, Nat.reduceLT, Nat.reduceBNe, Nat.reduceGT, List.drop_nil, List.take_nil, Option.isSome_none, Int.ofNat_one, Int.ofNat_zero, fget_fins, g0, g4, g5, g6, g7, g8, gp, Bool.true_or]
    refine ⟨_, rfl, ?_, ?_⟩
    · simp only [fget_fins, Nat.reduceEqDiff, if_true, if_false, reduceIte]
    · simp only [K43, fget_fins, Nat.reduceEqDiff, if_false, and_self]
  case false =>
    simp only [Bool.false_or]
    by_cases c0 : (j : Int) > 0
    · have d0 : ((j : Int) > 0) := by first | exact c0 | (simp; omega)
      obtain ⟨u1, u2, u3, u4, u5⟩ := hl c0
      simp only [SS, insA, wantedA, Opd.ev, putA, binA, eqbA, unA, fldA, partA, reduceIte, reduceCtorEq, Nat.reduceMod, Nat.reduceDiv, Nat.reduceBEq, resultA, resA, vI, Nat.reduceMul, Nat.reduceAdd, Nat.reduceSub, Nat.reduceEqDiff, Nat.reduceLT, Nat.reducePow, Nat.reduceLeDiff, st, Option.bind_eq_bind, Option.pure_def, List.length_nil, Int.cast_ofNat_Int, List.reverse_nil] at u2 u3
      by_cases c1 : ¬ x = l + 1
      · have d1 : ((x != l + 1) = true) := by first | exact c1 | (simp; omega)
        by_cases c2 : ¬ x = l - 1
        · have d2 : ((x != l - 1) = true) := by first | exact c2 | (simp; omega)
          rw [decide_eq_true (p := ((j : Int) > 0) ∧ (¬ x = l + 1) ∧ (¬ x = l - 1)) (by simp only [c0, c1, c2, and_self, not_false_eq_true])]
          simp only [E43f, SS, insA, wantedA, Opd.ev, putA, binA, eqbA, unA, fldA, partA, reduceIte, reduceCtorEq, Nat.reduceMod, Nat.reduceDiv, Nat.reduceBEq, resultA, resA, vI, Nat.reduceMul, Nat.reduceAdd, Nat.reduceSub, Nat.reduceEqDiff, Nat.reduceLT, Nat.reducePow, Nat.reduceLeDiff, st, Option.bind_eq_bind, Option.pure_def, List.length_nil, Int.cast_ofNat_Int, List.reverse_nil, UU, idxP, cellsAt, storeA, fillA, zerosA, putAll, optNat, sliceA, row, Int.reduceLT, Int.reduceLE, Int.reduceGT, Int.reduceGE, Int.reduceEq, Int.reduceNe, Int.reduceToNat, Int.reduceBEq, Int.reduceBNe, Nat.reduceLeDiff, Nat.reduceLT, Nat.reduceBNe, Nat.reduceGT, List.drop_nil, List.take_nil, Option.isSome_none, Int.ofNat_one, Int.ofNat_zero, fget_fins, g0, g4, g5, g6, g7, g8, gp, d0, u1, u2, u3, u4, u5, d1, d2]
          refine ⟨_, rfl, ?_, ?_⟩
          · simp only [fget_fins, Nat.reduceEqDiff, if_true, if_false, reduceIte]
          · simp only [K43, fget_fins, Nat.reduceEqDiff, if_false, and_self]
        · have d2 : ((x != l - 1) = false) := by first | exact c2 | (simp; omega)
          rw [decide_eq_false (p := ((j : Int) > 0) ∧ (¬ x = l + 1) ∧ (¬ x = l - 1)) (fun h => c2 h.2.2)]
          simp only [E43f, SS, insA, wantedA, Opd.ev, putA, binA, eqbA, unA, fldA, partA, reduceIte, reduceCtorEq, Nat.reduceMod, Nat.reduceDiv, Nat.reduceBEq, resultA, resA, vI, Nat.reduceMul, Nat.reduceAdd, Nat.reduceSub, Nat.reduceEqDiff, Nat.reduceLT, Nat.reducePow, Nat.reduceLeDiff, st, Option.bind_eq_bind, Option.pure_def, List.length_nil, Int.cast_ofNat_Int, List.reverse_nil, UU, idxP, cellsAt, storeA, fillA, zerosA, putAll, optNat, sliceA, row, Int.reduceLT, Int.reduceLE, Int.reduceGT, Int.reduceGE, Int.reduceEq, Int.reduceNe, Int.reduceToNat, Int.reduceBEq, Int.reduceBNe, Nat.reduceLeDiff, Nat.reduceLT, Nat.reduceBNe, Nat.reduceGT, List.drop_nil, List.take_nil, Option.isSome_none, Int.ofNat_one, Int.ofNat_zero, fget_fins, g0, g4, g5, g6, g7, g8, gp, d0, u1, u2, u3, u4, u5, d1, d2]
          refine ⟨_, rfl, ?_, ?_⟩
          · simp only [fget_fins, Nat.reduceEqDiff, if_true, if_false, reduceIte]
          · simp only [K43, fget_fins, Nat.reduceEqDiff, if_false, and_self]
      · have d1 : ((x != l + 1) = false) := by first | exact c1 | (simp; omega)
        rw [decide_eq_false (p := ((j : Int) > 0) ∧ (¬ x = l + 1) ∧ (¬ x = l - 1)) (fun h => c1 h.2.1)]
        simp only [E43f, SS, insA, wantedA, Opd.ev, putA, binA, eqbA, unA, fldA, partA, reduceIte, reduceCtorEq, Nat.reduceMod, Nat.reduceDiv, Nat.reduceBEq, resultA, resA, vI, Nat.reduceMul, Nat.reduceAdd, Nat.reduceSub, Nat.reduceEqDiff, Nat.reduceLT, Nat.reducePow, Nat.reduceLeDiff, st, Option.bind_eq_bind, Option.pure_def, List.length_nil, Int.cast_ofNat_Int, List.reverse_nil, UU, idxP, cellsAt, storeA, fillA, zerosA, putAll, optNat, sliceA, row, Int.reduceLT, Int.reduceLE, Int.reduceGT, Int.reduceGE, Int.reduceEq, Int.reduceNe, Int.reduceToNat, Int.reduceBEq, Int.reduceBNe, Nat.reduceLeDiff, Nat.reduceLT, Nat.reduceBNe, Nat.reduceGT, List.drop_nil, List.take_nil, Option.isSome_none, Int.ofNat_one, Int.ofNat_zero, fget_fins, g0, g4, g5, g6, g7, g8, gp, d0, u1, u2, u3, u4, u5, d1]
        refine ⟨_, rfl, ?_, ?_⟩
        · simp only [fget_fins, Nat.reduceEqDiff, if_true, if_false, reduceIte]
        · simp only [K43, fget_fins, Nat.reduceEqDiff, if_false, and_self]
    · have d0 : (¬ (j : Int) > 0) := by first | exact c0 | (simp; omega)
      rw [decide_eq_false (p := ((j : Int) > 0) ∧ (¬ x = l + 1) ∧ (¬ x = l - 1)) (fun h => c0 h.1)]
      simp only [E43f, SS, insA, wantedA, Opd.ev, putA, binA, eqbA, unA, fldA, partA, reduceIte, reduceCtorEq, Nat.reduceMod, Nat.reduceDiv, Nat.reduceBEq, resultA, resA, vI, Nat.reduceMul, Nat.reduceAdd, Nat.reduceSub, Nat.reduceEqDiff, Nat.reduceLT, Nat.reducePow, Nat.reduceLeDiff, st, Option.bind_eq_bind, Option.pure_def, List.length_nil, Int.cast_ofNat_Int, List.reverse_nil, UU, idxP, cellsAt, storeA, fillA, zerosA, putAll, optNat, sliceA, row, Int.reduceLT, Int.reduceLE, Int.reduceGT, Int.reduceGE, Int.reduceEq, Int.reduceNe, Int.reduceToNat, Int.reduceBEq, Int.reduceBNe, Nat.reduceLeDiff, Nat.reduceLT, Nat.reduceBNe, Nat.reduceGT, List.drop_nil, List.take_nil, Option.isSome_none, Int.ofNat_one, Int.ofNat_zero, fget_fins, g0, g4, g5, g6, g7, g8, gp, d0]
      refine ⟨_, rfl, ?_, ?_⟩
      · simp only [fget_fins, Nat.reduceEqDiff, if_true, if_false, reduceIte]
      · simp only [K43, fget_fins, Nat.reduceEqDiff, if_false, and_self]

end
end Go.X
