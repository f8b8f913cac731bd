import Derived.Test.YtmedpfjiidlidaaWE
/-! Fashions alone: the law. -/
set_option linter.unusedSimpArgs false
set_option linter.unusedVariables false
set_option maxHeartbeats 4000000
set_option maxRecDepth 10000
namespace Go.X
open Go Go.RowKit
section
variable {R : Heap} {a b c d e x : Ob}
theorem ap5_4 : (R ++ [a, b, c, d, e])[R.length + 1 + 1 + 1 + 1]? = some e := by
  rw [List.getElem?_append_right (by omega)]
  have : R.length + 1 + 1 + 1 + 1 - R.length = 4 := by omega
  rw [this]; rfl
theorem as4_0 : (R ++ [a, b, c, d]).set R.length x = R ++ [x, b, c, d] := by rw [List.set_append_right _ _ (by omega)]; simp
theorem as4_1 : (R ++ [a, b, c, d]).set (R.length + 1) x = R ++ [a, x, c, d] := by rw [List.set_append_right _ _ (by omega)]; simp
theorem as4_2 : (R ++ [a, b, c, d]).set (R.length + 1 + 1) x = R ++ [a, b, x, d] := by
  rw [List.set_append_right _ _ (by omega)]
  have : R.length + 1 + 1 - R.length = 2 := by omega
  rw [this]; rfl
theorem as4_3 : (R ++ [a, b, c, d]).set (R.length + 1 + 1 + 1) x = R ++ [a, b, c, x] := by
  rw [List.set_append_right _ _ (by omega)]
  have : R.length + 1 + 1 + 1 - R.length = 3 := by omega
  rw [this]; rfl
theorem as5_4 : (R ++ [a, b, c, d, e]).set (R.length + 1 + 1 + 1 + 1) x = R ++ [a, b, c, d, x] := by
  rw [List.set_append_right _ _ (by omega)]
  have : R.length + 1 + 1 + 1 + 1 - R.length = 4 := by omega
  rw [this]; rfl
end
section
variable {Y : Run} {H : Heap}

theorem sp_keep {n k : Nat} {L l : List (Nat × AV)} (h : ∀ t, k / 2 ^ t % 2 = 1 → fget L t = fget l t) (h2 : ∀ t, ¬ k / 2 ^ t % 2 = 1 → fget l t = .undef) : sp n (fkeep k L) = sp n l := by
  unfold sp
  refine List.map_congr_left fun t _ => ?_
  rw [fget_fkeep]
  split
  · rename_i c; exact h t c
  · rename_i c; exact (h2 t c).symm

theorem keep25 {n : Nat} {L : List (Nat × AV)} {a b c : AV} (h0 : fget L 0 = a) (h3 : fget L 3 = b) (h4 : fget L 4 = c) : sp n (fkeep 25 L) = sp n [(4, c), (3, b), (0, a)] := by
  have big : ∀ t, 5 ≤ t → 25 / 2 ^ t % 2 = 0 := fun t ht => by
    have := Nat.pow_le_pow_right (n := 2) (by decide) ht
    rw [Nat.div_eq_of_lt (by omega)]
  refine sp_keep (fun t h => ?_) (fun t h => ?_)
  · rcases Nat.lt_or_ge t 5 with hl | hl
    · rcases (show t = 0 ∨ t = 1 ∨ t = 2 ∨ t = 3 ∨ t = 4 by omega) with rfl | rfl | rfl | rfl | rfl
      · exact h0
      · exact absurd h (by decide)
      · exact absurd h (by decide)
      · exact h3
      · exact h4
    · have := big t hl; omega
  · rcases Nat.lt_or_ge t 5 with hl | hl
    · rcases (show t = 0 ∨ t = 1 ∨ t = 2 ∨ t = 3 ∨ t = 4 by omega) with rfl | rfl | rfl | rfl | rfl
      · exact absurd (show 25 / 2 ^ 0 % 2 = 1 by decide) h
      · rfl
      · rfl
      · exact absurd (show 25 / 2 ^ 3 % 2 = 1 by decide) h
      · exact absurd (show 25 / 2 ^ 4 % 2 = 1 by decide) h
    · have e4 : ¬ t = 4 := by omega
      have e3 : ¬ t = 3 := by omega
      have e0 : ¬ t = 0 := by omega
      simp only [fget, e4, e3, e0, if_false]

def F11X : XC :=
 .seq
     (.seq
      (.reg [⟨none, (some 34), .mov (.t 4)⟩,
        ⟨none, (some 35), .mov (.t 5)⟩,
        ⟨none, (some 36), .bin .eql (.t 34) (.t 35)⟩])
      (.cond (.t 36)
       (.exit 3 (m 155 57))
       (.skip)))
     (.seq
      (.reg [⟨none, (some 37), .mov (.t 3)⟩,
        ⟨none, (some 38), .mks 1 8 [.int .i64 (0)] (.t 37) (.t 37)⟩,
        ⟨none, (some 39), .build [.nils, .int .i64 (0)] [(0, 1, .t 38), (1, 1, .c (.int .i64 (1)))]⟩,
        ⟨none, (some 40), .mov (.t 3)⟩,
        ⟨none, (some 41), .mks 1 8 [.int .i64 (0)] (.t 40) (.t 40)⟩,
        ⟨none, (some 42), .build [.nils, .int .i64 (0)] [(0, 1, .t 41), (1, 1, .c (.int .i64 (1)))]⟩,
        ⟨none, (some 6), .alloc [.nils, .int .i64 (0)]⟩,
        ⟨none, (some 7), .alloc [.nils, .int .i64 (0)]⟩,
        ⟨none, none, .store 2 (.t 6) (.t 39)⟩,
        ⟨none, none, .store 2 (.t 7) (.t 42)⟩])
      (.seq
       (.reg [⟨none, (some 43), .fieldA 0 (.t 6)⟩,
         ⟨none, (some 44), .load none (.t 43)⟩,
         ⟨none, (some 45), .mov (.t 4)⟩,
         ⟨none, (some 46), .indexA 1 (.t 44) (.t 45)⟩,
         ⟨none, none, .store 1 (.t 46) (.c (.int .i64 (1)))⟩])
       (.seq
        (.reg [⟨none, (some 47), .fieldA 0 (.t 7)⟩,
          ⟨none, (some 48), .load none (.t 47)⟩,
          ⟨none, (some 49), .mov (.t 5)⟩,
          ⟨none, (some 50), .indexA 1 (.t 48) (.t 49)⟩,
          ⟨none, none, .store 1 (.t 50) (.c (.int .i64 (1)))⟩])
        (.seq
         (.reg [⟨none, (some 52), .mov (.t 0)⟩,
           ⟨none, (some 53), .load (some 2) (.t 6)⟩,
           ⟨none, (some 54), .call 1 32 [.t 52, .t 53]⟩,
           ⟨none, (some 51), .mov (.t 54)⟩,
           ⟨none, (some 55), .ext (.t 51) 0⟩,
           ⟨none, (some 56), .ext (.t 51) 1⟩,
           ⟨none, (some 8), .mov (.t 55)⟩,
           ⟨none, (some 9), .mov (.t 56)⟩])
         (.seq
          (.reg [⟨none, (some 58), .mov (.t 0)⟩,
            ⟨none, (some 59), .load (some 2) (.t 6)⟩,
            ⟨none, (some 60), .load (some 2) (.t 7)⟩,
            ⟨none, (some 61), .call 1 38 [.t 58, .t 59, .t 60]⟩,
            ⟨none, (some 57), .mov (.t 61)⟩,
            ⟨none, (some 62), .ext (.t 57) 0⟩,
            ⟨none, (some 63), .ext (.t 57) 1⟩,
            ⟨none, (some 10), .alloc [.int .i64 (0), .int .i64 (0)]⟩,
            ⟨none, none, .store 2 (.t 10) (.t 62)⟩,
            ⟨none, (some 11), .mov (.t 63)⟩])
          (.seq
           (.seq
            (.reg [⟨none, (some 64), .mov (.t 9)⟩,
              ⟨none, (some 65), .bin .neq (.t 64) (.c (.int .i64 (0)))⟩])
            (.cond (.t 65)
             (.seq
              (.reg [⟨none, (some 2), .mov (.c (.bool false))⟩])
              (.ret (m 155 4)))
             (.skip)))
           (.seq
            (.reg [⟨none, (some 66), .mov (.t 0)⟩,
              ⟨none, (some 67), .mov (.t 4)⟩,
              ⟨none, (some 68), .indexA 1 (.t 66) (.t 67)⟩,
              ⟨none, (some 69), .load none (.t 68)⟩,
              ⟨none, (some 70), .mov (.t 4)⟩,
              ⟨none, (some 71), .indexA 1 (.t 69) (.t 70)⟩,
              ⟨none, (some 72), .load none (.t 71)⟩,
              ⟨none, (some 73), .mov (.t 0)⟩,
              ⟨none, (some 74), .mov (.t 5)⟩,
              ⟨none, (some 75), .indexA 1 (.t 73) (.t 74)⟩,
              ⟨none, (some 76), .load none (.t 75)⟩,
              ⟨none, (some 77), .mov (.t 4)⟩,
              ⟨none, (some 78), .indexA 1 (.t 76) (.t 77)⟩,
              ⟨none, (some 79), .load none (.t 78)⟩,
              ⟨none, (some 80), .bin .gtr (.t 72) (.t 79)⟩,
              ⟨none, (some 81), .mov (.t 80)⟩,
              ⟨(some (81, false)), (some 82), .mov (.t 0)⟩,
              ⟨(some (81, false)), (some 83), .mov (.t 4)⟩,
              ⟨(some (81, false)), (some 84), .indexA 1 (.t 82) (.t 83)⟩,
              ⟨(some (81, false)), (some 85), .load none (.t 84)⟩,
              ⟨(some (81, false)), (some 86), .mov (.t 4)⟩,
              ⟨(some (81, false)), (some 87), .indexA 1 (.t 85) (.t 86)⟩,
              ⟨(some (81, false)), (some 88), .load none (.t 87)⟩,
              ⟨(some (81, false)), (some 89), .mov (.t 0)⟩,
              ⟨(some (81, false)), (some 90), .mov (.t 5)⟩,
              ⟨(some (81, false)), (some 91), .indexA 1 (.t 89) (.t 90)⟩,
              ⟨(some (81, false)), (some 92), .load none (.t 91)⟩,
              ⟨(some (81, false)), (some 93), .mov (.t 4)⟩,
              ⟨(some (81, false)), (some 94), .indexA 1 (.t 92) (.t 93)⟩,
              ⟨(some (81, false)), (some 95), .load none (.t 94)⟩,
              ⟨(some (81, false)), (some 96), .bin .eql (.t 88) (.t 95)⟩,
              ⟨(some (81, false)), (some 97), .mov (.t 96)⟩,
              ⟨(some (97, true)), (some 98), .mov (.t 0)⟩,
              ⟨(some (97, true)), (some 99), .mov (.t 4)⟩,
              ⟨(some (97, true)), (some 100), .indexA 1 (.t 98) (.t 99)⟩,
              ⟨(some (97, true)), (some 101), .load none (.t 100)⟩,
              ⟨(some (97, true)), (some 102), .mov (.t 5)⟩,
              ⟨(some (97, true)), (some 103), .indexA 1 (.t 101) (.t 102)⟩,
              ⟨(some (97, true)), (some 104), .load none (.t 103)⟩,
              ⟨(some (97, true)), (some 105), .mov (.t 0)⟩,
              ⟨(some (97, true)), (some 106), .mov (.t 5)⟩,
              ⟨(some (97, true)), (some 107), .indexA 1 (.t 105) (.t 106)⟩,
              ⟨(some (97, true)), (some 108), .load none (.t 107)⟩,
              ⟨(some (97, true)), (some 109), .mov (.t 5)⟩,
              ⟨(some (97, true)), (some 110), .indexA 1 (.t 108) (.t 109)⟩,
              ⟨(some (97, true)), (some 111), .load none (.t 110)⟩,
              ⟨(some (97, true)), (some 112), .bin .gtr (.t 104) (.t 111)⟩,
              ⟨(some (81, false)), (some 113), .pick (.t 97) (.t 112) (.c (.bool false))⟩,
              ⟨none, (some 114), .pick (.t 81) (.c (.bool true)) (.t 113)⟩,
              ⟨none, (some 12), .mov (.t 114)⟩])
            (.seq
             (.seq
              (.reg [⟨none, (some 115), .mov (.t 12)⟩,
                ⟨none, (some 116), .mov (.t 11)⟩,
                ⟨none, (some 117), .bin .eql (.t 116) (.c (.int .i64 (0)))⟩,
                ⟨none, (some 118), .eqb true (.t 115) (.t 117)⟩,
                ⟨none, (some 119), .mov (.t 118)⟩,
                ⟨(some (119, false)), (some 120), .mov (.t 8)⟩,
                ⟨(some (119, false)), (some 121), .mov (.t 120)⟩,
                ⟨(some (121, true)), (some 122), .mov (.t 12)⟩,
                ⟨(some (121, true)), (some 123), .un .not (.t 122)⟩,
                ⟨(some (119, false)), (some 124), .pick (.t 121) (.t 123) (.c (.bool false))⟩,
                ⟨none, (some 125), .pick (.t 119) (.c (.bool true)) (.t 124)⟩,
                ⟨none, (some 126), .mov (.t 125)⟩,
                ⟨(some (126, false)), (some 127), .mov (.t 11)⟩,
                ⟨(some (126, false)), (some 128), .bin .neq (.t 127) (.c (.int .i64 (0)))⟩,
                ⟨(some (126, false)), (some 129), .mov (.t 128)⟩,
                ⟨(some (129, true)), (some 130), .mov (.t 11)⟩,
                ⟨(some (129, true)), (some 131), .bin .neq (.t 130) (.c (.int .i64 (9)))⟩,
                ⟨(some (126, false)), (some 132), .pick (.t 129) (.t 131) (.c (.bool false))⟩,
                ⟨none, (some 133), .pick (.t 126) (.c (.bool true)) (.t 132)⟩,
                ⟨none, (some 134), .mov (.t 133)⟩,
                ⟨(some (134, false)), (some 135), .mov (.t 3)⟩,
                ⟨(some (134, false)), (some 136), .bin .eql (.t 135) (.c (.int .i64 (2)))⟩,
                ⟨(some (134, false)), (some 137), .mov (.t 136)⟩,
                ⟨(some (137, true)), (some 138), .mov (.t 8)⟩,
                ⟨(some (137, true)), (some 139), .mov (.t 12)⟩,
                ⟨(some (137, true)), (some 140), .eqb true (.t 138) (.t 139)⟩,
                ⟨(some (134, false)), (some 141), .pick (.t 137) (.t 140) (.c (.bool false))⟩,
                ⟨none, (some 142), .pick (.t 134) (.c (.bool true)) (.t 141)⟩])
              (.cond (.t 142)
               (.seq
                (.reg [⟨none, (some 2), .mov (.c (.bool false))⟩])
                (.ret (m 155 4)))
               (.skip)))
             (.seq
              (.reg [⟨none, (some 143), .mov (.t 12)⟩,
                ⟨none, (some 144), .mov (.t 143)⟩,
                ⟨(some (144, true)), (some 145), .fieldA 1 (.t 10)⟩,
                ⟨(some (144, true)), (some 146), .load none (.t 145)⟩,
                ⟨(some (144, true)), (some 147), .bin .lss (.t 146) (.c (.int .i64 (1)))⟩,
                ⟨(some (144, true)), (some 148), .mov (.t 147)⟩,
                ⟨(some (148, false)), (some 149), .fieldA 0 (.t 10)⟩,
                ⟨(some (148, false)), (some 150), .load none (.t 149)⟩,
                ⟨(some (148, false)), (some 151), .bin .lss (.t 150) (.c (.int .i64 (1)))⟩,
                ⟨(some (144, true)), (some 152), .pick (.t 148) (.c (.bool true)) (.t 151)⟩,
                ⟨none, (some 153), .pick (.t 144) (.t 152) (.c (.bool false))⟩])
              (.cond (.t 153)
               (.seq
                (.reg [⟨none, (some 2), .mov (.c (.bool false))⟩])
                (.ret (m 155 4)))
               (.skip)))))))))))
def F11L0c : XC :=
 .seq
  (.seq
   (.reg [⟨none, (some 29), .mov (.t 5)⟩,
     ⟨none, (some 30), .mov (.t 3)⟩,
     ⟨none, (some 31), .bin .lss (.t 29) (.t 30)⟩])
   (.cond (.t 31)
    (.skip)
    (.exit 2 (m 155 25))))
  (.seq
   (.block 3 (m 155 57)
    F11X)
   (.reg [⟨none, (some 32), .mov (.t 5)⟩,
     ⟨none, (some 33), .bin .add (.t 32) (.c (.int .i64 (1)))⟩,
     ⟨none, (some 5), .mov (.t 33)⟩]))
theorem F11L0b_eq : F11L0b = F11L0c := rfl


def X11h : XC := headC 6 F11X
def X11z : XC := tailC 6 F11X

/-- The last part of the loop's body. -/
theorem tail11 {L : List (Nat × AV)} {R : Heap} {vt : AV} {t : List (List Int)} {i k : Nat} {o0 o1 o2 o3 : Ob} {lb : Bool} {m1 m2 f : Int} (ht : IsTab vt t) (hok : okTab t) (hi : i < t.length) (hk : k < t.length)
    (g0 : fget L 0 = vt) (g3 : fget L 3 = vI t.length) (g4 : fget L 4 = vI i) (g5 : fget L 5 = vI k) (g8 : fget L 8 = .bool lb) (g9 : fget L 9 = vI 0) (g10 : fget L 10 = .ptr (R.length + 1 + 1 + 1 + 1) 0 0) (g11 : fget L 11 = vI f)
    (fin : fairS t i k ∧ f = 0 ∧ 1 ≤ m1 ∧ 1 ≤ m2 ∧ (lb = true ∨ lb = false ∧ t.length ≠ 2) ∨ ¬ fairS t i k ∧ f = 9 ∧ lb = false) :
    ∃ L', codeL E2 Y X11z (sp 155 L) (R ++ [o0, o1, o2, o3, ⟨0, [vI m1, vI m2]⟩]) = some (.n, sp 155 L', R ++ [o0, o1, o2, o3, ⟨0, [vI m1, vI m2]⟩]) ∧ fget L' 0 = vt ∧ fget L' 3 = vI t.length ∧ fget L' 4 = vI i ∧ fget L' 5 = vI k := by
  have ri := ht.row hi
  have rk := ht.row hk
  have li := ent_len hok hi
  have lk := ent_len hok hk
  have gi : t.getD i [] = t[i] := by simp [List.getD_eq_getElem?_getD, hi]
  have gk : t.getD k [] = t[k] := by simp [List.getD_eq_getElem?_getD, hk]
  have hii : i < (t.getD i []).length := by rw [gi]; omega
  have hik : k < (t.getD i []).length := by rw [gi]; omega
  have hki' : i < (t.getD k []).length := by rw [gk]; omega
  have hkk : k < (t.getD k []).length := by rw [gk]; omega
  have xii : ∀ H, loadA H none (ptrAt (cellAt vt i) i) = some (vI (entS t i i)) := fun H => ri.load hii
  have xik : ∀ H, loadA H none (ptrAt (cellAt vt i) k) = some (vI (entS t i k)) := fun H => ri.load hik
  have xki : ∀ H, loadA H none (ptrAt (cellAt vt k) i) = some (vI (entS t k i)) := fun H => rk.load hki'
  have xkk : ∀ H, loadA H none (ptrAt (cellAt vt k) k) = some (vI (entS t k k)) := fun H => rk.load hkk
  unfold fairS at fin
  generalize entS t i i = A at *
  generalize entS t i k = C at *
  generalize entS t k i = B at *
  generalize entS t k k = D at *
  simp only [SS, insA, wantedA, Opd.ev, putA, binA, eqbA, unA, fldA, partA, reduceIte, reduceCtorEq, Nat.reduceMod, Nat.reduceDiv, Nat.reduceBEq, resultA, resA, vI, Nat.reduceMul, Nat.reduceAdd, Nat.reduceSub, Nat.reduceEqDiff, Nat.reduceLT, Nat.reducePow, Nat.reduceLeDiff, st, Option.bind_eq_bind, Option.pure_def, List.length_nil, Int.cast_ofNat_Int, List.reverse_nil] at g3 g4 g5 g9 g11
  rcases fin with ⟨h1, rfl, h3, h4, h5⟩ | ⟨h1, rfl, rfl⟩
  · have q1 : ¬ m1 < 1 := by omega
    have q2 : ¬ m2 < 1 := by omega
    have done : ∀ (b6 : Bool), (lb = true ∨ lb = false ∧ b6 = false) → ((t.length : Int) == 2) = b6 → ∃ L', codeL E2 Y X11z (sp 155 L) (R ++ [o0, o1, o2, o3, ⟨0, [vI m1, vI m2]⟩]) = some (.n, sp 155 L', R ++ [o0, o1, o2, o3, ⟨0, [vI m1, vI m2]⟩]) ∧ fget L' 0 = vt ∧ fget L' 3 = vI t.length ∧ fget L' 4 = vI i ∧ fget L' 5 = vI k := by
      intro b6 h6 h6'
      by_cases c1 : A > B
      · rcases h6 with rfl | ⟨rfl, rfl⟩ <;> (try cases b6) <;>
        · simp only [X11z, tailC, F11X, SS, insA, wantedA, Opd.ev, putA, binA, eqbA, unA, fldA, partA, reduceIte, reduceCtorEq, Nat.reduceMod, Nat.reduceDiv, Nat.reduceBEq, resultA, resA, vI, Nat.reduceMul, Nat.reduceAdd, Nat.reduceSub, Nat.reduceEqDiff, Nat.reduceLT, Nat.reducePow, Nat.reduceLeDiff, st, Option.bind_eq_bind, Option.pure_def, List.length_nil, Int.cast_ofNat_Int, List.reverse_nil, UU, idxP, cellsAt, storeA, fillA, zerosA, putAll, optNat, sliceA, row, Int.reduceLT, Int.reduceLE, Int.reduceGT, Int.reduceGE, Int.reduceEq, Int.reduceNe, Int.reduceToNat, Int.reduceBEq, Int.reduceBNe, Nat.reduceLeDiff, Nat.reduceLT, Nat.reduceBNe, Nat.reduceGT, List.drop_nil, List.take_nil, Option.isSome_none, Int.ofNat_one, Int.ofNat_zero, fget_fins, fget_fkeep, g0, g3, g4, g5, g8, g9, g10, g11, ap5_4, ht.idx hi, ht.load hi, ht.idx hk, ht.load hk, ri.idx hii, xii, ri.idx hik, xik, rk.idx hki', xki, rk.idx hkk, xkk, c1, q1, q2, h6', bne_self_eq_false, BEq.rfl, decide_true, decide_false]
          refine ⟨_, rfl, ?_⟩
          simp only [fget_fins, fget_fkeep, g0, g3, g4, g5, Nat.reduceEqDiff, if_false, and_self]
      · obtain ⟨c2, c3⟩ := h1.resolve_left c1
        have c2' : (A == B) = true := by simpa using c2
        rcases h6 with rfl | ⟨rfl, rfl⟩ <;> (try cases b6) <;>
        · simp only [X11z, tailC, F11X, SS, insA, wantedA, Opd.ev, putA, binA, eqbA, unA, fldA, partA, reduceIte, reduceCtorEq, Nat.reduceMod, Nat.reduceDiv, Nat.reduceBEq, resultA, resA, vI, Nat.reduceMul, Nat.reduceAdd, Nat.reduceSub, Nat.reduceEqDiff, Nat.reduceLT, Nat.reducePow, Nat.reduceLeDiff, st, Option.bind_eq_bind, Option.pure_def, List.length_nil, Int.cast_ofNat_Int, List.reverse_nil, UU, idxP, cellsAt, storeA, fillA, zerosA, putAll, optNat, sliceA, row, Int.reduceLT, Int.reduceLE, Int.reduceGT, Int.reduceGE, Int.reduceEq, Int.reduceNe, Int.reduceToNat, Int.reduceBEq, Int.reduceBNe, Nat.reduceLeDiff, Nat.reduceLT, Nat.reduceBNe, Nat.reduceGT, List.drop_nil, List.take_nil, Option.isSome_none, Int.ofNat_one, Int.ofNat_zero, fget_fins, fget_fkeep, g0, g3, g4, g5, g8, g9, g10, g11, ap5_4, ht.idx hi, ht.load hi, ht.idx hk, ht.load hk, ri.idx hii, xii, ri.idx hik, xik, rk.idx hki', xki, rk.idx hkk, xkk, c1, c2', c3, q1, q2, h6', bne_self_eq_false, BEq.rfl, decide_true, decide_false]
          refine ⟨_, rfl, ?_⟩
          simp only [fget_fins, fget_fkeep, g0, g3, g4, g5, Nat.reduceEqDiff, if_false, and_self]
    rcases h5 with rfl | ⟨rfl, h5⟩
    · exact done _ (.inl rfl) rfl
    · refine done false (.inr ⟨rfl, rfl⟩) ?_
      simp; omega
  · have c1 : ¬ A > B := fun h => h1 (.inl h)
    have done : ∀ (b6 : Bool), ((t.length : Int) == 2) = b6 → ∃ L', codeL E2 Y X11z (sp 155 L) (R ++ [o0, o1, o2, o3, ⟨0, [vI m1, vI m2]⟩]) = some (.n, sp 155 L', R ++ [o0, o1, o2, o3, ⟨0, [vI m1, vI m2]⟩]) ∧ fget L' 0 = vt ∧ fget L' 3 = vI t.length ∧ fget L' 4 = vI i ∧ fget L' 5 = vI k := by
      intro b6 h6'
      by_cases c2 : A = B
      · have c2' : (A == B) = true := by simpa using c2
        have c3 : ¬ C > D := fun h => h1 (.inr ⟨c2, h⟩)
        cases b6
        all_goals
          simp only [X11z, tailC, F11X, SS, insA, wantedA, Opd.ev, putA, binA, eqbA, unA, fldA, partA, reduceIte, reduceCtorEq, Nat.reduceMod, Nat.reduceDiv, Nat.reduceBEq, resultA, resA, vI, Nat.reduceMul, Nat.reduceAdd, Nat.reduceSub, Nat.reduceEqDiff, Nat.reduceLT, Nat.reducePow, Nat.reduceLeDiff, st, Option.bind_eq_bind, Option.pure_def, List.length_nil, Int.cast_ofNat_Int, List.reverse_nil, UU, idxP, cellsAt, storeA, fillA, zerosA, putAll, optNat, sliceA, row, Int.reduceLT, Int.reduceLE, Int.reduceGT, Int.reduceGE, Int.reduceEq, Int.reduceNe, Int.reduceToNat, Int.reduceBEq, Int.reduceBNe, Nat.reduceLeDiff, Nat.reduceLT, Nat.reduceBNe, Nat.reduceGT, List.drop_nil, List.take_nil, Option.isSome_none, Int.ofNat_one, Int.ofNat_zero, fget_fins, fget_fkeep, g0, g3, g4, g5, g8, g9, g10, g11, ap5_4, ht.idx hi, ht.load hi, ht.idx hk, ht.load hk, ri.idx hii, xii, ri.idx hik, xik, rk.idx hki', xki, rk.idx hkk, xkk, c1, c2', c3, h6', bne_self_eq_false, BEq.rfl, decide_true, decide_false]
          refine ⟨_, rfl, ?_⟩
          simp only [fget_fins, fget_fkeep, g0, g3, g4, g5, Nat.reduceEqDiff, if_false, and_self]
      · have c2' : (A == B) = false := by simpa using c2
        cases b6
        all_goals
          simp only [X11z, tailC, F11X, SS, insA, wantedA, Opd.ev, putA, binA, eqbA, unA, fldA, partA, reduceIte, reduceCtorEq, Nat.reduceMod, Nat.reduceDiv, Nat.reduceBEq, resultA, resA, vI, Nat.reduceMul, Nat.reduceAdd, Nat.reduceSub, Nat.reduceEqDiff, Nat.reduceLT, Nat.reducePow, Nat.reduceLeDiff, st, Option.bind_eq_bind, Option.pure_def, List.length_nil, Int.cast_ofNat_Int, List.reverse_nil, UU, idxP, cellsAt, storeA, fillA, zerosA, putAll, optNat, sliceA, row, Int.reduceLT, Int.reduceLE, Int.reduceGT, Int.reduceGE, Int.reduceEq, Int.reduceNe, Int.reduceToNat, Int.reduceBEq, Int.reduceBNe, Nat.reduceLeDiff, Nat.reduceLT, Nat.reduceBNe, Nat.reduceGT, List.drop_nil, List.take_nil, Option.isSome_none, Int.ofNat_one, Int.ofNat_zero, fget_fins, fget_fkeep, g0, g3, g4, g5, g8, g9, g10, g11, ap5_4, ht.idx hi, ht.load hi, ht.idx hk, ht.load hk, ri.idx hii, xii, ri.idx hik, xik, rk.idx hki', xki, rk.idx hkk, xkk, c1, c2', h6', bne_self_eq_false, BEq.rfl, decide_true, decide_false]
          refine ⟨_, rfl, ?_⟩
          simp only [fget_fins, fget_fkeep, g0, g3, g4, g5, Nat.reduceEqDiff, if_false, and_self]
    exact done _ rfl
end
end Go.X
