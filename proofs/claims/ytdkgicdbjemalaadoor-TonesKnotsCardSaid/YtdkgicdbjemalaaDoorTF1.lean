import Derived.Test.YtdkgicdbjemalaaDoorXE
import Derived.Test.YtdkgicdbjemalaaDoorProg
import Derived.KernelRfl
/-! The functions of the program that are met, as the small machine has them. Printed by a program of our own. -/
namespace Go.X
theorem st_in7 {a0 a1 a2 a3 a4 a5 a6 : AV} {n : Nat} : [a0, a1, a2, a3, a4, a5, a6] ++ List.replicate n .undef = sp (7 + n) [(6, a6), (5, a5), (4, a4), (3, a3), (2, a2), (1, a1), (0, a0)] := by
  apply List.ext_getElem
  · simp [sp]; try omega
  · intro t h1 h2
    rw [st_get]
    match t with
    | 0 => rfl
    | 1 => rfl
    | 2 => rfl
    | 3 => rfl
    | 4 => rfl
    | 5 => rfl
    | 6 => rfl
    | t + 7 => simp [fget]
theorem st_in9 {a0 a1 a2 a3 a4 a5 a6 a7 a8 : AV} {n : Nat} : [a0, a1, a2, a3, a4, a5, a6, a7, a8] ++ List.replicate n .undef = sp (9 + n) [(8, a8), (7, a7), (6, a6), (5, a5), (4, a4), (3, a3), (2, a2), (1, a1), (0, a0)] := by
  apply List.ext_getElem
  · simp [sp]; try omega
  · intro t h1 h2
    rw [st_get]
    match t with
    | 0 => rfl
    | 1 => rfl
    | 2 => rfl
    | 3 => rfl
    | 4 => rfl
    | 5 => rfl
    | 6 => rfl
    | 7 => rfl
    | 8 => rfl
    | t + 9 => simp [fget]
def F3B : XC :=
 .seq
  (.reg [⟨none, (some 4), .mov (.c (.bool false))⟩])
  (.seq
   (.seq
    (.reg [⟨none, (some 11), .mov (.t 0)⟩,
      ⟨none, (some 12), .mov (.t 1)⟩,
      ⟨none, (some 13), .call 1 16 [.t 11, .t 12]⟩,
      ⟨none, (some 14), .un .not (.t 13)⟩])
    (.cond (.t 14)
     (.seq
      (.reg [⟨none, (some 15), .call 1 17 []⟩,
        ⟨none, (some 4), .mov (.t 15)⟩])
      (.ret (m 46 16)))
     (.skip)))
   (.seq
    (.reg [⟨none, (some 17), .mov (.t 0)⟩,
      ⟨none, (some 18), .mov (.t 1)⟩,
      ⟨none, (some 19), .call 1 18 [.t 17, .t 18]⟩,
      ⟨none, (some 16), .mov (.t 19)⟩,
      ⟨none, (some 20), .ext (.t 16) 0⟩,
      ⟨none, (some 21), .ext (.t 16) 1⟩,
      ⟨none, (some 22), .ext (.t 16) 2⟩,
      ⟨none, (some 5), .mov (.t 20)⟩,
      ⟨none, (some 6), .mov (.t 21)⟩,
      ⟨none, (some 7), .mov (.t 22)⟩])
    (.seq
     (.reg [⟨none, (some 24), .mov (.t 0)⟩,
       ⟨none, (some 25), .mov (.t 1)⟩,
       ⟨none, (some 26), .call 1 19 [.t 24, .t 25]⟩,
       ⟨none, (some 23), .mov (.t 26)⟩,
       ⟨none, (some 27), .ext (.t 23) 0⟩,
       ⟨none, (some 28), .ext (.t 23) 1⟩,
       ⟨none, (some 29), .ext (.t 23) 2⟩,
       ⟨none, (some 8), .mov (.t 27)⟩,
       ⟨none, (some 9), .mov (.t 28)⟩,
       ⟨none, (some 10), .mov (.t 29)⟩])
     (.seq
      (.reg [⟨none, (some 30), .mov (.t 5)⟩,
        ⟨none, (some 31), .mov (.t 8)⟩,
        ⟨none, (some 32), .eqb false (.t 30) (.t 31)⟩,
        ⟨none, (some 33), .mov (.t 32)⟩,
        ⟨(some (33, true)), (some 34), .mov (.t 6)⟩,
        ⟨(some (33, true)), (some 35), .mov (.t 9)⟩,
        ⟨(some (33, true)), (some 36), .eqb false (.t 34) (.t 35)⟩,
        ⟨none, (some 37), .pick (.t 33) (.t 36) (.c (.bool false))⟩,
        ⟨none, (some 38), .mov (.t 37)⟩,
        ⟨(some (38, true)), (some 39), .mov (.t 7)⟩,
        ⟨(some (38, true)), (some 40), .mov (.t 10)⟩,
        ⟨(some (38, true)), (some 41), .bin .eql (.t 39) (.t 40)⟩,
        ⟨none, (some 42), .pick (.t 38) (.t 41) (.c (.bool false))⟩,
        ⟨none, (some 43), .mov (.t 42)⟩,
        ⟨(some (43, true)), (some 44), .call 1 17 []⟩,
        ⟨none, (some 45), .pick (.t 43) (.t 44) (.c (.bool false))⟩,
        ⟨none, (some 4), .mov (.t 45)⟩])
      (.ret (m 46 16))))))
def F3 : XF := ⟨2, 46, [.tmp 4], F3B⟩
def M3 : List (List Bool) := [(m 46 16), (m 46 16)]
def F4L0b : XC :=
 .seq
  (.seq
   (.reg [⟨none, (some 42), .mov (.t 6)⟩,
     ⟨none, (some 43), .mov (.t 3)⟩,
     ⟨none, (some 44), .bin .leq (.t 42) (.t 43)⟩])
   (.cond (.t 44)
    (.skip)
    (.exit 0 (m 87 0))))
  (.seq
   (.block 1 (m 87 89)
    (.seq
     (.reg [⟨none, (some 48), .mov (.t 0)⟩,
       ⟨none, (some 49), .mov (.t 6)⟩,
       ⟨none, (some 50), .call 1 22 [.t 48, .t 49]⟩,
       ⟨none, (some 47), .mov (.t 50)⟩,
       ⟨none, (some 51), .ext (.t 47) 0⟩,
       ⟨none, (some 52), .ext (.t 47) 1⟩,
       ⟨none, (some 53), .ext (.t 47) 2⟩,
       ⟨none, (some 7), .mov (.t 51)⟩,
       ⟨none, (some 8), .mov (.t 52)⟩,
       ⟨none, (some 9), .mov (.t 53)⟩])
     (.seq
      (.reg [⟨none, (some 54), .mov (.t 9)⟩,
        ⟨none, (some 55), .bin .neq (.t 54) (.c (.int .i64 (0)))⟩,
        ⟨none, (some 56), .mov (.t 55)⟩,
        ⟨(some (56, false)), (some 57), .mov (.t 7)⟩,
        ⟨(some (56, false)), (some 58), .mov (.t 4)⟩,
        ⟨(some (56, false)), (some 59), .mov (.t 3)⟩,
        ⟨(some (56, false)), (some 60), .mov (.t 6)⟩,
        ⟨(some (56, false)), (some 61), .bin .sub (.t 59) (.t 60)⟩,
        ⟨(some (56, false)), (some 62), .indexA 1 (.t 58) (.t 61)⟩,
        ⟨(some (56, false)), (some 63), .load none (.t 62)⟩,
        ⟨(some (56, false)), (some 64), .bin .neq (.t 57) (.t 63)⟩,
        ⟨none, (some 65), .pick (.t 56) (.c (.bool true)) (.t 64)⟩,
        ⟨none, (some 66), .mov (.t 65)⟩,
        ⟨(some (66, false)), (some 67), .mov (.t 8)⟩,
        ⟨(some (66, false)), (some 68), .bin .lss (.t 67) (.c (.int .i64 (0)))⟩,
        ⟨none, (some 69), .pick (.t 66) (.c (.bool true)) (.t 68)⟩,
        ⟨none, (some 70), .mov (.t 69)⟩,
        ⟨(some (70, false)), (some 71), .mov (.t 6)⟩,
        ⟨(some (70, false)), (some 72), .bin .eql (.t 71) (.c (.int .i64 (0)))⟩,
        ⟨(some (70, false)), (some 73), .mov (.t 72)⟩,
        ⟨(some (73, true)), (some 74), .mov (.t 8)⟩,
        ⟨(some (73, true)), (some 75), .bin .neq (.t 74) (.c (.int .i64 (1)))⟩,
        ⟨(some (70, false)), (some 76), .pick (.t 73) (.t 75) (.c (.bool false))⟩,
        ⟨none, (some 77), .pick (.t 70) (.c (.bool true)) (.t 76)⟩,
        ⟨none, (some 78), .mov (.t 77)⟩,
        ⟨(some (78, false)), (some 79), .mov (.t 8)⟩,
        ⟨(some (78, false)), (some 80), .bin .eql (.t 79) (.c (.int .i64 (0)))⟩,
        ⟨(some (78, false)), (some 81), .mov (.t 80)⟩,
        ⟨(some (81, true)), (some 82), .mov (.t 7)⟩,
        ⟨(some (81, true)), (some 83), .bin .neq (.t 82) (.c (.int .i64 (0)))⟩,
        ⟨(some (78, false)), (some 84), .pick (.t 81) (.t 83) (.c (.bool false))⟩,
        ⟨none, (some 85), .pick (.t 78) (.c (.bool true)) (.t 84)⟩])
      (.cond (.t 85)
       (.seq
        (.reg [⟨none, (some 2), .mov (.c (.bool false))⟩])
        (.ret (m 87 4)))
       (.skip)))))
   (.reg [⟨none, (some 45), .mov (.t 6)⟩,
     ⟨none, (some 46), .bin .add (.t 45) (.c (.int .i64 (1)))⟩,
     ⟨none, (some 6), .mov (.t 46)⟩]))
def F4L0 : XC := .loop (m 87 89) F4L0b
def F4T0 : XC :=
 .seq
  (.reg [⟨none, (some 86), .call 1 17 []⟩,
    ⟨none, (some 2), .mov (.t 86)⟩])
  (.ret (m 87 4))
def F4B : XC :=
 .seq
  (.reg [⟨none, (some 2), .mov (.c (.bool false))⟩])
  (.seq
   (.seq
    (.reg [⟨none, (some 10), .mov (.t 0)⟩,
      ⟨none, (some 11), .call 1 16 [.t 10, .c (.nils)]⟩,
      ⟨none, (some 12), .un .not (.t 11)⟩,
      ⟨none, (some 13), .mov (.t 12)⟩,
      ⟨(some (13, false)), (some 14), .mov (.t 0)⟩,
      ⟨(some (13, false)), (some 15), .call 1 20 [.t 14]⟩,
      ⟨(some (13, false)), (some 16), .un .not (.t 15)⟩,
      ⟨none, (some 17), .pick (.t 13) (.c (.bool true)) (.t 16)⟩])
    (.cond (.t 17)
     (.seq
      (.reg [⟨none, (some 18), .call 1 17 []⟩,
        ⟨none, (some 2), .mov (.t 18)⟩])
      (.ret (m 87 4)))
     (.skip)))
   (.seq
    (.reg [⟨none, (some 19), .mov (.t 0)⟩,
      ⟨none, (some 20), .len (.t 19)⟩,
      ⟨none, (some 3), .mov (.t 20)⟩])
    (.seq
     (.reg [⟨none, (some 22), .mov (.t 0)⟩,
       ⟨none, (some 23), .call 1 21 [.t 22]⟩,
       ⟨none, (some 21), .mov (.t 23)⟩,
       ⟨none, (some 24), .ext (.t 21) 0⟩,
       ⟨none, (some 25), .ext (.t 21) 1⟩,
       ⟨none, (some 4), .mov (.t 24)⟩,
       ⟨none, (some 5), .mov (.t 25)⟩])
     (.seq
      (.seq
       (.reg [⟨none, (some 26), .mov (.t 5)⟩,
         ⟨none, (some 27), .bin .neq (.t 26) (.c (.int .i64 (0)))⟩,
         ⟨none, (some 28), .mov (.t 27)⟩,
         ⟨(some (28, false)), (some 29), .mov (.t 4)⟩,
         ⟨(some (28, false)), (some 30), .len (.t 29)⟩,
         ⟨(some (28, false)), (some 31), .mov (.t 3)⟩,
         ⟨(some (28, false)), (some 32), .bin .add (.t 31) (.c (.int .i64 (1)))⟩,
         ⟨(some (28, false)), (some 33), .bin .neq (.t 30) (.t 32)⟩,
         ⟨none, (some 34), .pick (.t 28) (.c (.bool true)) (.t 33)⟩,
         ⟨none, (some 35), .mov (.t 34)⟩,
         ⟨(some (35, false)), (some 36), .mov (.t 4)⟩,
         ⟨(some (35, false)), (some 37), .mov (.t 3)⟩,
         ⟨(some (35, false)), (some 38), .indexA 1 (.t 36) (.t 37)⟩,
         ⟨(some (35, false)), (some 39), .load none (.t 38)⟩,
         ⟨(some (35, false)), (some 40), .bin .neq (.t 39) (.c (.int .i64 (1)))⟩,
         ⟨none, (some 41), .pick (.t 35) (.c (.bool true)) (.t 40)⟩])
       (.cond (.t 41)
        (.seq
         (.reg [⟨none, (some 2), .mov (.c (.bool false))⟩])
         (.ret (m 87 4)))
        (.skip)))
      (.seq
       (.seq
        (.reg [⟨none, (some 6), .mov (.c (.int .i64 (0)))⟩])
        (.block 0 (m 87 0)
         (F4L0)))
       F4T0)))))
def F4 : XF := ⟨1, 87, [.tmp 2], F4B⟩
def M4 : List (List Bool) := [(m 87 4), (m 87 4), (m 87 0), (m 87 89), (m 87 0), (m 87 89), (m 87 4), (m 87 4)]
def F5B : XC :=
 .seq
  (.reg [⟨none, (some 2), .mov (.c (.bool false))⟩])
  (.seq
   (.seq
    (.reg [⟨none, (some 10), .mov (.t 0)⟩,
      ⟨none, (some 11), .call 1 16 [.t 10, .c (.nils)]⟩,
      ⟨none, (some 12), .un .not (.t 11)⟩,
      ⟨none, (some 13), .mov (.t 12)⟩,
      ⟨(some (13, false)), (some 14), .mov (.t 0)⟩,
      ⟨(some (13, false)), (some 15), .call 1 20 [.t 14]⟩,
      ⟨(some (13, false)), (some 16), .un .not (.t 15)⟩,
      ⟨none, (some 17), .pick (.t 13) (.c (.bool true)) (.t 16)⟩])
    (.cond (.t 17)
     (.seq
      (.reg [⟨none, (some 18), .call 1 17 []⟩,
        ⟨none, (some 2), .mov (.t 18)⟩])
      (.ret (m 104 4)))
     (.skip)))
   (.seq
    (.reg [⟨none, (some 19), .mov (.t 0)⟩,
      ⟨none, (some 20), .len (.t 19)⟩,
      ⟨none, (some 3), .mov (.t 20)⟩])
    (.seq
     (.reg [⟨none, (some 22), .mov (.t 0)⟩,
       ⟨none, (some 23), .call 1 21 [.t 22]⟩,
       ⟨none, (some 21), .mov (.t 23)⟩,
       ⟨none, (some 24), .ext (.t 21) 0⟩,
       ⟨none, (some 25), .ext (.t 21) 1⟩,
       ⟨none, (some 4), .mov (.t 24)⟩,
       ⟨none, (some 5), .mov (.t 25)⟩])
     (.seq
      (.reg [⟨none, (some 27), .mov (.t 0)⟩,
        ⟨none, (some 28), .call 1 23 [.t 27]⟩,
        ⟨none, (some 26), .mov (.t 28)⟩,
        ⟨none, (some 29), .ext (.t 26) 0⟩,
        ⟨none, (some 30), .ext (.t 26) 1⟩,
        ⟨none, (some 6), .mov (.t 29)⟩,
        ⟨none, (some 7), .mov (.t 30)⟩])
      (.seq
       (.seq
        (.reg [⟨none, (some 31), .mov (.t 5)⟩,
          ⟨none, (some 32), .bin .neq (.t 31) (.c (.int .i64 (0)))⟩,
          ⟨none, (some 33), .mov (.t 32)⟩,
          ⟨(some (33, false)), (some 34), .mov (.t 7)⟩,
          ⟨(some (33, false)), (some 35), .bin .neq (.t 34) (.c (.int .i64 (0)))⟩,
          ⟨none, (some 36), .pick (.t 33) (.c (.bool true)) (.t 35)⟩,
          ⟨none, (some 37), .mov (.t 36)⟩,
          ⟨(some (37, false)), (some 38), .mov (.t 4)⟩,
          ⟨(some (37, false)), (some 39), .call 1 24 [.t 38]⟩,
          ⟨(some (37, false)), (some 40), .bin .neq (.t 39) (.c (.int .i64 (0)))⟩,
          ⟨none, (some 41), .pick (.t 37) (.c (.bool true)) (.t 40)⟩,
          ⟨none, (some 42), .mov (.t 41)⟩,
          ⟨(some (42, false)), (some 43), .mov (.t 6)⟩,
          ⟨(some (42, false)), (some 44), .call 1 24 [.t 43]⟩,
          ⟨(some (42, false)), (some 45), .bin .neq (.t 44) (.c (.int .i64 (0)))⟩,
          ⟨none, (some 46), .pick (.t 42) (.c (.bool true)) (.t 45)⟩,
          ⟨none, (some 47), .mov (.t 46)⟩,
          ⟨(some (47, false)), (some 48), .mov (.t 4)⟩,
          ⟨(some (47, false)), (some 49), .len (.t 48)⟩,
          ⟨(some (47, false)), (some 50), .mov (.t 3)⟩,
          ⟨(some (47, false)), (some 51), .bin .add (.t 50) (.c (.int .i64 (1)))⟩,
          ⟨(some (47, false)), (some 52), .bin .neq (.t 49) (.t 51)⟩,
          ⟨none, (some 53), .pick (.t 47) (.c (.bool true)) (.t 52)⟩,
          ⟨none, (some 54), .mov (.t 53)⟩,
          ⟨(some (54, false)), (some 55), .mov (.t 6)⟩,
          ⟨(some (54, false)), (some 56), .len (.t 55)⟩,
          ⟨(some (54, false)), (some 57), .mov (.t 3)⟩,
          ⟨(some (54, false)), (some 58), .bin .add (.t 57) (.c (.int .i64 (1)))⟩,
          ⟨(some (54, false)), (some 59), .bin .neq (.t 56) (.t 58)⟩,
          ⟨none, (some 60), .pick (.t 54) (.c (.bool true)) (.t 59)⟩])
        (.cond (.t 60)
         (.seq
          (.reg [⟨none, (some 2), .mov (.c (.bool false))⟩])
          (.ret (m 104 4)))
         (.skip)))
       (.seq
        (.reg [⟨none, (some 62), .mov (.t 4)⟩,
          ⟨none, (some 63), .mov (.t 3)⟩,
          ⟨none, (some 64), .un .neg (.t 63)⟩,
          ⟨none, (some 65), .mov (.t 3)⟩,
          ⟨none, (some 66), .bin .sub (.t 65) (.c (.int .i64 (1)))⟩,
          ⟨none, (some 67), .call 1 25 [.t 62, .t 64, .t 66]⟩,
          ⟨none, (some 61), .mov (.t 67)⟩,
          ⟨none, (some 68), .ext (.t 61) 0⟩,
          ⟨none, (some 69), .ext (.t 61) 1⟩,
          ⟨none, (some 8), .mov (.t 68)⟩,
          ⟨none, (some 5), .mov (.t 69)⟩])
        (.seq
         (.reg [⟨none, (some 71), .mov (.t 6)⟩,
           ⟨none, (some 72), .mov (.t 3)⟩,
           ⟨none, (some 73), .un .neg (.t 72)⟩,
           ⟨none, (some 74), .mov (.t 3)⟩,
           ⟨none, (some 75), .bin .sub (.t 74) (.c (.int .i64 (1)))⟩,
           ⟨none, (some 76), .call 1 25 [.t 71, .t 73, .t 75]⟩,
           ⟨none, (some 70), .mov (.t 76)⟩,
           ⟨none, (some 77), .ext (.t 70) 0⟩,
           ⟨none, (some 78), .ext (.t 70) 1⟩,
           ⟨none, (some 9), .mov (.t 77)⟩,
           ⟨none, (some 7), .mov (.t 78)⟩])
         (.seq
          (.reg [⟨none, (some 79), .mov (.t 5)⟩,
            ⟨none, (some 80), .bin .eql (.t 79) (.c (.int .i64 (0)))⟩,
            ⟨none, (some 81), .mov (.t 80)⟩,
            ⟨(some (81, true)), (some 82), .mov (.t 7)⟩,
            ⟨(some (81, true)), (some 83), .bin .eql (.t 82) (.c (.int .i64 (0)))⟩,
            ⟨none, (some 84), .pick (.t 81) (.t 83) (.c (.bool false))⟩,
            ⟨none, (some 85), .mov (.t 84)⟩,
            ⟨(some (85, true)), (some 86), .mov (.t 8)⟩,
            ⟨(some (85, true)), (some 87), .mov (.t 3)⟩,
            ⟨(some (85, true)), (some 88), .mov (.t 4)⟩,
            ⟨(some (85, true)), (some 89), .call 1 26 [.t 88]⟩,
            ⟨(some (85, true)), (some 90), .bin .sub (.t 87) (.t 89)⟩,
            ⟨(some (85, true)), (some 91), .bin .eql (.t 86) (.t 90)⟩,
            ⟨none, (some 92), .pick (.t 85) (.t 91) (.c (.bool false))⟩,
            ⟨none, (some 93), .mov (.t 92)⟩,
            ⟨(some (93, true)), (some 94), .mov (.t 9)⟩,
            ⟨(some (93, true)), (some 95), .mov (.t 3)⟩,
            ⟨(some (93, true)), (some 96), .mov (.t 6)⟩,
            ⟨(some (93, true)), (some 97), .call 1 26 [.t 96]⟩,
            ⟨(some (93, true)), (some 98), .bin .sub (.t 95) (.t 97)⟩,
            ⟨(some (93, true)), (some 99), .bin .eql (.t 94) (.t 98)⟩,
            ⟨none, (some 100), .pick (.t 93) (.t 99) (.c (.bool false))⟩,
            ⟨none, (some 101), .mov (.t 100)⟩,
            ⟨(some (101, true)), (some 102), .call 1 17 []⟩,
            ⟨none, (some 103), .pick (.t 101) (.t 102) (.c (.bool false))⟩,
            ⟨none, (some 2), .mov (.t 103)⟩])
          (.ret (m 104 4))))))))))
def F5 : XF := ⟨1, 104, [.tmp 2], F5B⟩
def M5 : List (List Bool) := [(m 104 4), (m 104 4), (m 104 4)]
def F6B : XC :=
 .seq
  (.reg [⟨none, (some 2), .mov (.c (.bool false))⟩])
  (.seq
   (.seq
    (.reg [⟨none, (some 8), .mov (.t 0)⟩,
      ⟨none, (some 9), .call 1 16 [.t 8, .c (.nils)]⟩,
      ⟨none, (some 10), .un .not (.t 9)⟩])
    (.cond (.t 10)
     (.seq
      (.reg [⟨none, (some 11), .call 1 17 []⟩,
        ⟨none, (some 2), .mov (.t 11)⟩])
      (.ret (m 65 4)))
     (.skip)))
   (.seq
    (.reg [⟨none, (some 12), .bslice 1 0 [.int .i64 (0)] []⟩,
      ⟨none, (some 13), .mov (.t 0)⟩,
      ⟨none, (some 14), .app 1 8 (.t 12) (.t 13)⟩,
      ⟨none, (some 3), .mov (.t 14)⟩])
    (.seq
     (.seq
      (.reg [⟨none, (some 15), .mov (.t 3)⟩,
        ⟨none, (some 16), .call 1 27 [.t 15]⟩,
        ⟨none, (some 17), .mov (.t 0)⟩,
        ⟨none, (some 18), .call 1 20 [.t 17]⟩,
        ⟨none, (some 19), .eqb true (.t 16) (.t 18)⟩])
      (.cond (.t 19)
       (.seq
        (.reg [⟨none, (some 2), .mov (.c (.bool false))⟩])
        (.ret (m 65 4)))
       (.skip)))
     (.seq
      (.reg [⟨none, (some 21), .mov (.t 3)⟩,
        ⟨none, (some 22), .call 1 21 [.t 21]⟩,
        ⟨none, (some 20), .mov (.t 22)⟩,
        ⟨none, (some 23), .ext (.t 20) 0⟩,
        ⟨none, (some 24), .ext (.t 20) 1⟩,
        ⟨none, (some 4), .mov (.t 23)⟩,
        ⟨none, (some 5), .mov (.t 24)⟩])
      (.seq
       (.reg [⟨none, (some 26), .mov (.t 0)⟩,
         ⟨none, (some 27), .call 1 28 [.t 26]⟩,
         ⟨none, (some 25), .mov (.t 27)⟩,
         ⟨none, (some 28), .ext (.t 25) 0⟩,
         ⟨none, (some 29), .ext (.t 25) 1⟩,
         ⟨none, (some 6), .mov (.t 28)⟩,
         ⟨none, (some 7), .mov (.t 29)⟩])
       (.seq
        (.seq
         (.reg [⟨none, (some 30), .mov (.t 4)⟩,
           ⟨none, (some 31), .mov (.t 6)⟩,
           ⟨none, (some 32), .call 1 29 [.t 30, .t 31]⟩,
           ⟨none, (some 33), .un .not (.t 32)⟩,
           ⟨none, (some 34), .mov (.t 33)⟩,
           ⟨(some (34, false)), (some 35), .mov (.t 5)⟩,
           ⟨(some (34, false)), (some 36), .mov (.t 7)⟩,
           ⟨(some (34, false)), (some 37), .bin .neq (.t 35) (.t 36)⟩,
           ⟨none, (some 38), .pick (.t 34) (.c (.bool true)) (.t 37)⟩])
         (.cond (.t 38)
          (.seq
           (.reg [⟨none, (some 2), .mov (.c (.bool false))⟩])
           (.ret (m 65 4)))
          (.skip)))
        (.seq
         (.reg [⟨none, (some 40), .mov (.t 3)⟩,
           ⟨none, (some 41), .call 1 23 [.t 40]⟩,
           ⟨none, (some 39), .mov (.t 41)⟩,
           ⟨none, (some 42), .ext (.t 39) 0⟩,
           ⟨none, (some 43), .ext (.t 39) 1⟩,
           ⟨none, (some 4), .mov (.t 42)⟩,
           ⟨none, (some 5), .mov (.t 43)⟩])
         (.seq
          (.reg [⟨none, (some 45), .mov (.t 0)⟩,
            ⟨none, (some 46), .call 1 30 [.t 45]⟩,
            ⟨none, (some 44), .mov (.t 46)⟩,
            ⟨none, (some 47), .ext (.t 44) 0⟩,
            ⟨none, (some 48), .ext (.t 44) 1⟩,
            ⟨none, (some 6), .mov (.t 47)⟩,
            ⟨none, (some 7), .mov (.t 48)⟩])
          (.seq
           (.reg [⟨none, (some 49), .mov (.t 4)⟩,
             ⟨none, (some 50), .mov (.t 6)⟩,
             ⟨none, (some 51), .call 1 29 [.t 49, .t 50]⟩,
             ⟨none, (some 52), .mov (.t 51)⟩,
             ⟨(some (52, true)), (some 53), .mov (.t 5)⟩,
             ⟨(some (52, true)), (some 54), .mov (.t 7)⟩,
             ⟨(some (52, true)), (some 55), .bin .eql (.t 53) (.t 54)⟩,
             ⟨none, (some 56), .pick (.t 52) (.t 55) (.c (.bool false))⟩,
             ⟨none, (some 57), .mov (.t 56)⟩,
             ⟨(some (57, true)), (some 58), .mov (.t 3)⟩,
             ⟨(some (57, true)), (some 59), .mov (.t 0)⟩,
             ⟨(some (57, true)), (some 60), .call 1 29 [.t 58, .t 59]⟩,
             ⟨none, (some 61), .pick (.t 57) (.t 60) (.c (.bool false))⟩,
             ⟨none, (some 62), .mov (.t 61)⟩,
             ⟨(some (62, true)), (some 63), .call 1 17 []⟩,
             ⟨none, (some 64), .pick (.t 62) (.t 63) (.c (.bool false))⟩,
             ⟨none, (some 2), .mov (.t 64)⟩])
           (.ret (m 65 4)))))))))))
def F6 : XF := ⟨1, 65, [.tmp 2], F6B⟩
def M6 : List (List Bool) := [(m 65 4), (m 65 4), (m 65 4), (m 65 4)]
def F7B : XC :=
 .seq
  (.reg [⟨none, (some 6), .mov (.c (.bool false))⟩])
  (.seq
   (.seq
    (.reg [⟨none, (some 16), .mov (.t 0)⟩,
      ⟨none, (some 17), .call 1 16 [.t 16, .c (.nils)]⟩,
      ⟨none, (some 18), .un .not (.t 17)⟩,
      ⟨none, (some 19), .mov (.t 18)⟩,
      ⟨(some (19, false)), (some 20), .mov (.t 0)⟩,
      ⟨(some (19, false)), (some 21), .call 1 20 [.t 20]⟩,
      ⟨(some (19, false)), (some 22), .un .not (.t 21)⟩,
      ⟨none, (some 23), .pick (.t 19) (.c (.bool true)) (.t 22)⟩])
    (.cond (.t 23)
     (.seq
      (.reg [⟨none, (some 24), .call 1 17 []⟩,
        ⟨none, (some 6), .mov (.t 24)⟩])
      (.ret (m 118 64)))
     (.skip)))
   (.seq
    (.reg [⟨none, (some 25), .mov (.t 1)⟩,
      ⟨none, (some 26), .conv .i64 (.t 25)⟩,
      ⟨none, (some 27), .mov (.t 0)⟩,
      ⟨none, (some 28), .len (.t 27)⟩,
      ⟨none, (some 29), .bin .rem (.t 26) (.t 28)⟩,
      ⟨none, (some 30), .mov (.t 2)⟩,
      ⟨none, (some 31), .conv .i64 (.t 30)⟩,
      ⟨none, (some 32), .mov (.t 0)⟩,
      ⟨none, (some 33), .len (.t 32)⟩,
      ⟨none, (some 34), .bin .rem (.t 31) (.t 33)⟩,
      ⟨none, (some 7), .mov (.t 29)⟩,
      ⟨none, (some 8), .mov (.t 34)⟩])
    (.seq
     (.reg [⟨none, (some 36), .mov (.t 0)⟩,
       ⟨none, (some 37), .mov (.t 7)⟩,
       ⟨none, (some 38), .mov (.t 8)⟩,
       ⟨none, (some 39), .call 1 31 [.t 36, .t 37, .t 38]⟩,
       ⟨none, (some 35), .mov (.t 39)⟩,
       ⟨none, (some 40), .ext (.t 35) 0⟩,
       ⟨none, (some 41), .ext (.t 35) 1⟩,
       ⟨none, (some 9), .mov (.t 40)⟩,
       ⟨none, (some 10), .mov (.t 41)⟩])
     (.seq
      (.seq
       (.reg [⟨none, (some 42), .mov (.t 0)⟩,
         ⟨none, (some 43), .mov (.t 7)⟩,
         ⟨none, (some 44), .indexA 1 (.t 42) (.t 43)⟩,
         ⟨none, (some 45), .load none (.t 44)⟩,
         ⟨none, (some 46), .mov (.t 8)⟩,
         ⟨none, (some 47), .bin .shr (.t 45) (.t 46)⟩,
         ⟨none, (some 48), .bin .rem (.t 47) (.c (.int .i64 (2)))⟩,
         ⟨none, (some 49), .bin .eql (.t 48) (.c (.int .i64 (0)))⟩])
       (.cond (.t 49)
        (.seq
         (.reg [⟨none, (some 50), .mov (.t 10)⟩,
           ⟨none, (some 51), .bin .eql (.t 50) (.c (.int .i64 (6)))⟩,
           ⟨none, (some 52), .mov (.t 51)⟩,
           ⟨(some (52, true)), (some 53), .mov (.t 9)⟩,
           ⟨(some (52, true)), (some 54), .len (.t 53)⟩,
           ⟨(some (52, true)), (some 55), .bin .eql (.t 54) (.c (.int .i64 (0)))⟩,
           ⟨none, (some 56), .pick (.t 52) (.t 55) (.c (.bool false))⟩,
           ⟨none, (some 57), .mov (.t 56)⟩,
           ⟨(some (57, true)), (some 58), .call 1 17 []⟩,
           ⟨none, (some 59), .pick (.t 57) (.t 58) (.c (.bool false))⟩,
           ⟨none, (some 6), .mov (.t 59)⟩])
         (.ret (m 118 64)))
        (.skip)))
      (.seq
       (.seq
        (.reg [⟨none, (some 60), .mov (.t 10)⟩,
          ⟨none, (some 61), .bin .neq (.t 60) (.c (.int .i64 (0)))⟩,
          ⟨none, (some 62), .mov (.t 61)⟩,
          ⟨(some (62, false)), (some 63), .mov (.t 9)⟩,
          ⟨(some (62, false)), (some 64), .call 1 20 [.t 63]⟩,
          ⟨(some (62, false)), (some 65), .un .not (.t 64)⟩,
          ⟨none, (some 66), .pick (.t 62) (.c (.bool true)) (.t 65)⟩,
          ⟨none, (some 67), .mov (.t 66)⟩,
          ⟨(some (67, false)), (some 68), .mov (.t 9)⟩,
          ⟨(some (67, false)), (some 69), .call 1 32 [.t 68]⟩,
          ⟨(some (67, false)), (some 70), .mov (.t 0)⟩,
          ⟨(some (67, false)), (some 71), .call 1 32 [.t 70]⟩,
          ⟨(some (67, false)), (some 72), .bin .sub (.t 71) (.c (.int .i64 (1)))⟩,
          ⟨(some (67, false)), (some 73), .bin .neq (.t 69) (.t 72)⟩,
          ⟨none, (some 74), .pick (.t 67) (.c (.bool true)) (.t 73)⟩])
        (.cond (.t 74)
         (.seq
          (.reg [⟨none, (some 6), .mov (.c (.bool false))⟩])
          (.ret (m 118 64)))
         (.skip)))
       (.seq
        (.reg [⟨none, (some 76), .mov (.t 0)⟩,
          ⟨none, (some 77), .call 1 23 [.t 76]⟩,
          ⟨none, (some 75), .mov (.t 77)⟩,
          ⟨none, (some 78), .ext (.t 75) 0⟩,
          ⟨none, (some 79), .ext (.t 75) 1⟩,
          ⟨none, (some 11), .mov (.t 78)⟩,
          ⟨none, (some 10), .mov (.t 79)⟩])
        (.seq
         (.reg [⟨none, (some 81), .mov (.t 9)⟩,
           ⟨none, (some 82), .call 1 23 [.t 81]⟩,
           ⟨none, (some 80), .mov (.t 82)⟩,
           ⟨none, (some 83), .ext (.t 80) 0⟩,
           ⟨none, (some 84), .ext (.t 80) 1⟩,
           ⟨none, (some 12), .mov (.t 83)⟩,
           ⟨none, (some 13), .mov (.t 84)⟩])
         (.seq
          (.reg [⟨none, (some 86), .mov (.t 0)⟩,
            ⟨none, (some 87), .mov (.t 7)⟩,
            ⟨none, (some 88), .bin .shl (.c (.int .i64 (1))) (.t 87)⟩,
            ⟨none, (some 89), .mov (.t 8)⟩,
            ⟨none, (some 90), .bin .shl (.c (.int .i64 (1))) (.t 89)⟩,
            ⟨none, (some 91), .bin .or (.t 88) (.t 90)⟩,
            ⟨none, (some 92), .call 1 33 [.t 86, .t 91]⟩,
            ⟨none, (some 85), .mov (.t 92)⟩,
            ⟨none, (some 93), .ext (.t 85) 0⟩,
            ⟨none, (some 94), .ext (.t 85) 1⟩,
            ⟨none, (some 14), .mov (.t 93)⟩,
            ⟨none, (some 15), .mov (.t 94)⟩])
          (.seq
           (.reg [⟨none, (some 95), .mov (.t 10)⟩,
             ⟨none, (some 96), .bin .eql (.t 95) (.c (.int .i64 (0)))⟩,
             ⟨none, (some 97), .mov (.t 96)⟩,
             ⟨(some (97, true)), (some 98), .mov (.t 13)⟩,
             ⟨(some (97, true)), (some 99), .bin .eql (.t 98) (.c (.int .i64 (0)))⟩,
             ⟨none, (some 100), .pick (.t 97) (.t 99) (.c (.bool false))⟩,
             ⟨none, (some 101), .mov (.t 100)⟩,
             ⟨(some (101, true)), (some 102), .mov (.t 15)⟩,
             ⟨(some (101, true)), (some 103), .bin .eql (.t 102) (.c (.int .i64 (0)))⟩,
             ⟨none, (some 104), .pick (.t 101) (.t 103) (.c (.bool false))⟩,
             ⟨none, (some 105), .mov (.t 104)⟩,
             ⟨(some (105, true)), (some 106), .mov (.t 11)⟩,
             ⟨(some (105, true)), (some 107), .mov (.t 12)⟩,
             ⟨(some (105, true)), (some 108), .mov (.t 14)⟩,
             ⟨(some (105, true)), (some 109), .mov (.t 0)⟩,
             ⟨(some (105, true)), (some 110), .len (.t 109)⟩,
             ⟨(some (105, true)), (some 111), .bin .add (.t 110) (.c (.int .i64 (1)))⟩,
             ⟨(some (105, true)), (some 112), .call 1 34 [.t 107, .t 108, .t 111]⟩,
             ⟨(some (105, true)), (some 113), .call 1 29 [.t 106, .t 112]⟩,
             ⟨none, (some 114), .pick (.t 105) (.t 113) (.c (.bool false))⟩,
             ⟨none, (some 115), .mov (.t 114)⟩,
             ⟨(some (115, true)), (some 116), .call 1 17 []⟩,
             ⟨none, (some 117), .pick (.t 115) (.t 116) (.c (.bool false))⟩,
             ⟨none, (some 6), .mov (.t 117)⟩])
           (.ret (m 118 64)))))))))))
def F7 : XF := ⟨3, 118, [.tmp 6], F7B⟩
def M7 : List (List Bool) := [(m 118 64), (m 118 64), (m 118 64), (m 118 64)]
def F8B : XC :=
 .seq
  (.reg [⟨none, (some 6), .mov (.c (.bool false))⟩])
  (.seq
   (.seq
    (.reg [⟨none, (some 12), .mov (.t 0)⟩,
      ⟨none, (some 13), .call 1 16 [.t 12, .c (.nils)]⟩,
      ⟨none, (some 14), .un .not (.t 13)⟩])
    (.cond (.t 14)
     (.seq
      (.reg [⟨none, (some 15), .call 1 17 []⟩,
        ⟨none, (some 6), .mov (.t 15)⟩])
      (.ret (m 69 64)))
     (.skip)))
   (.seq
    (.reg [⟨none, (some 16), .bslice 1 0 [.int .i64 (0)] []⟩,
      ⟨none, (some 17), .mov (.t 0)⟩,
      ⟨none, (some 18), .app 1 8 (.t 16) (.t 17)⟩,
      ⟨none, (some 7), .mov (.t 18)⟩])
    (.seq
     (.reg [⟨none, (some 20), .mov (.t 7)⟩,
       ⟨none, (some 21), .mov (.t 1)⟩,
       ⟨none, (some 22), .mov (.t 2)⟩,
       ⟨none, (some 23), .call 1 25 [.t 20, .t 21, .t 22]⟩,
       ⟨none, (some 19), .mov (.t 23)⟩,
       ⟨none, (some 24), .ext (.t 19) 0⟩,
       ⟨none, (some 25), .ext (.t 19) 1⟩,
       ⟨none, (some 8), .mov (.t 24)⟩,
       ⟨none, (some 9), .mov (.t 25)⟩])
     (.seq
      (.reg [⟨none, (some 27), .mov (.t 0)⟩,
        ⟨none, (some 28), .mov (.t 1)⟩,
        ⟨none, (some 29), .mov (.t 2)⟩,
        ⟨none, (some 30), .call 1 35 [.t 27, .t 28, .t 29]⟩,
        ⟨none, (some 26), .mov (.t 30)⟩,
        ⟨none, (some 31), .ext (.t 26) 0⟩,
        ⟨none, (some 32), .ext (.t 26) 1⟩,
        ⟨none, (some 10), .mov (.t 31)⟩,
        ⟨none, (some 11), .mov (.t 32)⟩])
      (.seq
       (.seq
        (.reg [⟨none, (some 33), .mov (.t 8)⟩,
          ⟨none, (some 34), .mov (.t 10)⟩,
          ⟨none, (some 35), .bin .neq (.t 33) (.t 34)⟩,
          ⟨none, (some 36), .mov (.t 35)⟩,
          ⟨(some (36, false)), (some 37), .mov (.t 9)⟩,
          ⟨(some (36, false)), (some 38), .mov (.t 11)⟩,
          ⟨(some (36, false)), (some 39), .bin .neq (.t 37) (.t 38)⟩,
          ⟨none, (some 40), .pick (.t 36) (.c (.bool true)) (.t 39)⟩])
        (.cond (.t 40)
         (.seq
          (.reg [⟨none, (some 6), .mov (.c (.bool false))⟩])
          (.ret (m 69 64)))
         (.skip)))
       (.seq
        (.reg [⟨none, (some 42), .mov (.t 7)⟩,
          ⟨none, (some 43), .mov (.t 1)⟩,
          ⟨none, (some 44), .call 1 36 [.t 42, .t 43]⟩,
          ⟨none, (some 41), .mov (.t 44)⟩,
          ⟨none, (some 45), .ext (.t 41) 0⟩,
          ⟨none, (some 46), .ext (.t 41) 1⟩,
          ⟨none, (some 8), .mov (.t 45)⟩,
          ⟨none, (some 9), .mov (.t 46)⟩])
        (.seq
         (.reg [⟨none, (some 48), .mov (.t 0)⟩,
           ⟨none, (some 49), .mov (.t 1)⟩,
           ⟨none, (some 50), .call 1 37 [.t 48, .t 49]⟩,
           ⟨none, (some 47), .mov (.t 50)⟩,
           ⟨none, (some 51), .ext (.t 47) 0⟩,
           ⟨none, (some 52), .ext (.t 47) 1⟩,
           ⟨none, (some 10), .mov (.t 51)⟩,
           ⟨none, (some 11), .mov (.t 52)⟩])
         (.seq
          (.reg [⟨none, (some 53), .mov (.t 8)⟩,
            ⟨none, (some 54), .mov (.t 10)⟩,
            ⟨none, (some 55), .bin .eql (.t 53) (.t 54)⟩,
            ⟨none, (some 56), .mov (.t 55)⟩,
            ⟨(some (56, true)), (some 57), .mov (.t 9)⟩,
            ⟨(some (56, true)), (some 58), .mov (.t 11)⟩,
            ⟨(some (56, true)), (some 59), .bin .eql (.t 57) (.t 58)⟩,
            ⟨none, (some 60), .pick (.t 56) (.t 59) (.c (.bool false))⟩,
            ⟨none, (some 61), .mov (.t 60)⟩,
            ⟨(some (61, true)), (some 62), .mov (.t 7)⟩,
            ⟨(some (61, true)), (some 63), .mov (.t 0)⟩,
            ⟨(some (61, true)), (some 64), .call 1 29 [.t 62, .t 63]⟩,
            ⟨none, (some 65), .pick (.t 61) (.t 64) (.c (.bool false))⟩,
            ⟨none, (some 66), .mov (.t 65)⟩,
            ⟨(some (66, true)), (some 67), .call 1 17 []⟩,
            ⟨none, (some 68), .pick (.t 66) (.t 67) (.c (.bool false))⟩,
            ⟨none, (some 6), .mov (.t 68)⟩])
          (.ret (m 69 64))))))))))
def F8 : XF := ⟨3, 69, [.tmp 6], F8B⟩
def M8 : List (List Bool) := [(m 69 64), (m 69 64), (m 69 64)]
def F9B : XC :=
 .seq
  (.reg [⟨none, (some 8), .mov (.c (.bool false))⟩])
  (.seq
   (.seq
    (.reg [⟨none, (some 21), .mov (.t 0)⟩,
      ⟨none, (some 22), .call 1 16 [.t 21, .c (.nils)]⟩,
      ⟨none, (some 23), .un .not (.t 22)⟩,
      ⟨none, (some 24), .mov (.t 23)⟩,
      ⟨(some (24, false)), (some 25), .mov (.t 0)⟩,
      ⟨(some (24, false)), (some 26), .call 1 24 [.t 25]⟩,
      ⟨(some (24, false)), (some 27), .bin .neq (.t 26) (.c (.int .i64 (0)))⟩,
      ⟨none, (some 28), .pick (.t 24) (.c (.bool true)) (.t 27)⟩,
      ⟨none, (some 29), .mov (.t 28)⟩,
      ⟨(some (29, false)), (some 30), .mov (.t 0)⟩,
      ⟨(some (29, false)), (some 31), .len (.t 30)⟩,
      ⟨(some (29, false)), (some 32), .bin .eql (.t 31) (.c (.int .i64 (0)))⟩,
      ⟨none, (some 33), .pick (.t 29) (.c (.bool true)) (.t 32)⟩])
    (.cond (.t 33)
     (.seq
      (.reg [⟨none, (some 34), .call 1 17 []⟩,
        ⟨none, (some 8), .mov (.t 34)⟩])
      (.ret (m 180 256)))
     (.skip)))
   (.seq
    (.reg [⟨none, (some 35), .mov (.t 1)⟩,
      ⟨none, (some 36), .conv .i64 (.t 35)⟩,
      ⟨none, (some 37), .bin .rem (.t 36) (.c (.int .i64 (101)))⟩,
      ⟨none, (some 38), .mov (.t 2)⟩,
      ⟨none, (some 39), .conv .i64 (.t 38)⟩,
      ⟨none, (some 40), .bin .rem (.t 39) (.c (.int .i64 (101)))⟩,
      ⟨none, (some 41), .mov (.t 3)⟩,
      ⟨none, (some 42), .conv .i64 (.t 41)⟩,
      ⟨none, (some 43), .bin .rem (.t 42) (.c (.int .i64 (101)))⟩,
      ⟨none, (some 9), .mov (.t 37)⟩,
      ⟨none, (some 10), .mov (.t 40)⟩,
      ⟨none, (some 11), .mov (.t 43)⟩])
    (.seq
     (.reg [⟨none, (some 44), .mov (.t 9)⟩,
       ⟨none, (some 45), .mov (.t 10)⟩,
       ⟨none, (some 46), .mov (.t 11)⟩,
       ⟨none, (some 47), .mnx false [.t 44, .t 45, .t 46]⟩,
       ⟨none, (some 48), .mov (.t 9)⟩,
       ⟨none, (some 49), .mov (.t 10)⟩,
       ⟨none, (some 50), .mnx false [.t 48, .t 49]⟩,
       ⟨none, (some 51), .mov (.t 9)⟩,
       ⟨none, (some 52), .mov (.t 10)⟩,
       ⟨none, (some 53), .mnx true [.t 51, .t 52]⟩,
       ⟨none, (some 54), .mov (.t 11)⟩,
       ⟨none, (some 55), .mnx false [.t 53, .t 54]⟩,
       ⟨none, (some 56), .mnx true [.t 50, .t 55]⟩,
       ⟨none, (some 57), .mov (.t 9)⟩,
       ⟨none, (some 58), .mov (.t 10)⟩,
       ⟨none, (some 59), .mov (.t 11)⟩,
       ⟨none, (some 60), .mnx true [.t 57, .t 58, .t 59]⟩,
       ⟨none, (some 9), .mov (.t 47)⟩,
       ⟨none, (some 10), .mov (.t 56)⟩,
       ⟨none, (some 11), .mov (.t 60)⟩])
     (.seq
      (.reg [⟨none, (some 62), .mov (.t 0)⟩,
        ⟨none, (some 63), .mov (.t 9)⟩,
        ⟨none, (some 64), .mov (.t 10)⟩,
        ⟨none, (some 65), .call 1 25 [.t 62, .t 63, .t 64]⟩,
        ⟨none, (some 61), .mov (.t 65)⟩,
        ⟨none, (some 66), .ext (.t 61) 0⟩,
        ⟨none, (some 67), .ext (.t 61) 1⟩,
        ⟨none, (some 12), .mov (.t 66)⟩,
        ⟨none, (some 13), .mov (.t 67)⟩])
      (.seq
       (.reg [⟨none, (some 69), .mov (.t 0)⟩,
         ⟨none, (some 70), .mov (.t 10)⟩,
         ⟨none, (some 71), .mov (.t 11)⟩,
         ⟨none, (some 72), .call 1 25 [.t 69, .t 70, .t 71]⟩,
         ⟨none, (some 68), .mov (.t 72)⟩,
         ⟨none, (some 73), .ext (.t 68) 0⟩,
         ⟨none, (some 74), .ext (.t 68) 1⟩,
         ⟨none, (some 14), .mov (.t 73)⟩,
         ⟨none, (some 15), .mov (.t 74)⟩])
       (.seq
        (.reg [⟨none, (some 76), .mov (.t 0)⟩,
          ⟨none, (some 77), .mov (.t 9)⟩,
          ⟨none, (some 78), .mov (.t 11)⟩,
          ⟨none, (some 79), .call 1 25 [.t 76, .t 77, .t 78]⟩,
          ⟨none, (some 75), .mov (.t 79)⟩,
          ⟨none, (some 80), .ext (.t 75) 0⟩,
          ⟨none, (some 81), .ext (.t 75) 1⟩,
          ⟨none, (some 16), .mov (.t 80)⟩,
          ⟨none, (some 17), .mov (.t 81)⟩])
        (.seq
         (.seq
          (.reg [⟨none, (some 82), .mov (.t 13)⟩,
            ⟨none, (some 83), .bin .neq (.t 82) (.c (.int .i64 (0)))⟩,
            ⟨none, (some 84), .mov (.t 83)⟩,
            ⟨(some (84, false)), (some 85), .mov (.t 15)⟩,
            ⟨(some (84, false)), (some 86), .bin .neq (.t 85) (.c (.int .i64 (0)))⟩,
            ⟨none, (some 87), .pick (.t 84) (.c (.bool true)) (.t 86)⟩,
            ⟨none, (some 88), .mov (.t 87)⟩,
            ⟨(some (88, false)), (some 89), .mov (.t 17)⟩,
            ⟨(some (88, false)), (some 90), .bin .neq (.t 89) (.c (.int .i64 (0)))⟩,
            ⟨none, (some 91), .pick (.t 88) (.c (.bool true)) (.t 90)⟩,
            ⟨none, (some 92), .mov (.t 91)⟩,
            ⟨(some (92, false)), (some 93), .mov (.t 12)⟩,
            ⟨(some (92, false)), (some 94), .bin .lss (.t 93) (.c (.int .i64 (0)))⟩,
            ⟨none, (some 95), .pick (.t 92) (.c (.bool true)) (.t 94)⟩,
            ⟨none, (some 96), .mov (.t 95)⟩,
            ⟨(some (96, false)), (some 97), .mov (.t 14)⟩,
            ⟨(some (96, false)), (some 98), .bin .lss (.t 97) (.c (.int .i64 (0)))⟩,
            ⟨none, (some 99), .pick (.t 96) (.c (.bool true)) (.t 98)⟩,
            ⟨none, (some 100), .mov (.t 99)⟩,
            ⟨(some (100, false)), (some 101), .mov (.t 12)⟩,
            ⟨(some (100, false)), (some 102), .mov (.t 14)⟩,
            ⟨(some (100, false)), (some 103), .bin .add (.t 101) (.t 102)⟩,
            ⟨(some (100, false)), (some 104), .mov (.t 16)⟩,
            ⟨(some (100, false)), (some 105), .bin .neq (.t 103) (.t 104)⟩,
            ⟨none, (some 106), .pick (.t 100) (.c (.bool true)) (.t 105)⟩,
            ⟨none, (some 107), .mov (.t 106)⟩,
            ⟨(some (107, false)), (some 108), .mov (.t 16)⟩,
            ⟨(some (107, false)), (some 109), .mov (.t 0)⟩,
            ⟨(some (107, false)), (some 110), .len (.t 109)⟩,
            ⟨(some (107, false)), (some 111), .bin .geq (.t 108) (.t 110)⟩,
            ⟨none, (some 112), .pick (.t 107) (.c (.bool true)) (.t 111)⟩])
          (.cond (.t 112)
           (.seq
            (.reg [⟨none, (some 8), .mov (.c (.bool false))⟩])
            (.ret (m 180 256)))
           (.skip)))
         (.seq
          (.seq
           (.reg [⟨none, (some 113), .mov (.t 10)⟩,
             ⟨none, (some 114), .bin .eql (.t 113) (.c (.int .i64 (-100)))⟩])
           (.cond (.t 114)
            (.seq
             (.reg [⟨none, (some 115), .call 1 17 []⟩,
               ⟨none, (some 8), .mov (.t 115)⟩])
             (.ret (m 180 256)))
            (.skip)))
          (.seq
           (.reg [⟨none, (some 117), .mov (.t 0)⟩,
             ⟨none, (some 118), .mov (.t 10)⟩,
             ⟨none, (some 119), .call 1 36 [.t 117, .t 118]⟩,
             ⟨none, (some 116), .mov (.t 119)⟩,
             ⟨none, (some 120), .ext (.t 116) 0⟩,
             ⟨none, (some 121), .ext (.t 116) 1⟩,
             ⟨none, (some 18), .mov (.t 120)⟩,
             ⟨none, (some 13), .mov (.t 121)⟩])
           (.seq
            (.reg [⟨none, (some 123), .mov (.t 0)⟩,
              ⟨none, (some 124), .mov (.t 10)⟩,
              ⟨none, (some 125), .bin .sub (.t 124) (.c (.int .i64 (1)))⟩,
              ⟨none, (some 126), .mov (.t 10)⟩,
              ⟨none, (some 127), .call 1 25 [.t 123, .t 125, .t 126]⟩,
              ⟨none, (some 122), .mov (.t 127)⟩,
              ⟨none, (some 128), .ext (.t 122) 0⟩,
              ⟨none, (some 129), .ext (.t 122) 1⟩,
              ⟨none, (some 19), .mov (.t 128)⟩,
              ⟨none, (some 15), .mov (.t 129)⟩])
            (.seq
             (.reg [⟨none, (some 131), .mov (.t 0)⟩,
               ⟨none, (some 132), .mov (.t 10)⟩,
               ⟨none, (some 133), .bin .sub (.t 132) (.c (.int .i64 (1)))⟩,
               ⟨none, (some 134), .call 1 36 [.t 131, .t 133]⟩,
               ⟨none, (some 130), .mov (.t 134)⟩,
               ⟨none, (some 135), .ext (.t 130) 0⟩,
               ⟨none, (some 136), .ext (.t 130) 1⟩,
               ⟨none, (some 20), .mov (.t 135)⟩,
               ⟨none, (some 17), .mov (.t 136)⟩])
             (.seq
              (.seq
               (.reg [⟨none, (some 137), .mov (.t 13)⟩,
                 ⟨none, (some 138), .bin .neq (.t 137) (.c (.int .i64 (0)))⟩,
                 ⟨none, (some 139), .mov (.t 138)⟩,
                 ⟨(some (139, false)), (some 140), .mov (.t 15)⟩,
                 ⟨(some (139, false)), (some 141), .bin .neq (.t 140) (.c (.int .i64 (0)))⟩,
                 ⟨none, (some 142), .pick (.t 139) (.c (.bool true)) (.t 141)⟩,
                 ⟨none, (some 143), .mov (.t 142)⟩,
                 ⟨(some (143, false)), (some 144), .mov (.t 17)⟩,
                 ⟨(some (143, false)), (some 145), .bin .neq (.t 144) (.c (.int .i64 (0)))⟩,
                 ⟨none, (some 146), .pick (.t 143) (.c (.bool true)) (.t 145)⟩,
                 ⟨none, (some 147), .mov (.t 146)⟩,
                 ⟨(some (147, false)), (some 148), .mov (.t 18)⟩,
                 ⟨(some (147, false)), (some 149), .bin .eql (.t 148) (.c (.int .i64 (0)))⟩,
                 ⟨(some (147, false)), (some 150), .mov (.t 149)⟩,
                 ⟨(some (150, true)), (some 151), .mov (.t 19)⟩,
                 ⟨(some (150, true)), (some 152), .bin .eql (.t 151) (.c (.int .i64 (0)))⟩,
                 ⟨(some (147, false)), (some 153), .pick (.t 150) (.t 152) (.c (.bool false))⟩,
                 ⟨none, (some 154), .pick (.t 147) (.c (.bool true)) (.t 153)⟩])
               (.cond (.t 154)
                (.seq
                 (.reg [⟨none, (some 8), .mov (.c (.bool false))⟩])
                 (.ret (m 180 256)))
                (.skip)))
              (.seq
               (.reg [⟨none, (some 155), .mov (.t 20)⟩,
                 ⟨none, (some 156), .bin .geq (.t 155) (.c (.int .i64 (0)))⟩,
                 ⟨none, (some 157), .mov (.t 156)⟩,
                 ⟨(some (157, false)), (some 158), .mov (.t 18)⟩,
                 ⟨(some (157, false)), (some 159), .bin .leq (.t 158) (.c (.int .i64 (0)))⟩,
                 ⟨none, (some 160), .pick (.t 157) (.c (.bool true)) (.t 159)⟩,
                 ⟨none, (some 161), .mov (.t 160)⟩,
                 ⟨(some (161, false)), (some 162), .mov (.t 19)⟩,
                 ⟨(some (161, false)), (some 163), .bin .gtr (.t 162) (.c (.int .i64 (0)))⟩,
                 ⟨none, (some 164), .pick (.t 161) (.c (.bool true)) (.t 163)⟩,
                 ⟨none, (some 165), .mov (.t 164)⟩,
                 ⟨(some (165, true)), (some 166), .mov (.t 20)⟩,
                 ⟨(some (165, true)), (some 167), .bin .leq (.t 166) (.c (.int .i64 (0)))⟩,
                 ⟨(some (165, true)), (some 168), .mov (.t 167)⟩,
                 ⟨(some (168, false)), (some 169), .mov (.t 18)⟩,
                 ⟨(some (168, false)), (some 170), .bin .geq (.t 169) (.c (.int .i64 (0)))⟩,
                 ⟨(some (165, true)), (some 171), .pick (.t 168) (.c (.bool true)) (.t 170)⟩,
                 ⟨(some (165, true)), (some 172), .mov (.t 171)⟩,
                 ⟨(some (172, false)), (some 173), .mov (.t 19)⟩,
                 ⟨(some (172, false)), (some 174), .bin .gtr (.t 173) (.c (.int .i64 (0)))⟩,
                 ⟨(some (165, true)), (some 175), .pick (.t 172) (.c (.bool true)) (.t 174)⟩,
                 ⟨none, (some 176), .pick (.t 165) (.t 175) (.c (.bool false))⟩,
                 ⟨none, (some 177), .mov (.t 176)⟩,
                 ⟨(some (177, true)), (some 178), .call 1 17 []⟩,
                 ⟨none, (some 179), .pick (.t 177) (.t 178) (.c (.bool false))⟩,
                 ⟨none, (some 8), .mov (.t 179)⟩])
               (.ret (m 180 256)))))))))))))))
def F9 : XF := ⟨4, 180, [.tmp 8], F9B⟩
def M9 : List (List Bool) := [(m 180 256), (m 180 256), (m 180 256), (m 180 256), (m 180 256)]
def F10L0b : XC :=
 .seq
  (.seq
   (.reg [⟨none, (some 83), .mov (.t 13)⟩,
     ⟨none, (some 84), .mov (.t 0)⟩,
     ⟨none, (some 85), .len (.t 84)⟩,
     ⟨none, (some 86), .bin .lss (.t 83) (.t 85)⟩])
   (.cond (.t 86)
    (.skip)
    (.exit 0 (m 121 4160))))
  (.seq
   (.block 1 (m 121 12385)
    (.seq
     (.reg [⟨none, (some 89), .mov (.t 0)⟩,
       ⟨none, (some 90), .mov (.t 5)⟩,
       ⟨none, (some 91), .indexA 1 (.t 89) (.t 90)⟩,
       ⟨none, (some 92), .load none (.t 91)⟩,
       ⟨none, (some 93), .mov (.t 13)⟩,
       ⟨none, (some 94), .bin .shr (.t 92) (.t 93)⟩,
       ⟨none, (some 95), .bin .rem (.t 94) (.c (.int .i64 (2)))⟩,
       ⟨none, (some 96), .bin .eql (.t 95) (.c (.int .i64 (1)))⟩])
     (.cond (.t 96)
      (.seq
       (.reg [⟨none, (some 98), .mov (.t 0)⟩,
         ⟨none, (some 99), .mov (.t 5)⟩,
         ⟨none, (some 100), .bin .shl (.c (.int .i64 (1))) (.t 99)⟩,
         ⟨none, (some 101), .mov (.t 13)⟩,
         ⟨none, (some 102), .bin .shl (.c (.int .i64 (1))) (.t 101)⟩,
         ⟨none, (some 103), .bin .or (.t 100) (.t 102)⟩,
         ⟨none, (some 104), .call 1 33 [.t 98, .t 103]⟩,
         ⟨none, (some 97), .mov (.t 104)⟩,
         ⟨none, (some 105), .ext (.t 97) 0⟩,
         ⟨none, (some 106), .ext (.t 97) 1⟩,
         ⟨none, (some 14), .mov (.t 105)⟩,
         ⟨none, (some 15), .mov (.t 106)⟩])
       (.seq
        (.seq
         (.reg [⟨none, (some 107), .mov (.t 15)⟩,
           ⟨none, (some 108), .bin .neq (.t 107) (.c (.int .i64 (0)))⟩])
         (.cond (.t 108)
          (.seq
           (.reg [⟨none, (some 4), .mov (.c (.bool false))⟩])
           (.ret (m 121 16)))
          (.skip)))
        (.reg [⟨none, (some 109), .mov (.t 12)⟩,
          ⟨none, (some 110), .mov (.t 14)⟩,
          ⟨none, (some 111), .mov (.t 0)⟩,
          ⟨none, (some 112), .len (.t 111)⟩,
          ⟨none, (some 113), .bin .add (.t 112) (.c (.int .i64 (1)))⟩,
          ⟨none, (some 114), .call 1 34 [.t 109, .t 110, .t 113]⟩,
          ⟨none, (some 12), .mov (.t 114)⟩])))
      (.skip))))
   (.reg [⟨none, (some 87), .mov (.t 13)⟩,
     ⟨none, (some 88), .bin .add (.t 87) (.c (.int .i64 (1)))⟩,
     ⟨none, (some 13), .mov (.t 88)⟩]))
def F10L0 : XC := .loop (m 121 12385) F10L0b
def F10T0 : XC :=
 .seq
  (.reg [⟨none, (some 115), .mov (.t 6)⟩,
    ⟨none, (some 116), .mov (.t 12)⟩,
    ⟨none, (some 117), .call 1 29 [.t 115, .t 116]⟩,
    ⟨none, (some 118), .mov (.t 117)⟩,
    ⟨(some (118, true)), (some 119), .call 1 17 []⟩,
    ⟨none, (some 120), .pick (.t 118) (.t 119) (.c (.bool false))⟩,
    ⟨none, (some 4), .mov (.t 120)⟩])
  (.ret (m 121 16))
def F10B : XC :=
 .seq
  (.reg [⟨none, (some 4), .mov (.c (.bool false))⟩])
  (.seq
   (.seq
    (.reg [⟨none, (some 16), .mov (.t 0)⟩,
      ⟨none, (some 17), .call 1 16 [.t 16, .c (.nils)]⟩,
      ⟨none, (some 18), .un .not (.t 17)⟩,
      ⟨none, (some 19), .mov (.t 18)⟩,
      ⟨(some (19, false)), (some 20), .mov (.t 0)⟩,
      ⟨(some (19, false)), (some 21), .call 1 20 [.t 20]⟩,
      ⟨(some (19, false)), (some 22), .un .not (.t 21)⟩,
      ⟨none, (some 23), .pick (.t 19) (.c (.bool true)) (.t 22)⟩])
    (.cond (.t 23)
     (.seq
      (.reg [⟨none, (some 24), .call 1 17 []⟩,
        ⟨none, (some 4), .mov (.t 24)⟩])
      (.ret (m 121 16)))
     (.skip)))
   (.seq
    (.reg [⟨none, (some 25), .mov (.t 1)⟩,
      ⟨none, (some 26), .conv .i64 (.t 25)⟩,
      ⟨none, (some 27), .mov (.t 0)⟩,
      ⟨none, (some 28), .len (.t 27)⟩,
      ⟨none, (some 29), .bin .rem (.t 26) (.t 28)⟩,
      ⟨none, (some 5), .mov (.t 29)⟩])
    (.seq
     (.reg [⟨none, (some 31), .mov (.t 0)⟩,
       ⟨none, (some 32), .call 1 23 [.t 31]⟩,
       ⟨none, (some 30), .mov (.t 32)⟩,
       ⟨none, (some 33), .ext (.t 30) 0⟩,
       ⟨none, (some 34), .ext (.t 30) 1⟩,
       ⟨none, (some 6), .mov (.t 33)⟩,
       ⟨none, (some 7), .mov (.t 34)⟩])
     (.seq
      (.reg [⟨none, (some 36), .mov (.t 0)⟩,
        ⟨none, (some 37), .mov (.t 5)⟩,
        ⟨none, (some 38), .bin .shl (.c (.int .i64 (1))) (.t 37)⟩,
        ⟨none, (some 39), .call 1 33 [.t 36, .t 38]⟩,
        ⟨none, (some 35), .mov (.t 39)⟩,
        ⟨none, (some 40), .ext (.t 35) 0⟩,
        ⟨none, (some 41), .ext (.t 35) 1⟩,
        ⟨none, (some 8), .mov (.t 40)⟩,
        ⟨none, (some 9), .mov (.t 41)⟩])
      (.seq
       (.reg [⟨none, (some 43), .mov (.t 0)⟩,
         ⟨none, (some 44), .mov (.t 5)⟩,
         ⟨none, (some 45), .call 1 38 [.t 43, .t 44]⟩,
         ⟨none, (some 42), .mov (.t 45)⟩,
         ⟨none, (some 46), .ext (.t 42) 0⟩,
         ⟨none, (some 47), .ext (.t 42) 1⟩,
         ⟨none, (some 10), .mov (.t 46)⟩,
         ⟨none, (some 11), .mov (.t 47)⟩])
       (.seq
        (.seq
         (.reg [⟨none, (some 48), .mov (.t 7)⟩,
           ⟨none, (some 49), .bin .neq (.t 48) (.c (.int .i64 (0)))⟩,
           ⟨none, (some 50), .mov (.t 49)⟩,
           ⟨(some (50, false)), (some 51), .mov (.t 9)⟩,
           ⟨(some (50, false)), (some 52), .bin .neq (.t 51) (.c (.int .i64 (0)))⟩,
           ⟨none, (some 53), .pick (.t 50) (.c (.bool true)) (.t 52)⟩,
           ⟨none, (some 54), .mov (.t 53)⟩,
           ⟨(some (54, false)), (some 55), .mov (.t 0)⟩,
           ⟨(some (54, false)), (some 56), .len (.t 55)⟩,
           ⟨(some (54, false)), (some 57), .bin .eql (.t 56) (.c (.int .i64 (1)))⟩,
           ⟨(some (54, false)), (some 58), .mov (.t 57)⟩,
           ⟨(some (58, true)), (some 59), .mov (.t 11)⟩,
           ⟨(some (58, true)), (some 60), .bin .neq (.t 59) (.c (.int .i64 (9)))⟩,
           ⟨(some (54, false)), (some 61), .pick (.t 58) (.t 60) (.c (.bool false))⟩,
           ⟨none, (some 62), .pick (.t 54) (.c (.bool true)) (.t 61)⟩,
           ⟨none, (some 63), .mov (.t 62)⟩,
           ⟨(some (63, false)), (some 64), .mov (.t 0)⟩,
           ⟨(some (63, false)), (some 65), .len (.t 64)⟩,
           ⟨(some (63, false)), (some 66), .bin .gtr (.t 65) (.c (.int .i64 (1)))⟩,
           ⟨(some (63, false)), (some 67), .mov (.t 66)⟩,
           ⟨(some (67, true)), (some 68), .mov (.t 11)⟩,
           ⟨(some (67, true)), (some 69), .bin .neq (.t 68) (.c (.int .i64 (0)))⟩,
           ⟨(some (67, true)), (some 70), .mov (.t 69)⟩,
           ⟨(some (70, false)), (some 71), .mov (.t 10)⟩,
           ⟨(some (70, false)), (some 72), .mov (.t 0)⟩,
           ⟨(some (70, false)), (some 73), .mov (.t 5)⟩,
           ⟨(some (70, false)), (some 74), .bin .shl (.c (.int .i64 (1))) (.t 73)⟩,
           ⟨(some (70, false)), (some 75), .call 1 39 [.t 72, .t 74]⟩,
           ⟨(some (70, false)), (some 76), .call 1 29 [.t 71, .t 75]⟩,
           ⟨(some (70, false)), (some 77), .un .not (.t 76)⟩,
           ⟨(some (67, true)), (some 78), .pick (.t 70) (.c (.bool true)) (.t 77)⟩,
           ⟨(some (63, false)), (some 79), .pick (.t 67) (.t 78) (.c (.bool false))⟩,
           ⟨none, (some 80), .pick (.t 63) (.c (.bool true)) (.t 79)⟩])
         (.cond (.t 80)
          (.seq
           (.reg [⟨none, (some 4), .mov (.c (.bool false))⟩])
           (.ret (m 121 16)))
          (.skip)))
        (.seq
         (.reg [⟨none, (some 81), .mov (.t 8)⟩,
           ⟨none, (some 82), .call 1 40 [.t 81]⟩,
           ⟨none, (some 12), .mov (.t 82)⟩])
         (.seq
          (.seq
           (.reg [⟨none, (some 13), .mov (.c (.int .i64 (0)))⟩])
           (.block 0 (m 121 4160)
            (F10L0)))
          F10T0))))))))
def F10 : XF := ⟨2, 121, [.tmp 4], F10B⟩
def M10 : List (List Bool) := [(m 121 16), (m 121 16), (m 121 4160), (m 121 12385), (m 121 4160), (m 121 12385), (m 121 16), (m 121 16)]
def F11B : XC :=
 .seq
  (.reg [⟨none, (some 2), .mov (.c (.bool false))⟩])
  (.seq
   (.seq
    (.reg [⟨none, (some 10), .mov (.t 0)⟩,
      ⟨none, (some 11), .call 1 16 [.t 10, .c (.nils)]⟩,
      ⟨none, (some 12), .un .not (.t 11)⟩,
      ⟨none, (some 13), .mov (.t 12)⟩,
      ⟨(some (13, false)), (some 14), .mov (.t 0)⟩,
      ⟨(some (13, false)), (some 15), .call 1 20 [.t 14]⟩,
      ⟨(some (13, false)), (some 16), .un .not (.t 15)⟩,
      ⟨none, (some 17), .pick (.t 13) (.c (.bool true)) (.t 16)⟩])
    (.cond (.t 17)
     (.seq
      (.reg [⟨none, (some 18), .call 1 17 []⟩,
        ⟨none, (some 2), .mov (.t 18)⟩])
      (.ret (m 70 4)))
     (.skip)))
   (.seq
    (.reg [⟨none, (some 20), .mov (.t 0)⟩,
      ⟨none, (some 21), .call 1 21 [.t 20]⟩,
      ⟨none, (some 19), .mov (.t 21)⟩,
      ⟨none, (some 22), .ext (.t 19) 0⟩,
      ⟨none, (some 23), .ext (.t 19) 1⟩,
      ⟨none, (some 3), .mov (.t 22)⟩,
      ⟨none, (some 4), .mov (.t 23)⟩])
    (.seq
     (.reg [⟨none, (some 25), .mov (.t 0)⟩,
       ⟨none, (some 26), .call 1 23 [.t 25]⟩,
       ⟨none, (some 24), .mov (.t 26)⟩,
       ⟨none, (some 27), .ext (.t 24) 0⟩,
       ⟨none, (some 28), .ext (.t 24) 1⟩,
       ⟨none, (some 5), .mov (.t 27)⟩,
       ⟨none, (some 6), .mov (.t 28)⟩])
     (.seq
      (.reg [⟨none, (some 30), .mov (.t 0)⟩,
        ⟨none, (some 31), .call 1 41 [.t 30]⟩,
        ⟨none, (some 29), .mov (.t 31)⟩,
        ⟨none, (some 32), .ext (.t 29) 0⟩,
        ⟨none, (some 33), .ext (.t 29) 1⟩,
        ⟨none, (some 7), .mov (.t 32)⟩,
        ⟨none, (some 8), .mov (.t 33)⟩])
      (.seq
       (.seq
        (.reg [⟨none, (some 34), .mov (.t 4)⟩,
          ⟨none, (some 35), .bin .neq (.t 34) (.c (.int .i64 (0)))⟩,
          ⟨none, (some 36), .mov (.t 35)⟩,
          ⟨(some (36, false)), (some 37), .mov (.t 6)⟩,
          ⟨(some (36, false)), (some 38), .bin .neq (.t 37) (.c (.int .i64 (0)))⟩,
          ⟨none, (some 39), .pick (.t 36) (.c (.bool true)) (.t 38)⟩,
          ⟨none, (some 40), .mov (.t 39)⟩,
          ⟨(some (40, false)), (some 41), .mov (.t 8)⟩,
          ⟨(some (40, false)), (some 42), .bin .neq (.t 41) (.c (.int .i64 (0)))⟩,
          ⟨none, (some 43), .pick (.t 40) (.c (.bool true)) (.t 42)⟩])
        (.cond (.t 43)
         (.seq
          (.reg [⟨none, (some 2), .mov (.c (.bool false))⟩])
          (.ret (m 70 4)))
         (.skip)))
       (.seq
        (.reg [⟨none, (some 44), .mov (.t 0)⟩,
          ⟨none, (some 45), .call 1 32 [.t 44]⟩,
          ⟨none, (some 46), .mov (.t 0)⟩,
          ⟨none, (some 47), .len (.t 46)⟩,
          ⟨none, (some 48), .bin .sub (.t 45) (.t 47)⟩,
          ⟨none, (some 49), .mov (.t 0)⟩,
          ⟨none, (some 50), .call 1 42 [.t 49]⟩,
          ⟨none, (some 51), .bin .add (.t 48) (.t 50)⟩,
          ⟨none, (some 9), .mov (.t 51)⟩])
        (.seq
         (.seq
          (.reg [⟨none, (some 52), .mov (.t 7)⟩,
            ⟨none, (some 53), .mov (.t 9)⟩,
            ⟨none, (some 54), .bin .eql (.t 53) (.c (.int .i64 (0)))⟩,
            ⟨none, (some 55), .mov (.t 54)⟩,
            ⟨(some (55, true)), (some 56), .mov (.t 0)⟩,
            ⟨(some (55, true)), (some 57), .call 1 42 [.t 56]⟩,
            ⟨(some (55, true)), (some 58), .bin .eql (.t 57) (.c (.int .i64 (1)))⟩,
            ⟨none, (some 59), .pick (.t 55) (.t 58) (.c (.bool false))⟩,
            ⟨none, (some 60), .eqb true (.t 52) (.t 59)⟩])
          (.cond (.t 60)
           (.seq
            (.reg [⟨none, (some 2), .mov (.c (.bool false))⟩])
            (.ret (m 70 4)))
           (.skip)))
         (.seq
          (.reg [⟨none, (some 61), .mov (.t 9)⟩,
            ⟨none, (some 62), .bin .eql (.t 61) (.c (.int .i64 (0)))⟩,
            ⟨none, (some 63), .mov (.t 3)⟩,
            ⟨none, (some 64), .mov (.t 5)⟩,
            ⟨none, (some 65), .call 1 29 [.t 63, .t 64]⟩,
            ⟨none, (some 66), .eqb false (.t 62) (.t 65)⟩,
            ⟨none, (some 67), .mov (.t 66)⟩,
            ⟨(some (67, true)), (some 68), .call 1 17 []⟩,
            ⟨none, (some 69), .pick (.t 67) (.t 68) (.c (.bool false))⟩,
            ⟨none, (some 2), .mov (.t 69)⟩])
          (.ret (m 70 4))))))))))
def F11 : XF := ⟨1, 70, [.tmp 2], F11B⟩
def M11 : List (List Bool) := [(m 70 4), (m 70 4), (m 70 4), (m 70 4)]
def F12B : XC :=
 .seq
  (.reg [⟨none, (some 6), .mov (.c (.bool false))⟩])
  (.seq
   (.seq
    (.reg [⟨none, (some 13), .mov (.t 0)⟩,
      ⟨none, (some 14), .call 1 16 [.t 13, .c (.nils)]⟩,
      ⟨none, (some 15), .un .not (.t 14)⟩])
    (.cond (.t 15)
     (.seq
      (.reg [⟨none, (some 16), .call 1 17 []⟩,
        ⟨none, (some 6), .mov (.t 16)⟩])
      (.ret (m 67 64)))
     (.skip)))
   (.seq
    (.reg [⟨none, (some 18), .mov (.t 0)⟩,
      ⟨none, (some 19), .mov (.t 1)⟩,
      ⟨none, (some 20), .call 1 22 [.t 18, .t 19]⟩,
      ⟨none, (some 17), .mov (.t 20)⟩,
      ⟨none, (some 21), .ext (.t 17) 0⟩,
      ⟨none, (some 22), .ext (.t 17) 1⟩,
      ⟨none, (some 23), .ext (.t 17) 2⟩,
      ⟨none, (some 7), .mov (.t 21)⟩,
      ⟨none, (some 8), .mov (.t 22)⟩,
      ⟨none, (some 9), .mov (.t 23)⟩])
    (.seq
     (.reg [⟨none, (some 25), .mov (.t 0)⟩,
       ⟨none, (some 26), .mov (.t 1)⟩,
       ⟨none, (some 27), .call 1 43 [.t 25, .t 26]⟩,
       ⟨none, (some 24), .mov (.t 27)⟩,
       ⟨none, (some 28), .ext (.t 24) 0⟩,
       ⟨none, (some 29), .ext (.t 24) 1⟩,
       ⟨none, (some 30), .ext (.t 24) 2⟩,
       ⟨none, (some 10), .mov (.t 28)⟩,
       ⟨none, (some 11), .mov (.t 29)⟩,
       ⟨none, (some 12), .mov (.t 30)⟩])
     (.seq
      (.seq
       (.reg [⟨none, (some 31), .mov (.t 7)⟩,
         ⟨none, (some 32), .mov (.t 10)⟩,
         ⟨none, (some 33), .bin .neq (.t 31) (.t 32)⟩,
         ⟨none, (some 34), .mov (.t 33)⟩,
         ⟨(some (34, false)), (some 35), .mov (.t 8)⟩,
         ⟨(some (34, false)), (some 36), .mov (.t 11)⟩,
         ⟨(some (34, false)), (some 37), .bin .neq (.t 35) (.t 36)⟩,
         ⟨none, (some 38), .pick (.t 34) (.c (.bool true)) (.t 37)⟩,
         ⟨none, (some 39), .mov (.t 38)⟩,
         ⟨(some (39, false)), (some 40), .mov (.t 9)⟩,
         ⟨(some (39, false)), (some 41), .mov (.t 12)⟩,
         ⟨(some (39, false)), (some 42), .bin .neq (.t 40) (.t 41)⟩,
         ⟨none, (some 43), .pick (.t 39) (.c (.bool true)) (.t 42)⟩])
       (.cond (.t 43)
        (.seq
         (.reg [⟨none, (some 6), .mov (.c (.bool false))⟩])
         (.ret (m 67 64)))
        (.skip)))
      (.seq
       (.reg [⟨none, (some 45), .mov (.t 0)⟩,
         ⟨none, (some 46), .mov (.t 2)⟩,
         ⟨none, (some 47), .call 1 44 [.t 45, .t 46]⟩,
         ⟨none, (some 44), .mov (.t 47)⟩,
         ⟨none, (some 48), .ext (.t 44) 0⟩,
         ⟨none, (some 49), .ext (.t 44) 1⟩,
         ⟨none, (some 7), .mov (.t 48)⟩,
         ⟨none, (some 9), .mov (.t 49)⟩])
       (.seq
        (.reg [⟨none, (some 51), .mov (.t 0)⟩,
          ⟨none, (some 52), .mov (.t 2)⟩,
          ⟨none, (some 53), .call 1 45 [.t 51, .t 52]⟩,
          ⟨none, (some 50), .mov (.t 53)⟩,
          ⟨none, (some 54), .ext (.t 50) 0⟩,
          ⟨none, (some 55), .ext (.t 50) 1⟩,
          ⟨none, (some 10), .mov (.t 54)⟩,
          ⟨none, (some 12), .mov (.t 55)⟩])
        (.seq
         (.reg [⟨none, (some 56), .mov (.t 7)⟩,
           ⟨none, (some 57), .mov (.t 10)⟩,
           ⟨none, (some 58), .bin .eql (.t 56) (.t 57)⟩,
           ⟨none, (some 59), .mov (.t 58)⟩,
           ⟨(some (59, true)), (some 60), .mov (.t 9)⟩,
           ⟨(some (59, true)), (some 61), .mov (.t 12)⟩,
           ⟨(some (59, true)), (some 62), .bin .eql (.t 60) (.t 61)⟩,
           ⟨none, (some 63), .pick (.t 59) (.t 62) (.c (.bool false))⟩,
           ⟨none, (some 64), .mov (.t 63)⟩,
           ⟨(some (64, true)), (some 65), .call 1 17 []⟩,
           ⟨none, (some 66), .pick (.t 64) (.t 65) (.c (.bool false))⟩,
           ⟨none, (some 6), .mov (.t 66)⟩])
         (.ret (m 67 64)))))))))
def F12 : XF := ⟨3, 67, [.tmp 6], F12B⟩
def M12 : List (List Bool) := [(m 67 64), (m 67 64), (m 67 64)]
def F13L0b : XC :=
 .seq
  (.seq
   (.reg [⟨none, (some 41), .mov (.t 7)⟩,
     ⟨none, (some 42), .mov (.t 3)⟩,
     ⟨none, (some 43), .bin .leq (.t 41) (.t 42)⟩])
   (.cond (.t 43)
    (.skip)
    (.exit 0 (m 119 89))))
  (.seq
   (.block 1 (m 119 217)
    (.seq
     (.reg [⟨none, (some 47), .mov (.t 0)⟩,
       ⟨none, (some 48), .mov (.t 7)⟩,
       ⟨none, (some 49), .call 1 44 [.t 47, .t 48]⟩,
       ⟨none, (some 46), .mov (.t 49)⟩,
       ⟨none, (some 50), .ext (.t 46) 0⟩,
       ⟨none, (some 51), .ext (.t 46) 1⟩,
       ⟨none, (some 8), .mov (.t 50)⟩,
       ⟨none, (some 9), .mov (.t 51)⟩])
     (.seq
      (.seq
       (.reg [⟨none, (some 52), .mov (.t 9)⟩,
         ⟨none, (some 53), .bin .neq (.t 52) (.c (.int .i64 (0)))⟩])
       (.cond (.t 53)
        (.seq
         (.reg [⟨none, (some 2), .mov (.c (.bool false))⟩])
         (.ret (m 119 4)))
        (.skip)))
      (.reg [⟨none, (some 54), .mov (.t 6)⟩,
        ⟨none, (some 55), .mov (.t 7)⟩,
        ⟨none, (some 56), .mov (.t 8)⟩,
        ⟨none, (some 57), .indexA 1 (.t 54) (.t 55)⟩,
        ⟨none, none, .store 1 (.t 57) (.t 56)⟩]))))
   (.reg [⟨none, (some 44), .mov (.t 7)⟩,
     ⟨none, (some 45), .bin .add (.t 44) (.c (.int .i64 (1)))⟩,
     ⟨none, (some 7), .mov (.t 45)⟩]))
def F13L0 : XC := .loop (m 119 217) F13L0b
def F13L1b : XC :=
 .seq
  (.seq
   (.reg [⟨none, (some 76), .mov (.t 12)⟩,
     ⟨none, (some 77), .mov (.t 10)⟩,
     ⟨none, (some 78), .bin .lss (.t 76) (.t 77)⟩])
   (.cond (.t 78)
    (.skip)
    (.exit 4 (m 119 3161))))
  (.seq
   (.block 5 (m 119 7257)
    (.reg [⟨none, (some 81), .mov (.t 11)⟩,
      ⟨none, (some 82), .mov (.t 4)⟩,
      ⟨none, (some 83), .mov (.t 3)⟩,
      ⟨none, (some 84), .mov (.t 12)⟩,
      ⟨none, (some 85), .bin .sub (.t 83) (.t 84)⟩,
      ⟨none, (some 86), .indexA 1 (.t 82) (.t 85)⟩,
      ⟨none, (some 87), .load none (.t 86)⟩,
      ⟨none, (some 88), .mov (.t 6)⟩,
      ⟨none, (some 89), .mov (.t 10)⟩,
      ⟨none, (some 90), .mov (.t 12)⟩,
      ⟨none, (some 91), .bin .sub (.t 89) (.t 90)⟩,
      ⟨none, (some 92), .indexA 1 (.t 88) (.t 91)⟩,
      ⟨none, (some 93), .load none (.t 92)⟩,
      ⟨none, (some 94), .bin .mul (.t 87) (.t 93)⟩,
      ⟨none, (some 95), .bin .add (.t 81) (.t 94)⟩,
      ⟨none, (some 11), .mov (.t 95)⟩]))
   (.reg [⟨none, (some 79), .mov (.t 12)⟩,
     ⟨none, (some 80), .bin .add (.t 79) (.c (.int .i64 (1)))⟩,
     ⟨none, (some 12), .mov (.t 80)⟩]))
def F13L1 : XC := .loop (m 119 7257) F13L1b
def F13T0 : XC :=
 .seq
  (.reg [⟨none, (some 96), .mov (.t 11)⟩,
    ⟨none, (some 97), .bin .neq (.t 96) (.c (.int .i64 (0)))⟩])
  (.cond (.t 97)
   (.seq
    (.reg [⟨none, (some 2), .mov (.c (.bool false))⟩])
    (.ret (m 119 4)))
   (.skip))
def F13T1 : XC :=
 .reg [⟨none, (some 61), .mov (.t 10)⟩,
   ⟨none, (some 62), .bin .add (.t 61) (.c (.int .i64 (1)))⟩,
   ⟨none, (some 10), .mov (.t 62)⟩]
def F13L2b : XC :=
 .seq
  (.seq
   (.reg [⟨none, (some 58), .mov (.t 10)⟩,
     ⟨none, (some 59), .mov (.t 3)⟩,
     ⟨none, (some 60), .bin .leq (.t 58) (.t 59)⟩])
   (.cond (.t 60)
    (.skip)
    (.exit 2 (m 119 73))))
  (.seq
   (.block 3 (m 119 1113)
    (.seq
     (.reg [⟨none, (some 63), .mov (.t 6)⟩,
       ⟨none, (some 64), .mov (.t 10)⟩,
       ⟨none, (some 65), .indexA 1 (.t 63) (.t 64)⟩,
       ⟨none, (some 66), .load none (.t 65)⟩,
       ⟨none, (some 67), .mov (.t 10)⟩,
       ⟨none, (some 68), .mov (.t 4)⟩,
       ⟨none, (some 69), .mov (.t 3)⟩,
       ⟨none, (some 70), .mov (.t 10)⟩,
       ⟨none, (some 71), .bin .sub (.t 69) (.t 70)⟩,
       ⟨none, (some 72), .indexA 1 (.t 68) (.t 71)⟩,
       ⟨none, (some 73), .load none (.t 72)⟩,
       ⟨none, (some 74), .bin .mul (.t 67) (.t 73)⟩,
       ⟨none, (some 75), .bin .add (.t 66) (.t 74)⟩,
       ⟨none, (some 11), .mov (.t 75)⟩])
     (.seq
      (.seq
       (.reg [⟨none, (some 12), .mov (.c (.int .i64 (1)))⟩])
       (.block 4 (m 119 3161)
        (F13L1)))
      F13T0)))
   F13T1)
def F13L2 : XC := .loop (m 119 1113) F13L2b
def F13T2 : XC :=
 .seq
  (.reg [⟨none, (some 98), .mov (.t 6)⟩,
    ⟨none, (some 99), .indexA 1 (.t 98) (.c (.int .i64 (0)))⟩,
    ⟨none, (some 100), .load none (.t 99)⟩,
    ⟨none, (some 101), .mov (.t 3)⟩,
    ⟨none, (some 102), .bin .eql (.t 100) (.t 101)⟩,
    ⟨none, (some 103), .mov (.t 102)⟩,
    ⟨(some (103, true)), (some 104), .mov (.t 3)⟩,
    ⟨(some (103, true)), (some 105), .bin .lss (.t 104) (.c (.int .i64 (2)))⟩,
    ⟨(some (103, true)), (some 106), .mov (.t 105)⟩,
    ⟨(some (106, false)), (some 107), .mov (.t 6)⟩,
    ⟨(some (106, false)), (some 108), .indexA 1 (.t 107) (.c (.int .i64 (2)))⟩,
    ⟨(some (106, false)), (some 109), .load none (.t 108)⟩,
    ⟨(some (106, false)), (some 110), .mov (.t 0)⟩,
    ⟨(some (106, false)), (some 111), .call 1 32 [.t 110]⟩,
    ⟨(some (106, false)), (some 112), .bin .mul (.c (.int .i64 (2))) (.t 111)⟩,
    ⟨(some (106, false)), (some 113), .bin .eql (.t 109) (.t 112)⟩,
    ⟨(some (103, true)), (some 114), .pick (.t 106) (.c (.bool true)) (.t 113)⟩,
    ⟨none, (some 115), .pick (.t 103) (.t 114) (.c (.bool false))⟩,
    ⟨none, (some 116), .mov (.t 115)⟩,
    ⟨(some (116, true)), (some 117), .call 1 17 []⟩,
    ⟨none, (some 118), .pick (.t 116) (.t 117) (.c (.bool false))⟩,
    ⟨none, (some 2), .mov (.t 118)⟩])
  (.ret (m 119 4))
def F13T3 : XC :=
 .seq
  (.seq
   (.reg [⟨none, (some 10), .mov (.c (.int .i64 (1)))⟩])
   (.block 2 (m 119 73)
    (F13L2)))
  F13T2
def F13B : XC :=
 .seq
  (.reg [⟨none, (some 2), .mov (.c (.bool false))⟩])
  (.seq
   (.seq
    (.reg [⟨none, (some 13), .mov (.t 0)⟩,
      ⟨none, (some 14), .call 1 16 [.t 13, .c (.nils)]⟩,
      ⟨none, (some 15), .un .not (.t 14)⟩,
      ⟨none, (some 16), .mov (.t 15)⟩,
      ⟨(some (16, false)), (some 17), .mov (.t 0)⟩,
      ⟨(some (16, false)), (some 18), .call 1 20 [.t 17]⟩,
      ⟨(some (16, false)), (some 19), .un .not (.t 18)⟩,
      ⟨none, (some 20), .pick (.t 16) (.c (.bool true)) (.t 19)⟩])
    (.cond (.t 20)
     (.seq
      (.reg [⟨none, (some 21), .call 1 17 []⟩,
        ⟨none, (some 2), .mov (.t 21)⟩])
      (.ret (m 119 4)))
     (.skip)))
   (.seq
    (.reg [⟨none, (some 22), .mov (.t 0)⟩,
      ⟨none, (some 23), .len (.t 22)⟩,
      ⟨none, (some 3), .mov (.t 23)⟩])
    (.seq
     (.reg [⟨none, (some 25), .mov (.t 0)⟩,
       ⟨none, (some 26), .call 1 21 [.t 25]⟩,
       ⟨none, (some 24), .mov (.t 26)⟩,
       ⟨none, (some 27), .ext (.t 24) 0⟩,
       ⟨none, (some 28), .ext (.t 24) 1⟩,
       ⟨none, (some 4), .mov (.t 27)⟩,
       ⟨none, (some 5), .mov (.t 28)⟩])
     (.seq
      (.seq
       (.reg [⟨none, (some 29), .mov (.t 5)⟩,
         ⟨none, (some 30), .bin .neq (.t 29) (.c (.int .i64 (0)))⟩,
         ⟨none, (some 31), .mov (.t 30)⟩,
         ⟨(some (31, false)), (some 32), .mov (.t 4)⟩,
         ⟨(some (31, false)), (some 33), .len (.t 32)⟩,
         ⟨(some (31, false)), (some 34), .mov (.t 3)⟩,
         ⟨(some (31, false)), (some 35), .bin .add (.t 34) (.c (.int .i64 (1)))⟩,
         ⟨(some (31, false)), (some 36), .bin .neq (.t 33) (.t 35)⟩,
         ⟨none, (some 37), .pick (.t 31) (.c (.bool true)) (.t 36)⟩])
       (.cond (.t 37)
        (.seq
         (.reg [⟨none, (some 2), .mov (.c (.bool false))⟩])
         (.ret (m 119 4)))
        (.skip)))
      (.seq
       (.reg [⟨none, (some 38), .mov (.t 3)⟩,
         ⟨none, (some 39), .bin .add (.t 38) (.c (.int .i64 (1)))⟩,
         ⟨none, (some 40), .mks 1 8 [.int .i64 (0)] (.t 39) (.t 39)⟩,
         ⟨none, (some 6), .mov (.t 40)⟩])
       (.seq
        (.seq
         (.reg [⟨none, (some 7), .mov (.c (.int .i64 (0)))⟩])
         (.block 0 (m 119 89)
          (F13L0)))
        F13T3))))))
def F13 : XF := ⟨1, 119, [.tmp 2], F13B⟩
def M13 : List (List Bool) := [(m 119 4), (m 119 4), (m 119 89), (m 119 217), (m 119 89), (m 119 217), (m 119 4), (m 119 73), (m 119 1113), (m 119 73), (m 119 1113), (m 119 3161), (m 119 7257), (m 119 3161), (m 119 7257), (m 119 4), (m 119 4)]
def F14L0b : XC :=
 .seq
  (.seq
   (.reg [⟨none, (some 37), .mov (.t 8)⟩,
     ⟨none, (some 38), .mov (.t 1)⟩,
     ⟨none, (some 39), .len (.t 38)⟩,
     ⟨none, (some 40), .bin .lss (.t 37) (.t 39)⟩])
   (.cond (.t 40)
    (.skip)
    (.exit 0 (m 157 7))))
  (.seq
   (.block 1 (m 157 391)
    (.seq
     (.seq
      (.reg [⟨none, (some 43), .mov (.t 1)⟩,
        ⟨none, (some 44), .mov (.t 8)⟩,
        ⟨none, (some 45), .indexA 1 (.t 43) (.t 44)⟩,
        ⟨none, (some 46), .load none (.t 45)⟩,
        ⟨none, (some 47), .bin .lss (.t 46) (.c (.int .i64 (0)))⟩,
        ⟨none, (some 48), .mov (.t 47)⟩,
        ⟨(some (48, false)), (some 49), .mov (.t 1)⟩,
        ⟨(some (48, false)), (some 50), .mov (.t 8)⟩,
        ⟨(some (48, false)), (some 51), .indexA 1 (.t 49) (.t 50)⟩,
        ⟨(some (48, false)), (some 52), .load none (.t 51)⟩,
        ⟨(some (48, false)), (some 53), .mov (.t 0)⟩,
        ⟨(some (48, false)), (some 54), .len (.t 53)⟩,
        ⟨(some (48, false)), (some 55), .bin .geq (.t 52) (.t 54)⟩,
        ⟨none, (some 56), .pick (.t 48) (.c (.bool true)) (.t 55)⟩,
        ⟨none, (some 57), .mov (.t 56)⟩,
        ⟨(some (57, false)), (some 58), .mov (.t 7)⟩,
        ⟨(some (57, false)), (some 59), .mov (.t 1)⟩,
        ⟨(some (57, false)), (some 60), .mov (.t 8)⟩,
        ⟨(some (57, false)), (some 61), .indexA 1 (.t 59) (.t 60)⟩,
        ⟨(some (57, false)), (some 62), .load none (.t 61)⟩,
        ⟨(some (57, false)), (some 63), .bin .shr (.t 58) (.t 62)⟩,
        ⟨(some (57, false)), (some 64), .bin .rem (.t 63) (.c (.int .i64 (2)))⟩,
        ⟨(some (57, false)), (some 65), .bin .eql (.t 64) (.c (.int .i64 (1)))⟩,
        ⟨none, (some 66), .pick (.t 57) (.c (.bool true)) (.t 65)⟩])
      (.cond (.t 66)
       (.seq
        (.reg [⟨none, (some 67), .call 1 17 []⟩,
          ⟨none, (some 6), .mov (.t 67)⟩])
        (.ret (m 157 64)))
       (.skip)))
     (.reg [⟨none, (some 68), .mov (.t 7)⟩,
       ⟨none, (some 69), .mov (.t 1)⟩,
       ⟨none, (some 70), .mov (.t 8)⟩,
       ⟨none, (some 71), .indexA 1 (.t 69) (.t 70)⟩,
       ⟨none, (some 72), .load none (.t 71)⟩,
       ⟨none, (some 73), .bin .shl (.c (.int .i64 (1))) (.t 72)⟩,
       ⟨none, (some 74), .bin .add (.t 68) (.t 73)⟩,
       ⟨none, (some 7), .mov (.t 74)⟩])))
   (.reg [⟨none, (some 41), .mov (.t 8)⟩,
     ⟨none, (some 42), .bin .add (.t 41) (.c (.int .i64 (1)))⟩,
     ⟨none, (some 8), .mov (.t 42)⟩]))
def F14L0 : XC := .loop (m 157 391) F14L0b
def F14L1b : XC :=
 .seq
  (.seq
   (.reg [⟨none, (some 84), .mov (.t 11)⟩,
     ⟨none, (some 85), .mov (.t 0)⟩,
     ⟨none, (some 86), .len (.t 85)⟩,
     ⟨none, (some 87), .bin .lss (.t 84) (.t 86)⟩])
   (.cond (.t 87)
    (.skip)
    (.exit 4 (m 157 1543))))
  (.seq
   (.block 5 (m 157 3591)
    (.reg [⟨none, (some 90), .mov (.t 9)⟩,
      ⟨none, (some 91), .mov (.t 1)⟩,
      ⟨none, (some 92), .mov (.t 10)⟩,
      ⟨none, (some 93), .indexA 1 (.t 91) (.t 92)⟩,
      ⟨none, (some 94), .load none (.t 93)⟩,
      ⟨none, (some 95), .indexA 1 (.t 90) (.t 94)⟩,
      ⟨none, (some 96), .load none (.t 95)⟩,
      ⟨none, (some 97), .mov (.t 0)⟩,
      ⟨none, (some 98), .mov (.t 10)⟩,
      ⟨none, (some 99), .indexA 1 (.t 97) (.t 98)⟩,
      ⟨none, (some 100), .load none (.t 99)⟩,
      ⟨none, (some 101), .mov (.t 11)⟩,
      ⟨none, (some 102), .bin .shr (.t 100) (.t 101)⟩,
      ⟨none, (some 103), .bin .rem (.t 102) (.c (.int .i64 (2)))⟩,
      ⟨none, (some 104), .mov (.t 1)⟩,
      ⟨none, (some 105), .mov (.t 11)⟩,
      ⟨none, (some 106), .indexA 1 (.t 104) (.t 105)⟩,
      ⟨none, (some 107), .load none (.t 106)⟩,
      ⟨none, (some 108), .bin .shl (.t 103) (.t 107)⟩,
      ⟨none, (some 109), .bin .add (.t 96) (.t 108)⟩,
      ⟨none, (some 110), .indexA 1 (.t 90) (.t 94)⟩,
      ⟨none, none, .store 1 (.t 110) (.t 109)⟩]))
   (.reg [⟨none, (some 88), .mov (.t 11)⟩,
     ⟨none, (some 89), .bin .add (.t 88) (.c (.int .i64 (1)))⟩,
     ⟨none, (some 11), .mov (.t 89)⟩]))
def F14L1 : XC := .loop (m 157 3591) F14L1b
def F14T0 : XC :=
 .reg [⟨none, (some 82), .mov (.t 10)⟩,
   ⟨none, (some 83), .bin .add (.t 82) (.c (.int .i64 (1)))⟩,
   ⟨none, (some 10), .mov (.t 83)⟩]
def F14L2b : XC :=
 .seq
  (.seq
   (.reg [⟨none, (some 78), .mov (.t 10)⟩,
     ⟨none, (some 79), .mov (.t 0)⟩,
     ⟨none, (some 80), .len (.t 79)⟩,
     ⟨none, (some 81), .bin .lss (.t 78) (.t 80)⟩])
   (.cond (.t 81)
    (.skip)
    (.exit 2 (m 157 517))))
  (.seq
   (.block 3 (m 157 1543)
    (.seq
     (.reg [⟨none, (some 11), .mov (.c (.int .i64 (0)))⟩])
     (.block 4 (m 157 1543)
      (F14L1))))
   F14T0)
def F14L2 : XC := .loop (m 157 1543) F14L2b
def F14T1 : XC :=
 .seq
  (.reg [⟨none, (some 112), .mov (.t 0)⟩,
    ⟨none, (some 113), .mov (.t 9)⟩,
    ⟨none, (some 114), .call 1 18 [.t 112, .t 113]⟩,
    ⟨none, (some 111), .mov (.t 114)⟩,
    ⟨none, (some 115), .ext (.t 111) 0⟩,
    ⟨none, (some 116), .ext (.t 111) 1⟩,
    ⟨none, (some 117), .ext (.t 111) 2⟩,
    ⟨none, (some 12), .mov (.t 115)⟩,
    ⟨none, (some 13), .mov (.t 116)⟩,
    ⟨none, (some 14), .mov (.t 117)⟩])
  (.seq
   (.reg [⟨none, (some 118), .mov (.t 2)⟩,
     ⟨none, (some 119), .conv .i64 (.t 118)⟩,
     ⟨none, (some 120), .bin .rem (.t 119) (.c (.int .i64 (17)))⟩,
     ⟨none, (some 15), .mov (.t 120)⟩])
   (.seq
    (.reg [⟨none, (some 122), .mov (.t 0)⟩,
      ⟨none, (some 123), .mov (.t 15)⟩,
      ⟨none, (some 124), .call 1 44 [.t 122, .t 123]⟩,
      ⟨none, (some 121), .mov (.t 124)⟩,
      ⟨none, (some 125), .ext (.t 121) 0⟩,
      ⟨none, (some 126), .ext (.t 121) 1⟩,
      ⟨none, (some 16), .mov (.t 125)⟩,
      ⟨none, (some 17), .mov (.t 126)⟩])
    (.seq
     (.reg [⟨none, (some 128), .mov (.t 9)⟩,
       ⟨none, (some 129), .mov (.t 15)⟩,
       ⟨none, (some 130), .call 1 44 [.t 128, .t 129]⟩,
       ⟨none, (some 127), .mov (.t 130)⟩,
       ⟨none, (some 131), .ext (.t 127) 0⟩,
       ⟨none, (some 132), .ext (.t 127) 1⟩,
       ⟨none, (some 18), .mov (.t 131)⟩,
       ⟨none, (some 19), .mov (.t 132)⟩])
     (.seq
      (.reg [⟨none, (some 133), .mov (.t 14)⟩,
        ⟨none, (some 134), .bin .eql (.t 133) (.c (.int .i64 (0)))⟩,
        ⟨none, (some 135), .mov (.t 134)⟩,
        ⟨(some (135, true)), (some 136), .mov (.t 17)⟩,
        ⟨(some (135, true)), (some 137), .bin .eql (.t 136) (.c (.int .i64 (0)))⟩,
        ⟨none, (some 138), .pick (.t 135) (.t 137) (.c (.bool false))⟩,
        ⟨none, (some 139), .mov (.t 138)⟩,
        ⟨(some (139, true)), (some 140), .mov (.t 19)⟩,
        ⟨(some (139, true)), (some 141), .bin .eql (.t 140) (.c (.int .i64 (0)))⟩,
        ⟨none, (some 142), .pick (.t 139) (.t 141) (.c (.bool false))⟩,
        ⟨none, (some 143), .mov (.t 142)⟩,
        ⟨(some (143, true)), (some 144), .mov (.t 12)⟩,
        ⟨none, (some 145), .pick (.t 143) (.t 144) (.c (.bool false))⟩,
        ⟨none, (some 146), .mov (.t 145)⟩,
        ⟨(some (146, true)), (some 147), .mov (.t 13)⟩,
        ⟨none, (some 148), .pick (.t 146) (.t 147) (.c (.bool false))⟩,
        ⟨none, (some 149), .mov (.t 148)⟩,
        ⟨(some (149, true)), (some 150), .mov (.t 16)⟩,
        ⟨(some (149, true)), (some 151), .mov (.t 18)⟩,
        ⟨(some (149, true)), (some 152), .bin .eql (.t 150) (.t 151)⟩,
        ⟨none, (some 153), .pick (.t 149) (.t 152) (.c (.bool false))⟩,
        ⟨none, (some 154), .mov (.t 153)⟩,
        ⟨(some (154, true)), (some 155), .call 1 17 []⟩,
        ⟨none, (some 156), .pick (.t 154) (.t 155) (.c (.bool false))⟩,
        ⟨none, (some 6), .mov (.t 156)⟩])
      (.ret (m 157 64))))))
def F14T2 : XC :=
 .seq
  (.reg [⟨none, (some 75), .mov (.t 0)⟩,
    ⟨none, (some 76), .len (.t 75)⟩,
    ⟨none, (some 77), .mks 1 8 [.int .i64 (0)] (.t 76) (.t 76)⟩,
    ⟨none, (some 9), .mov (.t 77)⟩])
  (.seq
   (.seq
    (.reg [⟨none, (some 10), .mov (.c (.int .i64 (0)))⟩])
    (.block 2 (m 157 517)
     (F14L2)))
   F14T1)
def F14B : XC :=
 .seq
  (.reg [⟨none, (some 6), .mov (.c (.bool false))⟩])
  (.seq
   (.seq
    (.reg [⟨none, (some 20), .mov (.t 0)⟩,
      ⟨none, (some 21), .mov (.t 1)⟩,
      ⟨none, (some 22), .call 1 16 [.t 20, .t 21]⟩,
      ⟨none, (some 23), .un .not (.t 22)⟩,
      ⟨none, (some 24), .mov (.t 23)⟩,
      ⟨(some (24, false)), (some 25), .mov (.t 0)⟩,
      ⟨(some (24, false)), (some 26), .call 1 20 [.t 25]⟩,
      ⟨(some (24, false)), (some 27), .un .not (.t 26)⟩,
      ⟨none, (some 28), .pick (.t 24) (.c (.bool true)) (.t 27)⟩,
      ⟨none, (some 29), .mov (.t 28)⟩,
      ⟨(some (29, false)), (some 30), .mov (.t 1)⟩,
      ⟨(some (29, false)), (some 31), .len (.t 30)⟩,
      ⟨(some (29, false)), (some 32), .mov (.t 0)⟩,
      ⟨(some (29, false)), (some 33), .len (.t 32)⟩,
      ⟨(some (29, false)), (some 34), .bin .neq (.t 31) (.t 33)⟩,
      ⟨none, (some 35), .pick (.t 29) (.c (.bool true)) (.t 34)⟩])
    (.cond (.t 35)
     (.seq
      (.reg [⟨none, (some 36), .call 1 17 []⟩,
        ⟨none, (some 6), .mov (.t 36)⟩])
      (.ret (m 157 64)))
     (.skip)))
   (.seq
    (.reg [⟨none, (some 7), .mov (.c (.int .i64 (0)))⟩])
    (.seq
     (.seq
      (.reg [⟨none, (some 8), .mov (.c (.int .i64 (0)))⟩])
      (.block 0 (m 157 7)
       (F14L0)))
     F14T2)))
def F14 : XF := ⟨3, 157, [.tmp 6], F14B⟩
def M14 : List (List Bool) := [(m 157 64), (m 157 7), (m 157 391), (m 157 7), (m 157 391), (m 157 64), (m 157 517), (m 157 1543), (m 157 517), (m 157 1543), (m 157 1543), (m 157 3591), (m 157 1543), (m 157 3591), (m 157 64)]
def F15B : XC :=
 .seq
  (.reg [⟨none, (some 6), .mov (.c (.bool false))⟩])
  (.seq
   (.seq
    (.reg [⟨none, (some 14), .mov (.t 0)⟩,
      ⟨none, (some 15), .call 1 16 [.t 14, .c (.nils)]⟩,
      ⟨none, (some 16), .un .not (.t 15)⟩])
    (.cond (.t 16)
     (.seq
      (.reg [⟨none, (some 17), .call 1 17 []⟩,
        ⟨none, (some 6), .mov (.t 17)⟩])
      (.ret (m 91 64)))
     (.skip)))
   (.seq
    (.reg [⟨none, (some 18), .bslice 1 0 [.int .i64 (0)] []⟩,
      ⟨none, (some 19), .mov (.t 0)⟩,
      ⟨none, (some 20), .app 1 8 (.t 18) (.t 19)⟩,
      ⟨none, (some 7), .mov (.t 20)⟩])
    (.seq
     (.reg [⟨none, (some 22), .mov (.t 7)⟩,
       ⟨none, (some 23), .mov (.t 1)⟩,
       ⟨none, (some 24), .call 1 38 [.t 22, .t 23]⟩,
       ⟨none, (some 21), .mov (.t 24)⟩,
       ⟨none, (some 25), .ext (.t 21) 0⟩,
       ⟨none, (some 26), .ext (.t 21) 1⟩,
       ⟨none, (some 8), .mov (.t 25)⟩,
       ⟨none, (some 9), .mov (.t 26)⟩])
     (.seq
      (.reg [⟨none, (some 28), .mov (.t 0)⟩,
        ⟨none, (some 29), .mov (.t 1)⟩,
        ⟨none, (some 30), .call 1 46 [.t 28, .t 29]⟩,
        ⟨none, (some 27), .mov (.t 30)⟩,
        ⟨none, (some 31), .ext (.t 27) 0⟩,
        ⟨none, (some 32), .ext (.t 27) 1⟩,
        ⟨none, (some 10), .mov (.t 31)⟩,
        ⟨none, (some 11), .mov (.t 32)⟩])
      (.seq
       (.seq
        (.reg [⟨none, (some 33), .mov (.t 8)⟩,
          ⟨none, (some 34), .mov (.t 10)⟩,
          ⟨none, (some 35), .call 1 29 [.t 33, .t 34]⟩,
          ⟨none, (some 36), .un .not (.t 35)⟩,
          ⟨none, (some 37), .mov (.t 36)⟩,
          ⟨(some (37, false)), (some 38), .mov (.t 9)⟩,
          ⟨(some (37, false)), (some 39), .mov (.t 11)⟩,
          ⟨(some (37, false)), (some 40), .bin .neq (.t 38) (.t 39)⟩,
          ⟨none, (some 41), .pick (.t 37) (.c (.bool true)) (.t 40)⟩])
        (.cond (.t 41)
         (.seq
          (.reg [⟨none, (some 6), .mov (.c (.bool false))⟩])
          (.ret (m 91 64)))
         (.skip)))
       (.seq
        (.reg [⟨none, (some 43), .mov (.t 7)⟩,
          ⟨none, (some 44), .mov (.t 1)⟩,
          ⟨none, (some 45), .mov (.t 2)⟩,
          ⟨none, (some 46), .call 1 31 [.t 43, .t 44, .t 45]⟩,
          ⟨none, (some 42), .mov (.t 46)⟩,
          ⟨none, (some 47), .ext (.t 42) 0⟩,
          ⟨none, (some 48), .ext (.t 42) 1⟩,
          ⟨none, (some 8), .mov (.t 47)⟩,
          ⟨none, (some 9), .mov (.t 48)⟩])
        (.seq
         (.reg [⟨none, (some 50), .mov (.t 0)⟩,
           ⟨none, (some 51), .mov (.t 1)⟩,
           ⟨none, (some 52), .mov (.t 2)⟩,
           ⟨none, (some 53), .call 1 47 [.t 50, .t 51, .t 52]⟩,
           ⟨none, (some 49), .mov (.t 53)⟩,
           ⟨none, (some 54), .ext (.t 49) 0⟩,
           ⟨none, (some 55), .ext (.t 49) 1⟩,
           ⟨none, (some 10), .mov (.t 54)⟩,
           ⟨none, (some 11), .mov (.t 55)⟩])
         (.seq
          (.seq
           (.reg [⟨none, (some 56), .mov (.t 8)⟩,
             ⟨none, (some 57), .mov (.t 10)⟩,
             ⟨none, (some 58), .call 1 29 [.t 56, .t 57]⟩,
             ⟨none, (some 59), .un .not (.t 58)⟩,
             ⟨none, (some 60), .mov (.t 59)⟩,
             ⟨(some (60, false)), (some 61), .mov (.t 9)⟩,
             ⟨(some (60, false)), (some 62), .mov (.t 11)⟩,
             ⟨(some (60, false)), (some 63), .bin .neq (.t 61) (.t 62)⟩,
             ⟨none, (some 64), .pick (.t 60) (.c (.bool true)) (.t 63)⟩])
           (.cond (.t 64)
            (.seq
             (.reg [⟨none, (some 6), .mov (.c (.bool false))⟩])
             (.ret (m 91 64)))
            (.skip)))
          (.seq
           (.reg [⟨none, (some 66), .mov (.t 7)⟩,
             ⟨none, (some 67), .call 1 41 [.t 66]⟩,
             ⟨none, (some 65), .mov (.t 67)⟩,
             ⟨none, (some 68), .ext (.t 65) 0⟩,
             ⟨none, (some 69), .ext (.t 65) 1⟩,
             ⟨none, (some 12), .mov (.t 68)⟩,
             ⟨none, (some 9), .mov (.t 69)⟩])
           (.seq
            (.reg [⟨none, (some 71), .mov (.t 0)⟩,
              ⟨none, (some 72), .call 1 48 [.t 71]⟩,
              ⟨none, (some 70), .mov (.t 72)⟩,
              ⟨none, (some 73), .ext (.t 70) 0⟩,
              ⟨none, (some 74), .ext (.t 70) 1⟩,
              ⟨none, (some 13), .mov (.t 73)⟩,
              ⟨none, (some 11), .mov (.t 74)⟩])
            (.seq
             (.reg [⟨none, (some 75), .mov (.t 12)⟩,
               ⟨none, (some 76), .mov (.t 13)⟩,
               ⟨none, (some 77), .eqb false (.t 75) (.t 76)⟩,
               ⟨none, (some 78), .mov (.t 77)⟩,
               ⟨(some (78, true)), (some 79), .mov (.t 9)⟩,
               ⟨(some (78, true)), (some 80), .mov (.t 11)⟩,
               ⟨(some (78, true)), (some 81), .bin .eql (.t 79) (.t 80)⟩,
               ⟨none, (some 82), .pick (.t 78) (.t 81) (.c (.bool false))⟩,
               ⟨none, (some 83), .mov (.t 82)⟩,
               ⟨(some (83, true)), (some 84), .mov (.t 7)⟩,
               ⟨(some (83, true)), (some 85), .mov (.t 0)⟩,
               ⟨(some (83, true)), (some 86), .call 1 29 [.t 84, .t 85]⟩,
               ⟨none, (some 87), .pick (.t 83) (.t 86) (.c (.bool false))⟩,
               ⟨none, (some 88), .mov (.t 87)⟩,
               ⟨(some (88, true)), (some 89), .call 1 17 []⟩,
               ⟨none, (some 90), .pick (.t 88) (.t 89) (.c (.bool false))⟩,
               ⟨none, (some 6), .mov (.t 90)⟩])
             (.ret (m 91 64)))))))))))))
def F15 : XF := ⟨3, 91, [.tmp 6], F15B⟩
def M15 : List (List Bool) := [(m 91 64), (m 91 64), (m 91 64), (m 91 64)]
def F16B : XC :=
 .seq
  (.reg [⟨none, (some 4), .mov (.c (.bool false))⟩])
  (.seq
   (.reg [⟨none, (some 5), .mov (.t 0)⟩,
     ⟨none, (some 6), .len (.t 5)⟩,
     ⟨none, (some 7), .bin .leq (.t 6) (.c (.int .i64 (40)))⟩,
     ⟨none, (some 8), .mov (.t 7)⟩,
     ⟨(some (8, true)), (some 9), .mov (.t 1)⟩,
     ⟨(some (8, true)), (some 10), .len (.t 9)⟩,
     ⟨(some (8, true)), (some 11), .bin .leq (.t 10) (.c (.int .i64 (40)))⟩,
     ⟨none, (some 12), .pick (.t 8) (.t 11) (.c (.bool false))⟩,
     ⟨none, (some 4), .mov (.t 12)⟩])
   (.ret (m 13 16)))
def F16 : XF := ⟨2, 13, [.tmp 4], F16B⟩
def M16 : List (List Bool) := [(m 13 16)]
def F17B : XC :=
 .seq
  (.reg [⟨none, (some 0), .mov (.c (.bool false))⟩])
  (.seq
   (.reg [⟨none, (some 16), .bslice 1 3 [.int .i64 (0)] [(0, 1, .c (.int .i64 (6))), (1, 1, .c (.int .i64 (5))), (2, 1, .c (.int .i64 (3)))]⟩,
     ⟨none, (some 17), .call 1 21 [.t 16]⟩,
     ⟨none, (some 15), .mov (.t 17)⟩,
     ⟨none, (some 18), .ext (.t 15) 0⟩,
     ⟨none, (some 19), .ext (.t 15) 1⟩,
     ⟨none, (some 1), .mov (.t 18)⟩,
     ⟨none, (some 2), .mov (.t 19)⟩])
   (.seq
    (.reg [⟨none, (some 21), .bslice 1 3 [.int .i64 (0)] [(0, 1, .c (.int .i64 (6))), (1, 1, .c (.int .i64 (5))), (2, 1, .c (.int .i64 (3)))]⟩,
      ⟨none, (some 22), .call 1 23 [.t 21]⟩,
      ⟨none, (some 20), .mov (.t 22)⟩,
      ⟨none, (some 23), .ext (.t 20) 0⟩,
      ⟨none, (some 24), .ext (.t 20) 1⟩,
      ⟨none, (some 3), .mov (.t 23)⟩,
      ⟨none, (some 4), .mov (.t 24)⟩])
    (.seq
     (.reg [⟨none, (some 26), .call 1 49 []⟩,
       ⟨none, (some 27), .call 1 21 [.t 26]⟩,
       ⟨none, (some 25), .mov (.t 27)⟩,
       ⟨none, (some 28), .ext (.t 25) 0⟩,
       ⟨none, (some 29), .ext (.t 25) 1⟩,
       ⟨none, (some 5), .mov (.t 28)⟩,
       ⟨none, (some 6), .mov (.t 29)⟩])
     (.seq
      (.reg [⟨none, (some 31), .bslice 1 3 [.int .i64 (0)] [(0, 1, .c (.int .i64 (6))), (1, 1, .c (.int .i64 (5))), (2, 1, .c (.int .i64 (3)))]⟩,
        ⟨none, (some 32), .call 1 22 [.t 31, .c (.int .i64 (3))]⟩,
        ⟨none, (some 30), .mov (.t 32)⟩,
        ⟨none, (some 33), .ext (.t 30) 0⟩,
        ⟨none, (some 34), .ext (.t 30) 1⟩,
        ⟨none, (some 35), .ext (.t 30) 2⟩,
        ⟨none, (some 7), .mov (.t 33)⟩,
        ⟨none, (some 8), .mov (.t 34)⟩,
        ⟨none, (some 9), .mov (.t 35)⟩])
      (.seq
       (.reg [⟨none, (some 37), .bslice 1 3 [.int .i64 (0)] [(0, 1, .c (.int .i64 (-1))), (1, 1, .c (.int .i64 (0))), (2, 1, .c (.int .i64 (1)))]⟩,
         ⟨none, (some 38), .call 1 25 [.t 37, .c (.int .i64 (-1)), .c (.int .i64 (1))]⟩,
         ⟨none, (some 36), .mov (.t 38)⟩,
         ⟨none, (some 39), .ext (.t 36) 0⟩,
         ⟨none, (some 40), .ext (.t 36) 1⟩,
         ⟨none, (some 10), .mov (.t 39)⟩,
         ⟨none, (some 11), .mov (.t 40)⟩])
       (.seq
        (.reg [⟨none, (some 42), .call 1 49 []⟩,
          ⟨none, (some 43), .call 1 50 []⟩,
          ⟨none, (some 44), .call 1 18 [.t 42, .t 43]⟩,
          ⟨none, (some 41), .mov (.t 44)⟩,
          ⟨none, (some 45), .ext (.t 41) 0⟩,
          ⟨none, (some 46), .ext (.t 41) 1⟩,
          ⟨none, (some 47), .ext (.t 41) 2⟩,
          ⟨none, (some 12), .mov (.t 45)⟩,
          ⟨none, (some 13), .mov (.t 46)⟩,
          ⟨none, (some 14), .mov (.t 47)⟩])
        (.seq
         (.reg [⟨none, (some 48), .mov (.t 2)⟩,
           ⟨none, (some 49), .bin .eql (.t 48) (.c (.int .i64 (0)))⟩,
           ⟨none, (some 50), .mov (.t 49)⟩,
           ⟨(some (50, true)), (some 51), .mov (.t 1)⟩,
           ⟨(some (50, true)), (some 52), .bslice 1 4 [.int .i64 (0)] [(0, 1, .c (.int .i64 (-2))), (1, 1, .c (.int .i64 (-3))), (2, 1, .c (.int .i64 (0))), (3, 1, .c (.int .i64 (1)))]⟩,
           ⟨(some (50, true)), (some 53), .call 1 29 [.t 51, .t 52]⟩,
           ⟨none, (some 54), .pick (.t 50) (.t 53) (.c (.bool false))⟩,
           ⟨none, (some 55), .mov (.t 54)⟩,
           ⟨(some (55, true)), (some 56), .mov (.t 4)⟩,
           ⟨(some (55, true)), (some 57), .bin .eql (.t 56) (.c (.int .i64 (0)))⟩,
           ⟨none, (some 58), .pick (.t 55) (.t 57) (.c (.bool false))⟩,
           ⟨none, (some 59), .mov (.t 58)⟩,
           ⟨(some (59, true)), (some 60), .mov (.t 3)⟩,
           ⟨(some (59, true)), (some 61), .bslice 1 4 [.int .i64 (0)] [(0, 1, .c (.int .i64 (0))), (1, 1, .c (.int .i64 (-3))), (2, 1, .c (.int .i64 (0))), (3, 1, .c (.int .i64 (1)))]⟩,
           ⟨(some (59, true)), (some 62), .call 1 29 [.t 60, .t 61]⟩,
           ⟨none, (some 63), .pick (.t 59) (.t 62) (.c (.bool false))⟩,
           ⟨none, (some 64), .mov (.t 63)⟩,
           ⟨(some (64, true)), (some 65), .mov (.t 6)⟩,
           ⟨(some (64, true)), (some 66), .bin .eql (.t 65) (.c (.int .i64 (0)))⟩,
           ⟨none, (some 67), .pick (.t 64) (.t 66) (.c (.bool false))⟩,
           ⟨none, (some 68), .mov (.t 67)⟩,
           ⟨(some (68, true)), (some 69), .mov (.t 5)⟩,
           ⟨(some (68, true)), (some 70), .bslice 1 6 [.int .i64 (0)] [(0, 1, .c (.int .i64 (0))), (1, 1, .c (.int .i64 (0))), (2, 1, .c (.int .i64 (0))), (3, 1, .c (.int .i64 (-4))), (4, 1, .c (.int .i64 (0))), (5, 1, .c (.int .i64 (1)))]⟩,
           ⟨(some (68, true)), (some 71), .call 1 29 [.t 69, .t 70]⟩,
           ⟨none, (some 72), .pick (.t 68) (.t 71) (.c (.bool false))⟩,
           ⟨none, (some 73), .mov (.t 72)⟩,
           ⟨(some (73, true)), (some 74), .mov (.t 9)⟩,
           ⟨(some (73, true)), (some 75), .bin .eql (.t 74) (.c (.int .i64 (0)))⟩,
           ⟨none, (some 76), .pick (.t 73) (.t 75) (.c (.bool false))⟩,
           ⟨none, (some 77), .mov (.t 76)⟩,
           ⟨(some (77, true)), (some 78), .mov (.t 7)⟩,
           ⟨(some (77, true)), (some 79), .bin .eql (.t 78) (.c (.int .i64 (-2)))⟩,
           ⟨none, (some 80), .pick (.t 77) (.t 79) (.c (.bool false))⟩,
           ⟨none, (some 81), .mov (.t 80)⟩,
           ⟨(some (81, true)), (some 82), .mov (.t 8)⟩,
           ⟨(some (81, true)), (some 83), .bin .eql (.t 82) (.c (.int .i64 (1)))⟩,
           ⟨none, (some 84), .pick (.t 81) (.t 83) (.c (.bool false))⟩,
           ⟨none, (some 85), .mov (.t 84)⟩,
           ⟨(some (85, true)), (some 86), .mov (.t 11)⟩,
           ⟨(some (85, true)), (some 87), .bin .eql (.t 86) (.c (.int .i64 (0)))⟩,
           ⟨none, (some 88), .pick (.t 85) (.t 87) (.c (.bool false))⟩,
           ⟨none, (some 89), .mov (.t 88)⟩,
           ⟨(some (89, true)), (some 90), .mov (.t 10)⟩,
           ⟨(some (89, true)), (some 91), .bin .eql (.t 90) (.c (.int .i64 (1)))⟩,
           ⟨none, (some 92), .pick (.t 89) (.t 91) (.c (.bool false))⟩,
           ⟨none, (some 93), .mov (.t 92)⟩,
           ⟨(some (93, true)), (some 94), .mov (.t 14)⟩,
           ⟨(some (93, true)), (some 95), .bin .eql (.t 94) (.c (.int .i64 (0)))⟩,
           ⟨none, (some 96), .pick (.t 93) (.t 95) (.c (.bool false))⟩,
           ⟨none, (some 97), .mov (.t 96)⟩,
           ⟨(some (97, true)), (some 98), .mov (.t 12)⟩,
           ⟨none, (some 99), .pick (.t 97) (.t 98) (.c (.bool false))⟩,
           ⟨none, (some 100), .mov (.t 99)⟩,
           ⟨(some (100, true)), (some 101), .mov (.t 13)⟩,
           ⟨(some (100, true)), (some 102), .un .not (.t 101)⟩,
           ⟨none, (some 103), .pick (.t 100) (.t 102) (.c (.bool false))⟩,
           ⟨none, (some 0), .mov (.t 103)⟩])
         (.ret (m 104 1)))))))))
def F17 : XF := ⟨0, 104, [.tmp 0], F17B⟩
def M17 : List (List Bool) := [(m 104 1)]
def F18B : XC :=
 .seq
  (.reg [⟨none, (some 4), .mov (.c (.bool false))⟩,
    ⟨none, (some 5), .mov (.c (.bool false))⟩,
    ⟨none, (some 6), .mov (.c (.int .i64 (0)))⟩])
  (.seq
   (.reg [⟨none, (some 13), .mov (.t 0)⟩,
     ⟨none, (some 14), .call 0 51 [.t 13]⟩,
     ⟨none, (some 12), .mov (.t 14)⟩,
     ⟨none, (some 15), .ext (.t 12) 0⟩,
     ⟨none, (some 16), .ext (.t 12) 1⟩,
     ⟨none, (some 7), .alloc [.nils]⟩,
     ⟨none, none, .store 1 (.t 7) (.t 15)⟩,
     ⟨none, (some 8), .mov (.t 16)⟩])
   (.seq
    (.reg [⟨none, (some 18), .mov (.t 1)⟩,
      ⟨none, (some 19), .call 0 51 [.t 18]⟩,
      ⟨none, (some 17), .mov (.t 19)⟩,
      ⟨none, (some 20), .ext (.t 17) 0⟩,
      ⟨none, (some 21), .ext (.t 17) 1⟩,
      ⟨none, (some 9), .alloc [.nils]⟩,
      ⟨none, none, .store 1 (.t 9) (.t 20)⟩,
      ⟨none, (some 10), .mov (.t 21)⟩])
    (.seq
     (.seq
      (.reg [⟨none, (some 22), .mov (.t 8)⟩,
        ⟨none, (some 23), .un .not (.t 22)⟩,
        ⟨none, (some 24), .mov (.t 23)⟩,
        ⟨(some (24, false)), (some 25), .mov (.t 10)⟩,
        ⟨(some (24, false)), (some 26), .un .not (.t 25)⟩,
        ⟨none, (some 27), .pick (.t 24) (.c (.bool true)) (.t 26)⟩])
      (.cond (.t 27)
       (.seq
        (.reg [⟨none, (some 4), .mov (.c (.bool false))⟩,
          ⟨none, (some 5), .mov (.c (.bool false))⟩,
          ⟨none, (some 6), .mov (.c (.int .i64 (2)))⟩])
        (.ret (m 35 112)))
       (.skip)))
     (.seq
      (.reg [⟨none, (some 28), .mkf 52 [.t 7, .t 9]⟩,
        ⟨none, (some 11), .mov (.t 28)⟩])
      (.seq
       (.reg [⟨none, (some 29), .mov (.t 11)⟩,
         ⟨none, (some 30), .load (some 2) (.c (.cptr false [.fn 139 [], .fn 140 []]))⟩,
         ⟨none, (some 31), .calld 1 (.t 29) [.t 30]⟩,
         ⟨none, (some 32), .mov (.t 11)⟩,
         ⟨none, (some 33), .load (some 2) (.c (.cptr false [.fn 141 [], .fn 142 []]))⟩,
         ⟨none, (some 34), .calld 1 (.t 32) [.t 33]⟩,
         ⟨none, (some 4), .mov (.t 31)⟩,
         ⟨none, (some 5), .mov (.t 34)⟩,
         ⟨none, (some 6), .mov (.c (.int .i64 (0)))⟩])
       (.ret (m 35 112)))))))
def F18 : XF := ⟨2, 35, [.tmp 4, .tmp 5, .tmp 6], F18B⟩
def M18 : List (List Bool) := [(m 35 112), (m 35 112)]
def F19B : XC :=
 .seq
  (.reg [⟨none, (some 4), .mov (.c (.bool false))⟩,
    ⟨none, (some 5), .mov (.c (.bool false))⟩,
    ⟨none, (some 6), .mov (.c (.int .i64 (0)))⟩])
  (.seq
   (.seq
    (.reg [⟨none, (some 7), .mov (.t 0)⟩,
      ⟨none, (some 8), .call 1 20 [.t 7]⟩,
      ⟨none, (some 9), .un .not (.t 8)⟩,
      ⟨none, (some 10), .mov (.t 9)⟩,
      ⟨(some (10, false)), (some 11), .mov (.t 1)⟩,
      ⟨(some (10, false)), (some 12), .call 1 20 [.t 11]⟩,
      ⟨(some (10, false)), (some 13), .un .not (.t 12)⟩,
      ⟨none, (some 14), .pick (.t 10) (.c (.bool true)) (.t 13)⟩])
    (.cond (.t 14)
     (.seq
      (.reg [⟨none, (some 4), .mov (.c (.bool false))⟩,
        ⟨none, (some 5), .mov (.c (.bool false))⟩,
        ⟨none, (some 6), .mov (.c (.int .i64 (2)))⟩])
      (.ret (m 25 112)))
     (.skip)))
   (.seq
    (.reg [⟨none, (some 15), .mov (.t 0)⟩,
      ⟨none, (some 16), .call 1 55 [.t 15]⟩,
      ⟨none, (some 17), .mov (.t 1)⟩,
      ⟨none, (some 18), .call 1 55 [.t 17]⟩,
      ⟨none, (some 19), .call 1 29 [.t 16, .t 18]⟩,
      ⟨none, (some 20), .mov (.t 0)⟩,
      ⟨none, (some 21), .call 1 56 [.t 20]⟩,
      ⟨none, (some 22), .mov (.t 1)⟩,
      ⟨none, (some 23), .call 1 56 [.t 22]⟩,
      ⟨none, (some 24), .call 1 29 [.t 21, .t 23]⟩,
      ⟨none, (some 4), .mov (.t 19)⟩,
      ⟨none, (some 5), .mov (.t 24)⟩,
      ⟨none, (some 6), .mov (.c (.int .i64 (0)))⟩])
    (.ret (m 25 112))))
def F19 : XF := ⟨2, 25, [.tmp 4, .tmp 5, .tmp 6], F19B⟩
def M19 : List (List Bool) := [(m 25 112), (m 25 112)]
def F20L0b : XC :=
 .seq
  (.seq
   (.reg [⟨none, (some 15), .mov (.t 4)⟩,
     ⟨none, (some 16), .mov (.t 3)⟩,
     ⟨none, (some 17), .bin .lss (.t 15) (.t 16)⟩])
   (.cond (.t 17)
    (.skip)
    (.exit 0 (m 69 9))))
  (.seq
   (.block 1 (m 69 25)
    (.seq
     (.reg [⟨none, (some 20), .mov (.t 0)⟩,
       ⟨none, (some 21), .mov (.t 4)⟩,
       ⟨none, (some 22), .indexA 1 (.t 20) (.t 21)⟩,
       ⟨none, (some 23), .load none (.t 22)⟩,
       ⟨none, (some 24), .bin .lss (.t 23) (.c (.int .i64 (0)))⟩,
       ⟨none, (some 25), .mov (.t 24)⟩,
       ⟨(some (25, false)), (some 26), .mov (.t 0)⟩,
       ⟨(some (25, false)), (some 27), .mov (.t 4)⟩,
       ⟨(some (25, false)), (some 28), .indexA 1 (.t 26) (.t 27)⟩,
       ⟨(some (25, false)), (some 29), .load none (.t 28)⟩,
       ⟨(some (25, false)), (some 30), .mov (.t 3)⟩,
       ⟨(some (25, false)), (some 31), .bin .shl (.c (.int .i64 (1))) (.t 30)⟩,
       ⟨(some (25, false)), (some 32), .bin .geq (.t 29) (.t 31)⟩,
       ⟨none, (some 33), .pick (.t 25) (.c (.bool true)) (.t 32)⟩,
       ⟨none, (some 34), .mov (.t 33)⟩,
       ⟨(some (34, false)), (some 35), .mov (.t 0)⟩,
       ⟨(some (34, false)), (some 36), .mov (.t 4)⟩,
       ⟨(some (34, false)), (some 37), .indexA 1 (.t 35) (.t 36)⟩,
       ⟨(some (34, false)), (some 38), .load none (.t 37)⟩,
       ⟨(some (34, false)), (some 39), .mov (.t 4)⟩,
       ⟨(some (34, false)), (some 40), .bin .shr (.t 38) (.t 39)⟩,
       ⟨(some (34, false)), (some 41), .bin .rem (.t 40) (.c (.int .i64 (2)))⟩,
       ⟨(some (34, false)), (some 42), .bin .eql (.t 41) (.c (.int .i64 (1)))⟩,
       ⟨none, (some 43), .pick (.t 34) (.c (.bool true)) (.t 42)⟩])
     (.cond (.t 43)
      (.seq
       (.reg [⟨none, (some 2), .mov (.c (.bool false))⟩])
       (.ret (m 69 4)))
      (.skip))))
   (.reg [⟨none, (some 18), .mov (.t 4)⟩,
     ⟨none, (some 19), .bin .add (.t 18) (.c (.int .i64 (1)))⟩,
     ⟨none, (some 4), .mov (.t 19)⟩]))
def F20L0 : XC := .loop (m 69 25) F20L0b
def F20L1b : XC :=
 .seq
  (.seq
   (.reg [⟨none, (some 49), .mov (.t 6)⟩,
     ⟨none, (some 50), .mov (.t 3)⟩,
     ⟨none, (some 51), .bin .lss (.t 49) (.t 50)⟩])
   (.cond (.t 51)
    (.skip)
    (.exit 4 (m 69 41))))
  (.seq
   (.block 5 (m 69 105)
    (.seq
     (.reg [⟨none, (some 54), .mov (.t 0)⟩,
       ⟨none, (some 55), .mov (.t 5)⟩,
       ⟨none, (some 56), .indexA 1 (.t 54) (.t 55)⟩,
       ⟨none, (some 57), .load none (.t 56)⟩,
       ⟨none, (some 58), .mov (.t 6)⟩,
       ⟨none, (some 59), .bin .shr (.t 57) (.t 58)⟩,
       ⟨none, (some 60), .bin .rem (.t 59) (.c (.int .i64 (2)))⟩,
       ⟨none, (some 61), .mov (.t 0)⟩,
       ⟨none, (some 62), .mov (.t 6)⟩,
       ⟨none, (some 63), .indexA 1 (.t 61) (.t 62)⟩,
       ⟨none, (some 64), .load none (.t 63)⟩,
       ⟨none, (some 65), .mov (.t 5)⟩,
       ⟨none, (some 66), .bin .shr (.t 64) (.t 65)⟩,
       ⟨none, (some 67), .bin .rem (.t 66) (.c (.int .i64 (2)))⟩,
       ⟨none, (some 68), .bin .neq (.t 60) (.t 67)⟩])
     (.cond (.t 68)
      (.seq
       (.reg [⟨none, (some 2), .mov (.c (.bool false))⟩])
       (.ret (m 69 4)))
      (.skip))))
   (.reg [⟨none, (some 52), .mov (.t 6)⟩,
     ⟨none, (some 53), .bin .add (.t 52) (.c (.int .i64 (1)))⟩,
     ⟨none, (some 6), .mov (.t 53)⟩]))
def F20L1 : XC := .loop (m 69 105) F20L1b
def F20T0 : XC :=
 .reg [⟨none, (some 47), .mov (.t 5)⟩,
   ⟨none, (some 48), .bin .add (.t 47) (.c (.int .i64 (1)))⟩,
   ⟨none, (some 5), .mov (.t 48)⟩]
def F20L2b : XC :=
 .seq
  (.seq
   (.reg [⟨none, (some 44), .mov (.t 5)⟩,
     ⟨none, (some 45), .mov (.t 3)⟩,
     ⟨none, (some 46), .bin .lss (.t 44) (.t 45)⟩])
   (.cond (.t 46)
    (.skip)
    (.exit 2 (m 69 0))))
  (.seq
   (.block 3 (m 69 41)
    (.seq
     (.reg [⟨none, (some 6), .mov (.c (.int .i64 (0)))⟩])
     (.block 4 (m 69 41)
      (F20L1))))
   F20T0)
def F20L2 : XC := .loop (m 69 41) F20L2b
def F20T1 : XC :=
 .seq
  (.reg [⟨none, (some 2), .mov (.c (.bool true))⟩])
  (.ret (m 69 4))
def F20T2 : XC :=
 .seq
  (.seq
   (.reg [⟨none, (some 5), .mov (.c (.int .i64 (0)))⟩])
   (.block 2 (m 69 0)
    (F20L2)))
  F20T1
def F20B : XC :=
 .seq
  (.reg [⟨none, (some 2), .mov (.c (.bool false))⟩])
  (.seq
   (.reg [⟨none, (some 7), .mov (.t 0)⟩,
     ⟨none, (some 8), .len (.t 7)⟩,
     ⟨none, (some 3), .mov (.t 8)⟩])
   (.seq
    (.seq
     (.reg [⟨none, (some 9), .mov (.t 3)⟩,
       ⟨none, (some 10), .bin .lss (.t 9) (.c (.int .i64 (1)))⟩,
       ⟨none, (some 11), .mov (.t 10)⟩,
       ⟨(some (11, false)), (some 12), .mov (.t 3)⟩,
       ⟨(some (11, false)), (some 13), .bin .gtr (.t 12) (.c (.int .i64 (7)))⟩,
       ⟨none, (some 14), .pick (.t 11) (.c (.bool true)) (.t 13)⟩])
     (.cond (.t 14)
      (.seq
       (.reg [⟨none, (some 2), .mov (.c (.bool false))⟩])
       (.ret (m 69 4)))
      (.skip)))
    (.seq
     (.seq
      (.reg [⟨none, (some 4), .mov (.c (.int .i64 (0)))⟩])
      (.block 0 (m 69 9)
       (F20L0)))
     F20T2)))
def F20 : XF := ⟨1, 69, [.tmp 2], F20B⟩
def M20 : List (List Bool) := [(m 69 4), (m 69 9), (m 69 25), (m 69 9), (m 69 25), (m 69 4), (m 69 0), (m 69 41), (m 69 0), (m 69 41), (m 69 41), (m 69 105), (m 69 41), (m 69 105), (m 69 4), (m 69 4)]
def F21B : XC :=
 .seq
  (.reg [⟨none, (some 2), .mov (.c (.nils))⟩,
    ⟨none, (some 3), .mov (.c (.int .i64 (0)))⟩])
  (.seq
   (.reg [⟨none, (some 7), .mov (.t 0)⟩,
     ⟨none, (some 8), .call 0 51 [.t 7]⟩,
     ⟨none, (some 6), .mov (.t 8)⟩,
     ⟨none, (some 9), .ext (.t 6) 0⟩,
     ⟨none, (some 10), .ext (.t 6) 1⟩,
     ⟨none, (some 4), .mov (.t 9)⟩,
     ⟨none, (some 5), .mov (.t 10)⟩])
   (.seq
    (.seq
     (.reg [⟨none, (some 11), .mov (.t 5)⟩,
       ⟨none, (some 12), .un .not (.t 11)⟩])
     (.cond (.t 12)
      (.seq
       (.reg [⟨none, (some 2), .mov (.c (.nils))⟩,
         ⟨none, (some 3), .mov (.c (.int .i64 (2)))⟩])
       (.ret (m 19 12)))
      (.skip)))
    (.seq
     (.reg [⟨none, (some 13), .mov (.t 4)⟩,
       ⟨none, (some 14), .load (some 2) (.c (.cptr false [.fn 139 [], .fn 140 []]))⟩,
       ⟨none, (some 15), .call 1 54 [.t 13, .t 14]⟩,
       ⟨none, (some 16), .field (some 1) 0 (.t 15)⟩,
       ⟨none, (some 17), .call 0 57 [.t 16]⟩,
       ⟨none, (some 18), .field none 0 (.t 17)⟩,
       ⟨none, (some 2), .mov (.t 18)⟩,
       ⟨none, (some 3), .mov (.c (.int .i64 (0)))⟩])
     (.ret (m 19 12)))))
def F21 : XF := ⟨1, 19, [.tmp 2, .tmp 3], F21B⟩
def M21 : List (List Bool) := [(m 19 12), (m 19 12)]
def F22B : XC :=
 .seq
  (.reg [⟨none, (some 4), .mov (.c (.int .i64 (0)))⟩,
    ⟨none, (some 5), .mov (.c (.int .i64 (0)))⟩,
    ⟨none, (some 6), .mov (.c (.int .i64 (0)))⟩])
  (.seq
   (.reg [⟨none, (some 12), .mov (.t 0)⟩,
     ⟨none, (some 13), .call 0 51 [.t 12]⟩,
     ⟨none, (some 11), .mov (.t 13)⟩,
     ⟨none, (some 14), .ext (.t 11) 0⟩,
     ⟨none, (some 15), .ext (.t 11) 1⟩,
     ⟨none, (some 7), .mov (.t 14)⟩,
     ⟨none, (some 8), .mov (.t 15)⟩])
   (.seq
    (.seq
     (.reg [⟨none, (some 16), .mov (.t 8)⟩,
       ⟨none, (some 17), .un .not (.t 16)⟩,
       ⟨none, (some 18), .mov (.t 17)⟩,
       ⟨(some (18, false)), (some 19), .mov (.t 1)⟩,
       ⟨(some (18, false)), (some 20), .bin .lss (.t 19) (.c (.int .i64 (0)))⟩,
       ⟨none, (some 21), .pick (.t 18) (.c (.bool true)) (.t 20)⟩,
       ⟨none, (some 22), .mov (.t 21)⟩,
       ⟨(some (22, false)), (some 23), .mov (.t 1)⟩,
       ⟨(some (22, false)), (some 24), .mov (.t 0)⟩,
       ⟨(some (22, false)), (some 25), .len (.t 24)⟩,
       ⟨(some (22, false)), (some 26), .bin .gtr (.t 23) (.t 25)⟩,
       ⟨none, (some 27), .pick (.t 22) (.c (.bool true)) (.t 26)⟩])
     (.cond (.t 27)
      (.seq
       (.reg [⟨none, (some 4), .mov (.c (.int .i64 (0)))⟩,
         ⟨none, (some 5), .mov (.c (.int .i64 (0)))⟩,
         ⟨none, (some 6), .mov (.c (.int .i64 (2)))⟩])
       (.ret (m 52 112)))
      (.skip)))
    (.seq
     (.reg [⟨none, (some 28), .mov (.t 7)⟩,
       ⟨none, (some 29), .load (some 2) (.c (.cptr false [.fn 139 [], .fn 140 []]))⟩,
       ⟨none, (some 30), .call 1 54 [.t 28, .t 29]⟩,
       ⟨none, (some 31), .mov (.t 7)⟩,
       ⟨none, (some 32), .load (some 2) (.c (.cptr false [.fn 143 [], .fn 144 []]))⟩,
       ⟨none, (some 33), .call 1 54 [.t 31, .t 32]⟩,
       ⟨none, (some 9), .alloc [.nils, .int .i64 (0)]⟩,
       ⟨none, (some 10), .alloc [.nils, .int .i64 (0)]⟩,
       ⟨none, none, .store 2 (.t 9) (.t 30)⟩,
       ⟨none, none, .store 2 (.t 10) (.t 33)⟩])
     (.seq
      (.reg [⟨none, (some 34), .fieldA 0 (.t 9)⟩,
        ⟨none, (some 35), .fieldA 0 (.t 34)⟩,
        ⟨none, (some 36), .load none (.t 35)⟩,
        ⟨none, (some 37), .fieldA 1 (.t 9)⟩,
        ⟨none, (some 38), .load none (.t 37)⟩,
        ⟨none, (some 39), .mov (.t 1)⟩,
        ⟨none, (some 40), .bin .sub (.t 38) (.t 39)⟩,
        ⟨none, (some 41), .indexA 1 (.t 36) (.t 40)⟩,
        ⟨none, (some 42), .load none (.t 41)⟩,
        ⟨none, (some 43), .fieldA 0 (.t 10)⟩,
        ⟨none, (some 44), .fieldA 0 (.t 43)⟩,
        ⟨none, (some 45), .load none (.t 44)⟩,
        ⟨none, (some 46), .fieldA 1 (.t 10)⟩,
        ⟨none, (some 47), .load none (.t 46)⟩,
        ⟨none, (some 48), .mov (.t 1)⟩,
        ⟨none, (some 49), .bin .sub (.t 47) (.t 48)⟩,
        ⟨none, (some 50), .indexA 1 (.t 45) (.t 49)⟩,
        ⟨none, (some 51), .load none (.t 50)⟩,
        ⟨none, (some 4), .mov (.t 42)⟩,
        ⟨none, (some 5), .mov (.t 51)⟩,
        ⟨none, (some 6), .mov (.c (.int .i64 (0)))⟩])
      (.ret (m 52 112))))))
def F22 : XF := ⟨2, 52, [.tmp 4, .tmp 5, .tmp 6], F22B⟩
def M22 : List (List Bool) := [(m 52 112), (m 52 112)]
def F23B : XC :=
 .seq
  (.reg [⟨none, (some 2), .mov (.c (.nils))⟩,
    ⟨none, (some 3), .mov (.c (.int .i64 (0)))⟩])
  (.seq
   (.reg [⟨none, (some 7), .mov (.t 0)⟩,
     ⟨none, (some 8), .call 0 51 [.t 7]⟩,
     ⟨none, (some 6), .mov (.t 8)⟩,
     ⟨none, (some 9), .ext (.t 6) 0⟩,
     ⟨none, (some 10), .ext (.t 6) 1⟩,
     ⟨none, (some 4), .mov (.t 9)⟩,
     ⟨none, (some 5), .mov (.t 10)⟩])
   (.seq
    (.seq
     (.reg [⟨none, (some 11), .mov (.t 5)⟩,
       ⟨none, (some 12), .un .not (.t 11)⟩])
     (.cond (.t 12)
      (.seq
       (.reg [⟨none, (some 2), .mov (.c (.nils))⟩,
         ⟨none, (some 3), .mov (.c (.int .i64 (2)))⟩])
       (.ret (m 19 12)))
      (.skip)))
    (.seq
     (.reg [⟨none, (some 13), .mov (.t 4)⟩,
       ⟨none, (some 14), .load (some 2) (.c (.cptr false [.fn 141 [], .fn 142 []]))⟩,
       ⟨none, (some 15), .call 1 54 [.t 13, .t 14]⟩,
       ⟨none, (some 16), .field (some 1) 0 (.t 15)⟩,
       ⟨none, (some 17), .call 0 57 [.t 16]⟩,
       ⟨none, (some 18), .field none 0 (.t 17)⟩,
       ⟨none, (some 2), .mov (.t 18)⟩,
       ⟨none, (some 3), .mov (.c (.int .i64 (0)))⟩])
     (.ret (m 19 12)))))
def F23 : XF := ⟨1, 19, [.tmp 2, .tmp 3], F23B⟩
def M23 : List (List Bool) := [(m 19 12), (m 19 12)]
def F24L0b : XC :=
 .seq
  (.seq
   (.reg [⟨none, (some 7), .mov (.t 3)⟩,
     ⟨none, (some 8), .mov (.t 0)⟩,
     ⟨none, (some 9), .len (.t 8)⟩,
     ⟨none, (some 10), .bin .lss (.t 7) (.t 9)⟩])
   (.cond (.t 10)
    (.skip)
    (.exit 0 (m 39 0))))
  (.seq
   (.block 1 (m 39 9)
    (.seq
     (.reg [⟨none, (some 13), .mov (.t 0)⟩,
       ⟨none, (some 14), .mov (.t 3)⟩,
       ⟨none, (some 15), .indexA 1 (.t 13) (.t 14)⟩,
       ⟨none, (some 16), .load none (.t 15)⟩,
       ⟨none, (some 17), .bin .lss (.t 16) (.c (.int .i64 (-10000)))⟩,
       ⟨none, (some 18), .mov (.t 17)⟩,
       ⟨(some (18, false)), (some 19), .mov (.t 0)⟩,
       ⟨(some (18, false)), (some 20), .mov (.t 3)⟩,
       ⟨(some (18, false)), (some 21), .indexA 1 (.t 19) (.t 20)⟩,
       ⟨(some (18, false)), (some 22), .load none (.t 21)⟩,
       ⟨(some (18, false)), (some 23), .bin .gtr (.t 22) (.c (.int .i64 (10000)))⟩,
       ⟨none, (some 24), .pick (.t 18) (.c (.bool true)) (.t 23)⟩,
       ⟨none, (some 25), .mov (.t 24)⟩,
       ⟨(some (25, false)), (some 26), .mov (.t 3)⟩,
       ⟨(some (25, false)), (some 27), .mov (.t 0)⟩,
       ⟨(some (25, false)), (some 28), .len (.t 27)⟩,
       ⟨(some (25, false)), (some 29), .bin .sub (.t 28) (.c (.int .i64 (1)))⟩,
       ⟨(some (25, false)), (some 30), .bin .eql (.t 26) (.t 29)⟩,
       ⟨(some (25, false)), (some 31), .mov (.t 30)⟩,
       ⟨(some (31, true)), (some 32), .mov (.t 0)⟩,
       ⟨(some (31, true)), (some 33), .mov (.t 3)⟩,
       ⟨(some (31, true)), (some 34), .indexA 1 (.t 32) (.t 33)⟩,
       ⟨(some (31, true)), (some 35), .load none (.t 34)⟩,
       ⟨(some (31, true)), (some 36), .bin .eql (.t 35) (.c (.int .i64 (0)))⟩,
       ⟨(some (25, false)), (some 37), .pick (.t 31) (.t 36) (.c (.bool false))⟩,
       ⟨none, (some 38), .pick (.t 25) (.c (.bool true)) (.t 37)⟩])
     (.cond (.t 38)
      (.seq
       (.reg [⟨none, (some 2), .mov (.c (.int .i64 (2)))⟩])
       (.ret (m 39 4)))
      (.skip))))
   (.reg [⟨none, (some 11), .mov (.t 3)⟩,
     ⟨none, (some 12), .bin .add (.t 11) (.c (.int .i64 (1)))⟩,
     ⟨none, (some 3), .mov (.t 12)⟩]))
def F24L0 : XC := .loop (m 39 9) F24L0b
def F24T0 : XC :=
 .seq
  (.reg [⟨none, (some 2), .mov (.c (.int .i64 (0)))⟩])
  (.ret (m 39 4))
def F24B : XC :=
 .seq
  (.reg [⟨none, (some 2), .mov (.c (.int .i64 (0)))⟩])
  (.seq
   (.seq
    (.reg [⟨none, (some 4), .mov (.t 0)⟩,
      ⟨none, (some 5), .len (.t 4)⟩,
      ⟨none, (some 6), .bin .gtr (.t 5) (.c (.int .i64 (8)))⟩])
    (.cond (.t 6)
     (.seq
      (.reg [⟨none, (some 2), .mov (.c (.int .i64 (3)))⟩])
      (.ret (m 39 4)))
     (.skip)))
   (.seq
    (.seq
     (.reg [⟨none, (some 3), .mov (.c (.int .i64 (0)))⟩])
     (.block 0 (m 39 0)
      (F24L0)))
    F24T0))
def F24 : XF := ⟨1, 39, [.tmp 2], F24B⟩
def M24 : List (List Bool) := [(m 39 4), (m 39 0), (m 39 9), (m 39 0), (m 39 9), (m 39 4), (m 39 4)]
def F25B : XC :=
 .seq
  (.reg [⟨none, (some 6), .mov (.c (.int .i64 (0)))⟩,
    ⟨none, (some 7), .mov (.c (.int .i64 (0)))⟩])
  (.seq
   (.seq
    (.reg [⟨none, (some 10), .mov (.t 0)⟩,
      ⟨none, (some 11), .call 1 58 [.t 10]⟩,
      ⟨none, (some 8), .mov (.t 11)⟩])
    (.block 0 (m 41 7)
     (.seq
      (.reg [⟨none, (some 13), .mov (.t 8)⟩,
        ⟨none, (some 14), .bin .neq (.t 13) (.c (.int .i64 (0)))⟩,
        ⟨none, (some 12), .mov (.t 14)⟩])
      (.cond (.t 12)
       (.seq
        (.reg [⟨none, (some 15), .mov (.t 8)⟩,
          ⟨none, (some 6), .mov (.c (.int .i64 (0)))⟩,
          ⟨none, (some 7), .mov (.t 15)⟩])
        (.ret (m 41 192)))
       (.seq
        (.reg [⟨none, (some 17), .mov (.t 0)⟩,
          ⟨none, (some 18), .len (.t 17)⟩,
          ⟨none, (some 19), .bin .eql (.t 18) (.c (.int .i64 (0)))⟩,
          ⟨none, (some 16), .mov (.t 19)⟩])
        (.cond (.t 16)
         (.seq
          (.reg [⟨none, (some 6), .mov (.c (.int .i64 (0)))⟩,
            ⟨none, (some 7), .mov (.c (.int .i64 (9)))⟩])
          (.ret (m 41 192)))
         (.seq
          (.reg [⟨none, (some 21), .mov (.t 1)⟩,
            ⟨none, (some 22), .call 1 59 [.t 21]⟩,
            ⟨none, (some 23), .mov (.t 22)⟩,
            ⟨(some (23, false)), (some 24), .mov (.t 2)⟩,
            ⟨(some (23, false)), (some 25), .call 1 59 [.t 24]⟩,
            ⟨none, (some 26), .pick (.t 23) (.c (.bool true)) (.t 25)⟩,
            ⟨none, (some 27), .mov (.t 26)⟩,
            ⟨(some (27, false)), (some 28), .mov (.t 1)⟩,
            ⟨(some (27, false)), (some 29), .mov (.t 2)⟩,
            ⟨(some (27, false)), (some 30), .bin .gtr (.t 28) (.t 29)⟩,
            ⟨none, (some 31), .pick (.t 27) (.c (.bool true)) (.t 30)⟩,
            ⟨none, (some 20), .mov (.t 31)⟩])
          (.cond (.t 20)
           (.seq
            (.reg [⟨none, (some 6), .mov (.c (.int .i64 (0)))⟩,
              ⟨none, (some 7), .mov (.c (.int .i64 (2)))⟩])
            (.ret (m 41 192)))
           (.skip)))))))))
   (.seq
    (.reg [⟨none, (some 32), .mov (.t 0)⟩,
      ⟨none, (some 33), .call 1 60 [.t 32]⟩,
      ⟨none, (some 9), .mov (.t 33)⟩])
    (.seq
     (.reg [⟨none, (some 34), .mov (.t 9)⟩,
       ⟨none, (some 35), .mov (.t 1)⟩,
       ⟨none, (some 36), .call 1 61 [.t 34, .t 35]⟩,
       ⟨none, (some 37), .mov (.t 9)⟩,
       ⟨none, (some 38), .mov (.t 2)⟩,
       ⟨none, (some 39), .call 1 61 [.t 37, .t 38]⟩,
       ⟨none, (some 40), .bin .sub (.t 36) (.t 39)⟩,
       ⟨none, (some 6), .mov (.t 40)⟩,
       ⟨none, (some 7), .mov (.c (.int .i64 (0)))⟩])
     (.ret (m 41 192)))))
def F25 : XF := ⟨3, 41, [.tmp 6, .tmp 7], F25B⟩
def M25 : List (List Bool) := [(m 41 7), (m 41 192), (m 41 192), (m 41 192), (m 41 192)]
def F26B : XC :=
 .seq
  (.reg [⟨none, (some 2), .mov (.c (.int .i64 (0)))⟩])
  (.seq
   (.reg [⟨none, (some 4), .mov (.t 0)⟩,
     ⟨none, (some 5), .call 1 62 [.t 4]⟩,
     ⟨none, (some 3), .mov (.t 5)⟩])
   (.seq
    (.reg [⟨none, (some 6), .mov (.t 3)⟩,
      ⟨none, (some 7), .mov (.t 3)⟩,
      ⟨none, (some 8), .len (.t 7)⟩,
      ⟨none, (some 9), .bin .sub (.t 8) (.c (.int .i64 (1)))⟩,
      ⟨none, (some 10), .indexA 1 (.t 6) (.t 9)⟩,
      ⟨none, (some 11), .load none (.t 10)⟩,
      ⟨none, (some 12), .len (.t 11)⟩,
      ⟨none, (some 13), .bin .sub (.t 12) (.c (.int .i64 (1)))⟩,
      ⟨none, (some 2), .mov (.t 13)⟩])
    (.ret (m 14 4))))
def F26 : XF := ⟨1, 14, [.tmp 2], F26B⟩
def M26 : List (List Bool) := [(m 14 4)]
def F27B : XC :=
 .seq
  (.reg [⟨none, (some 2), .mov (.c (.bool false))⟩])
  (.seq
   (.reg [⟨none, (some 6), .mov (.t 0)⟩,
     ⟨none, (some 7), .call 0 51 [.t 6]⟩,
     ⟨none, (some 5), .mov (.t 7)⟩,
     ⟨none, (some 8), .ext (.t 5) 0⟩,
     ⟨none, (some 9), .ext (.t 5) 1⟩,
     ⟨none, (some 3), .mov (.t 8)⟩,
     ⟨none, (some 4), .mov (.t 9)⟩])
   (.seq
    (.reg [⟨none, (some 10), .mov (.t 4)⟩,
      ⟨none, (some 2), .mov (.t 10)⟩])
    (.ret (m 11 4))))
def F27 : XF := ⟨1, 11, [.tmp 2], F27B⟩
def M27 : List (List Bool) := [(m 11 4)]
def F28B : XC :=
 .seq
  (.reg [⟨none, (some 2), .mov (.c (.nils))⟩,
    ⟨none, (some 3), .mov (.c (.int .i64 (0)))⟩])
  (.seq
   (.seq
    (.reg [⟨none, (some 4), .mov (.t 0)⟩,
      ⟨none, (some 5), .call 1 20 [.t 4]⟩,
      ⟨none, (some 6), .un .not (.t 5)⟩])
    (.cond (.t 6)
     (.seq
      (.reg [⟨none, (some 2), .mov (.c (.nils))⟩,
        ⟨none, (some 3), .mov (.c (.int .i64 (2)))⟩])
      (.ret (m 9 12)))
     (.skip)))
   (.seq
    (.reg [⟨none, (some 7), .mov (.t 0)⟩,
      ⟨none, (some 8), .call 1 55 [.t 7]⟩,
      ⟨none, (some 2), .mov (.t 8)⟩,
      ⟨none, (some 3), .mov (.c (.int .i64 (0)))⟩])
    (.ret (m 9 12))))
def F28 : XF := ⟨1, 9, [.tmp 2, .tmp 3], F28B⟩
def M28 : List (List Bool) := [(m 9 12), (m 9 12)]
def F29L0b : XC :=
 .seq
  (.seq
   (.reg [⟨none, (some 11), .mov (.t 5)⟩,
     ⟨none, (some 12), .mov (.t 0)⟩,
     ⟨none, (some 13), .len (.t 12)⟩,
     ⟨none, (some 14), .bin .lss (.t 11) (.t 13)⟩])
   (.cond (.t 14)
    (.skip)
    (.exit 0 (m 26 0))))
  (.seq
   (.block 1 (m 26 35)
    (.seq
     (.reg [⟨none, (some 17), .mov (.t 0)⟩,
       ⟨none, (some 18), .mov (.t 5)⟩,
       ⟨none, (some 19), .indexA 1 (.t 17) (.t 18)⟩,
       ⟨none, (some 20), .load none (.t 19)⟩,
       ⟨none, (some 21), .mov (.t 1)⟩,
       ⟨none, (some 22), .mov (.t 5)⟩,
       ⟨none, (some 23), .indexA 1 (.t 21) (.t 22)⟩,
       ⟨none, (some 24), .load none (.t 23)⟩,
       ⟨none, (some 25), .bin .neq (.t 20) (.t 24)⟩])
     (.cond (.t 25)
      (.seq
       (.reg [⟨none, (some 4), .mov (.c (.bool false))⟩])
       (.ret (m 26 16)))
      (.skip))))
   (.reg [⟨none, (some 15), .mov (.t 5)⟩,
     ⟨none, (some 16), .bin .add (.t 15) (.c (.int .i64 (1)))⟩,
     ⟨none, (some 5), .mov (.t 16)⟩]))
def F29L0 : XC := .loop (m 26 35) F29L0b
def F29T0 : XC :=
 .seq
  (.reg [⟨none, (some 4), .mov (.c (.bool true))⟩])
  (.ret (m 26 16))
def F29B : XC :=
 .seq
  (.reg [⟨none, (some 4), .mov (.c (.bool false))⟩])
  (.seq
   (.seq
    (.reg [⟨none, (some 6), .mov (.t 0)⟩,
      ⟨none, (some 7), .len (.t 6)⟩,
      ⟨none, (some 8), .mov (.t 1)⟩,
      ⟨none, (some 9), .len (.t 8)⟩,
      ⟨none, (some 10), .bin .neq (.t 7) (.t 9)⟩])
    (.cond (.t 10)
     (.seq
      (.reg [⟨none, (some 4), .mov (.c (.bool false))⟩])
      (.ret (m 26 16)))
     (.skip)))
   (.seq
    (.seq
     (.reg [⟨none, (some 5), .mov (.c (.int .i64 (0)))⟩])
     (.block 0 (m 26 0)
      (F29L0)))
    F29T0))
def F29 : XF := ⟨2, 26, [.tmp 4], F29B⟩
def M29 : List (List Bool) := [(m 26 16), (m 26 0), (m 26 35), (m 26 0), (m 26 35), (m 26 16), (m 26 16)]
def F30B : XC :=
 .seq
  (.reg [⟨none, (some 2), .mov (.c (.nils))⟩,
    ⟨none, (some 3), .mov (.c (.int .i64 (0)))⟩])
  (.seq
   (.seq
    (.reg [⟨none, (some 4), .mov (.t 0)⟩,
      ⟨none, (some 5), .call 1 20 [.t 4]⟩,
      ⟨none, (some 6), .un .not (.t 5)⟩])
    (.cond (.t 6)
     (.seq
      (.reg [⟨none, (some 2), .mov (.c (.nils))⟩,
        ⟨none, (some 3), .mov (.c (.int .i64 (2)))⟩])
      (.ret (m 9 12)))
     (.skip)))
   (.seq
    (.reg [⟨none, (some 7), .mov (.t 0)⟩,
      ⟨none, (some 8), .call 1 56 [.t 7]⟩,
      ⟨none, (some 2), .mov (.t 8)⟩,
      ⟨none, (some 3), .mov (.c (.int .i64 (0)))⟩])
    (.ret (m 9 12))))
def F30 : XF := ⟨1, 9, [.tmp 2, .tmp 3], F30B⟩
def M30 : List (List Bool) := [(m 9 12), (m 9 12)]
def F31B : XC :=
 .seq
  (.reg [⟨none, (some 6), .mov (.c (.nils))⟩,
    ⟨none, (some 7), .mov (.c (.int .i64 (0)))⟩])
  (.seq
   (.reg [⟨none, (some 12), .mov (.t 0)⟩,
     ⟨none, (some 13), .call 0 51 [.t 12]⟩,
     ⟨none, (some 11), .mov (.t 13)⟩,
     ⟨none, (some 14), .ext (.t 11) 0⟩,
     ⟨none, (some 15), .ext (.t 11) 1⟩,
     ⟨none, (some 8), .mov (.t 14)⟩,
     ⟨none, (some 9), .mov (.t 15)⟩])
   (.seq
    (.block 0 (m 61 7)
     (.seq
      (.reg [⟨none, (some 17), .mov (.t 9)⟩,
        ⟨none, (some 18), .un .not (.t 17)⟩,
        ⟨none, (some 19), .mov (.t 18)⟩,
        ⟨(some (19, false)), (some 20), .mov (.t 1)⟩,
        ⟨(some (19, false)), (some 21), .mov (.t 2)⟩,
        ⟨(some (19, false)), (some 22), .mnx false [.t 20, .t 21]⟩,
        ⟨(some (19, false)), (some 23), .bin .lss (.t 22) (.c (.int .i64 (0)))⟩,
        ⟨none, (some 24), .pick (.t 19) (.c (.bool true)) (.t 23)⟩,
        ⟨none, (some 25), .mov (.t 24)⟩,
        ⟨(some (25, false)), (some 26), .mov (.t 1)⟩,
        ⟨(some (25, false)), (some 27), .mov (.t 2)⟩,
        ⟨(some (25, false)), (some 28), .mnx true [.t 26, .t 27]⟩,
        ⟨(some (25, false)), (some 29), .mov (.t 0)⟩,
        ⟨(some (25, false)), (some 30), .len (.t 29)⟩,
        ⟨(some (25, false)), (some 31), .bin .geq (.t 28) (.t 30)⟩,
        ⟨none, (some 32), .pick (.t 25) (.c (.bool true)) (.t 31)⟩,
        ⟨none, (some 16), .mov (.t 32)⟩])
      (.cond (.t 16)
       (.seq
        (.reg [⟨none, (some 6), .mov (.c (.nils))⟩,
          ⟨none, (some 7), .mov (.c (.int .i64 (2)))⟩])
        (.ret (m 61 192)))
       (.seq
        (.reg [⟨none, (some 34), .mov (.t 0)⟩,
          ⟨none, (some 35), .mov (.t 1)⟩,
          ⟨none, (some 36), .indexA 1 (.t 34) (.t 35)⟩,
          ⟨none, (some 37), .load none (.t 36)⟩,
          ⟨none, (some 38), .mov (.t 2)⟩,
          ⟨none, (some 39), .bin .shr (.t 37) (.t 38)⟩,
          ⟨none, (some 40), .bin .and (.t 39) (.c (.int .i64 (1)))⟩,
          ⟨none, (some 41), .bin .eql (.t 40) (.c (.int .i64 (0)))⟩,
          ⟨none, (some 33), .mov (.t 41)⟩])
        (.cond (.t 33)
         (.seq
          (.reg [⟨none, (some 6), .mov (.c (.nils))⟩,
            ⟨none, (some 7), .mov (.c (.int .i64 (6)))⟩])
          (.ret (m 61 192)))
         (.skip))))))
    (.seq
     (.reg [⟨none, (some 42), .mov (.t 0)⟩,
       ⟨none, (some 43), .call 2 63 [.t 42]⟩,
       ⟨none, (some 10), .mov (.t 43)⟩])
     (.seq
      (.reg [⟨none, (some 44), .mov (.t 10)⟩,
        ⟨none, (some 45), .mov (.t 1)⟩,
        ⟨none, (some 46), .indexA 1 (.t 44) (.t 45)⟩,
        ⟨none, (some 47), .load none (.t 46)⟩,
        ⟨none, (some 48), .mov (.t 2)⟩,
        ⟨none, (some 49), .bin .shl (.c (.int .i64 (1))) (.t 48)⟩,
        ⟨none, (some 50), .bin .andNot (.t 47) (.t 49)⟩,
        ⟨none, (some 51), .indexA 1 (.t 44) (.t 45)⟩,
        ⟨none, none, .store 1 (.t 51) (.t 50)⟩])
      (.seq
       (.reg [⟨none, (some 52), .mov (.t 10)⟩,
         ⟨none, (some 53), .mov (.t 2)⟩,
         ⟨none, (some 54), .indexA 1 (.t 52) (.t 53)⟩,
         ⟨none, (some 55), .load none (.t 54)⟩,
         ⟨none, (some 56), .mov (.t 1)⟩,
         ⟨none, (some 57), .bin .shl (.c (.int .i64 (1))) (.t 56)⟩,
         ⟨none, (some 58), .bin .andNot (.t 55) (.t 57)⟩,
         ⟨none, (some 59), .indexA 1 (.t 52) (.t 53)⟩,
         ⟨none, none, .store 1 (.t 59) (.t 58)⟩])
       (.seq
        (.reg [⟨none, (some 60), .mov (.t 10)⟩,
          ⟨none, (some 6), .mov (.t 60)⟩,
          ⟨none, (some 7), .mov (.c (.int .i64 (0)))⟩])
        (.ret (m 61 192))))))))
def F31 : XF := ⟨3, 61, [.tmp 6, .tmp 7], F31B⟩
def M31 : List (List Bool) := [(m 61 7), (m 61 192), (m 61 192), (m 61 192)]
def F32L0b : XC :=
 .seq
  (.seq
   (.reg [⟨none, (some 12), .mov (.t 5)⟩,
     ⟨none, (some 13), .mov (.t 4)⟩,
     ⟨none, (some 14), .bin .lss (.t 12) (.t 13)⟩])
   (.cond (.t 14)
    (.skip)
    (.exit 2 (m 27 25))))
  (.seq
   (.block 3 (m 27 57)
    (.reg [⟨none, (some 17), .mov (.t 3)⟩,
      ⟨none, (some 18), .mov (.t 0)⟩,
      ⟨none, (some 19), .mov (.t 4)⟩,
      ⟨none, (some 20), .indexA 1 (.t 18) (.t 19)⟩,
      ⟨none, (some 21), .load none (.t 20)⟩,
      ⟨none, (some 22), .mov (.t 5)⟩,
      ⟨none, (some 23), .bin .shr (.t 21) (.t 22)⟩,
      ⟨none, (some 24), .bin .rem (.t 23) (.c (.int .i64 (2)))⟩,
      ⟨none, (some 25), .bin .add (.t 17) (.t 24)⟩,
      ⟨none, (some 3), .mov (.t 25)⟩]))
   (.reg [⟨none, (some 15), .mov (.t 5)⟩,
     ⟨none, (some 16), .bin .add (.t 15) (.c (.int .i64 (1)))⟩,
     ⟨none, (some 5), .mov (.t 16)⟩]))
def F32L0 : XC := .loop (m 27 57) F32L0b
def F32T0 : XC :=
 .reg [⟨none, (some 10), .mov (.t 4)⟩,
   ⟨none, (some 11), .bin .add (.t 10) (.c (.int .i64 (1)))⟩,
   ⟨none, (some 4), .mov (.t 11)⟩]
def F32L1b : XC :=
 .seq
  (.seq
   (.reg [⟨none, (some 6), .mov (.t 4)⟩,
     ⟨none, (some 7), .mov (.t 0)⟩,
     ⟨none, (some 8), .len (.t 7)⟩,
     ⟨none, (some 9), .bin .lss (.t 6) (.t 8)⟩])
   (.cond (.t 9)
    (.skip)
    (.exit 0 (m 27 8))))
  (.seq
   (.block 1 (m 27 25)
    (.seq
     (.reg [⟨none, (some 5), .mov (.c (.int .i64 (0)))⟩])
     (.block 2 (m 27 25)
      (F32L0))))
   F32T0)
def F32L1 : XC := .loop (m 27 25) F32L1b
def F32T1 : XC :=
 .seq
  (.reg [⟨none, (some 26), .mov (.t 3)⟩,
    ⟨none, (some 2), .mov (.t 26)⟩])
  (.ret (m 27 4))
def F32B : XC :=
 .seq
  (.reg [⟨none, (some 2), .mov (.c (.int .i64 (0)))⟩])
  (.seq
   (.reg [⟨none, (some 3), .mov (.c (.int .i64 (0)))⟩])
   (.seq
    (.seq
     (.reg [⟨none, (some 4), .mov (.c (.int .i64 (0)))⟩])
     (.block 0 (m 27 8)
      (F32L1)))
    F32T1))
def F32 : XF := ⟨1, 27, [.tmp 2], F32B⟩
def M32 : List (List Bool) := [(m 27 8), (m 27 25), (m 27 8), (m 27 25), (m 27 25), (m 27 57), (m 27 25), (m 27 57), (m 27 4)]
def F33B : XC :=
 .seq
  (.reg [⟨none, (some 4), .mov (.c (.nils))⟩,
    ⟨none, (some 5), .mov (.c (.int .i64 (0)))⟩])
  (.seq
   (.reg [⟨none, (some 7), .mov (.t 0)⟩,
     ⟨none, (some 8), .mov (.t 1)⟩,
     ⟨none, (some 9), .call 1 39 [.t 7, .t 8]⟩,
     ⟨none, (some 6), .mov (.t 9)⟩])
   (.seq
    (.seq
     (.reg [⟨none, (some 10), .mov (.t 6)⟩,
       ⟨none, (some 11), .len (.t 10)⟩,
       ⟨none, (some 12), .bin .eql (.t 11) (.c (.int .i64 (0)))⟩])
     (.cond (.t 12)
      (.seq
       (.reg [⟨none, (some 13), .bslice 1 1 [.int .i64 (0)] [(0, 1, .c (.int .i64 (1)))]⟩,
         ⟨none, (some 4), .mov (.t 13)⟩,
         ⟨none, (some 5), .mov (.c (.int .i64 (0)))⟩])
       (.ret (m 18 48)))
      (.skip)))
    (.seq
     (.reg [⟨none, (some 14), .mov (.t 6)⟩,
       ⟨none, (some 15), .call 1 23 [.t 14]⟩,
       ⟨none, (some 16), .ext (.t 15) 0⟩,
       ⟨none, (some 17), .ext (.t 15) 1⟩,
       ⟨none, (some 4), .mov (.t 16)⟩,
       ⟨none, (some 5), .mov (.t 17)⟩])
     (.ret (m 18 48)))))
def F33 : XF := ⟨2, 18, [.tmp 4, .tmp 5], F33B⟩
def M33 : List (List Bool) := [(m 18 48), (m 18 48)]
def F34L0b : XC :=
 .seq
  (.seq
   (.reg [⟨none, (some 11), .mov (.t 8)⟩,
     ⟨none, (some 12), .mov (.t 2)⟩,
     ⟨none, (some 13), .bin .lss (.t 11) (.t 12)⟩])
   (.cond (.t 13)
    (.skip)
    (.exit 0 (m 45 128))))
  (.seq
   (.block 1 (m 45 391)
    (.seq
     (.seq
      (.reg [⟨none, (some 16), .mov (.t 8)⟩,
        ⟨none, (some 17), .mov (.t 0)⟩,
        ⟨none, (some 18), .len (.t 17)⟩,
        ⟨none, (some 19), .bin .lss (.t 16) (.t 18)⟩])
      (.cond (.t 19)
       (.reg [⟨none, (some 20), .mov (.t 7)⟩,
         ⟨none, (some 21), .mov (.t 8)⟩,
         ⟨none, (some 22), .indexA 1 (.t 20) (.t 21)⟩,
         ⟨none, (some 23), .load none (.t 22)⟩,
         ⟨none, (some 24), .mov (.t 0)⟩,
         ⟨none, (some 25), .mov (.t 8)⟩,
         ⟨none, (some 26), .indexA 1 (.t 24) (.t 25)⟩,
         ⟨none, (some 27), .load none (.t 26)⟩,
         ⟨none, (some 28), .bin .add (.t 23) (.t 27)⟩,
         ⟨none, (some 29), .indexA 1 (.t 20) (.t 21)⟩,
         ⟨none, none, .store 1 (.t 29) (.t 28)⟩])
       (.skip)))
     (.seq
      (.reg [⟨none, (some 30), .mov (.t 8)⟩,
        ⟨none, (some 31), .mov (.t 1)⟩,
        ⟨none, (some 32), .len (.t 31)⟩,
        ⟨none, (some 33), .bin .lss (.t 30) (.t 32)⟩])
      (.cond (.t 33)
       (.reg [⟨none, (some 34), .mov (.t 7)⟩,
         ⟨none, (some 35), .mov (.t 8)⟩,
         ⟨none, (some 36), .indexA 1 (.t 34) (.t 35)⟩,
         ⟨none, (some 37), .load none (.t 36)⟩,
         ⟨none, (some 38), .mov (.t 1)⟩,
         ⟨none, (some 39), .mov (.t 8)⟩,
         ⟨none, (some 40), .indexA 1 (.t 38) (.t 39)⟩,
         ⟨none, (some 41), .load none (.t 40)⟩,
         ⟨none, (some 42), .bin .sub (.t 37) (.t 41)⟩,
         ⟨none, (some 43), .indexA 1 (.t 34) (.t 35)⟩,
         ⟨none, none, .store 1 (.t 43) (.t 42)⟩])
       (.skip)))))
   (.reg [⟨none, (some 14), .mov (.t 8)⟩,
     ⟨none, (some 15), .bin .add (.t 14) (.c (.int .i64 (1)))⟩,
     ⟨none, (some 8), .mov (.t 15)⟩]))
def F34L0 : XC := .loop (m 45 391) F34L0b
def F34T0 : XC :=
 .seq
  (.reg [⟨none, (some 44), .mov (.t 7)⟩,
    ⟨none, (some 6), .mov (.t 44)⟩])
  (.ret (m 45 64))
def F34B : XC :=
 .seq
  (.reg [⟨none, (some 6), .mov (.c (.nils))⟩])
  (.seq
   (.reg [⟨none, (some 9), .mov (.t 2)⟩,
     ⟨none, (some 10), .mks 1 8 [.int .i64 (0)] (.t 9) (.t 9)⟩,
     ⟨none, (some 7), .mov (.t 10)⟩])
   (.seq
    (.seq
     (.reg [⟨none, (some 8), .mov (.c (.int .i64 (0)))⟩])
     (.block 0 (m 45 128)
      (F34L0)))
    F34T0))
def F34 : XF := ⟨3, 45, [.tmp 6], F34B⟩
def M34 : List (List Bool) := [(m 45 128), (m 45 391), (m 45 128), (m 45 391), (m 45 64)]
def F35B : XC :=
 .seq
  (.reg [⟨none, (some 6), .mov (.c (.int .i64 (0)))⟩,
    ⟨none, (some 7), .mov (.c (.int .i64 (0)))⟩])
  (.seq
   (.reg [⟨none, (some 9), .mov (.t 0)⟩,
     ⟨none, (some 10), .call 1 24 [.t 9]⟩,
     ⟨none, (some 8), .mov (.t 10)⟩])
   (.seq
    (.seq
     (.reg [⟨none, (some 11), .mov (.t 8)⟩,
       ⟨none, (some 12), .bin .eql (.t 11) (.c (.int .i64 (0)))⟩,
       ⟨none, (some 13), .mov (.t 12)⟩,
       ⟨(some (13, true)), (some 14), .mov (.t 0)⟩,
       ⟨(some (13, true)), (some 15), .len (.t 14)⟩,
       ⟨(some (13, true)), (some 16), .bin .eql (.t 15) (.c (.int .i64 (0)))⟩,
       ⟨none, (some 17), .pick (.t 13) (.t 16) (.c (.bool false))⟩])
     (.cond (.t 17)
      (.reg [⟨none, (some 8), .mov (.c (.int .i64 (9)))⟩])
      (.skip)))
    (.seq
     (.seq
      (.reg [⟨none, (some 18), .mov (.t 8)⟩,
        ⟨none, (some 19), .bin .eql (.t 18) (.c (.int .i64 (0)))⟩,
        ⟨none, (some 20), .mov (.t 19)⟩,
        ⟨(some (20, true)), (some 21), .mov (.t 1)⟩,
        ⟨(some (20, true)), (some 22), .call 1 64 [.t 21]⟩,
        ⟨(some (20, true)), (some 23), .un .not (.t 22)⟩,
        ⟨(some (20, true)), (some 24), .mov (.t 23)⟩,
        ⟨(some (24, false)), (some 25), .mov (.t 2)⟩,
        ⟨(some (24, false)), (some 26), .call 1 64 [.t 25]⟩,
        ⟨(some (24, false)), (some 27), .un .not (.t 26)⟩,
        ⟨(some (20, true)), (some 28), .pick (.t 24) (.c (.bool true)) (.t 27)⟩,
        ⟨(some (20, true)), (some 29), .mov (.t 28)⟩,
        ⟨(some (29, false)), (some 30), .mov (.t 1)⟩,
        ⟨(some (29, false)), (some 31), .mov (.t 2)⟩,
        ⟨(some (29, false)), (some 32), .bin .gtr (.t 30) (.t 31)⟩,
        ⟨(some (20, true)), (some 33), .pick (.t 29) (.c (.bool true)) (.t 32)⟩,
        ⟨none, (some 34), .pick (.t 20) (.t 33) (.c (.bool false))⟩])
      (.cond (.t 34)
       (.reg [⟨none, (some 8), .mov (.c (.int .i64 (2)))⟩])
       (.skip)))
     (.seq
      (.seq
       (.reg [⟨none, (some 35), .mov (.t 8)⟩,
         ⟨none, (some 36), .bin .neq (.t 35) (.c (.int .i64 (0)))⟩])
       (.cond (.t 36)
        (.seq
         (.reg [⟨none, (some 37), .mov (.t 8)⟩,
           ⟨none, (some 6), .mov (.c (.int .i64 (0)))⟩,
           ⟨none, (some 7), .mov (.t 37)⟩])
         (.ret (m 42 192)))
        (.skip)))
      (.seq
       (.reg [⟨none, (some 38), .mov (.t 0)⟩,
         ⟨none, (some 39), .mov (.t 1)⟩,
         ⟨none, (some 40), .mov (.t 2)⟩,
         ⟨none, (some 41), .call 1 65 [.t 38, .t 39, .t 40]⟩,
         ⟨none, (some 6), .mov (.t 41)⟩,
         ⟨none, (some 7), .mov (.c (.int .i64 (0)))⟩])
       (.ret (m 42 192)))))))
def F35 : XF := ⟨3, 42, [.tmp 6, .tmp 7], F35B⟩
def M35 : List (List Bool) := [(m 42 192), (m 42 192)]
def F37B : XC :=
 .seq
  (.reg [⟨none, (some 4), .mov (.c (.int .i64 (0)))⟩,
    ⟨none, (some 5), .mov (.c (.int .i64 (0)))⟩])
  (.seq
   (.reg [⟨none, (some 7), .mov (.t 0)⟩,
     ⟨none, (some 8), .call 1 24 [.t 7]⟩,
     ⟨none, (some 6), .mov (.t 8)⟩])
   (.seq
    (.seq
     (.reg [⟨none, (some 9), .mov (.t 6)⟩,
       ⟨none, (some 10), .bin .eql (.t 9) (.c (.int .i64 (0)))⟩,
       ⟨none, (some 11), .mov (.t 10)⟩,
       ⟨(some (11, true)), (some 12), .mov (.t 1)⟩,
       ⟨(some (11, true)), (some 13), .call 1 64 [.t 12]⟩,
       ⟨(some (11, true)), (some 14), .un .not (.t 13)⟩,
       ⟨none, (some 15), .pick (.t 11) (.t 14) (.c (.bool false))⟩])
     (.cond (.t 15)
      (.reg [⟨none, (some 6), .mov (.c (.int .i64 (2)))⟩])
      (.skip)))
    (.seq
     (.seq
      (.reg [⟨none, (some 16), .mov (.t 6)⟩,
        ⟨none, (some 17), .bin .neq (.t 16) (.c (.int .i64 (0)))⟩])
      (.cond (.t 17)
       (.seq
        (.reg [⟨none, (some 18), .mov (.t 6)⟩,
          ⟨none, (some 4), .mov (.c (.int .i64 (0)))⟩,
          ⟨none, (some 5), .mov (.t 18)⟩])
        (.ret (m 22 48)))
       (.skip)))
     (.seq
      (.reg [⟨none, (some 19), .mov (.t 0)⟩,
        ⟨none, (some 20), .mov (.t 1)⟩,
        ⟨none, (some 21), .call 1 67 [.t 19, .t 20]⟩,
        ⟨none, (some 4), .mov (.t 21)⟩,
        ⟨none, (some 5), .mov (.c (.int .i64 (0)))⟩])
      (.ret (m 22 48))))))
def F37 : XF := ⟨2, 22, [.tmp 4, .tmp 5], F37B⟩
def M37 : List (List Bool) := [(m 22 48), (m 22 48)]
def F38L0b : XC :=
 .seq
  (.reg [⟨none, (some 37), .bin .lss (.t 36) (.t 35)⟩])
  (.seq
   (.cond (.t 37)
    (.skip)
    (.exit 1 (m 62 256)))
   (.seq
    (.block 2 (m 62 120259084546)
     (.seq
      (.reg [⟨none, (some 38), .mov (.t 36)⟩,
        ⟨none, (some 39), .indexA 1 (.t 34) (.t 36)⟩,
        ⟨none, (some 40), .load none (.t 39)⟩,
        ⟨none, (some 9), .mov (.t 38)⟩,
        ⟨none, (some 10), .mov (.t 40)⟩])
      (.seq
       (.reg [⟨none, (some 41), .mov (.t 9)⟩,
         ⟨none, (some 42), .mov (.t 1)⟩,
         ⟨none, (some 43), .bin .neq (.t 41) (.t 42)⟩])
       (.cond (.t 43)
        (.seq
         (.reg [⟨none, (some 44), .mov (.t 10)⟩,
           ⟨none, (some 45), .mov (.t 1)⟩,
           ⟨none, (some 46), .bin .shl (.c (.int .i64 (1))) (.t 45)⟩,
           ⟨none, (some 47), .bin .sub (.t 46) (.c (.int .i64 (1)))⟩,
           ⟨none, (some 48), .bin .and (.t 44) (.t 47)⟩,
           ⟨none, (some 11), .mov (.t 48)⟩])
         (.reg [⟨none, (some 49), .mov (.t 8)⟩,
           ⟨none, (some 50), .mov (.t 11)⟩,
           ⟨none, (some 51), .mov (.t 10)⟩,
           ⟨none, (some 52), .mov (.t 1)⟩,
           ⟨none, (some 53), .bin .add (.t 52) (.c (.int .i64 (1)))⟩,
           ⟨none, (some 54), .bin .shr (.t 51) (.t 53)⟩,
           ⟨none, (some 55), .mov (.t 1)⟩,
           ⟨none, (some 56), .bin .shl (.t 54) (.t 55)⟩,
           ⟨none, (some 57), .bin .or (.t 50) (.t 56)⟩,
           ⟨none, (some 58), .bslice 1 1 [.int .i64 (0)] [(0, 1, .t 57)]⟩,
           ⟨none, (some 59), .app 1 8 (.t 49) (.t 58)⟩,
           ⟨none, (some 8), .mov (.t 59)⟩]))
        (.skip)))))
    (.reg [⟨none, (some 60), .bin .add (.t 36) (.c (.int .i64 (1)))⟩,
      ⟨none, (some 36), .mov (.t 60)⟩])))
def F38L0 : XC := .loop (m 62 120259084546) F38L0b
def F38T0 : XC :=
 .seq
  (.reg [⟨none, (some 61), .mov (.t 8)⟩,
    ⟨none, (some 4), .mov (.t 61)⟩,
    ⟨none, (some 5), .mov (.c (.int .i64 (0)))⟩])
  (.ret (m 62 48))
def F38B : XC :=
 .seq
  (.reg [⟨none, (some 4), .mov (.c (.nils))⟩,
    ⟨none, (some 5), .mov (.c (.int .i64 (0)))⟩])
  (.seq
   (.reg [⟨none, (some 13), .mov (.t 0)⟩,
     ⟨none, (some 14), .call 0 51 [.t 13]⟩,
     ⟨none, (some 12), .mov (.t 14)⟩,
     ⟨none, (some 15), .ext (.t 12) 0⟩,
     ⟨none, (some 16), .ext (.t 12) 1⟩,
     ⟨none, (some 6), .mov (.t 15)⟩,
     ⟨none, (some 7), .mov (.t 16)⟩])
   (.seq
    (.block 0 (m 62 3)
     (.seq
      (.reg [⟨none, (some 18), .mov (.t 7)⟩,
        ⟨none, (some 19), .un .not (.t 18)⟩,
        ⟨none, (some 20), .mov (.t 19)⟩,
        ⟨(some (20, false)), (some 21), .mov (.t 1)⟩,
        ⟨(some (20, false)), (some 22), .bin .lss (.t 21) (.c (.int .i64 (0)))⟩,
        ⟨none, (some 23), .pick (.t 20) (.c (.bool true)) (.t 22)⟩,
        ⟨none, (some 24), .mov (.t 23)⟩,
        ⟨(some (24, false)), (some 25), .mov (.t 1)⟩,
        ⟨(some (24, false)), (some 26), .mov (.t 0)⟩,
        ⟨(some (24, false)), (some 27), .len (.t 26)⟩,
        ⟨(some (24, false)), (some 28), .bin .geq (.t 25) (.t 27)⟩,
        ⟨none, (some 29), .pick (.t 24) (.c (.bool true)) (.t 28)⟩,
        ⟨none, (some 17), .mov (.t 29)⟩])
      (.cond (.t 17)
       (.seq
        (.reg [⟨none, (some 4), .mov (.c (.nils))⟩,
          ⟨none, (some 5), .mov (.c (.int .i64 (2)))⟩])
        (.ret (m 62 48)))
       (.seq
        (.reg [⟨none, (some 31), .mov (.t 0)⟩,
          ⟨none, (some 32), .len (.t 31)⟩,
          ⟨none, (some 33), .bin .eql (.t 32) (.c (.int .i64 (1)))⟩,
          ⟨none, (some 30), .mov (.t 33)⟩])
        (.cond (.t 30)
         (.seq
          (.reg [⟨none, (some 4), .mov (.c (.nils))⟩,
            ⟨none, (some 5), .mov (.c (.int .i64 (9)))⟩])
          (.ret (m 62 48)))
         (.skip))))))
    (.seq
     (.reg [⟨none, (some 8), .mov (.c (.nils))⟩])
     (.seq
      (.seq
       (.reg [⟨none, (some 34), .mov (.t 0)⟩,
         ⟨none, (some 35), .len (.t 34)⟩,
         ⟨none, (some 36), .mov (.c (.int .i64 (0)))⟩])
       (.block 1 (m 62 256)
        (F38L0)))
      F38T0))))
def F38 : XF := ⟨2, 62, [.tmp 4, .tmp 5], F38B⟩
def M38 : List (List Bool) := [(m 62 3), (m 62 48), (m 62 48), (m 62 256), (m 62 120259084546), (m 62 256), (m 62 120259084546), (m 62 48)]
def F39L0b : XC :=
 .seq
  (.seq
   (.reg [⟨none, (some 21), .mov (.t 9)⟩,
     ⟨none, (some 22), .mov (.t 0)⟩,
     ⟨none, (some 23), .len (.t 22)⟩,
     ⟨none, (some 24), .bin .lss (.t 21) (.t 23)⟩])
   (.cond (.t 24)
    (.skip)
    (.exit 2 (m 50 227))))
  (.seq
   (.block 3 (m 50 995)
    (.seq
     (.reg [⟨none, (some 27), .mov (.t 1)⟩,
       ⟨none, (some 28), .mov (.t 9)⟩,
       ⟨none, (some 29), .bin .shr (.t 27) (.t 28)⟩,
       ⟨none, (some 30), .bin .rem (.t 29) (.c (.int .i64 (2)))⟩,
       ⟨none, (some 31), .bin .eql (.t 30) (.c (.int .i64 (0)))⟩])
     (.cond (.t 31)
      (.seq
       (.reg [⟨none, (some 32), .mov (.t 7)⟩,
         ⟨none, (some 33), .mov (.t 0)⟩,
         ⟨none, (some 34), .mov (.t 6)⟩,
         ⟨none, (some 35), .indexA 1 (.t 33) (.t 34)⟩,
         ⟨none, (some 36), .load none (.t 35)⟩,
         ⟨none, (some 37), .mov (.t 9)⟩,
         ⟨none, (some 38), .bin .shr (.t 36) (.t 37)⟩,
         ⟨none, (some 39), .bin .rem (.t 38) (.c (.int .i64 (2)))⟩,
         ⟨none, (some 40), .mov (.t 8)⟩,
         ⟨none, (some 41), .bin .shl (.t 39) (.t 40)⟩,
         ⟨none, (some 42), .bin .add (.t 32) (.t 41)⟩,
         ⟨none, (some 7), .mov (.t 42)⟩])
       (.reg [⟨none, (some 43), .mov (.t 8)⟩,
         ⟨none, (some 44), .bin .add (.t 43) (.c (.int .i64 (1)))⟩,
         ⟨none, (some 8), .mov (.t 44)⟩]))
      (.skip))))
   (.reg [⟨none, (some 25), .mov (.t 9)⟩,
     ⟨none, (some 26), .bin .add (.t 25) (.c (.int .i64 (1)))⟩,
     ⟨none, (some 9), .mov (.t 26)⟩]))
def F39L0 : XC := .loop (m 50 995) F39L0b
def F39T0 : XC :=
 .reg [⟨none, (some 45), .mov (.t 5)⟩,
   ⟨none, (some 46), .mov (.t 7)⟩,
   ⟨none, (some 47), .bslice 1 1 [.int .i64 (0)] [(0, 1, .t 46)]⟩,
   ⟨none, (some 48), .app 1 8 (.t 45) (.t 47)⟩,
   ⟨none, (some 5), .mov (.t 48)⟩]
def F39T1 : XC :=
 .reg [⟨none, (some 14), .mov (.t 6)⟩,
   ⟨none, (some 15), .bin .add (.t 14) (.c (.int .i64 (1)))⟩,
   ⟨none, (some 6), .mov (.t 15)⟩]
def F39L1b : XC :=
 .seq
  (.seq
   (.reg [⟨none, (some 10), .mov (.t 6)⟩,
     ⟨none, (some 11), .mov (.t 0)⟩,
     ⟨none, (some 12), .len (.t 11)⟩,
     ⟨none, (some 13), .bin .lss (.t 10) (.t 12)⟩])
   (.cond (.t 13)
    (.skip)
    (.exit 0 (m 50 32))))
  (.seq
   (.block 1 (m 50 99)
    (.seq
     (.seq
      (.reg [⟨none, (some 16), .mov (.t 1)⟩,
        ⟨none, (some 17), .mov (.t 6)⟩,
        ⟨none, (some 18), .bin .shr (.t 16) (.t 17)⟩,
        ⟨none, (some 19), .bin .rem (.t 18) (.c (.int .i64 (2)))⟩,
        ⟨none, (some 20), .bin .eql (.t 19) (.c (.int .i64 (1)))⟩])
      (.cond (.t 20)
       (.exit 1 (m 50 99))
       (.skip)))
     (.seq
      (.reg [⟨none, (some 7), .mov (.c (.int .i64 (0)))⟩,
        ⟨none, (some 8), .mov (.c (.int .i64 (0)))⟩])
      (.seq
       (.seq
        (.reg [⟨none, (some 9), .mov (.c (.int .i64 (0)))⟩])
        (.block 2 (m 50 227)
         (F39L0)))
       F39T0))))
   F39T1)
def F39L1 : XC := .loop (m 50 99) F39L1b
def F39T2 : XC :=
 .seq
  (.reg [⟨none, (some 49), .mov (.t 5)⟩,
    ⟨none, (some 4), .mov (.t 49)⟩])
  (.ret (m 50 16))
def F39B : XC :=
 .seq
  (.reg [⟨none, (some 4), .mov (.c (.nils))⟩])
  (.seq
   (.reg [⟨none, (some 5), .mov (.c (.nils))⟩])
   (.seq
    (.seq
     (.reg [⟨none, (some 6), .mov (.c (.int .i64 (0)))⟩])
     (.block 0 (m 50 32)
      (F39L1)))
    F39T2))
def F39 : XF := ⟨2, 50, [.tmp 4], F39B⟩
def M39 : List (List Bool) := [(m 50 32), (m 50 99), (m 50 32), (m 50 99), (m 50 99), (m 50 227), (m 50 995), (m 50 227), (m 50 995), (m 50 16)]
def F40B : XC :=
 .seq
  (.reg [⟨none, (some 2), .mov (.c (.nils))⟩])
  (.seq
   (.reg [⟨none, (some 3), .bslice 1 1 [.int .i64 (0)] [(0, 1, .c (.int .i64 (0)))]⟩,
     ⟨none, (some 4), .mov (.t 0)⟩,
     ⟨none, (some 5), .app 1 8 (.t 3) (.t 4)⟩,
     ⟨none, (some 2), .mov (.t 5)⟩])
   (.ret (m 6 4)))
def F40 : XF := ⟨1, 6, [.tmp 2], F40B⟩
def M40 : List (List Bool) := [(m 6 4)]
def F41L0b : XC :=
 .seq
  (.reg [⟨none, (some 26), .bin .lss (.t 25) (.t 24)⟩])
  (.seq
   (.cond (.t 26)
    (.skip)
    (.exit 2 (m 64 3145936)))
   (.seq
    (.block 3 (m 64 61866192)
     (.seq
      (.reg [⟨none, (some 27), .mov (.t 25)⟩,
        ⟨none, (some 28), .indexA 1 (.t 23) (.t 25)⟩,
        ⟨none, (some 29), .load none (.t 28)⟩,
        ⟨none, (some 8), .mov (.t 27)⟩,
        ⟨none, (some 9), .mov (.t 29)⟩])
      (.seq
       (.reg [⟨none, (some 30), .mov (.t 7)⟩,
         ⟨none, (some 31), .mov (.t 8)⟩,
         ⟨none, (some 32), .bin .shr (.t 30) (.t 31)⟩,
         ⟨none, (some 33), .bin .and (.t 32) (.c (.int .i64 (1)))⟩,
         ⟨none, (some 34), .bin .eql (.t 33) (.c (.int .i64 (1)))⟩])
       (.cond (.t 34)
        (.reg [⟨none, (some 35), .mov (.t 7)⟩,
          ⟨none, (some 36), .mov (.t 9)⟩,
          ⟨none, (some 37), .bin .or (.t 35) (.t 36)⟩,
          ⟨none, (some 7), .mov (.t 37)⟩])
        (.skip)))))
    (.reg [⟨none, (some 38), .bin .add (.t 25) (.c (.int .i64 (1)))⟩,
      ⟨none, (some 25), .mov (.t 38)⟩])))
def F41L0 : XC := .loop (m 64 61866192) F41L0b
def F41T0 : XC :=
 .reg [⟨none, (some 39), .bin .add (.t 21) (.c (.int .i64 (1)))⟩,
   ⟨none, (some 21), .mov (.t 39)⟩]
def F41L1b : XC :=
 .seq
  (.reg [⟨none, (some 22), .bin .lss (.t 21) (.t 20)⟩])
  (.seq
   (.cond (.t 22)
    (.skip)
    (.exit 0 (m 64 208)))
   (.seq
    (.block 1 (m 64 3145936)
     (.seq
      (.reg [⟨none, (some 23), .mov (.t 4)⟩,
        ⟨none, (some 24), .len (.t 23)⟩,
        ⟨none, (some 25), .mov (.c (.int .i64 (0)))⟩])
      (.block 2 (m 64 3145936)
       (F41L0))))
    F41T0))
def F41L1 : XC := .loop (m 64 3145936) F41L1b
def F41L2b : XC :=
 .seq
  (.reg [⟨none, (some 43), .bin .lss (.t 42) (.t 41)⟩])
  (.seq
   (.cond (.t 43)
    (.skip)
    (.exit 4 (m 64 208)))
   (.seq
    (.block 5 (m 64 7696581394640)
     (.seq
      (.reg [⟨none, (some 44), .indexA 1 (.t 40) (.t 42)⟩,
        ⟨none, (some 45), .load none (.t 44)⟩,
        ⟨none, (some 11), .mov (.t 45)⟩])
      (.reg [⟨none, (some 46), .mov (.t 6)⟩,
        ⟨none, (some 47), .mov (.t 11)⟩,
        ⟨none, (some 48), .conv .u64 (.t 47)⟩,
        ⟨none, (some 49), .call 1 68 [.t 48]⟩,
        ⟨none, (some 50), .bin .add (.t 46) (.t 49)⟩,
        ⟨none, (some 6), .mov (.t 50)⟩])))
    (.reg [⟨none, (some 51), .bin .add (.t 42) (.c (.int .i64 (1)))⟩,
      ⟨none, (some 42), .mov (.t 51)⟩])))
def F41L2 : XC := .loop (m 64 7696581394640) F41L2b
def F41T1 : XC :=
 .seq
  (.reg [⟨none, (some 52), .mov (.t 7)⟩,
    ⟨none, (some 53), .mov (.t 4)⟩,
    ⟨none, (some 54), .call 1 69 [.t 53]⟩,
    ⟨none, (some 55), .bin .eql (.t 52) (.t 54)⟩,
    ⟨none, (some 56), .mov (.t 55)⟩,
    ⟨(some (56, true)), (some 57), .mov (.t 6)⟩,
    ⟨(some (56, true)), (some 58), .mov (.t 4)⟩,
    ⟨(some (56, true)), (some 59), .len (.t 58)⟩,
    ⟨(some (56, true)), (some 60), .bin .sub (.t 59) (.c (.int .i64 (1)))⟩,
    ⟨(some (56, true)), (some 61), .bin .mul (.c (.int .i64 (2))) (.t 60)⟩,
    ⟨(some (56, true)), (some 62), .bin .eql (.t 57) (.t 61)⟩,
    ⟨none, (some 63), .pick (.t 56) (.t 62) (.c (.bool false))⟩,
    ⟨none, (some 2), .mov (.t 63)⟩,
    ⟨none, (some 3), .mov (.c (.int .i64 (0)))⟩])
  (.ret (m 64 12))
def F41T2 : XC :=
 .seq
  (.seq
   (.reg [⟨none, (some 40), .mov (.t 4)⟩,
     ⟨none, (some 41), .len (.t 40)⟩,
     ⟨none, (some 42), .mov (.c (.int .i64 (0)))⟩])
   (.block 4 (m 64 208)
    (F41L2)))
  F41T1
def F41B : XC :=
 .seq
  (.reg [⟨none, (some 2), .mov (.c (.bool false))⟩,
    ⟨none, (some 3), .mov (.c (.int .i64 (0)))⟩])
  (.seq
   (.reg [⟨none, (some 13), .mov (.t 0)⟩,
     ⟨none, (some 14), .call 0 51 [.t 13]⟩,
     ⟨none, (some 12), .mov (.t 14)⟩,
     ⟨none, (some 15), .ext (.t 12) 0⟩,
     ⟨none, (some 16), .ext (.t 12) 1⟩,
     ⟨none, (some 4), .mov (.t 15)⟩,
     ⟨none, (some 5), .mov (.t 16)⟩])
   (.seq
    (.seq
     (.reg [⟨none, (some 17), .mov (.t 5)⟩,
       ⟨none, (some 18), .un .not (.t 17)⟩])
     (.cond (.t 18)
      (.seq
       (.reg [⟨none, (some 2), .mov (.c (.bool false))⟩,
         ⟨none, (some 3), .mov (.c (.int .i64 (2)))⟩])
       (.ret (m 64 12)))
      (.skip)))
    (.seq
     (.reg [⟨none, (some 6), .mov (.c (.int .i64 (0)))⟩,
       ⟨none, (some 7), .mov (.c (.int .i64 (1)))⟩])
     (.seq
      (.seq
       (.reg [⟨none, (some 19), .mov (.t 4)⟩,
         ⟨none, (some 20), .len (.t 19)⟩,
         ⟨none, (some 21), .mov (.c (.int .i64 (0)))⟩])
       (.block 0 (m 64 208)
        (F41L1)))
      F41T2))))
def F41 : XF := ⟨1, 64, [.tmp 2, .tmp 3], F41B⟩
def M41 : List (List Bool) := [(m 64 12), (m 64 208), (m 64 3145936), (m 64 208), (m 64 3145936), (m 64 3145936), (m 64 61866192), (m 64 3145936), (m 64 61866192), (m 64 208), (m 64 7696581394640), (m 64 208), (m 64 7696581394640), (m 64 12)]
def F42L0b : XC :=
 .seq
  (.seq
   (.reg [⟨none, (some 19), .mov (.t 7)⟩,
     ⟨none, (some 20), .mov (.t 0)⟩,
     ⟨none, (some 21), .len (.t 20)⟩,
     ⟨none, (some 22), .bin .lss (.t 19) (.t 21)⟩])
   (.cond (.t 22)
    (.skip)
    (.exit 4 (m 51 121))))
  (.seq
   (.block 5 (m 51 249)
    (.seq
     (.reg [⟨none, (some 25), .mov (.t 5)⟩,
       ⟨none, (some 26), .mov (.t 7)⟩,
       ⟨none, (some 27), .bin .shr (.t 25) (.t 26)⟩,
       ⟨none, (some 28), .bin .rem (.t 27) (.c (.int .i64 (2)))⟩,
       ⟨none, (some 29), .bin .eql (.t 28) (.c (.int .i64 (1)))⟩,
       ⟨none, (some 30), .mov (.t 29)⟩,
       ⟨(some (30, true)), (some 31), .mov (.t 0)⟩,
       ⟨(some (30, true)), (some 32), .mov (.t 7)⟩,
       ⟨(some (30, true)), (some 33), .indexA 1 (.t 31) (.t 32)⟩,
       ⟨(some (30, true)), (some 34), .load none (.t 33)⟩,
       ⟨(some (30, true)), (some 35), .mov (.t 5)⟩,
       ⟨(some (30, true)), (some 36), .bin .andNot (.t 34) (.t 35)⟩,
       ⟨(some (30, true)), (some 37), .bin .neq (.t 36) (.c (.int .i64 (0)))⟩,
       ⟨none, (some 38), .pick (.t 30) (.t 37) (.c (.bool false))⟩])
     (.cond (.t 38)
      (.seq
       (.reg [⟨none, (some 39), .mov (.t 5)⟩,
         ⟨none, (some 40), .mov (.t 0)⟩,
         ⟨none, (some 41), .mov (.t 7)⟩,
         ⟨none, (some 42), .indexA 1 (.t 40) (.t 41)⟩,
         ⟨none, (some 43), .load none (.t 42)⟩,
         ⟨none, (some 44), .bin .or (.t 39) (.t 43)⟩,
         ⟨none, (some 5), .mov (.t 44)⟩])
       (.reg [⟨none, (some 6), .mov (.c (.bool true))⟩]))
      (.skip))))
   (.reg [⟨none, (some 23), .mov (.t 7)⟩,
     ⟨none, (some 24), .bin .add (.t 23) (.c (.int .i64 (1)))⟩,
     ⟨none, (some 7), .mov (.t 24)⟩]))
def F42L0 : XC := .loop (m 51 249) F42L0b
def F42L1b : XC :=
 .seq
  (.seq
   (.reg [⟨none, (some 18), .mov (.t 6)⟩])
   (.cond (.t 18)
    (.skip)
    (.exit 2 (m 51 57))))
  (.block 3 (m 51 121)
   (.seq
    (.reg [⟨none, (some 6), .mov (.c (.bool false))⟩])
    (.seq
     (.reg [⟨none, (some 7), .mov (.c (.int .i64 (0)))⟩])
     (.block 4 (m 51 121)
      (F42L0)))))
def F42L1 : XC := .loop (m 51 121) F42L1b
def F42T0 : XC :=
 .seq
  (.reg [⟨none, (some 45), .mov (.t 3)⟩,
    ⟨none, (some 46), .mov (.t 5)⟩,
    ⟨none, (some 47), .bin .andNot (.t 45) (.t 46)⟩,
    ⟨none, (some 3), .mov (.t 47)⟩])
  (.reg [⟨none, (some 48), .mov (.t 4)⟩,
    ⟨none, (some 49), .bin .add (.t 48) (.c (.int .i64 (1)))⟩,
    ⟨none, (some 4), .mov (.t 49)⟩])
def F42L2b : XC :=
 .seq
  (.seq
   (.reg [⟨none, (some 12), .mov (.t 3)⟩,
     ⟨none, (some 13), .bin .gtr (.t 12) (.c (.int .i64 (0)))⟩])
   (.cond (.t 13)
    (.skip)
    (.exit 0 (m 51 16))))
  (.block 1 (m 51 25)
   (.seq
    (.reg [⟨none, (some 14), .mov (.t 3)⟩,
      ⟨none, (some 15), .mov (.t 3)⟩,
      ⟨none, (some 16), .bin .sub (.t 15) (.c (.int .i64 (1)))⟩,
      ⟨none, (some 17), .bin .andNot (.t 14) (.t 16)⟩,
      ⟨none, (some 5), .mov (.t 17)⟩])
    (.seq
     (.seq
      (.reg [⟨none, (some 6), .mov (.c (.bool true))⟩])
      (.block 2 (m 51 57)
       (F42L1)))
     F42T0)))
def F42L2 : XC := .loop (m 51 25) F42L2b
def F42T1 : XC :=
 .seq
  (.reg [⟨none, (some 50), .mov (.t 4)⟩,
    ⟨none, (some 2), .mov (.t 50)⟩])
  (.ret (m 51 4))
def F42B : XC :=
 .seq
  (.reg [⟨none, (some 2), .mov (.c (.int .i64 (0)))⟩])
  (.seq
   (.reg [⟨none, (some 8), .mov (.t 0)⟩,
     ⟨none, (some 9), .len (.t 8)⟩,
     ⟨none, (some 10), .bin .shl (.c (.int .i64 (1))) (.t 9)⟩,
     ⟨none, (some 11), .bin .sub (.t 10) (.c (.int .i64 (1)))⟩,
     ⟨none, (some 3), .mov (.t 11)⟩,
     ⟨none, (some 4), .mov (.c (.int .i64 (0)))⟩])
   (.seq
    (.block 0 (m 51 16)
     (F42L2))
    F42T1))
def F42 : XF := ⟨1, 51, [.tmp 2], F42B⟩
def M42 : List (List Bool) := [(m 51 16), (m 51 25), (m 51 16), (m 51 25), (m 51 57), (m 51 121), (m 51 57), (m 51 121), (m 51 121), (m 51 249), (m 51 121), (m 51 249), (m 51 4)]
def F43B : XC :=
 .seq
  (.reg [⟨none, (some 4), .mov (.c (.int .i64 (0)))⟩,
    ⟨none, (some 5), .mov (.c (.int .i64 (0)))⟩,
    ⟨none, (some 6), .mov (.c (.int .i64 (0)))⟩])
  (.seq
   (.seq
    (.reg [⟨none, (some 9), .mov (.t 0)⟩,
      ⟨none, (some 10), .call 1 20 [.t 9]⟩,
      ⟨none, (some 11), .un .not (.t 10)⟩,
      ⟨none, (some 12), .mov (.t 11)⟩,
      ⟨(some (12, false)), (some 13), .mov (.t 1)⟩,
      ⟨(some (12, false)), (some 14), .bin .lss (.t 13) (.c (.int .i64 (0)))⟩,
      ⟨none, (some 15), .pick (.t 12) (.c (.bool true)) (.t 14)⟩,
      ⟨none, (some 16), .mov (.t 15)⟩,
      ⟨(some (16, false)), (some 17), .mov (.t 1)⟩,
      ⟨(some (16, false)), (some 18), .mov (.t 0)⟩,
      ⟨(some (16, false)), (some 19), .len (.t 18)⟩,
      ⟨(some (16, false)), (some 20), .bin .gtr (.t 17) (.t 19)⟩,
      ⟨none, (some 21), .pick (.t 16) (.c (.bool true)) (.t 20)⟩])
    (.cond (.t 21)
     (.seq
      (.reg [⟨none, (some 4), .mov (.c (.int .i64 (0)))⟩,
        ⟨none, (some 5), .mov (.c (.int .i64 (0)))⟩,
        ⟨none, (some 6), .mov (.c (.int .i64 (2)))⟩])
      (.ret (m 46 112)))
     (.skip)))
   (.seq
    (.reg [⟨none, (some 22), .mov (.t 0)⟩,
      ⟨none, (some 23), .len (.t 22)⟩,
      ⟨none, (some 24), .bin .add (.t 23) (.c (.int .i64 (1)))⟩,
      ⟨none, (some 25), .mks 1 8 [.int .i64 (0)] (.t 24) (.t 24)⟩,
      ⟨none, (some 26), .mov (.t 0)⟩,
      ⟨none, (some 27), .len (.t 26)⟩,
      ⟨none, (some 28), .bin .add (.t 27) (.c (.int .i64 (1)))⟩,
      ⟨none, (some 29), .mks 1 8 [.int .i64 (0)] (.t 28) (.t 28)⟩,
      ⟨none, (some 7), .mov (.t 25)⟩,
      ⟨none, (some 8), .mov (.t 29)⟩])
    (.seq
     (.reg [⟨none, (some 30), .mov (.t 0)⟩,
       ⟨none, (some 31), .mov (.t 0)⟩,
       ⟨none, (some 32), .len (.t 31)⟩,
       ⟨none, (some 33), .bin .shl (.c (.int .i64 (1))) (.t 32)⟩,
       ⟨none, (some 34), .bin .sub (.t 33) (.c (.int .i64 (1)))⟩,
       ⟨none, (some 35), .mov (.t 7)⟩,
       ⟨none, (some 36), .mov (.t 8)⟩,
       ⟨none, (some 37), .call 0 70 [.t 30, .t 34, .c (.int .i64 (0)), .c (.int .i64 (1)), .t 35, .t 36]⟩])
     (.seq
      (.reg [⟨none, (some 38), .mov (.t 7)⟩,
        ⟨none, (some 39), .mov (.t 1)⟩,
        ⟨none, (some 40), .indexA 1 (.t 38) (.t 39)⟩,
        ⟨none, (some 41), .load none (.t 40)⟩,
        ⟨none, (some 42), .mov (.t 8)⟩,
        ⟨none, (some 43), .mov (.t 1)⟩,
        ⟨none, (some 44), .indexA 1 (.t 42) (.t 43)⟩,
        ⟨none, (some 45), .load none (.t 44)⟩,
        ⟨none, (some 4), .mov (.t 41)⟩,
        ⟨none, (some 5), .mov (.t 45)⟩,
        ⟨none, (some 6), .mov (.c (.int .i64 (0)))⟩])
      (.ret (m 46 112))))))
def F43 : XF := ⟨2, 46, [.tmp 4, .tmp 5, .tmp 6], F43B⟩
def M43 : List (List Bool) := [(m 46 112), (m 46 112)]
def F44L0b : XC :=
 .seq
  (.reg [⟨none, (some 57), .bin .lss (.t 56) (.t 55)⟩])
  (.seq
   (.cond (.t 57)
    (.skip)
    (.exit 6 (m 86 991765930708802)))
   (.seq
    (.block 7 (m 86 109078156987612994)
     (.seq
      (.reg [⟨none, (some 58), .mov (.t 56)⟩,
        ⟨none, (some 14), .mov (.t 58)⟩])
      (.reg [⟨none, (some 59), .mov (.t 11)⟩,
        ⟨none, (some 60), .mov (.t 14)⟩,
        ⟨none, (some 61), .indexA 1 (.t 59) (.t 60)⟩,
        ⟨none, (some 62), .load none (.t 61)⟩,
        ⟨none, (some 63), .mov (.t 10)⟩,
        ⟨none, (some 64), .mov (.t 12)⟩,
        ⟨none, (some 65), .indexA 1 (.t 63) (.t 64)⟩,
        ⟨none, (some 66), .load none (.t 65)⟩,
        ⟨none, (some 67), .mov (.t 13)⟩,
        ⟨none, (some 68), .mov (.t 14)⟩,
        ⟨none, (some 69), .bin .shr (.t 67) (.t 68)⟩,
        ⟨none, (some 70), .bin .and (.t 69) (.c (.int .i64 (1)))⟩,
        ⟨none, (some 71), .bin .mul (.t 66) (.t 70)⟩,
        ⟨none, (some 72), .bin .add (.t 62) (.t 71)⟩,
        ⟨none, (some 73), .indexA 1 (.t 59) (.t 60)⟩,
        ⟨none, none, .store 1 (.t 73) (.t 72)⟩])))
    (.reg [⟨none, (some 74), .bin .add (.t 56) (.c (.int .i64 (1)))⟩,
      ⟨none, (some 56), .mov (.t 74)⟩])))
def F44L0 : XC := .loop (m 86 109078156987612994) F44L0b
def F44T0 : XC :=
 .reg [⟨none, (some 75), .bin .add (.t 49) (.c (.int .i64 (1)))⟩,
   ⟨none, (some 49), .mov (.t 75)⟩]
def F44L1b : XC :=
 .seq
  (.reg [⟨none, (some 50), .bin .lss (.t 49) (.t 48)⟩])
  (.seq
   (.cond (.t 50)
    (.skip)
    (.exit 4 (m 86 6603512220482)))
   (.seq
    (.block 5 (m 86 991765930708802)
     (.seq
      (.reg [⟨none, (some 51), .mov (.t 49)⟩,
        ⟨none, (some 52), .indexA 1 (.t 47) (.t 49)⟩,
        ⟨none, (some 53), .load none (.t 52)⟩,
        ⟨none, (some 12), .mov (.t 51)⟩,
        ⟨none, (some 13), .mov (.t 53)⟩])
      (.seq
       (.reg [⟨none, (some 54), .mov (.t 6)⟩,
         ⟨none, (some 55), .len (.t 54)⟩,
         ⟨none, (some 56), .mov (.c (.int .i64 (0)))⟩])
       (.block 6 (m 86 991765930708802)
        (F44L0)))))
    F44T0))
def F44L1 : XC := .loop (m 86 991765930708802) F44L1b
def F44T1 : XC :=
 .reg [⟨none, (some 76), .mov (.t 11)⟩,
   ⟨none, (some 10), .mov (.t 76)⟩]
def F44T2 : XC :=
 .reg [⟨none, (some 77), .bin .add (.t 42) (.c (.int .i64 (1)))⟩,
   ⟨none, (some 42), .mov (.t 77)⟩]
def F44L2b : XC :=
 .seq
  (.reg [⟨none, (some 43), .bin .lss (.t 42) (.t 41)⟩])
  (.seq
   (.cond (.t 43)
    (.skip)
    (.exit 2 (m 86 6442452802)))
   (.seq
    (.block 3 (m 86 6603512219458)
     (.seq
      (.reg [⟨none, (some 44), .mov (.t 6)⟩,
        ⟨none, (some 45), .len (.t 44)⟩,
        ⟨none, (some 46), .mks 1 8 [.int .i64 (0)] (.t 45) (.t 45)⟩,
        ⟨none, (some 11), .mov (.t 46)⟩])
      (.seq
       (.seq
        (.reg [⟨none, (some 47), .mov (.t 6)⟩,
          ⟨none, (some 48), .len (.t 47)⟩,
          ⟨none, (some 49), .mov (.c (.int .i64 (0)))⟩])
        (.block 4 (m 86 6603512220482)
         (F44L1)))
       F44T1)))
    F44T2))
def F44L2 : XC := .loop (m 86 6603512219458) F44L2b
def F44T3 : XC :=
 .reg [⟨none, (some 78), .mov (.t 8)⟩,
   ⟨none, (some 79), .mov (.t 10)⟩,
   ⟨none, (some 80), .mov (.t 9)⟩,
   ⟨none, (some 81), .indexA 1 (.t 79) (.t 80)⟩,
   ⟨none, (some 82), .load none (.t 81)⟩,
   ⟨none, (some 83), .bin .add (.t 78) (.t 82)⟩,
   ⟨none, (some 8), .mov (.t 83)⟩]
def F44T4 : XC :=
 .reg [⟨none, (some 84), .bin .add (.t 32) (.c (.int .i64 (1)))⟩,
   ⟨none, (some 32), .mov (.t 84)⟩]
def F44L3b : XC :=
 .seq
  (.reg [⟨none, (some 33), .bin .lss (.t 32) (.t 31)⟩])
  (.seq
   (.cond (.t 33)
    (.skip)
    (.exit 0 (m 86 256)))
   (.seq
    (.block 1 (m 86 6442451266)
     (.seq
      (.reg [⟨none, (some 34), .mov (.t 32)⟩,
        ⟨none, (some 9), .mov (.t 34)⟩])
      (.seq
       (.reg [⟨none, (some 35), .mov (.t 6)⟩,
         ⟨none, (some 36), .len (.t 35)⟩,
         ⟨none, (some 37), .mks 1 8 [.int .i64 (0)] (.t 36) (.t 36)⟩,
         ⟨none, (some 10), .mov (.t 37)⟩])
       (.seq
        (.reg [⟨none, (some 38), .mov (.t 10)⟩,
          ⟨none, (some 39), .mov (.t 9)⟩,
          ⟨none, (some 40), .indexA 1 (.t 38) (.t 39)⟩,
          ⟨none, none, .store 1 (.t 40) (.c (.int .i64 (1)))⟩])
        (.seq
         (.seq
          (.reg [⟨none, (some 41), .mov (.t 1)⟩,
            ⟨none, (some 42), .mov (.c (.int .i64 (0)))⟩])
          (.block 2 (m 86 6442452802)
           (F44L2)))
         F44T3)))))
    F44T4))
def F44L3 : XC := .loop (m 86 6442451266) F44L3b
def F44T5 : XC :=
 .seq
  (.reg [⟨none, (some 85), .mov (.t 8)⟩,
    ⟨none, (some 4), .mov (.t 85)⟩,
    ⟨none, (some 5), .mov (.c (.int .i64 (0)))⟩])
  (.ret (m 86 48))
def F44B : XC :=
 .seq
  (.reg [⟨none, (some 4), .mov (.c (.int .i64 (0)))⟩,
    ⟨none, (some 5), .mov (.c (.int .i64 (0)))⟩])
  (.seq
   (.reg [⟨none, (some 16), .mov (.t 0)⟩,
     ⟨none, (some 17), .call 0 51 [.t 16]⟩,
     ⟨none, (some 15), .mov (.t 17)⟩,
     ⟨none, (some 18), .ext (.t 15) 0⟩,
     ⟨none, (some 19), .ext (.t 15) 1⟩,
     ⟨none, (some 6), .mov (.t 18)⟩,
     ⟨none, (some 7), .mov (.t 19)⟩])
   (.seq
    (.seq
     (.reg [⟨none, (some 20), .mov (.t 7)⟩,
       ⟨none, (some 21), .un .not (.t 20)⟩,
       ⟨none, (some 22), .mov (.t 21)⟩,
       ⟨(some (22, false)), (some 23), .mov (.t 1)⟩,
       ⟨(some (22, false)), (some 24), .bin .lss (.t 23) (.c (.int .i64 (0)))⟩,
       ⟨none, (some 25), .pick (.t 22) (.c (.bool true)) (.t 24)⟩,
       ⟨none, (some 26), .mov (.t 25)⟩,
       ⟨(some (26, false)), (some 27), .mov (.t 1)⟩,
       ⟨(some (26, false)), (some 28), .bin .gtr (.t 27) (.c (.int .i64 (16)))⟩,
       ⟨none, (some 29), .pick (.t 26) (.c (.bool true)) (.t 28)⟩])
     (.cond (.t 29)
      (.seq
       (.reg [⟨none, (some 4), .mov (.c (.int .i64 (0)))⟩,
         ⟨none, (some 5), .mov (.c (.int .i64 (2)))⟩])
       (.ret (m 86 48)))
      (.skip)))
    (.seq
     (.reg [⟨none, (some 8), .mov (.c (.int .i64 (0)))⟩])
     (.seq
      (.seq
       (.reg [⟨none, (some 30), .mov (.t 6)⟩,
         ⟨none, (some 31), .len (.t 30)⟩,
         ⟨none, (some 32), .mov (.c (.int .i64 (0)))⟩])
       (.block 0 (m 86 256)
        (F44L3)))
      F44T5))))
def F44 : XF := ⟨2, 86, [.tmp 4, .tmp 5], F44B⟩
def M44 : List (List Bool) := [(m 86 48), (m 86 256), (m 86 6442451266), (m 86 256), (m 86 6442451266), (m 86 6442452802), (m 86 6603512219458), (m 86 6442452802), (m 86 6603512219458), (m 86 6603512220482), (m 86 991765930708802), (m 86 6603512220482), (m 86 991765930708802), (m 86 991765930708802), (m 86 109078156987612994), (m 86 991765930708802), (m 86 109078156987612994), (m 86 48)]
def F45L0b : XC :=
 .seq
  (.seq
   (.reg [⟨none, (some 50), .mov (.t 12)⟩,
     ⟨none, (some 51), .mov (.t 0)⟩,
     ⟨none, (some 52), .len (.t 51)⟩,
     ⟨none, (some 53), .bin .lss (.t 50) (.t 52)⟩])
   (.cond (.t 53)
    (.skip)
    (.exit 6 (m 82 4035))))
  (.seq
   (.block 7 (m 82 8131)
    (.seq
     (.reg [⟨none, (some 56), .mov (.t 0)⟩,
       ⟨none, (some 57), .mov (.t 11)⟩,
       ⟨none, (some 58), .indexA 1 (.t 56) (.t 57)⟩,
       ⟨none, (some 59), .load none (.t 58)⟩,
       ⟨none, (some 60), .mov (.t 12)⟩,
       ⟨none, (some 61), .bin .shr (.t 59) (.t 60)⟩,
       ⟨none, (some 62), .bin .rem (.t 61) (.c (.int .i64 (2)))⟩,
       ⟨none, (some 63), .bin .eql (.t 62) (.c (.int .i64 (1)))⟩])
     (.cond (.t 63)
      (.reg [⟨none, (some 64), .mov (.t 10)⟩,
        ⟨none, (some 65), .mov (.t 12)⟩,
        ⟨none, (some 66), .indexA 1 (.t 64) (.t 65)⟩,
        ⟨none, (some 67), .load none (.t 66)⟩,
        ⟨none, (some 68), .mov (.t 8)⟩,
        ⟨none, (some 69), .mov (.t 11)⟩,
        ⟨none, (some 70), .indexA 1 (.t 68) (.t 69)⟩,
        ⟨none, (some 71), .load none (.t 70)⟩,
        ⟨none, (some 72), .bin .add (.t 67) (.t 71)⟩,
        ⟨none, (some 73), .indexA 1 (.t 64) (.t 65)⟩,
        ⟨none, none, .store 1 (.t 73) (.t 72)⟩])
      (.skip))))
   (.reg [⟨none, (some 54), .mov (.t 12)⟩,
     ⟨none, (some 55), .bin .add (.t 54) (.c (.int .i64 (1)))⟩,
     ⟨none, (some 12), .mov (.t 55)⟩]))
def F45L0 : XC := .loop (m 82 8131) F45L0b
def F45T0 : XC :=
 .reg [⟨none, (some 48), .mov (.t 11)⟩,
   ⟨none, (some 49), .bin .add (.t 48) (.c (.int .i64 (1)))⟩,
   ⟨none, (some 11), .mov (.t 49)⟩]
def F45L1b : XC :=
 .seq
  (.seq
   (.reg [⟨none, (some 44), .mov (.t 11)⟩,
     ⟨none, (some 45), .mov (.t 0)⟩,
     ⟨none, (some 46), .len (.t 45)⟩,
     ⟨none, (some 47), .bin .lss (.t 44) (.t 46)⟩])
   (.cond (.t 47)
    (.skip)
    (.exit 4 (m 82 1731))))
  (.seq
   (.block 5 (m 82 4035)
    (.seq
     (.reg [⟨none, (some 12), .mov (.c (.int .i64 (0)))⟩])
     (.block 6 (m 82 4035)
      (F45L0))))
   F45T0)
def F45L1 : XC := .loop (m 82 4035) F45L1b
def F45T1 : XC :=
 .reg [⟨none, (some 74), .mov (.t 10)⟩,
   ⟨none, (some 8), .mov (.t 74)⟩]
def F45T2 : XC :=
 .reg [⟨none, (some 39), .mov (.t 9)⟩,
   ⟨none, (some 40), .bin .add (.t 39) (.c (.int .i64 (1)))⟩,
   ⟨none, (some 9), .mov (.t 40)⟩]
def F45L2b : XC :=
 .seq
  (.seq
   (.reg [⟨none, (some 36), .mov (.t 9)⟩,
     ⟨none, (some 37), .mov (.t 1)⟩,
     ⟨none, (some 38), .bin .lss (.t 36) (.t 37)⟩])
   (.cond (.t 38)
    (.skip)
    (.exit 2 (m 82 451))))
  (.seq
   (.block 3 (m 82 963)
    (.seq
     (.reg [⟨none, (some 41), .mov (.t 0)⟩,
       ⟨none, (some 42), .len (.t 41)⟩,
       ⟨none, (some 43), .mks 1 8 [.int .i64 (0)] (.t 42) (.t 42)⟩,
       ⟨none, (some 10), .mov (.t 43)⟩])
     (.seq
      (.seq
       (.reg [⟨none, (some 11), .mov (.c (.int .i64 (0)))⟩])
       (.block 4 (m 82 1731)
        (F45L1)))
      F45T1)))
   F45T2)
def F45L2 : XC := .loop (m 82 963) F45L2b
def F45T3 : XC :=
 .reg [⟨none, (some 75), .mov (.t 6)⟩,
   ⟨none, (some 76), .mov (.t 8)⟩,
   ⟨none, (some 77), .mov (.t 7)⟩,
   ⟨none, (some 78), .indexA 1 (.t 76) (.t 77)⟩,
   ⟨none, (some 79), .load none (.t 78)⟩,
   ⟨none, (some 80), .bin .add (.t 75) (.t 79)⟩,
   ⟨none, (some 6), .mov (.t 80)⟩]
def F45T4 : XC :=
 .reg [⟨none, (some 28), .mov (.t 7)⟩,
   ⟨none, (some 29), .bin .add (.t 28) (.c (.int .i64 (1)))⟩,
   ⟨none, (some 7), .mov (.t 29)⟩]
def F45L3b : XC :=
 .seq
  (.seq
   (.reg [⟨none, (some 24), .mov (.t 7)⟩,
     ⟨none, (some 25), .mov (.t 0)⟩,
     ⟨none, (some 26), .len (.t 25)⟩,
     ⟨none, (some 27), .bin .lss (.t 24) (.t 26)⟩])
   (.cond (.t 27)
    (.skip)
    (.exit 0 (m 82 64))))
  (.seq
   (.block 1 (m 82 195)
    (.seq
     (.reg [⟨none, (some 30), .mov (.t 0)⟩,
       ⟨none, (some 31), .len (.t 30)⟩,
       ⟨none, (some 32), .mks 1 8 [.int .i64 (0)] (.t 31) (.t 31)⟩,
       ⟨none, (some 8), .mov (.t 32)⟩])
     (.seq
      (.reg [⟨none, (some 33), .mov (.t 8)⟩,
        ⟨none, (some 34), .mov (.t 7)⟩,
        ⟨none, (some 35), .indexA 1 (.t 33) (.t 34)⟩,
        ⟨none, none, .store 1 (.t 35) (.c (.int .i64 (1)))⟩])
      (.seq
       (.seq
        (.reg [⟨none, (some 9), .mov (.c (.int .i64 (0)))⟩])
        (.block 2 (m 82 451)
         (F45L2)))
       F45T3))))
   F45T4)
def F45L3 : XC := .loop (m 82 195) F45L3b
def F45T5 : XC :=
 .seq
  (.reg [⟨none, (some 81), .mov (.t 6)⟩,
    ⟨none, (some 4), .mov (.t 81)⟩,
    ⟨none, (some 5), .mov (.c (.int .i64 (0)))⟩])
  (.ret (m 82 48))
def F45B : XC :=
 .seq
  (.reg [⟨none, (some 4), .mov (.c (.int .i64 (0)))⟩,
    ⟨none, (some 5), .mov (.c (.int .i64 (0)))⟩])
  (.seq
   (.seq
    (.reg [⟨none, (some 13), .mov (.t 0)⟩,
      ⟨none, (some 14), .call 1 20 [.t 13]⟩,
      ⟨none, (some 15), .un .not (.t 14)⟩,
      ⟨none, (some 16), .mov (.t 15)⟩,
      ⟨(some (16, false)), (some 17), .mov (.t 1)⟩,
      ⟨(some (16, false)), (some 18), .bin .lss (.t 17) (.c (.int .i64 (0)))⟩,
      ⟨none, (some 19), .pick (.t 16) (.c (.bool true)) (.t 18)⟩,
      ⟨none, (some 20), .mov (.t 19)⟩,
      ⟨(some (20, false)), (some 21), .mov (.t 1)⟩,
      ⟨(some (20, false)), (some 22), .bin .gtr (.t 21) (.c (.int .i64 (16)))⟩,
      ⟨none, (some 23), .pick (.t 20) (.c (.bool true)) (.t 22)⟩])
    (.cond (.t 23)
     (.seq
      (.reg [⟨none, (some 4), .mov (.c (.int .i64 (0)))⟩,
        ⟨none, (some 5), .mov (.c (.int .i64 (2)))⟩])
      (.ret (m 82 48)))
     (.skip)))
   (.seq
    (.reg [⟨none, (some 6), .mov (.c (.int .i64 (0)))⟩])
    (.seq
     (.seq
      (.reg [⟨none, (some 7), .mov (.c (.int .i64 (0)))⟩])
      (.block 0 (m 82 64)
       (F45L3)))
     F45T5)))
def F45 : XF := ⟨2, 82, [.tmp 4, .tmp 5], F45B⟩
def M45 : List (List Bool) := [(m 82 48), (m 82 64), (m 82 195), (m 82 64), (m 82 195), (m 82 451), (m 82 963), (m 82 451), (m 82 963), (m 82 1731), (m 82 4035), (m 82 1731), (m 82 4035), (m 82 4035), (m 82 8131), (m 82 4035), (m 82 8131), (m 82 48)]
def F46B : XC :=
 .seq
  (.reg [⟨none, (some 4), .mov (.c (.nils))⟩,
    ⟨none, (some 5), .mov (.c (.int .i64 (0)))⟩])
  (.seq
   (.seq
    (.reg [⟨none, (some 6), .mov (.t 0)⟩,
      ⟨none, (some 7), .call 1 20 [.t 6]⟩,
      ⟨none, (some 8), .un .not (.t 7)⟩,
      ⟨none, (some 9), .mov (.t 8)⟩,
      ⟨(some (9, false)), (some 10), .mov (.t 1)⟩,
      ⟨(some (9, false)), (some 11), .bin .lss (.t 10) (.c (.int .i64 (0)))⟩,
      ⟨none, (some 12), .pick (.t 9) (.c (.bool true)) (.t 11)⟩,
      ⟨none, (some 13), .mov (.t 12)⟩,
      ⟨(some (13, false)), (some 14), .mov (.t 1)⟩,
      ⟨(some (13, false)), (some 15), .mov (.t 0)⟩,
      ⟨(some (13, false)), (some 16), .len (.t 15)⟩,
      ⟨(some (13, false)), (some 17), .bin .geq (.t 14) (.t 16)⟩,
      ⟨none, (some 18), .pick (.t 13) (.c (.bool true)) (.t 17)⟩])
    (.cond (.t 18)
     (.seq
      (.reg [⟨none, (some 4), .mov (.c (.nils))⟩,
        ⟨none, (some 5), .mov (.c (.int .i64 (2)))⟩])
      (.ret (m 26 48)))
     (.skip)))
   (.seq
    (.seq
     (.reg [⟨none, (some 19), .mov (.t 0)⟩,
       ⟨none, (some 20), .len (.t 19)⟩,
       ⟨none, (some 21), .bin .eql (.t 20) (.c (.int .i64 (1)))⟩])
     (.cond (.t 21)
      (.seq
       (.reg [⟨none, (some 4), .mov (.c (.nils))⟩,
         ⟨none, (some 5), .mov (.c (.int .i64 (9)))⟩])
       (.ret (m 26 48)))
      (.skip)))
    (.seq
     (.reg [⟨none, (some 22), .mov (.t 0)⟩,
       ⟨none, (some 23), .mov (.t 1)⟩,
       ⟨none, (some 24), .bin .shl (.c (.int .i64 (1))) (.t 23)⟩,
       ⟨none, (some 25), .call 1 39 [.t 22, .t 24]⟩,
       ⟨none, (some 4), .mov (.t 25)⟩,
       ⟨none, (some 5), .mov (.c (.int .i64 (0)))⟩])
     (.ret (m 26 48)))))
def F46 : XF := ⟨2, 26, [.tmp 4, .tmp 5], F46B⟩
def M46 : List (List Bool) := [(m 26 48), (m 26 48), (m 26 48)]
def F47B : XC :=
 .seq
  (.reg [⟨none, (some 6), .mov (.c (.nils))⟩,
    ⟨none, (some 7), .mov (.c (.int .i64 (0)))⟩])
  (.seq
   (.seq
    (.reg [⟨none, (some 9), .mov (.t 0)⟩,
      ⟨none, (some 10), .call 1 20 [.t 9]⟩,
      ⟨none, (some 11), .un .not (.t 10)⟩,
      ⟨none, (some 12), .mov (.t 11)⟩,
      ⟨(some (12, false)), (some 13), .mov (.t 1)⟩,
      ⟨(some (12, false)), (some 14), .bin .lss (.t 13) (.c (.int .i64 (0)))⟩,
      ⟨none, (some 15), .pick (.t 12) (.c (.bool true)) (.t 14)⟩,
      ⟨none, (some 16), .mov (.t 15)⟩,
      ⟨(some (16, false)), (some 17), .mov (.t 1)⟩,
      ⟨(some (16, false)), (some 18), .mov (.t 0)⟩,
      ⟨(some (16, false)), (some 19), .len (.t 18)⟩,
      ⟨(some (16, false)), (some 20), .bin .geq (.t 17) (.t 19)⟩,
      ⟨none, (some 21), .pick (.t 16) (.c (.bool true)) (.t 20)⟩,
      ⟨none, (some 22), .mov (.t 21)⟩,
      ⟨(some (22, false)), (some 23), .mov (.t 2)⟩,
      ⟨(some (22, false)), (some 24), .bin .lss (.t 23) (.c (.int .i64 (0)))⟩,
      ⟨none, (some 25), .pick (.t 22) (.c (.bool true)) (.t 24)⟩,
      ⟨none, (some 26), .mov (.t 25)⟩,
      ⟨(some (26, false)), (some 27), .mov (.t 2)⟩,
      ⟨(some (26, false)), (some 28), .mov (.t 0)⟩,
      ⟨(some (26, false)), (some 29), .len (.t 28)⟩,
      ⟨(some (26, false)), (some 30), .bin .geq (.t 27) (.t 29)⟩,
      ⟨none, (some 31), .pick (.t 26) (.c (.bool true)) (.t 30)⟩])
    (.cond (.t 31)
     (.seq
      (.reg [⟨none, (some 6), .mov (.c (.nils))⟩,
        ⟨none, (some 7), .mov (.c (.int .i64 (2)))⟩])
      (.ret (m 60 192)))
     (.skip)))
   (.seq
    (.seq
     (.reg [⟨none, (some 32), .mov (.t 0)⟩,
       ⟨none, (some 33), .mov (.t 1)⟩,
       ⟨none, (some 34), .indexA 1 (.t 32) (.t 33)⟩,
       ⟨none, (some 35), .load none (.t 34)⟩,
       ⟨none, (some 36), .mov (.t 2)⟩,
       ⟨none, (some 37), .bin .shr (.t 35) (.t 36)⟩,
       ⟨none, (some 38), .bin .rem (.t 37) (.c (.int .i64 (2)))⟩,
       ⟨none, (some 39), .bin .eql (.t 38) (.c (.int .i64 (0)))⟩])
     (.cond (.t 39)
      (.seq
       (.reg [⟨none, (some 6), .mov (.c (.nils))⟩,
         ⟨none, (some 7), .mov (.c (.int .i64 (6)))⟩])
       (.ret (m 60 192)))
      (.skip)))
    (.seq
     (.reg [⟨none, (some 8), .mov (.c (.nils))⟩])
     (.seq
      (.reg [⟨none, (some 40), .mov (.t 8)⟩,
        ⟨none, (some 41), .mov (.t 0)⟩,
        ⟨none, (some 42), .app 1 8 (.t 40) (.t 41)⟩,
        ⟨none, (some 8), .mov (.t 42)⟩])
      (.seq
       (.reg [⟨none, (some 43), .mov (.t 8)⟩,
         ⟨none, (some 44), .mov (.t 1)⟩,
         ⟨none, (some 45), .indexA 1 (.t 43) (.t 44)⟩,
         ⟨none, (some 46), .load none (.t 45)⟩,
         ⟨none, (some 47), .mov (.t 2)⟩,
         ⟨none, (some 48), .bin .shl (.c (.int .i64 (1))) (.t 47)⟩,
         ⟨none, (some 49), .bin .sub (.t 46) (.t 48)⟩,
         ⟨none, (some 50), .indexA 1 (.t 43) (.t 44)⟩,
         ⟨none, none, .store 1 (.t 50) (.t 49)⟩])
       (.seq
        (.reg [⟨none, (some 51), .mov (.t 8)⟩,
          ⟨none, (some 52), .mov (.t 2)⟩,
          ⟨none, (some 53), .indexA 1 (.t 51) (.t 52)⟩,
          ⟨none, (some 54), .load none (.t 53)⟩,
          ⟨none, (some 55), .mov (.t 1)⟩,
          ⟨none, (some 56), .bin .shl (.c (.int .i64 (1))) (.t 55)⟩,
          ⟨none, (some 57), .bin .sub (.t 54) (.t 56)⟩,
          ⟨none, (some 58), .indexA 1 (.t 51) (.t 52)⟩,
          ⟨none, none, .store 1 (.t 58) (.t 57)⟩])
        (.seq
         (.reg [⟨none, (some 59), .mov (.t 8)⟩,
           ⟨none, (some 6), .mov (.t 59)⟩,
           ⟨none, (some 7), .mov (.c (.int .i64 (0)))⟩])
         (.ret (m 60 192)))))))))
def F47 : XF := ⟨3, 60, [.tmp 6, .tmp 7], F47B⟩
def M47 : List (List Bool) := [(m 60 192), (m 60 192), (m 60 192)]
def F48B : XC :=
 .seq
  (.reg [⟨none, (some 2), .mov (.c (.bool false))⟩,
    ⟨none, (some 3), .mov (.c (.int .i64 (0)))⟩])
  (.seq
   (.seq
    (.reg [⟨none, (some 4), .mov (.t 0)⟩,
      ⟨none, (some 5), .call 1 20 [.t 4]⟩,
      ⟨none, (some 6), .un .not (.t 5)⟩])
    (.cond (.t 6)
     (.seq
      (.reg [⟨none, (some 2), .mov (.c (.bool false))⟩,
        ⟨none, (some 3), .mov (.c (.int .i64 (2)))⟩])
      (.ret (m 18 12)))
     (.skip)))
   (.seq
    (.reg [⟨none, (some 7), .mov (.t 0)⟩,
      ⟨none, (some 8), .call 1 42 [.t 7]⟩,
      ⟨none, (some 9), .bin .eql (.t 8) (.c (.int .i64 (1)))⟩,
      ⟨none, (some 10), .mov (.t 9)⟩,
      ⟨(some (10, true)), (some 11), .mov (.t 0)⟩,
      ⟨(some (10, true)), (some 12), .call 1 32 [.t 11]⟩,
      ⟨(some (10, true)), (some 13), .mov (.t 0)⟩,
      ⟨(some (10, true)), (some 14), .len (.t 13)⟩,
      ⟨(some (10, true)), (some 15), .bin .sub (.t 14) (.c (.int .i64 (1)))⟩,
      ⟨(some (10, true)), (some 16), .bin .eql (.t 12) (.t 15)⟩,
      ⟨none, (some 17), .pick (.t 10) (.t 16) (.c (.bool false))⟩,
      ⟨none, (some 2), .mov (.t 17)⟩,
      ⟨none, (some 3), .mov (.c (.int .i64 (0)))⟩])
    (.ret (m 18 12))))
def F48 : XF := ⟨1, 18, [.tmp 2, .tmp 3], F48B⟩
def M48 : List (List Bool) := [(m 18 12), (m 18 12)]
def F49B : XC :=
 .seq
  (.reg [⟨none, (some 0), .mov (.c (.nils))⟩])
  (.seq
   (.reg [⟨none, (some 1), .bslice 1 5 [.int .i64 (0)] [(0, 1, .c (.int .i64 (30))), (1, 1, .c (.int .i64 (1))), (2, 1, .c (.int .i64 (1))), (3, 1, .c (.int .i64 (1))), (4, 1, .c (.int .i64 (1)))]⟩,
     ⟨none, (some 0), .mov (.t 1)⟩])
   (.ret (m 2 1)))
def F49 : XF := ⟨0, 2, [.tmp 0], F49B⟩
def M49 : List (List Bool) := [(m 2 1)]
def F50B : XC :=
 .seq
  (.reg [⟨none, (some 0), .mov (.c (.nils))⟩])
  (.seq
   (.reg [⟨none, (some 1), .bslice 1 5 [.int .i64 (0)] [(0, 1, .c (.int .i64 (10))), (1, 1, .c (.int .i64 (5))), (2, 1, .c (.int .i64 (10))), (3, 1, .c (.int .i64 (5))), (4, 1, .c (.int .i64 (0)))]⟩,
     ⟨none, (some 0), .mov (.t 1)⟩])
   (.ret (m 2 1)))
def F50 : XF := ⟨0, 2, [.tmp 0], F50B⟩
def M50 : List (List Bool) := [(m 2 1)]
def F51L0b : XC :=
 .seq
  (.reg [⟨none, (some 42), .bin .lss (.t 41) (.t 40)⟩])
  (.seq
   (.cond (.t 42)
    (.skip)
    (.exit 2 (m 58 458753)))
   (.seq
    (.block 3 (m 58 3848291156017)
     (.seq
      (.reg [⟨none, (some 43), .mov (.t 41)⟩,
        ⟨none, (some 44), .indexA 1 (.t 39) (.t 41)⟩,
        ⟨none, (some 45), .load none (.t 44)⟩,
        ⟨none, (some 6), .mov (.t 43)⟩,
        ⟨none, (some 7), .mov (.t 45)⟩])
      (.seq
       (.reg [⟨none, (some 46), .mov (.t 5)⟩,
         ⟨none, (some 47), .mov (.t 6)⟩,
         ⟨none, (some 48), .bin .shr (.t 46) (.t 47)⟩,
         ⟨none, (some 49), .bin .and (.t 48) (.c (.int .i64 (1)))⟩,
         ⟨none, (some 50), .mov (.t 7)⟩,
         ⟨none, (some 51), .mov (.t 4)⟩,
         ⟨none, (some 52), .bin .shr (.t 50) (.t 51)⟩,
         ⟨none, (some 53), .bin .and (.t 52) (.c (.int .i64 (1)))⟩,
         ⟨none, (some 54), .bin .neq (.t 49) (.t 53)⟩])
       (.cond (.t 54)
        (.seq
         (.reg [⟨none, (some 2), .mov (.c (.nils))⟩,
           ⟨none, (some 3), .mov (.c (.bool false))⟩])
         (.ret (m 58 12)))
        (.skip)))))
    (.reg [⟨none, (some 55), .bin .add (.t 41) (.c (.int .i64 (1)))⟩,
      ⟨none, (some 41), .mov (.t 55)⟩])))
def F51L0 : XC := .loop (m 58 3848291156017) F51L0b
def F51T0 : XC :=
 .reg [⟨none, (some 56), .bin .add (.t 18) (.c (.int .i64 (1)))⟩,
   ⟨none, (some 18), .mov (.t 56)⟩]
def F51L1b : XC :=
 .seq
  (.reg [⟨none, (some 19), .bin .lss (.t 18) (.t 17)⟩])
  (.seq
   (.cond (.t 19)
    (.skip)
    (.exit 0 (m 58 1)))
   (.seq
    (.block 1 (m 58 458753)
     (.seq
      (.reg [⟨none, (some 20), .mov (.t 18)⟩,
        ⟨none, (some 21), .indexA 1 (.t 16) (.t 18)⟩,
        ⟨none, (some 22), .load none (.t 21)⟩,
        ⟨none, (some 4), .mov (.t 20)⟩,
        ⟨none, (some 5), .mov (.t 22)⟩])
      (.seq
       (.seq
        (.reg [⟨none, (some 23), .mov (.t 5)⟩,
          ⟨none, (some 24), .bin .lss (.t 23) (.c (.int .i64 (0)))⟩,
          ⟨none, (some 25), .mov (.t 24)⟩,
          ⟨(some (25, false)), (some 26), .mov (.t 5)⟩,
          ⟨(some (25, false)), (some 27), .mov (.t 0)⟩,
          ⟨(some (25, false)), (some 28), .len (.t 27)⟩,
          ⟨(some (25, false)), (some 29), .bin .shl (.c (.int .i64 (1))) (.t 28)⟩,
          ⟨(some (25, false)), (some 30), .bin .geq (.t 26) (.t 29)⟩,
          ⟨none, (some 31), .pick (.t 25) (.c (.bool true)) (.t 30)⟩,
          ⟨none, (some 32), .mov (.t 31)⟩,
          ⟨(some (32, false)), (some 33), .mov (.t 5)⟩,
          ⟨(some (32, false)), (some 34), .mov (.t 4)⟩,
          ⟨(some (32, false)), (some 35), .bin .shr (.t 33) (.t 34)⟩,
          ⟨(some (32, false)), (some 36), .bin .and (.t 35) (.c (.int .i64 (1)))⟩,
          ⟨(some (32, false)), (some 37), .bin .eql (.t 36) (.c (.int .i64 (1)))⟩,
          ⟨none, (some 38), .pick (.t 32) (.c (.bool true)) (.t 37)⟩])
        (.cond (.t 38)
         (.seq
          (.reg [⟨none, (some 2), .mov (.c (.nils))⟩,
            ⟨none, (some 3), .mov (.c (.bool false))⟩])
          (.ret (m 58 12)))
         (.skip)))
       (.seq
        (.reg [⟨none, (some 39), .mov (.t 0)⟩,
          ⟨none, (some 40), .len (.t 39)⟩,
          ⟨none, (some 41), .mov (.c (.int .i64 (0)))⟩])
        (.block 2 (m 58 458753)
         (F51L0))))))
    F51T0))
def F51L1 : XC := .loop (m 58 458753) F51L1b
def F51T1 : XC :=
 .seq
  (.reg [⟨none, (some 57), .mov (.t 0)⟩,
    ⟨none, (some 2), .mov (.t 57)⟩,
    ⟨none, (some 3), .mov (.c (.bool true))⟩])
  (.ret (m 58 12))
def F51B : XC :=
 .seq
  (.reg [⟨none, (some 2), .mov (.c (.nils))⟩,
    ⟨none, (some 3), .mov (.c (.bool false))⟩])
  (.seq
   (.seq
    (.reg [⟨none, (some 8), .mov (.t 0)⟩,
      ⟨none, (some 9), .len (.t 8)⟩,
      ⟨none, (some 10), .bin .lss (.t 9) (.c (.int .i64 (1)))⟩,
      ⟨none, (some 11), .mov (.t 10)⟩,
      ⟨(some (11, false)), (some 12), .mov (.t 0)⟩,
      ⟨(some (11, false)), (some 13), .len (.t 12)⟩,
      ⟨(some (11, false)), (some 14), .bin .gtr (.t 13) (.c (.int .i64 (7)))⟩,
      ⟨none, (some 15), .pick (.t 11) (.c (.bool true)) (.t 14)⟩])
    (.cond (.t 15)
     (.seq
      (.reg [⟨none, (some 2), .mov (.c (.nils))⟩,
        ⟨none, (some 3), .mov (.c (.bool false))⟩])
      (.ret (m 58 12)))
     (.skip)))
   (.seq
    (.seq
     (.reg [⟨none, (some 16), .mov (.t 0)⟩,
       ⟨none, (some 17), .len (.t 16)⟩,
       ⟨none, (some 18), .mov (.c (.int .i64 (0)))⟩])
     (.block 0 (m 58 1)
      (F51L1)))
    F51T1))
def F51 : XF := ⟨1, 58, [.tmp 2, .tmp 3], F51B⟩
def M51 : List (List Bool) := [(m 58 12), (m 58 1), (m 58 458753), (m 58 1), (m 58 458753), (m 58 12), (m 58 458753), (m 58 3848291156017), (m 58 458753), (m 58 3848291156017), (m 58 12), (m 58 12)]
def F52B : XC :=
 .seq
  (.reg [⟨none, (some 3), .box (.t 0)⟩,
    ⟨none, (some 4), .mov (.c (.bool false))⟩])
  (.seq
   (.reg [⟨none, (some 5), .load none (.t 1)⟩,
     ⟨none, (some 6), .load (some 2) (.t 3)⟩,
     ⟨none, (some 7), .call 1 54 [.t 5, .t 6]⟩,
     ⟨none, (some 8), .field (some 1) 0 (.t 7)⟩,
     ⟨none, (some 9), .field none 0 (.t 8)⟩,
     ⟨none, (some 10), .load none (.t 2)⟩,
     ⟨none, (some 11), .load (some 2) (.t 3)⟩,
     ⟨none, (some 12), .call 1 54 [.t 10, .t 11]⟩,
     ⟨none, (some 13), .field (some 1) 0 (.t 12)⟩,
     ⟨none, (some 14), .field none 0 (.t 13)⟩,
     ⟨none, (some 15), .call 1 53 [.t 9, .t 14]⟩,
     ⟨none, (some 4), .mov (.t 15)⟩])
   (.ret (m 16 16)))
def F52 : XF := ⟨3, 16, [.tmp 4], F52B⟩
def M52 : List (List Bool) := [(m 16 16)]
def F53L0b : XC :=
 .seq
  (.reg [⟨none, (some 14), .bin .lss (.t 13) (.t 12)⟩])
  (.seq
   (.cond (.t 14)
    (.skip)
    (.exit 0 (m 26 0)))
   (.seq
    (.block 1 (m 26 12291)
     (.seq
      (.reg [⟨none, (some 15), .mov (.t 13)⟩,
        ⟨none, (some 5), .mov (.t 15)⟩])
      (.seq
       (.reg [⟨none, (some 16), .mov (.t 0)⟩,
         ⟨none, (some 17), .mov (.t 5)⟩,
         ⟨none, (some 18), .indexA 1 (.t 16) (.t 17)⟩,
         ⟨none, (some 19), .load none (.t 18)⟩,
         ⟨none, (some 20), .mov (.t 1)⟩,
         ⟨none, (some 21), .mov (.t 5)⟩,
         ⟨none, (some 22), .indexA 1 (.t 20) (.t 21)⟩,
         ⟨none, (some 23), .load none (.t 22)⟩,
         ⟨none, (some 24), .bin .neq (.t 19) (.t 23)⟩])
       (.cond (.t 24)
        (.seq
         (.reg [⟨none, (some 4), .mov (.c (.bool false))⟩])
         (.ret (m 26 16)))
        (.skip)))))
    (.reg [⟨none, (some 25), .bin .add (.t 13) (.c (.int .i64 (1)))⟩,
      ⟨none, (some 13), .mov (.t 25)⟩])))
def F53L0 : XC := .loop (m 26 12291) F53L0b
def F53T0 : XC :=
 .seq
  (.reg [⟨none, (some 4), .mov (.c (.bool true))⟩])
  (.ret (m 26 16))
def F53B : XC :=
 .seq
  (.reg [⟨none, (some 4), .mov (.c (.bool false))⟩])
  (.seq
   (.seq
    (.reg [⟨none, (some 6), .mov (.t 0)⟩,
      ⟨none, (some 7), .len (.t 6)⟩,
      ⟨none, (some 8), .mov (.t 1)⟩,
      ⟨none, (some 9), .len (.t 8)⟩,
      ⟨none, (some 10), .bin .neq (.t 7) (.t 9)⟩])
    (.cond (.t 10)
     (.seq
      (.reg [⟨none, (some 4), .mov (.c (.bool false))⟩])
      (.ret (m 26 16)))
     (.skip)))
   (.seq
    (.seq
     (.reg [⟨none, (some 11), .mov (.t 0)⟩,
       ⟨none, (some 12), .len (.t 11)⟩,
       ⟨none, (some 13), .mov (.c (.int .i64 (0)))⟩])
     (.block 0 (m 26 0)
      (F53L0)))
    F53T0))
def F53 : XF := ⟨2, 26, [.tmp 4], F53B⟩
def M53 : List (List Bool) := [(m 26 16), (m 26 0), (m 26 12291), (m 26 0), (m 26 12291), (m 26 16), (m 26 16)]
def F54L0b : XC :=
 .seq
  (.reg [⟨none, (some 19), .bin .lss (.t 18) (.t 17)⟩])
  (.seq
   (.cond (.t 19)
    (.skip)
    (.exit 0 (m 36 49)))
   (.seq
    (.block 1 (m 36 458801)
     (.seq
      (.reg [⟨none, (some 20), .mov (.t 18)⟩,
        ⟨none, (some 21), .indexA 1 (.t 16) (.t 18)⟩,
        ⟨none, (some 22), .load none (.t 21)⟩,
        ⟨none, (some 6), .mov (.t 20)⟩,
        ⟨none, (some 7), .mov (.t 22)⟩])
      (.reg [⟨none, (some 23), .mov (.t 5)⟩,
        ⟨none, (some 24), .mov (.t 0)⟩,
        ⟨none, (some 25), .len (.t 24)⟩,
        ⟨none, (some 26), .mov (.t 6)⟩,
        ⟨none, (some 27), .bin .sub (.t 25) (.t 26)⟩,
        ⟨none, (some 28), .mov (.t 7)⟩,
        ⟨none, (some 29), .indexA 1 (.t 23) (.t 27)⟩,
        ⟨none, none, .store 1 (.t 29) (.t 28)⟩])))
    (.reg [⟨none, (some 30), .bin .add (.t 18) (.c (.int .i64 (1)))⟩,
      ⟨none, (some 18), .mov (.t 30)⟩])))
def F54L0 : XC := .loop (m 36 458801) F54L0b
def F54T0 : XC :=
 .seq
  (.reg [⟨none, (some 31), .mov (.t 5)⟩,
    ⟨none, (some 32), .build [.nils] [(0, 1, .t 31)]⟩,
    ⟨none, (some 33), .mov (.t 0)⟩,
    ⟨none, (some 34), .len (.t 33)⟩,
    ⟨none, (some 35), .build [.nils, .int .i64 (0)] [(0, 1, .t 32), (1, 1, .t 34)]⟩,
    ⟨none, none, .store 2 (.t 4) (.t 35)⟩])
  (.ret (m 36 16))
def F54B : XC :=
 .seq
  (.reg [⟨none, (some 3), .box (.t 1)⟩,
    ⟨none, (some 4), .alloc [.nils, .int .i64 (0)]⟩])
  (.seq
   (.reg [⟨none, (some 8), .mov (.t 0)⟩,
     ⟨none, (some 9), .len (.t 8)⟩,
     ⟨none, (some 10), .bin .add (.t 9) (.c (.int .i64 (1)))⟩,
     ⟨none, (some 11), .mks 1 8 [.int .i64 (0)] (.t 10) (.t 10)⟩,
     ⟨none, (some 5), .mov (.t 11)⟩])
   (.seq
    (.seq
     (.reg [⟨none, (some 12), .mov (.t 0)⟩,
       ⟨none, (some 13), .mov (.t 0)⟩,
       ⟨none, (some 14), .call 1 69 [.t 13]⟩,
       ⟨none, (some 15), .load (some 2) (.t 3)⟩,
       ⟨none, (some 16), .call 2 71 [.t 12, .t 14, .t 15]⟩,
       ⟨none, (some 17), .len (.t 16)⟩,
       ⟨none, (some 18), .mov (.c (.int .i64 (0)))⟩])
     (.block 0 (m 36 49)
      (F54L0)))
    F54T0))
def F54 : XF := ⟨2, 36, [.cell 4 (some 2)], F54B⟩
def M54 : List (List Bool) := [(m 36 49), (m 36 458801), (m 36 49), (m 36 458801), (m 36 16)]
def F55B : XC :=
 .seq
  (.reg [⟨none, (some 2), .mov (.c (.nils))⟩])
  (.seq
   (.reg [⟨none, (some 4), .mov (.t 0)⟩,
     ⟨none, (some 5), .len (.t 4)⟩,
     ⟨none, (some 6), .bin .add (.t 5) (.c (.int .i64 (1)))⟩,
     ⟨none, (some 7), .mks 1 8 [.int .i64 (0)] (.t 6) (.t 6)⟩,
     ⟨none, (some 3), .mov (.t 7)⟩])
   (.seq
    (.reg [⟨none, (some 8), .mov (.t 0)⟩,
      ⟨none, (some 9), .mov (.t 3)⟩,
      ⟨none, (some 10), .call 0 72 [.t 8, .c (.int .i64 (0)), .c (.int .i64 (0)), .c (.int .i64 (0)), .c (.int .i64 (1)), .t 9]⟩])
    (.seq
     (.reg [⟨none, (some 11), .mov (.t 3)⟩,
       ⟨none, (some 2), .mov (.t 11)⟩])
     (.ret (m 12 4)))))
def F55 : XF := ⟨1, 12, [.tmp 2], F55B⟩
def M55 : List (List Bool) := [(m 12 4)]
def F56B : XC :=
 .seq
  (.reg [⟨none, (some 2), .mov (.c (.nils))⟩])
  (.seq
   (.reg [⟨none, (some 4), .mov (.t 0)⟩,
     ⟨none, (some 5), .len (.t 4)⟩,
     ⟨none, (some 6), .bin .add (.t 5) (.c (.int .i64 (1)))⟩,
     ⟨none, (some 7), .mks 1 8 [.int .i64 (0)] (.t 6) (.t 6)⟩,
     ⟨none, (some 3), .mov (.t 7)⟩])
   (.seq
    (.reg [⟨none, (some 8), .mov (.t 0)⟩,
      ⟨none, (some 9), .mov (.t 0)⟩,
      ⟨none, (some 10), .len (.t 9)⟩,
      ⟨none, (some 11), .bin .shl (.c (.int .i64 (1))) (.t 10)⟩,
      ⟨none, (some 12), .bin .sub (.t 11) (.c (.int .i64 (1)))⟩,
      ⟨none, (some 13), .mov (.t 0)⟩,
      ⟨none, (some 14), .len (.t 13)⟩,
      ⟨none, (some 15), .mov (.t 3)⟩,
      ⟨none, (some 16), .call 0 73 [.t 8, .t 12, .t 14, .c (.int .i64 (1)), .t 15]⟩])
    (.seq
     (.reg [⟨none, (some 17), .mov (.t 3)⟩,
       ⟨none, (some 2), .mov (.t 17)⟩])
     (.ret (m 18 4)))))
def F56 : XF := ⟨1, 18, [.tmp 2], F56B⟩
def M56 : List (List Bool) := [(m 18 4)]
def F57L0b : XC :=
 .seq
  (.seq
   (.reg [⟨none, (some 3), .fieldA 0 (.t 1)⟩,
     ⟨none, (some 4), .load none (.t 3)⟩,
     ⟨none, (some 5), .len (.t 4)⟩,
     ⟨none, (some 6), .bin .gtr (.t 5) (.c (.int .i64 (0)))⟩,
     ⟨none, (some 7), .mov (.t 6)⟩,
     ⟨(some (7, true)), (some 8), .fieldA 0 (.t 1)⟩,
     ⟨(some (7, true)), (some 9), .load none (.t 8)⟩,
     ⟨(some (7, true)), (some 10), .fieldA 0 (.t 1)⟩,
     ⟨(some (7, true)), (some 11), .load none (.t 10)⟩,
     ⟨(some (7, true)), (some 12), .len (.t 11)⟩,
     ⟨(some (7, true)), (some 13), .bin .sub (.t 12) (.c (.int .i64 (1)))⟩,
     ⟨(some (7, true)), (some 14), .indexA 1 (.t 9) (.t 13)⟩,
     ⟨(some (7, true)), (some 15), .load none (.t 14)⟩,
     ⟨(some (7, true)), (some 16), .bin .eql (.t 15) (.c (.int .i64 (0)))⟩,
     ⟨none, (some 17), .pick (.t 7) (.t 16) (.c (.bool false))⟩])
   (.cond (.t 17)
    (.skip)
    (.exit 0 (m 27 6))))
  (.block 1 (m 27 6)
   (.reg [⟨none, (some 18), .fieldA 0 (.t 1)⟩,
     ⟨none, (some 19), .load none (.t 18)⟩,
     ⟨none, (some 20), .fieldA 0 (.t 1)⟩,
     ⟨none, (some 21), .load none (.t 20)⟩,
     ⟨none, (some 22), .len (.t 21)⟩,
     ⟨none, (some 23), .bin .sub (.t 22) (.c (.int .i64 (1)))⟩,
     ⟨none, (some 24), .slice 1 (.t 19) none (some (.t 23)) none⟩,
     ⟨none, (some 25), .fieldA 0 (.t 1)⟩,
     ⟨none, none, .store 1 (.t 25) (.t 24)⟩]))
def F57L0 : XC := .loop (m 27 6) F57L0b
def F57T0 : XC :=
 .seq
  (.reg [⟨none, (some 26), .load (some 1) (.t 1)⟩,
    ⟨none, none, .store 1 (.t 2) (.t 26)⟩])
  (.ret (m 27 4))
def F57B : XC :=
 .seq
  (.reg [⟨none, (some 1), .box (.t 0)⟩,
    ⟨none, (some 2), .alloc [.nils]⟩])
  (.seq
   (.block 0 (m 27 6)
    (F57L0))
   F57T0)
def F57 : XF := ⟨1, 27, [.cell 2 (some 1)], F57B⟩
def M57 : List (List Bool) := [(m 27 6), (m 27 6), (m 27 6), (m 27 6), (m 27 4)]
def F58B : XC :=
 .seq
  (.reg [⟨none, (some 2), .mov (.c (.int .i64 (0)))⟩])
  (.seq
   (.block 0 (m 30 0)
    (.seq
     (.reg [⟨none, (some 4), .mov (.t 0)⟩,
       ⟨none, (some 5), .len (.t 4)⟩,
       ⟨none, (some 6), .bin .gtr (.t 5) (.c (.int .i64 (8)))⟩,
       ⟨none, (some 3), .mov (.t 6)⟩])
     (.cond (.t 3)
      (.seq
       (.reg [⟨none, (some 2), .mov (.c (.int .i64 (3)))⟩])
       (.ret (m 30 4)))
      (.seq
       (.reg [⟨none, (some 8), .mov (.t 0)⟩,
         ⟨none, (some 9), .len (.t 8)⟩,
         ⟨none, (some 10), .bin .gtr (.t 9) (.c (.int .i64 (0)))⟩,
         ⟨none, (some 11), .mov (.t 10)⟩,
         ⟨(some (11, true)), (some 12), .mov (.t 0)⟩,
         ⟨(some (11, true)), (some 13), .mov (.t 0)⟩,
         ⟨(some (11, true)), (some 14), .len (.t 13)⟩,
         ⟨(some (11, true)), (some 15), .bin .sub (.t 14) (.c (.int .i64 (1)))⟩,
         ⟨(some (11, true)), (some 16), .indexA 1 (.t 12) (.t 15)⟩,
         ⟨(some (11, true)), (some 17), .load none (.t 16)⟩,
         ⟨(some (11, true)), (some 18), .bin .eql (.t 17) (.c (.int .i64 (0)))⟩,
         ⟨(some (11, true)), (some 19), .mov (.t 18)⟩,
         ⟨(some (19, false)), (some 20), .mov (.t 0)⟩,
         ⟨(some (19, false)), (some 21), .call 1 74 [.t 20]⟩,
         ⟨(some (19, false)), (some 22), .bin .lss (.t 21) (.c (.int .i64 (-10000)))⟩,
         ⟨(some (11, true)), (some 23), .pick (.t 19) (.c (.bool true)) (.t 22)⟩,
         ⟨(some (11, true)), (some 24), .mov (.t 23)⟩,
         ⟨(some (24, false)), (some 25), .mov (.t 0)⟩,
         ⟨(some (24, false)), (some 26), .call 1 75 [.t 25]⟩,
         ⟨(some (24, false)), (some 27), .bin .gtr (.t 26) (.c (.int .i64 (10000)))⟩,
         ⟨(some (11, true)), (some 28), .pick (.t 24) (.c (.bool true)) (.t 27)⟩,
         ⟨none, (some 29), .pick (.t 11) (.t 28) (.c (.bool false))⟩,
         ⟨none, (some 7), .mov (.t 29)⟩])
       (.cond (.t 7)
        (.seq
         (.reg [⟨none, (some 2), .mov (.c (.int .i64 (2)))⟩])
         (.ret (m 30 4)))
        (.skip))))))
   (.seq
    (.reg [⟨none, (some 2), .mov (.c (.int .i64 (0)))⟩])
    (.ret (m 30 4))))
def F58 : XF := ⟨1, 30, [.tmp 2], F58B⟩
def M58 : List (List Bool) := [(m 30 0), (m 30 4), (m 30 4), (m 30 4)]
def F59B : XC :=
 .seq
  (.reg [⟨none, (some 2), .mov (.c (.bool false))⟩])
  (.seq
   (.reg [⟨none, (some 3), .mov (.t 0)⟩,
     ⟨none, (some 4), .bin .lss (.t 3) (.c (.int .i64 (-100)))⟩,
     ⟨none, (some 5), .mov (.t 4)⟩,
     ⟨(some (5, false)), (some 6), .mov (.t 0)⟩,
     ⟨(some (5, false)), (some 7), .bin .gtr (.t 6) (.c (.int .i64 (100)))⟩,
     ⟨none, (some 8), .pick (.t 5) (.c (.bool true)) (.t 7)⟩,
     ⟨none, (some 2), .mov (.t 8)⟩])
   (.ret (m 9 4)))
def F59 : XF := ⟨1, 9, [.tmp 2], F59B⟩
def M59 : List (List Bool) := [(m 9 4)]
def F60L0b : XC :=
 .seq
  (.reg [⟨none, (some 13), .bin .lss (.t 12) (.t 11)⟩])
  (.seq
   (.cond (.t 13)
    (.skip)
    (.exit 0 (m 65 24)))
   (.seq
    (.block 1 (m 65 7192)
     (.seq
      (.reg [⟨none, (some 14), .mov (.t 12)⟩,
        ⟨none, (some 15), .indexA 1 (.t 10) (.t 12)⟩,
        ⟨none, (some 16), .load none (.t 15)⟩,
        ⟨none, (some 5), .mov (.t 14)⟩,
        ⟨none, (some 6), .mov (.t 16)⟩])
      (.seq
       (.reg [⟨none, (some 17), .mov (.t 3)⟩,
         ⟨none, (some 18), .mov (.t 6)⟩,
         ⟨none, (some 19), .call 1 76 [.t 18]⟩,
         ⟨none, (some 20), .bslice 2 1 [.int .i64 (0), .nils] [(0, 2, .t 19)]⟩,
         ⟨none, (some 21), .app 2 32 (.t 17) (.t 20)⟩,
         ⟨none, (some 3), .mov (.t 21)⟩])
       (.seq
        (.reg [⟨none, (some 22), .mov (.t 5)⟩,
          ⟨none, (some 23), .bin .gtr (.t 22) (.c (.int .i64 (0)))⟩])
        (.cond (.t 23)
         (.reg [⟨none, (some 24), .mov (.t 4)⟩,
           ⟨none, (some 25), .mov (.t 5)⟩,
           ⟨none, (some 26), .mov (.t 6)⟩,
           ⟨none, (some 27), .bin .mul (.t 25) (.t 26)⟩,
           ⟨none, (some 28), .call 1 76 [.t 27]⟩,
           ⟨none, (some 29), .bslice 2 1 [.int .i64 (0), .nils] [(0, 2, .t 28)]⟩,
           ⟨none, (some 30), .app 2 32 (.t 24) (.t 29)⟩,
           ⟨none, (some 4), .mov (.t 30)⟩])
         (.skip))))))
    (.reg [⟨none, (some 31), .bin .add (.t 12) (.c (.int .i64 (1)))⟩,
      ⟨none, (some 12), .mov (.t 31)⟩])))
def F60L0 : XC := .loop (m 65 7192) F60L0b
def F60L1b : XC :=
 .seq
  (.reg [⟨none, (some 49), .bin .lss (.t 48) (.t 47)⟩])
  (.seq
   (.cond (.t 49)
    (.skip)
    (.exit 4 (m 65 400)))
   (.seq
    (.block 5 (m 65 422212465066384)
     (.seq
      (.reg [⟨none, (some 50), .mov (.t 48)⟩,
        ⟨none, (some 9), .mov (.t 50)⟩])
      (.reg [⟨none, (some 51), .mov (.t 8)⟩,
        ⟨none, (some 52), .mov (.t 9)⟩,
        ⟨none, (some 53), .mov (.t 8)⟩,
        ⟨none, (some 54), .mov (.t 9)⟩,
        ⟨none, (some 55), .indexA 2 (.t 53) (.t 54)⟩,
        ⟨none, (some 56), .fieldA 0 (.t 55)⟩,
        ⟨none, (some 57), .load none (.t 56)⟩,
        ⟨none, (some 58), .un .neg (.t 57)⟩,
        ⟨none, (some 59), .indexA 2 (.t 51) (.t 52)⟩,
        ⟨none, (some 60), .fieldA 0 (.t 59)⟩,
        ⟨none, none, .store 1 (.t 60) (.t 58)⟩])))
    (.reg [⟨none, (some 61), .bin .add (.t 48) (.c (.int .i64 (1)))⟩,
      ⟨none, (some 48), .mov (.t 61)⟩])))
def F60L1 : XC := .loop (m 65 422212465066384) F60L1b
def F60T0 : XC :=
 .reg [⟨none, (some 62), .mov (.t 4)⟩,
   ⟨none, (some 63), .mov (.t 8)⟩,
   ⟨none, (some 3), .mov (.t 62)⟩,
   ⟨none, (some 4), .mov (.t 63)⟩]
def F60L2b : XC :=
 .seq
  (.seq
   (.reg [⟨none, (some 36), .mov (.t 4)⟩,
     ⟨none, (some 37), .len (.t 36)⟩,
     ⟨none, (some 38), .bin .gtr (.t 37) (.c (.int .i64 (0)))⟩])
   (.cond (.t 38)
    (.skip)
    (.exit 2 (m 65 128))))
  (.block 3 (m 65 152)
   (.seq
    (.reg [⟨none, (some 39), .mov (.t 7)⟩,
      ⟨none, (some 40), .mov (.t 4)⟩,
      ⟨none, (some 41), .bslice 1 1 [.nils] [(0, 1, .t 40)]⟩,
      ⟨none, (some 42), .app 1 24 (.t 39) (.t 41)⟩,
      ⟨none, (some 7), .mov (.t 42)⟩])
    (.seq
     (.reg [⟨none, (some 43), .mov (.t 3)⟩,
       ⟨none, (some 44), .mov (.t 4)⟩,
       ⟨none, (some 45), .call 2 78 [.t 43, .t 44]⟩,
       ⟨none, (some 8), .mov (.t 45)⟩])
     (.seq
      (.seq
       (.reg [⟨none, (some 46), .mov (.t 8)⟩,
         ⟨none, (some 47), .len (.t 46)⟩,
         ⟨none, (some 48), .mov (.c (.int .i64 (0)))⟩])
       (.block 4 (m 65 400)
        (F60L1)))
      F60T0))))
def F60L2 : XC := .loop (m 65 152) F60L2b
def F60T1 : XC :=
 .seq
  (.reg [⟨none, (some 64), .mov (.t 7)⟩,
    ⟨none, (some 2), .mov (.t 64)⟩])
  (.ret (m 65 4))
def F60T2 : XC :=
 .seq
  (.reg [⟨none, (some 32), .mov (.t 3)⟩,
    ⟨none, (some 33), .bslice 1 1 [.nils] [(0, 1, .t 32)]⟩,
    ⟨none, (some 7), .mov (.t 33)⟩])
  (.seq
   (.seq
    (.reg [⟨none, (some 34), .mov (.t 4)⟩,
      ⟨none, (some 35), .call 0 77 [.t 34]⟩,
      ⟨none, (some 4), .mov (.t 35)⟩])
    (.block 2 (m 65 128)
     (F60L2)))
   F60T1)
def F60B : XC :=
 .seq
  (.reg [⟨none, (some 2), .mov (.c (.nils))⟩])
  (.seq
   (.reg [⟨none, (some 3), .mov (.c (.nils))⟩,
     ⟨none, (some 4), .mov (.c (.nils))⟩])
   (.seq
    (.seq
     (.reg [⟨none, (some 10), .mov (.t 0)⟩,
       ⟨none, (some 11), .len (.t 10)⟩,
       ⟨none, (some 12), .mov (.c (.int .i64 (0)))⟩])
     (.block 0 (m 65 24)
      (F60L0)))
    F60T2))
def F60 : XF := ⟨1, 65, [.tmp 2], F60B⟩
def M60 : List (List Bool) := [(m 65 24), (m 65 7192), (m 65 24), (m 65 7192), (m 65 128), (m 65 152), (m 65 128), (m 65 152), (m 65 400), (m 65 422212465066384), (m 65 400), (m 65 422212465066384), (m 65 4)]
def F61L0b : XC :=
 .seq
  (.reg [⟨none, (some 13), .bin .lss (.t 12) (.t 11)⟩])
  (.seq
   (.cond (.t 13)
    (.skip)
    (.exit 0 (m 28 32)))
   (.seq
    (.block 1 (m 28 7266)
     (.seq
      (.reg [⟨none, (some 14), .indexA 1 (.t 10) (.t 12)⟩,
        ⟨none, (some 15), .load none (.t 14)⟩,
        ⟨none, (some 8), .mov (.t 15)⟩])
      (.seq
       (.reg [⟨none, (some 16), .mov (.t 8)⟩,
         ⟨none, (some 17), .mov (.t 1)⟩,
         ⟨none, (some 18), .call 1 79 [.t 16, .t 17]⟩,
         ⟨none, (some 9), .mov (.t 18)⟩])
       (.seq
        (.seq
         (.reg [⟨none, (some 19), .mov (.t 9)⟩,
           ⟨none, (some 20), .mov (.t 6)⟩,
           ⟨none, (some 21), .un .neg (.t 20)⟩,
           ⟨none, (some 22), .bin .eql (.t 19) (.t 21)⟩])
         (.cond (.t 22)
          (.reg [⟨none, (some 23), .mov (.t 5)⟩,
            ⟨none, (some 24), .bin .add (.t 23) (.c (.int .i64 (1)))⟩,
            ⟨none, (some 5), .mov (.t 24)⟩])
          (.skip)))
        (.reg [⟨none, (some 25), .mov (.t 9)⟩,
          ⟨none, (some 6), .mov (.t 25)⟩])))))
    (.reg [⟨none, (some 26), .bin .add (.t 12) (.c (.int .i64 (1)))⟩,
      ⟨none, (some 12), .mov (.t 26)⟩])))
def F61L0 : XC := .loop (m 28 7266) F61L0b
def F61T0 : XC :=
 .seq
  (.reg [⟨none, (some 27), .mov (.t 5)⟩,
    ⟨none, (some 4), .mov (.t 27)⟩])
  (.ret (m 28 16))
def F61B : XC :=
 .seq
  (.reg [⟨none, (some 4), .mov (.c (.int .i64 (0)))⟩])
  (.seq
   (.reg [⟨none, (some 5), .mov (.c (.int .i64 (0)))⟩,
     ⟨none, (some 6), .mov (.c (.int .i64 (0)))⟩])
   (.seq
    (.seq
     (.reg [⟨none, (some 10), .mov (.t 0)⟩,
       ⟨none, (some 11), .len (.t 10)⟩,
       ⟨none, (some 12), .mov (.c (.int .i64 (0)))⟩])
     (.block 0 (m 28 32)
      (F61L0)))
    F61T0))
def F61 : XF := ⟨2, 28, [.tmp 4], F61B⟩
def M61 : List (List Bool) := [(m 28 32), (m 28 7266), (m 28 32), (m 28 7266), (m 28 16)]
def F62L0b : XC :=
 .seq
  (.seq
   (.reg [⟨none, (some 9), .mov (.t 4)⟩,
     ⟨none, (some 10), .mov (.t 0)⟩,
     ⟨none, (some 11), .len (.t 10)⟩,
     ⟨none, (some 12), .bin .lss (.t 9) (.t 11)⟩])
   (.cond (.t 12)
    (.skip)
    (.exit 0 (m 58 8))))
  (.seq
   (.block 1 (m 58 25)
    (.reg [⟨none, (some 15), .mov (.t 3)⟩,
      ⟨none, (some 16), .mov (.t 0)⟩,
      ⟨none, (some 17), .mov (.t 4)⟩,
      ⟨none, (some 18), .indexA 1 (.t 16) (.t 17)⟩,
      ⟨none, (some 19), .load none (.t 18)⟩,
      ⟨none, (some 20), .call 1 80 [.t 19]⟩,
      ⟨none, (some 21), .bslice 2 1 [.bool false, .nils] [(0, 2, .t 20)]⟩,
      ⟨none, (some 22), .app 2 32 (.t 15) (.t 21)⟩,
      ⟨none, (some 3), .mov (.t 22)⟩]))
   (.reg [⟨none, (some 13), .mov (.t 4)⟩,
     ⟨none, (some 14), .bin .add (.t 13) (.c (.int .i64 (1)))⟩,
     ⟨none, (some 4), .mov (.t 14)⟩]))
def F62L0 : XC := .loop (m 58 25) F62L0b
def F62L1b : XC :=
 .seq
  (.seq
   (.reg [⟨none, (some 41), .mov (.t 8)⟩,
     ⟨none, (some 42), .mov (.t 7)⟩,
     ⟨none, (some 43), .len (.t 42)⟩,
     ⟨none, (some 44), .bin .lss (.t 41) (.t 43)⟩])
   (.cond (.t 44)
    (.skip)
    (.exit 4 (m 58 104))))
  (.seq
   (.block 5 (m 58 488)
    (.reg [⟨none, (some 47), .mov (.t 6)⟩,
      ⟨none, (some 48), .mov (.t 7)⟩,
      ⟨none, (some 49), .mov (.t 8)⟩,
      ⟨none, (some 50), .indexA 2 (.t 48) (.t 49)⟩,
      ⟨none, (some 51), .load (some 2) (.t 50)⟩,
      ⟨none, (some 52), .call 1 84 [.t 51]⟩,
      ⟨none, (some 53), .bslice 2 1 [.bool false, .nils] [(0, 2, .t 52)]⟩,
      ⟨none, (some 54), .app 2 32 (.t 47) (.t 53)⟩,
      ⟨none, (some 6), .mov (.t 54)⟩]))
   (.reg [⟨none, (some 45), .mov (.t 8)⟩,
     ⟨none, (some 46), .bin .add (.t 45) (.c (.int .i64 (1)))⟩,
     ⟨none, (some 8), .mov (.t 46)⟩]))
def F62L1 : XC := .loop (m 58 488) F62L1b
def F62T0 : XC :=
 .reg [⟨none, (some 55), .mov (.t 6)⟩,
   ⟨none, (some 56), .call 1 81 [.t 55]⟩,
   ⟨none, (some 6), .mov (.t 56)⟩]
def F62L2b : XC :=
 .seq
  (.seq
   (.reg [⟨none, (some 30), .mov (.t 6)⟩,
     ⟨none, (some 31), .len (.t 30)⟩,
     ⟨none, (some 32), .bin .gtr (.t 31) (.c (.int .i64 (0)))⟩])
   (.cond (.t 32)
    (.skip)
    (.exit 2 (m 58 32))))
  (.block 3 (m 58 104)
   (.seq
    (.reg [⟨none, (some 33), .mov (.t 5)⟩,
      ⟨none, (some 34), .mov (.t 6)⟩,
      ⟨none, (some 35), .bslice 1 1 [.nils] [(0, 1, .t 34)]⟩,
      ⟨none, (some 36), .app 1 24 (.t 33) (.t 35)⟩,
      ⟨none, (some 5), .mov (.t 36)⟩])
    (.seq
     (.reg [⟨none, (some 37), .mov (.t 3)⟩,
       ⟨none, (some 38), .mov (.t 6)⟩,
       ⟨none, (some 39), .call 1 83 [.t 37, .t 38]⟩,
       ⟨none, (some 7), .mov (.t 39)⟩])
     (.seq
      (.reg [⟨none, (some 40), .mov (.t 6)⟩,
        ⟨none, (some 3), .mov (.t 40)⟩])
      (.seq
       (.reg [⟨none, (some 6), .mov (.c (.nils))⟩])
       (.seq
        (.seq
         (.reg [⟨none, (some 8), .mov (.c (.int .i64 (0)))⟩])
         (.block 4 (m 58 104)
          (F62L1)))
        F62T0))))))
def F62L2 : XC := .loop (m 58 104) F62L2b
def F62T1 : XC :=
 .seq
  (.reg [⟨none, (some 57), .mov (.t 5)⟩,
    ⟨none, (some 2), .mov (.t 57)⟩])
  (.ret (m 58 4))
def F62T2 : XC :=
 .seq
  (.reg [⟨none, (some 23), .mov (.t 3)⟩,
    ⟨none, (some 24), .call 1 81 [.t 23]⟩,
    ⟨none, (some 3), .mov (.t 24)⟩])
  (.seq
   (.reg [⟨none, (some 25), .mov (.t 3)⟩,
     ⟨none, (some 26), .bslice 1 1 [.nils] [(0, 1, .t 25)]⟩,
     ⟨none, (some 5), .mov (.t 26)⟩])
   (.seq
    (.reg [⟨none, (some 27), .mov (.t 3)⟩,
      ⟨none, (some 28), .call 1 82 [.t 27]⟩,
      ⟨none, (some 29), .call 1 81 [.t 28]⟩,
      ⟨none, (some 6), .mov (.t 29)⟩])
    (.seq
     (.block 2 (m 58 32)
      (F62L2))
     F62T1)))
def F62B : XC :=
 .seq
  (.reg [⟨none, (some 2), .mov (.c (.nils))⟩])
  (.seq
   (.reg [⟨none, (some 3), .mov (.c (.nils))⟩])
   (.seq
    (.seq
     (.reg [⟨none, (some 4), .mov (.c (.int .i64 (0)))⟩])
     (.block 0 (m 58 8)
      (F62L0)))
    F62T2))
def F62 : XF := ⟨1, 58, [.tmp 2], F62B⟩
def M62 : List (List Bool) := [(m 58 8), (m 58 25), (m 58 8), (m 58 25), (m 58 32), (m 58 104), (m 58 32), (m 58 104), (m 58 104), (m 58 488), (m 58 104), (m 58 488), (m 58 4)]
def F63B : XC :=
 .seq
  (.reg [⟨none, (some 2), .mov (.c (.nils))⟩])
  (.seq
   (.seq
    (.reg [⟨none, (some 3), .mov (.t 0)⟩,
      ⟨none, (some 4), .eqn false (.t 3)⟩])
    (.cond (.t 4)
     (.seq
      (.reg [⟨none, (some 2), .mov (.c (.nils))⟩])
      (.ret (m 8 4)))
     (.skip)))
   (.seq
    (.reg [⟨none, (some 5), .bslice 1 0 [.int .i64 (0)] []⟩,
      ⟨none, (some 6), .mov (.t 0)⟩,
      ⟨none, (some 7), .app 1 8 (.t 5) (.t 6)⟩,
      ⟨none, (some 2), .mov (.t 7)⟩])
    (.ret (m 8 4))))
def F63 : XF := ⟨1, 8, [.tmp 2], F63B⟩
def M63 : List (List Bool) := [(m 8 4), (m 8 4)]
def F64B : XC :=
 .seq
  (.reg [⟨none, (some 2), .mov (.c (.bool false))⟩])
  (.seq
   (.reg [⟨none, (some 3), .mov (.t 0)⟩,
     ⟨none, (some 4), .bin .geq (.t 3) (.c (.int .i64 (-100)))⟩,
     ⟨none, (some 5), .mov (.t 4)⟩,
     ⟨(some (5, true)), (some 6), .mov (.t 0)⟩,
     ⟨(some (5, true)), (some 7), .bin .leq (.t 6) (.c (.int .i64 (100)))⟩,
     ⟨none, (some 8), .pick (.t 5) (.t 7) (.c (.bool false))⟩,
     ⟨none, (some 2), .mov (.t 8)⟩])
   (.ret (m 9 4)))
def F64 : XF := ⟨1, 9, [.tmp 2], F64B⟩
def M64 : List (List Bool) := [(m 9 4)]
def F65L0b : XC :=
 .seq
  (.seq
   (.reg [⟨none, (some 19), .mov (.t 10)⟩,
     ⟨none, (some 20), .mov (.t 7)⟩,
     ⟨none, (some 21), .len (.t 20)⟩,
     ⟨none, (some 22), .bin .lss (.t 19) (.t 21)⟩])
   (.cond (.t 22)
    (.skip)
    (.exit 0 (m 41 518))))
  (.seq
   (.block 1 (m 41 1926)
    (.reg [⟨none, (some 25), .mov (.t 9)⟩,
      ⟨none, (some 26), .mov (.t 7)⟩,
      ⟨none, (some 27), .mov (.t 10)⟩,
      ⟨none, (some 28), .indexA 1 (.t 26) (.t 27)⟩,
      ⟨none, (some 29), .load none (.t 28)⟩,
      ⟨none, (some 30), .mov (.t 8)⟩,
      ⟨none, (some 31), .call 1 85 [.t 29, .t 30]⟩,
      ⟨none, (some 32), .bslice 1 1 [.nils] [(0, 1, .t 31)]⟩,
      ⟨none, (some 33), .app 1 24 (.t 25) (.t 32)⟩,
      ⟨none, (some 9), .mov (.t 33)⟩]))
   (.reg [⟨none, (some 23), .mov (.t 10)⟩,
     ⟨none, (some 24), .bin .add (.t 23) (.c (.int .i64 (1)))⟩,
     ⟨none, (some 10), .mov (.t 24)⟩]))
def F65L0 : XC := .loop (m 41 1926) F65L0b
def F65T0 : XC :=
 .seq
  (.reg [⟨none, (some 34), .mov (.t 9)⟩,
    ⟨none, (some 35), .mov (.t 1)⟩,
    ⟨none, (some 36), .call 1 86 [.t 34, .t 35]⟩,
    ⟨none, (some 37), .mov (.t 9)⟩,
    ⟨none, (some 38), .mov (.t 2)⟩,
    ⟨none, (some 39), .call 1 86 [.t 37, .t 38]⟩,
    ⟨none, (some 40), .bin .sub (.t 36) (.t 39)⟩,
    ⟨none, (some 6), .mov (.t 40)⟩])
  (.ret (m 41 64))
def F65B : XC :=
 .seq
  (.reg [⟨none, (some 6), .mov (.c (.int .i64 (0)))⟩])
  (.seq
   (.reg [⟨none, (some 11), .mov (.t 0)⟩,
     ⟨none, (some 12), .call 1 62 [.t 11]⟩,
     ⟨none, (some 7), .mov (.t 12)⟩])
   (.seq
    (.reg [⟨none, (some 13), .mov (.t 7)⟩,
      ⟨none, (some 14), .mov (.t 7)⟩,
      ⟨none, (some 15), .len (.t 14)⟩,
      ⟨none, (some 16), .bin .sub (.t 15) (.c (.int .i64 (1)))⟩,
      ⟨none, (some 17), .indexA 1 (.t 13) (.t 16)⟩,
      ⟨none, (some 18), .load none (.t 17)⟩,
      ⟨none, (some 8), .mov (.t 18)⟩])
    (.seq
     (.reg [⟨none, (some 9), .mov (.c (.nils))⟩])
     (.seq
      (.seq
       (.reg [⟨none, (some 10), .mov (.c (.int .i64 (0)))⟩])
       (.block 0 (m 41 518)
        (F65L0)))
      F65T0))))
def F65 : XF := ⟨3, 41, [.tmp 6], F65B⟩
def M65 : List (List Bool) := [(m 41 518), (m 41 1926), (m 41 518), (m 41 1926), (m 41 64)]
def F67L0b : XC :=
 .seq
  (.seq
   (.reg [⟨none, (some 10), .mov (.t 6)⟩,
     ⟨none, (some 11), .bin .geq (.t 10) (.c (.int .i64 (0)))⟩])
   (.cond (.t 11)
    (.skip)
    (.exit 0 (m 23 32))))
  (.seq
   (.block 1 (m 23 99)
    (.reg [⟨none, (some 14), .mov (.t 5)⟩,
      ⟨none, (some 15), .mov (.t 1)⟩,
      ⟨none, (some 16), .bin .mul (.t 14) (.t 15)⟩,
      ⟨none, (some 17), .mov (.t 0)⟩,
      ⟨none, (some 18), .mov (.t 6)⟩,
      ⟨none, (some 19), .indexA 1 (.t 17) (.t 18)⟩,
      ⟨none, (some 20), .load none (.t 19)⟩,
      ⟨none, (some 21), .bin .add (.t 16) (.t 20)⟩,
      ⟨none, (some 5), .mov (.t 21)⟩]))
   (.reg [⟨none, (some 12), .mov (.t 6)⟩,
     ⟨none, (some 13), .bin .sub (.t 12) (.c (.int .i64 (1)))⟩,
     ⟨none, (some 6), .mov (.t 13)⟩]))
def F67L0 : XC := .loop (m 23 99) F67L0b
def F67T0 : XC :=
 .seq
  (.reg [⟨none, (some 22), .mov (.t 5)⟩,
    ⟨none, (some 4), .mov (.t 22)⟩])
  (.ret (m 23 16))
def F67B : XC :=
 .seq
  (.reg [⟨none, (some 4), .mov (.c (.int .i64 (0)))⟩])
  (.seq
   (.reg [⟨none, (some 5), .mov (.c (.int .i64 (0)))⟩])
   (.seq
    (.seq
     (.reg [⟨none, (some 7), .mov (.t 0)⟩,
       ⟨none, (some 8), .len (.t 7)⟩,
       ⟨none, (some 9), .bin .sub (.t 8) (.c (.int .i64 (1)))⟩,
       ⟨none, (some 6), .mov (.t 9)⟩])
     (.block 0 (m 23 32)
      (F67L0)))
    F67T0))
def F67 : XF := ⟨2, 23, [.tmp 4], F67B⟩
def M67 : List (List Bool) := [(m 23 32), (m 23 99), (m 23 32), (m 23 99), (m 23 16)]
def F68B : XC :=
 .seq
  (.reg [⟨none, (some 2), .mov (.c (.int .i64 (0)))⟩])
  (.seq
   (.cond (.c (.bool false))
    (.seq
     (.reg [⟨none, (some 3), .mov (.t 0)⟩,
       ⟨none, (some 4), .conv .u32 (.t 3)⟩,
       ⟨none, (some 5), .call 1 88 [.t 4]⟩,
       ⟨none, (some 2), .mov (.t 5)⟩])
     (.ret (m 8 4)))
    (.skip))
   (.seq
    (.reg [⟨none, (some 6), .mov (.t 0)⟩,
      ⟨none, (some 7), .call 1 89 [.t 6]⟩,
      ⟨none, (some 2), .mov (.t 7)⟩])
    (.ret (m 8 4))))
def F68 : XF := ⟨1, 8, [.tmp 2], F68B⟩
def M68 : List (List Bool) := [(m 8 4), (m 8 4)]
def F69B : XC :=
 .seq
  (.reg [⟨none, (some 2), .mov (.c (.int .i64 (0)))⟩])
  (.seq
   (.reg [⟨none, (some 3), .mov (.t 0)⟩,
     ⟨none, (some 4), .len (.t 3)⟩,
     ⟨none, (some 5), .bin .shl (.c (.int .i64 (1))) (.t 4)⟩,
     ⟨none, (some 6), .bin .sub (.t 5) (.c (.int .i64 (1)))⟩,
     ⟨none, (some 2), .mov (.t 6)⟩])
   (.ret (m 7 4)))
def F69 : XF := ⟨1, 7, [.tmp 2], F69B⟩
def M69 : List (List Bool) := [(m 7 4)]
def F70L0b : XC :=
 .seq
  (.seq
   (.reg [⟨none, (some 30), .mov (.t 1)⟩,
     ⟨none, (some 31), .mov (.t 12)⟩,
     ⟨none, (some 32), .bin .shr (.t 30) (.t 31)⟩,
     ⟨none, (some 33), .bin .rem (.t 32) (.c (.int .i64 (2)))⟩,
     ⟨none, (some 34), .bin .eql (.t 33) (.c (.int .i64 (0)))⟩])
   (.cond (.t 34)
    (.skip)
    (.exit 0 (m 89 4159))))
  (.block 1 (m 89 4159)
   (.reg [⟨none, (some 35), .mov (.t 12)⟩,
     ⟨none, (some 36), .bin .add (.t 35) (.c (.int .i64 (1)))⟩,
     ⟨none, (some 12), .mov (.t 36)⟩]))
def F70L0 : XC := .loop (m 89 4159) F70L0b
def F70L1b : XC :=
 .seq
  (.seq
   (.reg [⟨none, (some 48), .mov (.t 14)⟩,
     ⟨none, (some 49), .mov (.t 0)⟩,
     ⟨none, (some 50), .len (.t 49)⟩,
     ⟨none, (some 51), .bin .lss (.t 48) (.t 50)⟩])
   (.cond (.t 51)
    (.skip)
    (.exit 2 (m 89 0))))
  (.seq
   (.block 3 (m 89 28733)
    (.seq
     (.reg [⟨none, (some 54), .mov (.t 0)⟩,
       ⟨none, (some 55), .mov (.t 12)⟩,
       ⟨none, (some 56), .indexA 1 (.t 54) (.t 55)⟩,
       ⟨none, (some 57), .load none (.t 56)⟩,
       ⟨none, (some 58), .mov (.t 13)⟩,
       ⟨none, (some 59), .bin .and (.t 57) (.t 58)⟩,
       ⟨none, (some 60), .mov (.t 14)⟩,
       ⟨none, (some 61), .bin .shr (.t 59) (.t 60)⟩,
       ⟨none, (some 62), .bin .rem (.t 61) (.c (.int .i64 (2)))⟩,
       ⟨none, (some 63), .bin .eql (.t 62) (.c (.int .i64 (1)))⟩])
     (.cond (.t 63)
      (.seq
       (.reg [⟨none, (some 64), .mov (.t 0)⟩,
         ⟨none, (some 65), .mov (.t 13)⟩,
         ⟨none, (some 66), .mov (.t 14)⟩,
         ⟨none, (some 67), .bin .shl (.c (.int .i64 (1))) (.t 66)⟩,
         ⟨none, (some 68), .bin .sub (.t 65) (.t 67)⟩,
         ⟨none, (some 69), .mov (.t 2)⟩,
         ⟨none, (some 70), .bin .add (.t 69) (.c (.int .i64 (2)))⟩,
         ⟨none, (some 71), .mov (.t 3)⟩,
         ⟨none, (some 72), .un .neg (.t 71)⟩,
         ⟨none, (some 73), .mov (.t 4)⟩,
         ⟨none, (some 74), .mov (.t 5)⟩,
         ⟨none, (some 75), .call 0 70 [.t 64, .t 68, .t 70, .t 72, .t 73, .t 74]⟩])
       (.reg [⟨none, (some 76), .mov (.t 0)⟩,
         ⟨none, (some 77), .mov (.t 13)⟩,
         ⟨none, (some 78), .mov (.t 14)⟩,
         ⟨none, (some 79), .bin .shl (.c (.int .i64 (1))) (.t 78)⟩,
         ⟨none, (some 80), .bin .sub (.t 77) (.t 79)⟩,
         ⟨none, (some 81), .mov (.t 2)⟩,
         ⟨none, (some 82), .mov (.t 3)⟩,
         ⟨none, (some 83), .mov (.t 4)⟩,
         ⟨none, (some 84), .mov (.t 5)⟩,
         ⟨none, (some 85), .mov (.t 12)⟩,
         ⟨none, (some 86), .mov (.t 14)⟩,
         ⟨none, (some 87), .bslice 1 2 [.int .i64 (0)] [(0, 1, .t 85), (1, 1, .t 86)]⟩,
         ⟨none, (some 88), .call 0 90 [.t 76, .t 80, .t 81, .t 82, .t 83, .t 84, .t 87]⟩]))
      (.skip))))
   (.reg [⟨none, (some 52), .mov (.t 14)⟩,
     ⟨none, (some 53), .bin .add (.t 52) (.c (.int .i64 (1)))⟩,
     ⟨none, (some 14), .mov (.t 53)⟩]))
def F70L1 : XC := .loop (m 89 28733) F70L1b
def F70T0 : XC :=
 .seq
  (.reg [⟨none, (some 37), .mov (.t 1)⟩,
    ⟨none, (some 38), .mov (.t 12)⟩,
    ⟨none, (some 39), .bin .shl (.c (.int .i64 (1))) (.t 38)⟩,
    ⟨none, (some 40), .bin .sub (.t 37) (.t 39)⟩,
    ⟨none, (some 13), .mov (.t 40)⟩])
  (.seq
   (.reg [⟨none, (some 41), .mov (.t 0)⟩,
     ⟨none, (some 42), .mov (.t 13)⟩,
     ⟨none, (some 43), .mov (.t 2)⟩,
     ⟨none, (some 44), .mov (.t 3)⟩,
     ⟨none, (some 45), .mov (.t 4)⟩,
     ⟨none, (some 46), .mov (.t 5)⟩,
     ⟨none, (some 47), .call 0 70 [.t 41, .t 42, .t 43, .t 44, .t 45, .t 46]⟩])
   (.seq
    (.reg [⟨none, (some 14), .mov (.c (.int .i64 (0)))⟩])
    (.block 2 (m 89 0)
     (F70L1))))
def F70B : XC :=
 .seq
  (.seq
   (.reg [⟨none, (some 15), .mov (.t 1)⟩,
     ⟨none, (some 16), .bin .eql (.t 15) (.c (.int .i64 (0)))⟩])
   (.cond (.t 16)
    (.seq
     (.reg [⟨none, (some 17), .mov (.t 4)⟩,
       ⟨none, (some 18), .mov (.t 2)⟩,
       ⟨none, (some 19), .indexA 1 (.t 17) (.t 18)⟩,
       ⟨none, (some 20), .load none (.t 19)⟩,
       ⟨none, (some 21), .mov (.t 3)⟩,
       ⟨none, (some 22), .bin .add (.t 20) (.t 21)⟩,
       ⟨none, (some 23), .indexA 1 (.t 17) (.t 18)⟩,
       ⟨none, none, .store 1 (.t 23) (.t 22)⟩])
     (.seq
      (.reg [⟨none, (some 24), .mov (.t 5)⟩,
        ⟨none, (some 25), .mov (.t 2)⟩,
        ⟨none, (some 26), .indexA 1 (.t 24) (.t 25)⟩,
        ⟨none, (some 27), .load none (.t 26)⟩,
        ⟨none, (some 28), .bin .add (.t 27) (.c (.int .i64 (1)))⟩,
        ⟨none, (some 29), .indexA 1 (.t 24) (.t 25)⟩,
        ⟨none, none, .store 1 (.t 29) (.t 28)⟩])
      (.ret (m 89 0))))
    (.skip)))
  (.seq
   (.reg [⟨none, (some 12), .mov (.c (.int .i64 (0)))⟩])
   (.seq
    (.block 0 (m 89 4159)
     (F70L0))
    F70T0))
def F70 : XF := ⟨6, 89, [], F70B⟩
def M70 : List (List Bool) := [(m 89 0), (m 89 4159), (m 89 4159), (m 89 4159), (m 89 4159), (m 89 0), (m 89 28733), (m 89 0), (m 89 28733)]
def F71L0b : XC :=
 .seq
  (.reg [⟨none, (some 29), .bin .lss (.t 28) (.t 27)⟩])
  (.seq
   (.cond (.t 29)
    (.skip)
    (.exit 0 (m 58 952)))
   (.seq
    (.block 1 (m 58 402654136)
     (.seq
      (.reg [⟨none, (some 30), .mov (.t 28)⟩,
        ⟨none, (some 10), .mov (.t 30)⟩])
      (.seq
       (.reg [⟨none, (some 31), .load none (.t 3)⟩,
         ⟨none, (some 32), .load none (.t 7)⟩,
         ⟨none, (some 33), .indexA 1 (.t 31) (.t 32)⟩,
         ⟨none, (some 34), .load none (.t 33)⟩,
         ⟨none, (some 35), .load none (.t 4)⟩,
         ⟨none, (some 36), .bin .and (.t 34) (.t 35)⟩,
         ⟨none, (some 37), .mov (.t 10)⟩,
         ⟨none, (some 38), .bin .shr (.t 36) (.t 37)⟩,
         ⟨none, (some 39), .bin .and (.t 38) (.c (.int .i64 (1)))⟩,
         ⟨none, (some 40), .bin .eql (.t 39) (.c (.int .i64 (1)))⟩])
       (.cond (.t 40)
        (.reg [⟨none, (some 41), .load none (.t 9)⟩,
          ⟨none, (some 42), .load none (.t 3)⟩,
          ⟨none, (some 43), .load none (.t 4)⟩,
          ⟨none, (some 44), .mov (.t 10)⟩,
          ⟨none, (some 45), .bin .shl (.c (.int .i64 (1))) (.t 44)⟩,
          ⟨none, (some 46), .bin .andNot (.t 43) (.t 45)⟩,
          ⟨none, (some 47), .load (some 2) (.t 5)⟩,
          ⟨none, (some 48), .call 2 71 [.t 42, .t 46, .t 47]⟩,
          ⟨none, (some 49), .fieldA 0 (.t 5)⟩,
          ⟨none, (some 50), .load none (.t 49)⟩,
          ⟨none, (some 51), .calld 0 (.t 41) [.c (.int .i64 (2)), .t 48, .t 50]⟩])
        (.skip)))))
    (.reg [⟨none, (some 52), .bin .add (.t 28) (.c (.int .i64 (1)))⟩,
      ⟨none, (some 28), .mov (.t 52)⟩])))
def F71L0 : XC := .loop (m 58 402654136) F71L0b
def F71T0 : XC :=
 .seq
  (.reg [⟨none, (some 11), .alloc [.nilf]⟩])
  (.seq
   (.reg [⟨none, (some 53), .mkf 93 [.t 3, .t 4, .t 7, .t 9, .t 5, .t 11]⟩,
     ⟨none, none, .store 1 (.t 11) (.t 53)⟩])
   (.seq
    (.reg [⟨none, (some 54), .load none (.t 11)⟩,
      ⟨none, (some 55), .load none (.t 7)⟩,
      ⟨none, (some 56), .calld 0 (.t 54) [.t 55, .c (.int .i64 (0)), .c (.int .i64 (0))]⟩])
    (.seq
     (.reg [⟨none, (some 57), .load none (.t 8)⟩,
       ⟨none, (some 6), .mov (.t 57)⟩])
     (.ret (m 58 64)))))
def F71B : XC :=
 .seq
  (.reg [⟨none, (some 3), .box (.t 0)⟩,
    ⟨none, (some 4), .box (.t 1)⟩,
    ⟨none, (some 5), .box (.t 2)⟩,
    ⟨none, (some 6), .mov (.c (.nils))⟩])
  (.seq
   (.seq
    (.reg [⟨none, (some 12), .load none (.t 4)⟩,
      ⟨none, (some 13), .bin .eql (.t 12) (.c (.int .i64 (0)))⟩])
    (.cond (.t 13)
     (.seq
      (.reg [⟨none, (some 14), .bslice 1 1 [.int .i64 (0)] [(0, 1, .c (.int .i64 (1)))]⟩,
        ⟨none, (some 6), .mov (.t 14)⟩])
      (.ret (m 58 64)))
     (.skip)))
   (.seq
    (.reg [⟨none, (some 15), .load none (.t 4)⟩,
      ⟨none, (some 16), .call 1 91 [.t 15]⟩,
      ⟨none, (some 7), .alloc [.int .i64 (0)]⟩,
      ⟨none, none, .store 1 (.t 7) (.t 16)⟩])
    (.seq
     (.reg [⟨none, (some 17), .load none (.t 4)⟩,
       ⟨none, (some 18), .load none (.t 7)⟩,
       ⟨none, (some 19), .bin .shl (.c (.int .i64 (1))) (.t 18)⟩,
       ⟨none, (some 20), .bin .andNot (.t 17) (.t 19)⟩,
       ⟨none, none, .store 1 (.t 4) (.t 20)⟩])
     (.seq
      (.reg [⟨none, (some 21), .load none (.t 3)⟩,
        ⟨none, (some 22), .load none (.t 4)⟩,
        ⟨none, (some 23), .load (some 2) (.t 5)⟩,
        ⟨none, (some 24), .call 2 71 [.t 21, .t 22, .t 23]⟩,
        ⟨none, (some 8), .alloc [.nils]⟩,
        ⟨none, none, .store 1 (.t 8) (.t 24)⟩])
      (.seq
       (.reg [⟨none, (some 25), .mkf 92 [.t 8]⟩,
         ⟨none, (some 9), .alloc [.nilf]⟩,
         ⟨none, none, .store 1 (.t 9) (.t 25)⟩])
       (.seq
        (.seq
         (.reg [⟨none, (some 26), .load none (.t 3)⟩,
           ⟨none, (some 27), .len (.t 26)⟩,
           ⟨none, (some 28), .mov (.c (.int .i64 (0)))⟩])
         (.block 0 (m 58 952)
          (F71L0)))
        F71T0))))))
def F71 : XF := ⟨3, 58, [.tmp 6], F71B⟩
def M71 : List (List Bool) := [(m 58 64), (m 58 952), (m 58 402654136), (m 58 952), (m 58 402654136), (m 58 64)]
def F72L0b : XC :=
 .seq
  (.seq
   (.reg [⟨none, (some 55), .mov (.t 14)⟩,
     ⟨none, (some 56), .mov (.t 0)⟩,
     ⟨none, (some 57), .len (.t 56)⟩,
     ⟨none, (some 58), .bin .lss (.t 55) (.t 57)⟩])
   (.cond (.t 58)
    (.skip)
    (.exit 2 (m 95 12351))))
  (.seq
   (.block 3 (m 95 28735)
    (.seq
     (.reg [⟨none, (some 61), .mov (.t 2)⟩,
       ⟨none, (some 62), .mov (.t 14)⟩,
       ⟨none, (some 63), .bin .shr (.t 61) (.t 62)⟩,
       ⟨none, (some 64), .bin .rem (.t 63) (.c (.int .i64 (2)))⟩,
       ⟨none, (some 65), .bin .eql (.t 64) (.c (.int .i64 (1)))⟩])
     (.cond (.t 65)
      (.reg [⟨none, (some 66), .mov (.t 13)⟩,
        ⟨none, (some 67), .un .neg (.t 66)⟩,
        ⟨none, (some 13), .mov (.t 67)⟩])
      (.skip))))
   (.reg [⟨none, (some 59), .mov (.t 14)⟩,
     ⟨none, (some 60), .bin .add (.t 59) (.c (.int .i64 (1)))⟩,
     ⟨none, (some 14), .mov (.t 60)⟩]))
def F72L0 : XC := .loop (m 95 28735) F72L0b
def F72T0 : XC :=
 .seq
  (.reg [⟨none, (some 68), .mov (.t 12)⟩,
    ⟨none, (some 69), .mov (.t 1)⟩,
    ⟨none, (some 70), .bin .eql (.t 68) (.t 69)⟩])
  (.cond (.t 70)
   (.reg [⟨none, (some 71), .mov (.t 0)⟩,
     ⟨none, (some 72), .mov (.t 1)⟩,
     ⟨none, (some 73), .bin .add (.t 72) (.c (.int .i64 (1)))⟩,
     ⟨none, (some 74), .mov (.t 2)⟩,
     ⟨none, (some 75), .mov (.t 12)⟩,
     ⟨none, (some 76), .bin .shl (.c (.int .i64 (1))) (.t 75)⟩,
     ⟨none, (some 77), .bin .or (.t 74) (.t 76)⟩,
     ⟨none, (some 78), .mov (.t 3)⟩,
     ⟨none, (some 79), .bin .add (.t 78) (.c (.int .i64 (1)))⟩,
     ⟨none, (some 80), .mov (.t 13)⟩,
     ⟨none, (some 81), .mov (.t 5)⟩,
     ⟨none, (some 82), .call 0 72 [.t 71, .t 73, .t 77, .t 79, .t 80, .t 81]⟩])
   (.reg [⟨none, (some 83), .mov (.t 0)⟩,
     ⟨none, (some 84), .mov (.t 1)⟩,
     ⟨none, (some 85), .bin .add (.t 84) (.c (.int .i64 (1)))⟩,
     ⟨none, (some 86), .mov (.t 2)⟩,
     ⟨none, (some 87), .mov (.t 12)⟩,
     ⟨none, (some 88), .bin .shl (.c (.int .i64 (1))) (.t 87)⟩,
     ⟨none, (some 89), .bin .or (.t 86) (.t 88)⟩,
     ⟨none, (some 90), .mov (.t 3)⟩,
     ⟨none, (some 91), .mov (.t 13)⟩,
     ⟨none, (some 92), .un .neg (.t 91)⟩,
     ⟨none, (some 93), .mov (.t 5)⟩,
     ⟨none, (some 94), .call 0 72 [.t 83, .t 85, .t 89, .t 90, .t 92, .t 93]⟩]))
def F72T1 : XC :=
 .reg [⟨none, (some 30), .mov (.t 12)⟩,
   ⟨none, (some 31), .bin .add (.t 30) (.c (.int .i64 (1)))⟩,
   ⟨none, (some 12), .mov (.t 31)⟩]
def F72L1b : XC :=
 .seq
  (.seq
   (.reg [⟨none, (some 26), .mov (.t 12)⟩,
     ⟨none, (some 27), .mov (.t 0)⟩,
     ⟨none, (some 28), .len (.t 27)⟩,
     ⟨none, (some 29), .bin .lss (.t 26) (.t 28)⟩])
   (.cond (.t 29)
    (.skip)
    (.exit 0 (m 95 0))))
  (.seq
   (.block 1 (m 95 4159)
    (.seq
     (.seq
      (.reg [⟨none, (some 32), .mov (.t 2)⟩,
        ⟨none, (some 33), .mov (.t 12)⟩,
        ⟨none, (some 34), .bin .shr (.t 32) (.t 33)⟩,
        ⟨none, (some 35), .bin .rem (.t 34) (.c (.int .i64 (2)))⟩,
        ⟨none, (some 36), .bin .eql (.t 35) (.c (.int .i64 (1)))⟩,
        ⟨none, (some 37), .mov (.t 36)⟩,
        ⟨(some (37, false)), (some 38), .mov (.t 12)⟩,
        ⟨(some (37, false)), (some 39), .mov (.t 1)⟩,
        ⟨(some (37, false)), (some 40), .bin .neq (.t 38) (.t 39)⟩,
        ⟨(some (37, false)), (some 41), .mov (.t 40)⟩,
        ⟨(some (41, true)), (some 42), .mov (.t 0)⟩,
        ⟨(some (41, true)), (some 43), .mov (.t 1)⟩,
        ⟨(some (41, true)), (some 44), .indexA 1 (.t 42) (.t 43)⟩,
        ⟨(some (41, true)), (some 45), .load none (.t 44)⟩,
        ⟨(some (41, true)), (some 46), .mov (.t 12)⟩,
        ⟨(some (41, true)), (some 47), .bin .shr (.t 45) (.t 46)⟩,
        ⟨(some (41, true)), (some 48), .bin .rem (.t 47) (.c (.int .i64 (2)))⟩,
        ⟨(some (41, true)), (some 49), .bin .eql (.t 48) (.c (.int .i64 (0)))⟩,
        ⟨(some (37, false)), (some 50), .pick (.t 41) (.t 49) (.c (.bool false))⟩,
        ⟨none, (some 51), .pick (.t 37) (.c (.bool true)) (.t 50)⟩])
      (.cond (.t 51)
       (.exit 1 (m 95 4159))
       (.skip)))
     (.seq
      (.reg [⟨none, (some 52), .mov (.t 4)⟩,
        ⟨none, (some 13), .mov (.t 52)⟩])
      (.seq
       (.seq
        (.reg [⟨none, (some 53), .mov (.t 12)⟩,
          ⟨none, (some 54), .bin .add (.t 53) (.c (.int .i64 (1)))⟩,
          ⟨none, (some 14), .mov (.t 54)⟩])
        (.block 2 (m 95 12351)
         (F72L0)))
       F72T0))))
   F72T1)
def F72L1 : XC := .loop (m 95 4159) F72L1b
def F72B : XC :=
 .seq
  (.seq
   (.reg [⟨none, (some 15), .mov (.t 1)⟩,
     ⟨none, (some 16), .mov (.t 0)⟩,
     ⟨none, (some 17), .len (.t 16)⟩,
     ⟨none, (some 18), .bin .eql (.t 15) (.t 17)⟩])
   (.cond (.t 18)
    (.seq
     (.reg [⟨none, (some 19), .mov (.t 5)⟩,
       ⟨none, (some 20), .mov (.t 3)⟩,
       ⟨none, (some 21), .indexA 1 (.t 19) (.t 20)⟩,
       ⟨none, (some 22), .load none (.t 21)⟩,
       ⟨none, (some 23), .mov (.t 4)⟩,
       ⟨none, (some 24), .bin .add (.t 22) (.t 23)⟩,
       ⟨none, (some 25), .indexA 1 (.t 19) (.t 20)⟩,
       ⟨none, none, .store 1 (.t 25) (.t 24)⟩])
     (.ret (m 95 0)))
    (.skip)))
  (.seq
   (.reg [⟨none, (some 12), .mov (.c (.int .i64 (0)))⟩])
   (.block 0 (m 95 0)
    (F72L1)))
def F72 : XF := ⟨6, 95, [], F72B⟩
def M72 : List (List Bool) := [(m 95 0), (m 95 0), (m 95 4159), (m 95 0), (m 95 4159), (m 95 4159), (m 95 12351), (m 95 28735), (m 95 12351), (m 95 28735)]
def F73L0b : XC :=
 .seq
  (.seq
   (.reg [⟨none, (some 22), .mov (.t 1)⟩,
     ⟨none, (some 23), .mov (.t 10)⟩,
     ⟨none, (some 24), .bin .shr (.t 22) (.t 23)⟩,
     ⟨none, (some 25), .bin .rem (.t 24) (.c (.int .i64 (2)))⟩,
     ⟨none, (some 26), .bin .eql (.t 25) (.c (.int .i64 (0)))⟩])
   (.cond (.t 26)
    (.skip)
    (.exit 0 (m 66 1055))))
  (.block 1 (m 66 1055)
   (.reg [⟨none, (some 27), .mov (.t 10)⟩,
     ⟨none, (some 28), .bin .add (.t 27) (.c (.int .i64 (1)))⟩,
     ⟨none, (some 10), .mov (.t 28)⟩]))
def F73L0 : XC := .loop (m 66 1055) F73L0b
def F73L1b : XC :=
 .seq
  (.seq
   (.reg [⟨none, (some 39), .mov (.t 12)⟩,
     ⟨none, (some 40), .mov (.t 0)⟩,
     ⟨none, (some 41), .len (.t 40)⟩,
     ⟨none, (some 42), .bin .lss (.t 39) (.t 41)⟩])
   (.cond (.t 42)
    (.skip)
    (.exit 2 (m 66 0))))
  (.seq
   (.block 3 (m 66 7197)
    (.seq
     (.reg [⟨none, (some 45), .mov (.t 0)⟩,
       ⟨none, (some 46), .mov (.t 10)⟩,
       ⟨none, (some 47), .indexA 1 (.t 45) (.t 46)⟩,
       ⟨none, (some 48), .load none (.t 47)⟩,
       ⟨none, (some 49), .mov (.t 11)⟩,
       ⟨none, (some 50), .bin .and (.t 48) (.t 49)⟩,
       ⟨none, (some 51), .mov (.t 12)⟩,
       ⟨none, (some 52), .bin .shr (.t 50) (.t 51)⟩,
       ⟨none, (some 53), .bin .rem (.t 52) (.c (.int .i64 (2)))⟩,
       ⟨none, (some 54), .bin .eql (.t 53) (.c (.int .i64 (1)))⟩])
     (.cond (.t 54)
      (.reg [⟨none, (some 55), .mov (.t 0)⟩,
        ⟨none, (some 56), .mov (.t 11)⟩,
        ⟨none, (some 57), .mov (.t 12)⟩,
        ⟨none, (some 58), .bin .shl (.c (.int .i64 (1))) (.t 57)⟩,
        ⟨none, (some 59), .bin .sub (.t 56) (.t 58)⟩,
        ⟨none, (some 60), .mov (.t 2)⟩,
        ⟨none, (some 61), .bin .sub (.t 60) (.c (.int .i64 (2)))⟩,
        ⟨none, (some 62), .mov (.t 3)⟩,
        ⟨none, (some 63), .un .neg (.t 62)⟩,
        ⟨none, (some 64), .mov (.t 4)⟩,
        ⟨none, (some 65), .call 0 73 [.t 55, .t 59, .t 61, .t 63, .t 64]⟩])
      (.skip))))
   (.reg [⟨none, (some 43), .mov (.t 12)⟩,
     ⟨none, (some 44), .bin .add (.t 43) (.c (.int .i64 (1)))⟩,
     ⟨none, (some 12), .mov (.t 44)⟩]))
def F73L1 : XC := .loop (m 66 7197) F73L1b
def F73T0 : XC :=
 .seq
  (.reg [⟨none, (some 29), .mov (.t 1)⟩,
    ⟨none, (some 30), .mov (.t 10)⟩,
    ⟨none, (some 31), .bin .shl (.c (.int .i64 (1))) (.t 30)⟩,
    ⟨none, (some 32), .bin .sub (.t 29) (.t 31)⟩,
    ⟨none, (some 11), .mov (.t 32)⟩])
  (.seq
   (.reg [⟨none, (some 33), .mov (.t 0)⟩,
     ⟨none, (some 34), .mov (.t 11)⟩,
     ⟨none, (some 35), .mov (.t 2)⟩,
     ⟨none, (some 36), .mov (.t 3)⟩,
     ⟨none, (some 37), .mov (.t 4)⟩,
     ⟨none, (some 38), .call 0 73 [.t 33, .t 34, .t 35, .t 36, .t 37]⟩])
   (.seq
    (.reg [⟨none, (some 12), .mov (.c (.int .i64 (0)))⟩])
    (.block 2 (m 66 0)
     (F73L1))))
def F73B : XC :=
 .seq
  (.seq
   (.reg [⟨none, (some 13), .mov (.t 1)⟩,
     ⟨none, (some 14), .bin .eql (.t 13) (.c (.int .i64 (0)))⟩])
   (.cond (.t 14)
    (.seq
     (.reg [⟨none, (some 15), .mov (.t 4)⟩,
       ⟨none, (some 16), .mov (.t 2)⟩,
       ⟨none, (some 17), .indexA 1 (.t 15) (.t 16)⟩,
       ⟨none, (some 18), .load none (.t 17)⟩,
       ⟨none, (some 19), .mov (.t 3)⟩,
       ⟨none, (some 20), .bin .add (.t 18) (.t 19)⟩,
       ⟨none, (some 21), .indexA 1 (.t 15) (.t 16)⟩,
       ⟨none, none, .store 1 (.t 21) (.t 20)⟩])
     (.ret (m 66 0)))
    (.skip)))
  (.seq
   (.reg [⟨none, (some 10), .mov (.c (.int .i64 (0)))⟩])
   (.seq
    (.block 0 (m 66 1055)
     (F73L0))
    F73T0))
def F73 : XF := ⟨5, 66, [], F73B⟩
def M73 : List (List Bool) := [(m 66 0), (m 66 1055), (m 66 1055), (m 66 1055), (m 66 1055), (m 66 0), (m 66 7197), (m 66 0), (m 66 7197)]
def F74L0b : XC :=
 .seq
  (.seq
   (.reg [⟨none, (some 12), .mov (.t 4)⟩,
     ⟨none, (some 13), .mov (.t 0)⟩,
     ⟨none, (some 14), .len (.t 13)⟩,
     ⟨none, (some 15), .bin .lss (.t 12) (.t 14)⟩])
   (.cond (.t 15)
    (.skip)
    (.exit 0 (m 25 8))))
  (.seq
   (.block 1 (m 25 25)
    (.reg [⟨none, (some 18), .mov (.t 3)⟩,
      ⟨none, (some 19), .mov (.t 0)⟩,
      ⟨none, (some 20), .mov (.t 4)⟩,
      ⟨none, (some 21), .indexA 1 (.t 19) (.t 20)⟩,
      ⟨none, (some 22), .load none (.t 21)⟩,
      ⟨none, (some 23), .mnx false [.t 18, .t 22]⟩,
      ⟨none, (some 3), .mov (.t 23)⟩]))
   (.reg [⟨none, (some 16), .mov (.t 4)⟩,
     ⟨none, (some 17), .bin .add (.t 16) (.c (.int .i64 (1)))⟩,
     ⟨none, (some 4), .mov (.t 17)⟩]))
def F74L0 : XC := .loop (m 25 25) F74L0b
def F74T0 : XC :=
 .seq
  (.reg [⟨none, (some 24), .mov (.t 3)⟩,
    ⟨none, (some 2), .mov (.t 24)⟩])
  (.ret (m 25 4))
def F74B : XC :=
 .seq
  (.reg [⟨none, (some 2), .mov (.c (.int .i64 (0)))⟩])
  (.seq
   (.seq
    (.reg [⟨none, (some 5), .mov (.t 0)⟩,
      ⟨none, (some 6), .len (.t 5)⟩,
      ⟨none, (some 7), .bin .lss (.t 6) (.c (.int .i64 (1)))⟩])
    (.cond (.t 7)
     (.reg [⟨none, (some 8), .mki 9 (.c (.undef))⟩,
       ⟨none, none, .bad⟩])
     (.skip)))
   (.seq
    (.reg [⟨none, (some 9), .mov (.t 0)⟩,
      ⟨none, (some 10), .indexA 1 (.t 9) (.c (.int .i64 (0)))⟩,
      ⟨none, (some 11), .load none (.t 10)⟩,
      ⟨none, (some 3), .mov (.t 11)⟩])
    (.seq
     (.seq
      (.reg [⟨none, (some 4), .mov (.c (.int .i64 (1)))⟩])
      (.block 0 (m 25 8)
       (F74L0)))
     F74T0)))
def F74 : XF := ⟨1, 25, [.tmp 2], F74B⟩
def M74 : List (List Bool) := [(m 25 8), (m 25 25), (m 25 8), (m 25 25), (m 25 4)]
def F75L0b : XC :=
 .seq
  (.seq
   (.reg [⟨none, (some 12), .mov (.t 4)⟩,
     ⟨none, (some 13), .mov (.t 0)⟩,
     ⟨none, (some 14), .len (.t 13)⟩,
     ⟨none, (some 15), .bin .lss (.t 12) (.t 14)⟩])
   (.cond (.t 15)
    (.skip)
    (.exit 0 (m 25 8))))
  (.seq
   (.block 1 (m 25 25)
    (.reg [⟨none, (some 18), .mov (.t 3)⟩,
      ⟨none, (some 19), .mov (.t 0)⟩,
      ⟨none, (some 20), .mov (.t 4)⟩,
      ⟨none, (some 21), .indexA 1 (.t 19) (.t 20)⟩,
      ⟨none, (some 22), .load none (.t 21)⟩,
      ⟨none, (some 23), .mnx true [.t 18, .t 22]⟩,
      ⟨none, (some 3), .mov (.t 23)⟩]))
   (.reg [⟨none, (some 16), .mov (.t 4)⟩,
     ⟨none, (some 17), .bin .add (.t 16) (.c (.int .i64 (1)))⟩,
     ⟨none, (some 4), .mov (.t 17)⟩]))
def F75L0 : XC := .loop (m 25 25) F75L0b
def F75T0 : XC :=
 .seq
  (.reg [⟨none, (some 24), .mov (.t 3)⟩,
    ⟨none, (some 2), .mov (.t 24)⟩])
  (.ret (m 25 4))
def F75B : XC :=
 .seq
  (.reg [⟨none, (some 2), .mov (.c (.int .i64 (0)))⟩])
  (.seq
   (.seq
    (.reg [⟨none, (some 5), .mov (.t 0)⟩,
      ⟨none, (some 6), .len (.t 5)⟩,
      ⟨none, (some 7), .bin .lss (.t 6) (.c (.int .i64 (1)))⟩])
    (.cond (.t 7)
     (.reg [⟨none, (some 8), .mki 9 (.c (.undef))⟩,
       ⟨none, none, .bad⟩])
     (.skip)))
   (.seq
    (.reg [⟨none, (some 9), .mov (.t 0)⟩,
      ⟨none, (some 10), .indexA 1 (.t 9) (.c (.int .i64 (0)))⟩,
      ⟨none, (some 11), .load none (.t 10)⟩,
      ⟨none, (some 3), .mov (.t 11)⟩])
    (.seq
     (.seq
      (.reg [⟨none, (some 4), .mov (.c (.int .i64 (1)))⟩])
      (.block 0 (m 25 8)
       (F75L0)))
     F75T0)))
def F75 : XF := ⟨1, 25, [.tmp 2], F75B⟩
def M75 : List (List Bool) := [(m 25 8), (m 25 25), (m 25 8), (m 25 25), (m 25 4)]
def F76L0b : XC :=
 .seq
  (.seq
   (.reg [⟨none, (some 17), .mov (.t 0)⟩,
     ⟨none, (some 18), .bin .gtr (.t 17) (.c (.int .i64 (0)))⟩])
   (.cond (.t 18)
    (.skip)
    (.exit 1 (m 28 20))))
  (.seq
   (.block 2 (m 28 21)
    (.reg [⟨none, (some 21), .mov (.t 4)⟩,
      ⟨none, (some 22), .mov (.t 0)⟩,
      ⟨none, (some 23), .bin .rem (.t 22) (.c (.int .i64 (2147483648)))⟩,
      ⟨none, (some 24), .bslice 1 1 [.int .i64 (0)] [(0, 1, .t 23)]⟩,
      ⟨none, (some 25), .app 1 8 (.t 21) (.t 24)⟩,
      ⟨none, (some 4), .mov (.t 25)⟩]))
   (.reg [⟨none, (some 19), .mov (.t 0)⟩,
     ⟨none, (some 20), .bin .quo (.t 19) (.c (.int .i64 (2147483648)))⟩,
     ⟨none, (some 0), .mov (.t 20)⟩]))
def F76L0 : XC := .loop (m 28 21) F76L0b
def F76T0 : XC :=
 .seq
  (.reg [⟨none, (some 26), .mov (.t 4)⟩,
    ⟨none, (some 27), .build [.int .i64 (0), .nils] [(0, 1, .c (.int .i64 (1))), (1, 1, .t 26)]⟩,
    ⟨none, none, .store 2 (.t 2) (.t 27)⟩])
  (.ret (m 28 4))
def F76B : XC :=
 .seq
  (.reg [⟨none, (some 2), .alloc [.int .i64 (0), .nils]⟩])
  (.seq
   (.block 0 (m 28 5)
    (.seq
     (.reg [⟨none, (some 6), .mov (.t 0)⟩,
       ⟨none, (some 7), .bin .eql (.t 6) (.c (.int .i64 (0)))⟩,
       ⟨none, (some 5), .mov (.t 7)⟩])
     (.cond (.t 5)
      (.seq
       (.reg [⟨none, (some 8), .build [.int .i64 (0), .nils] []⟩,
         ⟨none, none, .store 2 (.t 2) (.t 8)⟩])
       (.ret (m 28 4)))
      (.seq
       (.reg [⟨none, (some 10), .mov (.t 0)⟩,
         ⟨none, (some 11), .bin .lss (.t 10) (.c (.int .i64 (0)))⟩,
         ⟨none, (some 9), .mov (.t 11)⟩])
       (.cond (.t 9)
        (.seq
         (.reg [⟨none, (some 12), .mov (.t 0)⟩,
           ⟨none, (some 13), .un .neg (.t 12)⟩,
           ⟨none, (some 14), .call 1 76 [.t 13]⟩,
           ⟨none, (some 3), .alloc [.int .i64 (0), .nils]⟩,
           ⟨none, none, .store 2 (.t 3) (.t 14)⟩])
         (.seq
          (.reg [⟨none, (some 15), .fieldA 0 (.t 3)⟩,
            ⟨none, none, .store 1 (.t 15) (.c (.int .i64 (-1)))⟩])
          (.seq
           (.reg [⟨none, (some 16), .load (some 2) (.t 3)⟩,
             ⟨none, none, .store 2 (.t 2) (.t 16)⟩])
           (.ret (m 28 4)))))
        (.skip))))))
   (.seq
    (.reg [⟨none, (some 4), .mov (.c (.nils))⟩])
    (.seq
     (.block 1 (m 28 20)
      (F76L0))
     F76T0)))
def F76 : XF := ⟨1, 28, [.cell 2 (some 2)], F76B⟩
def M76 : List (List Bool) := [(m 28 5), (m 28 4), (m 28 4), (m 28 20), (m 28 21), (m 28 20), (m 28 21), (m 28 4)]
def F77L0b : XC :=
 .seq
  (.seq
   (.reg [⟨none, (some 3), .mov (.t 0)⟩,
     ⟨none, (some 4), .len (.t 3)⟩,
     ⟨none, (some 5), .bin .gtr (.t 4) (.c (.int .i64 (0)))⟩,
     ⟨none, (some 6), .mov (.t 5)⟩,
     ⟨(some (6, true)), (some 7), .mov (.t 0)⟩,
     ⟨(some (6, true)), (some 8), .mov (.t 0)⟩,
     ⟨(some (6, true)), (some 9), .len (.t 8)⟩,
     ⟨(some (6, true)), (some 10), .bin .sub (.t 9) (.c (.int .i64 (1)))⟩,
     ⟨(some (6, true)), (some 11), .indexA 2 (.t 7) (.t 10)⟩,
     ⟨(some (6, true)), (some 12), .fieldA 0 (.t 11)⟩,
     ⟨(some (6, true)), (some 13), .load none (.t 12)⟩,
     ⟨(some (6, true)), (some 14), .bin .eql (.t 13) (.c (.int .i64 (0)))⟩,
     ⟨none, (some 15), .pick (.t 6) (.t 14) (.c (.bool false))⟩])
   (.cond (.t 15)
    (.skip)
    (.exit 0 (m 22 1))))
  (.block 1 (m 22 1)
   (.reg [⟨none, (some 16), .mov (.t 0)⟩,
     ⟨none, (some 17), .mov (.t 0)⟩,
     ⟨none, (some 18), .len (.t 17)⟩,
     ⟨none, (some 19), .bin .sub (.t 18) (.c (.int .i64 (1)))⟩,
     ⟨none, (some 20), .slice 2 (.t 16) none (some (.t 19)) none⟩,
     ⟨none, (some 0), .mov (.t 20)⟩]))
def F77L0 : XC := .loop (m 22 1) F77L0b
def F77T0 : XC :=
 .seq
  (.reg [⟨none, (some 21), .mov (.t 0)⟩,
    ⟨none, (some 2), .mov (.t 21)⟩])
  (.ret (m 22 4))
def F77B : XC :=
 .seq
  (.reg [⟨none, (some 2), .mov (.c (.nils))⟩])
  (.seq
   (.block 0 (m 22 1)
    (F77L0))
   F77T0)
def F77 : XF := ⟨1, 22, [.tmp 2], F77B⟩
def M77 : List (List Bool) := [(m 22 1), (m 22 1), (m 22 1), (m 22 1), (m 22 4)]
def F78L0b : XC :=
 .seq
  (.reg [⟨none, (some 46), .bin .lss (.t 45) (.t 44)⟩])
  (.seq
   (.cond (.t 46)
    (.skip)
    (.exit 2 (m 80 99)))
   (.seq
    (.block 3 (m 80 52776558133731)
     (.seq
      (.reg [⟨none, (some 47), .mov (.t 45)⟩,
        ⟨none, (some 9), .mov (.t 47)⟩])
      (.seq
       (.reg [⟨none, (some 48), .mov (.t 0)⟩,
         ⟨none, (some 49), .mov (.t 9)⟩,
         ⟨none, (some 50), .mov (.t 0)⟩,
         ⟨none, (some 51), .mov (.t 9)⟩,
         ⟨none, (some 52), .indexA 2 (.t 50) (.t 51)⟩,
         ⟨none, (some 53), .load (some 2) (.t 52)⟩,
         ⟨none, (some 54), .load (some 2) (.t 6)⟩,
         ⟨none, (some 55), .call 1 95 [.t 53, .t 54]⟩,
         ⟨none, (some 56), .indexA 2 (.t 48) (.t 49)⟩,
         ⟨none, none, .store 2 (.t 56) (.t 55)⟩])
       (.seq
        (.reg [⟨none, (some 57), .mov (.t 9)⟩,
          ⟨none, (some 58), .mov (.t 8)⟩,
          ⟨none, (some 59), .bin .geq (.t 57) (.t 58)⟩])
        (.cond (.t 59)
         (.reg [⟨none, (some 60), .mov (.t 0)⟩,
           ⟨none, (some 61), .mov (.t 9)⟩,
           ⟨none, (some 62), .mov (.t 0)⟩,
           ⟨none, (some 63), .mov (.t 9)⟩,
           ⟨none, (some 64), .indexA 2 (.t 62) (.t 63)⟩,
           ⟨none, (some 65), .load (some 2) (.t 64)⟩,
           ⟨none, (some 66), .mov (.t 1)⟩,
           ⟨none, (some 67), .mov (.t 9)⟩,
           ⟨none, (some 68), .mov (.t 8)⟩,
           ⟨none, (some 69), .bin .sub (.t 67) (.t 68)⟩,
           ⟨none, (some 70), .indexA 2 (.t 66) (.t 69)⟩,
           ⟨none, (some 71), .load (some 2) (.t 70)⟩,
           ⟨none, (some 72), .load (some 2) (.t 7)⟩,
           ⟨none, (some 73), .call 1 95 [.t 71, .t 72]⟩,
           ⟨none, (some 74), .call 1 96 [.t 65, .t 73]⟩,
           ⟨none, (some 75), .indexA 2 (.t 60) (.t 61)⟩,
           ⟨none, none, .store 2 (.t 75) (.t 74)⟩])
         (.skip))))))
    (.reg [⟨none, (some 76), .bin .add (.t 45) (.c (.int .i64 (1)))⟩,
      ⟨none, (some 45), .mov (.t 76)⟩])))
def F78L0 : XC := .loop (m 80 52776558133731) F78L0b
def F78T0 : XC :=
 .reg [⟨none, (some 77), .mov (.t 0)⟩,
   ⟨none, (some 78), .call 0 77 [.t 77]⟩,
   ⟨none, (some 0), .mov (.t 78)⟩]
def F78L1b : XC :=
 .seq
  (.seq
   (.reg [⟨none, (some 20), .mov (.t 0)⟩,
     ⟨none, (some 21), .len (.t 20)⟩,
     ⟨none, (some 22), .mov (.t 1)⟩,
     ⟨none, (some 23), .len (.t 22)⟩,
     ⟨none, (some 24), .bin .geq (.t 21) (.t 23)⟩])
   (.cond (.t 24)
    (.skip)
    (.exit 0 (m 80 1))))
  (.block 1 (m 80 99)
   (.seq
    (.reg [⟨none, (some 25), .mov (.t 0)⟩,
      ⟨none, (some 26), .mov (.t 0)⟩,
      ⟨none, (some 27), .len (.t 26)⟩,
      ⟨none, (some 28), .bin .sub (.t 27) (.c (.int .i64 (1)))⟩,
      ⟨none, (some 29), .indexA 2 (.t 25) (.t 28)⟩,
      ⟨none, (some 30), .load (some 2) (.t 29)⟩,
      ⟨none, (some 7), .alloc [.int .i64 (0), .nils]⟩,
      ⟨none, none, .store 2 (.t 7) (.t 30)⟩])
    (.seq
     (.reg [⟨none, (some 31), .fieldA 0 (.t 7)⟩,
       ⟨none, (some 32), .load none (.t 31)⟩,
       ⟨none, (some 33), .fieldA 0 (.t 5)⟩,
       ⟨none, (some 34), .load none (.t 33)⟩,
       ⟨none, (some 35), .un .neg (.t 34)⟩,
       ⟨none, (some 36), .bin .mul (.t 32) (.t 35)⟩,
       ⟨none, (some 37), .fieldA 0 (.t 7)⟩,
       ⟨none, none, .store 1 (.t 37) (.t 36)⟩])
     (.seq
      (.reg [⟨none, (some 38), .mov (.t 0)⟩,
        ⟨none, (some 39), .len (.t 38)⟩,
        ⟨none, (some 40), .mov (.t 1)⟩,
        ⟨none, (some 41), .len (.t 40)⟩,
        ⟨none, (some 42), .bin .sub (.t 39) (.t 41)⟩,
        ⟨none, (some 8), .mov (.t 42)⟩])
      (.seq
       (.seq
        (.reg [⟨none, (some 43), .mov (.t 0)⟩,
          ⟨none, (some 44), .len (.t 43)⟩,
          ⟨none, (some 45), .mov (.c (.int .i64 (0)))⟩])
        (.block 2 (m 80 99)
         (F78L0)))
       F78T0)))))
def F78L1 : XC := .loop (m 80 99) F78L1b
def F78T1 : XC :=
 .seq
  (.reg [⟨none, (some 79), .mov (.t 0)⟩,
    ⟨none, (some 4), .mov (.t 79)⟩])
  (.ret (m 80 16))
def F78B : XC :=
 .seq
  (.reg [⟨none, (some 4), .mov (.c (.nils))⟩])
  (.seq
   (.reg [⟨none, (some 10), .mov (.t 0)⟩,
     ⟨none, (some 11), .call 2 94 [.t 10]⟩,
     ⟨none, (some 0), .mov (.t 11)⟩])
   (.seq
    (.reg [⟨none, (some 12), .mov (.t 1)⟩,
      ⟨none, (some 13), .mov (.t 1)⟩,
      ⟨none, (some 14), .len (.t 13)⟩,
      ⟨none, (some 15), .bin .sub (.t 14) (.c (.int .i64 (1)))⟩,
      ⟨none, (some 16), .indexA 2 (.t 12) (.t 15)⟩,
      ⟨none, (some 17), .load (some 2) (.t 16)⟩,
      ⟨none, (some 5), .alloc [.int .i64 (0), .nils]⟩,
      ⟨none, none, .store 2 (.t 5) (.t 17)⟩])
    (.seq
     (.reg [⟨none, (some 18), .load (some 2) (.t 5)⟩,
       ⟨none, (some 6), .alloc [.int .i64 (0), .nils]⟩,
       ⟨none, none, .store 2 (.t 6) (.t 18)⟩])
     (.seq
      (.reg [⟨none, (some 19), .fieldA 0 (.t 6)⟩,
        ⟨none, none, .store 1 (.t 19) (.c (.int .i64 (1)))⟩])
      (.seq
       (.block 0 (m 80 1)
        (F78L1))
       F78T1)))))
def F78 : XF := ⟨2, 80, [.tmp 4], F78B⟩
def M78 : List (List Bool) := [(m 80 1), (m 80 99), (m 80 1), (m 80 99), (m 80 99), (m 80 52776558133731), (m 80 99), (m 80 52776558133731), (m 80 16)]
def F79L0b : XC :=
 .seq
  (.reg [⟨none, (some 21), .bin .lss (.t 20) (.t 19)⟩])
  (.seq
   (.cond (.t 21)
    (.skip)
    (.exit 2 (m 36 66)))
   (.seq
    (.block 3 (m 36 1835074)
     (.seq
      (.reg [⟨none, (some 22), .mov (.t 20)⟩,
        ⟨none, (some 23), .indexA 2 (.t 18) (.t 20)⟩,
        ⟨none, (some 24), .load (some 2) (.t 23)⟩,
        ⟨none, (some 8), .alloc [.int .i64 (0), .nils]⟩,
        ⟨none, (some 7), .mov (.t 22)⟩,
        ⟨none, none, .store 2 (.t 8) (.t 24)⟩])
      (.seq
       (.reg [⟨none, (some 25), .mov (.t 7)⟩,
         ⟨none, (some 26), .bin .gtr (.t 25) (.c (.int .i64 (0)))⟩])
       (.cond (.t 26)
        (.reg [⟨none, (some 27), .mov (.t 6)⟩,
          ⟨none, (some 28), .load (some 2) (.t 8)⟩,
          ⟨none, (some 29), .mov (.t 7)⟩,
          ⟨none, (some 30), .call 1 76 [.t 29]⟩,
          ⟨none, (some 31), .call 1 95 [.t 28, .t 30]⟩,
          ⟨none, (some 32), .bslice 2 1 [.int .i64 (0), .nils] [(0, 2, .t 31)]⟩,
          ⟨none, (some 33), .app 2 32 (.t 27) (.t 32)⟩,
          ⟨none, (some 6), .mov (.t 33)⟩])
        (.skip)))))
    (.reg [⟨none, (some 34), .bin .add (.t 20) (.c (.int .i64 (1)))⟩,
      ⟨none, (some 20), .mov (.t 34)⟩])))
def F79L0 : XC := .loop (m 36 1835074) F79L0b
def F79T0 : XC :=
 .reg [⟨none, (some 35), .mov (.t 6)⟩,
   ⟨none, (some 0), .mov (.t 35)⟩]
def F79L1b : XC :=
 .seq
  (.seq
   (.reg [⟨none, (some 9), .mov (.t 0)⟩,
     ⟨none, (some 10), .len (.t 9)⟩,
     ⟨none, (some 11), .bin .gtr (.t 10) (.c (.int .i64 (0)))⟩])
   (.cond (.t 11)
    (.skip)
    (.exit 0 (m 36 0))))
  (.block 1 (m 36 3)
   (.seq
    (.seq
     (.reg [⟨none, (some 12), .mov (.t 0)⟩,
       ⟨none, (some 13), .mov (.t 1)⟩,
       ⟨none, (some 14), .call 1 97 [.t 12, .t 13]⟩,
       ⟨none, (some 5), .mov (.t 14)⟩])
     (.seq
      (.reg [⟨none, (some 15), .mov (.t 5)⟩,
        ⟨none, (some 16), .bin .neq (.t 15) (.c (.int .i64 (0)))⟩])
      (.cond (.t 16)
       (.seq
        (.reg [⟨none, (some 17), .mov (.t 5)⟩,
          ⟨none, (some 4), .mov (.t 17)⟩])
        (.ret (m 36 16)))
       (.skip))))
    (.seq
     (.reg [⟨none, (some 6), .mov (.c (.nils))⟩])
     (.seq
      (.seq
       (.reg [⟨none, (some 18), .mov (.t 0)⟩,
         ⟨none, (some 19), .len (.t 18)⟩,
         ⟨none, (some 20), .mov (.c (.int .i64 (0)))⟩])
       (.block 2 (m 36 66)
        (F79L0)))
      F79T0))))
def F79L1 : XC := .loop (m 36 3) F79L1b
def F79T1 : XC :=
 .seq
  (.reg [⟨none, (some 4), .mov (.c (.int .i64 (0)))⟩])
  (.ret (m 36 16))
def F79B : XC :=
 .seq
  (.reg [⟨none, (some 4), .mov (.c (.int .i64 (0)))⟩])
  (.seq
   (.block 0 (m 36 0)
    (F79L1))
   F79T1)
def F79 : XF := ⟨2, 36, [.tmp 4], F79B⟩
def M79 : List (List Bool) := [(m 36 0), (m 36 3), (m 36 0), (m 36 3), (m 36 16), (m 36 66), (m 36 1835074), (m 36 66), (m 36 1835074), (m 36 16)]
end Go.X
