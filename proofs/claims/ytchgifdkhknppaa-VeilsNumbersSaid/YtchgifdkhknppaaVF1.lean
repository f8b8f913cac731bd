import Derived.Test.YtchgifdkhknppaaXE
import Derived.Test.YtchgifdkhknppaaProg
import Derived.KernelRfl
/-! The functions of the program that are met, as the small machine has them. Printed by a program of our own. -/
namespace Go.X
theorem st_in7 {a0 a1 a2 a3 a4 a5 a6 : AV} {n : Nat} : [a0, a1, a2, a3, a4, a5, a6] ++ List.replicate n .undef = sp (7 + n) [(6, a6), (5, a5), (4, a4), (3, a3), (2, a2), (1, a1), (0, a0)] := by
  apply List.ext_getElem
  · simp [sp]; try omega
  · intro t h1 h2
    rw [st_get]
    match t with
    | 0 => rfl
    | 1 => rfl
    | 2 => rfl
    | 3 => rfl
    | 4 => rfl
    | 5 => rfl
    | 6 => rfl
    | t + 7 => simp [fget]
def F3L0b : XC :=
 .seq
  (.seq
   (.reg [⟨none, (some 33), .mov (.t 8)⟩,
     ⟨none, (some 34), .mov (.t 6)⟩,
     ⟨none, (some 35), .len (.t 34)⟩,
     ⟨none, (some 36), .bin .lss (.t 33) (.t 35)⟩])
   (.cond (.t 36)
    (.skip)
    (.exit 2 (m 57 57))))
  (.seq
   (.block 3 (m 57 377)
    (.seq
     (.seq
      (.reg [⟨none, (some 39), .mov (.t 6)⟩,
        ⟨none, (some 40), .mov (.t 8)⟩,
        ⟨none, (some 41), .indexA 1 (.t 39) (.t 40)⟩,
        ⟨none, (some 42), .load none (.t 41)⟩,
        ⟨none, (some 43), .mov (.t 3)⟩,
        ⟨none, (some 44), .mov (.t 8)⟩,
        ⟨none, (some 45), .indexA 1 (.t 43) (.t 44)⟩,
        ⟨none, (some 46), .load none (.t 45)⟩,
        ⟨none, (some 47), .call 1 19 [.t 42, .t 46]⟩,
        ⟨none, (some 48), .un .not (.t 47)⟩])
      (.cond (.t 48)
       (.seq
        (.reg [⟨none, (some 2), .mov (.c (.bool false))⟩])
        (.ret (m 57 4)))
       (.skip)))
     (.reg [⟨none, (some 49), .mov (.t 6)⟩,
       ⟨none, (some 50), .mov (.t 8)⟩,
       ⟨none, (some 51), .indexA 1 (.t 49) (.t 50)⟩,
       ⟨none, (some 52), .load none (.t 51)⟩,
       ⟨none, (some 53), .indexA 1 (.t 52) (.c (.int .i64 (0)))⟩,
       ⟨none, (some 54), .load none (.t 53)⟩,
       ⟨none, (some 55), .indexA 1 (.t 54) (.c (.int .i64 (0)))⟩,
       ⟨none, none, .store 1 (.t 55) (.c (.int .i64 (7)))⟩])))
   (.reg [⟨none, (some 37), .mov (.t 8)⟩,
     ⟨none, (some 38), .bin .add (.t 37) (.c (.int .i64 (1)))⟩,
     ⟨none, (some 8), .mov (.t 38)⟩]))
def F3L0 : XC := .loop (m 57 377) F3L0b
def F3T0 : XC :=
 .reg [⟨none, (some 16), .mov (.t 5)⟩,
   ⟨none, (some 17), .bin .add (.t 16) (.c (.int .i64 (1)))⟩,
   ⟨none, (some 5), .mov (.t 17)⟩]
def F3L1b : XC :=
 .seq
  (.seq
   (.reg [⟨none, (some 14), .mov (.t 5)⟩,
     ⟨none, (some 15), .bin .lss (.t 14) (.c (.int .i64 (2)))⟩])
   (.cond (.t 15)
    (.skip)
    (.exit 0 (m 57 0))))
  (.seq
   (.block 1 (m 57 57)
    (.seq
     (.reg [⟨none, (some 19), .mov (.t 0)⟩,
       ⟨none, (some 20), .call 2 18 [.t 19]⟩,
       ⟨none, (some 18), .mov (.t 20)⟩,
       ⟨none, (some 21), .ext (.t 18) 0⟩,
       ⟨none, (some 22), .ext (.t 18) 1⟩,
       ⟨none, (some 6), .mov (.t 21)⟩,
       ⟨none, (some 7), .mov (.t 22)⟩])
     (.seq
      (.seq
       (.reg [⟨none, (some 23), .mov (.t 6)⟩,
         ⟨none, (some 24), .len (.t 23)⟩,
         ⟨none, (some 25), .mov (.t 3)⟩,
         ⟨none, (some 26), .len (.t 25)⟩,
         ⟨none, (some 27), .bin .neq (.t 24) (.t 26)⟩,
         ⟨none, (some 28), .mov (.t 27)⟩,
         ⟨(some (28, false)), (some 29), .mov (.t 7)⟩,
         ⟨(some (28, false)), (some 30), .mov (.t 4)⟩,
         ⟨(some (28, false)), (some 31), .bin .neq (.t 29) (.t 30)⟩,
         ⟨none, (some 32), .pick (.t 28) (.c (.bool true)) (.t 31)⟩])
       (.cond (.t 32)
        (.seq
         (.reg [⟨none, (some 2), .mov (.c (.bool false))⟩])
         (.ret (m 57 4)))
        (.skip)))
      (.seq
       (.reg [⟨none, (some 8), .mov (.c (.int .i64 (0)))⟩])
       (.block 2 (m 57 57)
        (F3L0))))))
   F3T0)
def F3L1 : XC := .loop (m 57 57) F3L1b
def F3T1 : XC :=
 .seq
  (.reg [⟨none, (some 56), .call 1 20 []⟩,
    ⟨none, (some 2), .mov (.t 56)⟩])
  (.ret (m 57 4))
def F3B : XC :=
 .seq
  (.reg [⟨none, (some 2), .mov (.c (.bool false))⟩])
  (.seq
   (.reg [⟨none, (some 10), .mov (.t 0)⟩,
     ⟨none, (some 11), .call 1 17 [.t 10]⟩,
     ⟨none, (some 9), .mov (.t 11)⟩,
     ⟨none, (some 12), .ext (.t 9) 0⟩,
     ⟨none, (some 13), .ext (.t 9) 1⟩,
     ⟨none, (some 3), .mov (.t 12)⟩,
     ⟨none, (some 4), .mov (.t 13)⟩])
   (.seq
    (.seq
     (.reg [⟨none, (some 5), .mov (.c (.int .i64 (0)))⟩])
     (.block 0 (m 57 0)
      (F3L1)))
    F3T1))
def F3 : XF := ⟨1, 57, [.tmp 2], F3B⟩
def M3 : List (List Bool) := [(m 57 0), (m 57 57), (m 57 0), (m 57 57), (m 57 4), (m 57 57), (m 57 377), (m 57 57), (m 57 377), (m 57 4), (m 57 4)]
def F4L0b : XC :=
 .seq
  (.seq
   (.reg [⟨none, (some 27), .mov (.t 7)⟩,
     ⟨none, (some 28), .mov (.t 6)⟩,
     ⟨none, (some 29), .len (.t 28)⟩,
     ⟨none, (some 30), .bin .lss (.t 27) (.t 29)⟩])
   (.cond (.t 30)
    (.skip)
    (.exit 0 (m 68 80))))
  (.seq
   (.block 1 (m 68 208)
    (.reg [⟨none, (some 33), .mov (.t 6)⟩,
      ⟨none, (some 34), .mov (.t 7)⟩,
      ⟨none, (some 35), .indexA 1 (.t 33) (.t 34)⟩,
      ⟨none, none, .store 1 (.t 35) (.c (.int .i64 (-1)))⟩]))
   (.reg [⟨none, (some 31), .mov (.t 7)⟩,
     ⟨none, (some 32), .bin .add (.t 31) (.c (.int .i64 (1)))⟩,
     ⟨none, (some 7), .mov (.t 32)⟩]))
def F4L0 : XC := .loop (m 68 208) F4L0b
def F4L1b : XC :=
 .seq
  (.seq
   (.reg [⟨none, (some 38), .mov (.t 10)⟩,
     ⟨none, (some 39), .mov (.t 8)⟩,
     ⟨none, (some 40), .len (.t 39)⟩,
     ⟨none, (some 41), .bin .lss (.t 38) (.t 40)⟩])
   (.cond (.t 41)
    (.skip)
    (.exit 2 (m 68 528))))
  (.seq
   (.block 3 (m 68 1808)
    (.seq
     (.reg [⟨none, (some 45), .mov (.t 8)⟩,
       ⟨none, (some 46), .mov (.t 10)⟩,
       ⟨none, (some 47), .indexA 1 (.t 45) (.t 46)⟩,
       ⟨none, (some 48), .load none (.t 47)⟩,
       ⟨none, (some 49), .call 1 22 [.t 48]⟩,
       ⟨none, (some 44), .mov (.t 49)⟩,
       ⟨none, (some 50), .ext (.t 44) 0⟩,
       ⟨none, (some 51), .ext (.t 44) 1⟩,
       ⟨none, (some 11), .mov (.t 50)⟩,
       ⟨none, (some 12), .mov (.t 51)⟩])
     (.seq
      (.seq
       (.reg [⟨none, (some 52), .mov (.t 12)⟩,
         ⟨none, (some 53), .bin .neq (.t 52) (.c (.int .i64 (0)))⟩,
         ⟨none, (some 54), .mov (.t 53)⟩,
         ⟨(some (54, false)), (some 55), .mov (.t 11)⟩,
         ⟨(some (54, false)), (some 56), .bin .lss (.t 55) (.c (.int .i64 (1)))⟩,
         ⟨none, (some 57), .pick (.t 54) (.c (.bool true)) (.t 56)⟩])
       (.cond (.t 57)
        (.seq
         (.reg [⟨none, (some 2), .mov (.c (.bool false))⟩])
         (.ret (m 68 4)))
        (.skip)))
      (.reg [⟨none, (some 58), .mov (.t 9)⟩,
        ⟨none, (some 59), .mov (.t 11)⟩,
        ⟨none, (some 60), .bin .add (.t 58) (.t 59)⟩,
        ⟨none, (some 9), .mov (.t 60)⟩]))))
   (.reg [⟨none, (some 42), .mov (.t 10)⟩,
     ⟨none, (some 43), .bin .add (.t 42) (.c (.int .i64 (1)))⟩,
     ⟨none, (some 10), .mov (.t 43)⟩]))
def F4L1 : XC := .loop (m 68 1808) F4L1b
def F4T0 : XC :=
 .seq
  (.reg [⟨none, (some 61), .mov (.t 9)⟩,
    ⟨none, (some 62), .mov (.t 4)⟩,
    ⟨none, (some 63), .len (.t 62)⟩,
    ⟨none, (some 64), .bin .eql (.t 61) (.t 63)⟩,
    ⟨none, (some 65), .mov (.t 64)⟩,
    ⟨(some (65, true)), (some 66), .call 1 20 []⟩,
    ⟨none, (some 67), .pick (.t 65) (.t 66) (.c (.bool false))⟩,
    ⟨none, (some 2), .mov (.t 67)⟩])
  (.ret (m 68 4))
def F4T1 : XC :=
 .seq
  (.reg [⟨none, (some 36), .mov (.t 6)⟩,
    ⟨none, (some 37), .call 0 21 [.t 36, .c (.int .i64 (0)), .c (.nils)]⟩,
    ⟨none, (some 8), .mov (.t 37)⟩])
  (.seq
   (.reg [⟨none, (some 9), .mov (.c (.int .i64 (0)))⟩])
   (.seq
    (.seq
     (.reg [⟨none, (some 10), .mov (.c (.int .i64 (0)))⟩])
     (.block 2 (m 68 528)
      (F4L1)))
    F4T0))
def F4B : XC :=
 .seq
  (.reg [⟨none, (some 2), .mov (.c (.bool false))⟩])
  (.seq
   (.reg [⟨none, (some 13), .mov (.t 0)⟩,
     ⟨none, (some 14), .bin .rem (.t 13) (.c (.int .u8 (4)))⟩,
     ⟨none, (some 15), .conv .i64 (.t 14)⟩,
     ⟨none, (some 16), .bin .add (.c (.int .i64 (1))) (.t 15)⟩,
     ⟨none, (some 3), .mov (.t 16)⟩])
   (.seq
    (.reg [⟨none, (some 18), .mov (.t 3)⟩,
      ⟨none, (some 19), .call 2 18 [.t 18]⟩,
      ⟨none, (some 17), .mov (.t 19)⟩,
      ⟨none, (some 20), .ext (.t 17) 0⟩,
      ⟨none, (some 21), .ext (.t 17) 1⟩,
      ⟨none, (some 4), .mov (.t 20)⟩,
      ⟨none, (some 5), .mov (.t 21)⟩])
    (.seq
     (.seq
      (.reg [⟨none, (some 22), .mov (.t 5)⟩,
        ⟨none, (some 23), .bin .neq (.t 22) (.c (.int .i64 (0)))⟩])
      (.cond (.t 23)
       (.seq
        (.reg [⟨none, (some 2), .mov (.c (.bool false))⟩])
        (.ret (m 68 4)))
       (.skip)))
     (.seq
      (.reg [⟨none, (some 24), .mov (.t 3)⟩,
        ⟨none, (some 25), .bin .mul (.c (.int .i64 (2))) (.t 24)⟩,
        ⟨none, (some 26), .mks 1 8 [.int .i64 (0)] (.t 25) (.t 25)⟩,
        ⟨none, (some 6), .mov (.t 26)⟩])
      (.seq
       (.seq
        (.reg [⟨none, (some 7), .mov (.c (.int .i64 (0)))⟩])
        (.block 0 (m 68 80)
         (F4L0)))
       F4T1)))))
def F4 : XF := ⟨1, 68, [.tmp 2], F4B⟩
def M4 : List (List Bool) := [(m 68 4), (m 68 80), (m 68 208), (m 68 80), (m 68 208), (m 68 528), (m 68 1808), (m 68 528), (m 68 1808), (m 68 4), (m 68 4)]
def F5B : XC :=
 .seq
  (.reg [⟨none, (some 2), .mov (.c (.bool false))⟩])
  (.seq
   (.seq
    (.reg [⟨none, (some 12), .mov (.t 0)⟩,
      ⟨none, (some 13), .bslice 1 1 [.nils] [(0, 1, .t 12)]⟩,
      ⟨none, (some 14), .call 1 23 [.t 13]⟩,
      ⟨none, (some 15), .un .not (.t 14)⟩])
    (.cond (.t 15)
     (.seq
      (.reg [⟨none, (some 16), .call 1 20 []⟩,
        ⟨none, (some 2), .mov (.t 16)⟩])
      (.ret (m 95 4)))
     (.skip)))
   (.seq
    (.reg [⟨none, (some 17), .mov (.t 0)⟩,
      ⟨none, (some 18), .call 1 24 [.t 17]⟩,
      ⟨none, (some 3), .mov (.t 18)⟩])
    (.seq
     (.seq
      (.reg [⟨none, (some 19), .mov (.t 3)⟩,
        ⟨none, (some 20), .call 1 25 [.t 19]⟩,
        ⟨none, (some 21), .mov (.t 0)⟩,
        ⟨none, (some 22), .call 1 26 [.t 21]⟩,
        ⟨none, (some 23), .eqb true (.t 20) (.t 22)⟩])
      (.cond (.t 23)
       (.seq
        (.reg [⟨none, (some 2), .mov (.c (.bool false))⟩])
        (.ret (m 95 4)))
       (.skip)))
     (.seq
      (.reg [⟨none, (some 25), .mov (.t 3)⟩,
        ⟨none, (some 26), .call 1 27 [.t 25]⟩,
        ⟨none, (some 24), .mov (.t 26)⟩,
        ⟨none, (some 27), .ext (.t 24) 0⟩,
        ⟨none, (some 28), .ext (.t 24) 1⟩,
        ⟨none, (some 4), .mov (.t 27)⟩,
        ⟨none, (some 5), .mov (.t 28)⟩])
      (.seq
       (.reg [⟨none, (some 30), .mov (.t 0)⟩,
         ⟨none, (some 31), .call 1 28 [.t 30]⟩,
         ⟨none, (some 29), .mov (.t 31)⟩,
         ⟨none, (some 32), .ext (.t 29) 0⟩,
         ⟨none, (some 33), .ext (.t 29) 1⟩,
         ⟨none, (some 6), .mov (.t 32)⟩,
         ⟨none, (some 7), .mov (.t 33)⟩])
       (.seq
        (.seq
         (.reg [⟨none, (some 34), .mov (.t 4)⟩,
           ⟨none, (some 35), .mov (.t 6)⟩,
           ⟨none, (some 36), .call 1 19 [.t 34, .t 35]⟩,
           ⟨none, (some 37), .un .not (.t 36)⟩,
           ⟨none, (some 38), .mov (.t 37)⟩,
           ⟨(some (38, false)), (some 39), .mov (.t 5)⟩,
           ⟨(some (38, false)), (some 40), .mov (.t 7)⟩,
           ⟨(some (38, false)), (some 41), .bin .neq (.t 39) (.t 40)⟩,
           ⟨none, (some 42), .pick (.t 38) (.c (.bool true)) (.t 41)⟩])
         (.cond (.t 42)
          (.seq
           (.reg [⟨none, (some 2), .mov (.c (.bool false))⟩])
           (.ret (m 95 4)))
          (.skip)))
        (.seq
         (.reg [⟨none, (some 44), .mov (.t 3)⟩,
           ⟨none, (some 45), .call 1 29 [.t 44]⟩,
           ⟨none, (some 43), .mov (.t 45)⟩,
           ⟨none, (some 46), .ext (.t 43) 0⟩,
           ⟨none, (some 47), .ext (.t 43) 1⟩,
           ⟨none, (some 4), .mov (.t 46)⟩,
           ⟨none, (some 5), .mov (.t 47)⟩])
         (.seq
          (.reg [⟨none, (some 49), .mov (.t 0)⟩,
            ⟨none, (some 50), .call 1 30 [.t 49]⟩,
            ⟨none, (some 48), .mov (.t 50)⟩,
            ⟨none, (some 51), .ext (.t 48) 0⟩,
            ⟨none, (some 52), .ext (.t 48) 1⟩,
            ⟨none, (some 6), .mov (.t 51)⟩,
            ⟨none, (some 7), .mov (.t 52)⟩])
          (.seq
           (.seq
            (.reg [⟨none, (some 53), .mov (.t 4)⟩,
              ⟨none, (some 54), .mov (.t 6)⟩,
              ⟨none, (some 55), .call 1 19 [.t 53, .t 54]⟩,
              ⟨none, (some 56), .un .not (.t 55)⟩,
              ⟨none, (some 57), .mov (.t 56)⟩,
              ⟨(some (57, false)), (some 58), .mov (.t 5)⟩,
              ⟨(some (57, false)), (some 59), .mov (.t 7)⟩,
              ⟨(some (57, false)), (some 60), .bin .neq (.t 58) (.t 59)⟩,
              ⟨none, (some 61), .pick (.t 57) (.c (.bool true)) (.t 60)⟩])
            (.cond (.t 61)
             (.seq
              (.reg [⟨none, (some 2), .mov (.c (.bool false))⟩])
              (.ret (m 95 4)))
             (.skip)))
           (.seq
            (.reg [⟨none, (some 63), .mov (.t 3)⟩,
              ⟨none, (some 64), .call 1 31 [.t 63]⟩,
              ⟨none, (some 62), .mov (.t 64)⟩,
              ⟨none, (some 65), .ext (.t 62) 0⟩,
              ⟨none, (some 66), .ext (.t 62) 1⟩,
              ⟨none, (some 67), .ext (.t 62) 2⟩,
              ⟨none, (some 8), .mov (.t 65)⟩,
              ⟨none, (some 9), .mov (.t 66)⟩,
              ⟨none, (some 5), .mov (.t 67)⟩])
            (.seq
             (.reg [⟨none, (some 69), .mov (.t 0)⟩,
               ⟨none, (some 70), .call 1 32 [.t 69]⟩,
               ⟨none, (some 68), .mov (.t 70)⟩,
               ⟨none, (some 71), .ext (.t 68) 0⟩,
               ⟨none, (some 72), .ext (.t 68) 1⟩,
               ⟨none, (some 73), .ext (.t 68) 2⟩,
               ⟨none, (some 10), .mov (.t 71)⟩,
               ⟨none, (some 11), .mov (.t 72)⟩,
               ⟨none, (some 7), .mov (.t 73)⟩])
             (.seq
              (.reg [⟨none, (some 74), .mov (.t 8)⟩,
                ⟨none, (some 75), .mov (.t 10)⟩,
                ⟨none, (some 76), .bin .eql (.t 74) (.t 75)⟩,
                ⟨none, (some 77), .mov (.t 76)⟩,
                ⟨(some (77, true)), (some 78), .mov (.t 9)⟩,
                ⟨(some (77, true)), (some 79), .mov (.t 11)⟩,
                ⟨(some (77, true)), (some 80), .bin .eql (.t 78) (.t 79)⟩,
                ⟨none, (some 81), .pick (.t 77) (.t 80) (.c (.bool false))⟩,
                ⟨none, (some 82), .mov (.t 81)⟩,
                ⟨(some (82, true)), (some 83), .mov (.t 5)⟩,
                ⟨(some (82, true)), (some 84), .mov (.t 7)⟩,
                ⟨(some (82, true)), (some 85), .bin .eql (.t 83) (.t 84)⟩,
                ⟨none, (some 86), .pick (.t 82) (.t 85) (.c (.bool false))⟩,
                ⟨none, (some 87), .mov (.t 86)⟩,
                ⟨(some (87, true)), (some 88), .mov (.t 3)⟩,
                ⟨(some (87, true)), (some 89), .mov (.t 0)⟩,
                ⟨(some (87, true)), (some 90), .call 1 19 [.t 88, .t 89]⟩,
                ⟨none, (some 91), .pick (.t 87) (.t 90) (.c (.bool false))⟩,
                ⟨none, (some 92), .mov (.t 91)⟩,
                ⟨(some (92, true)), (some 93), .call 1 20 []⟩,
                ⟨none, (some 94), .pick (.t 92) (.t 93) (.c (.bool false))⟩,
                ⟨none, (some 2), .mov (.t 94)⟩])
              (.ret (m 95 4))))))))))))))
def F5 : XF := ⟨1, 95, [.tmp 2], F5B⟩
def M5 : List (List Bool) := [(m 95 4), (m 95 4), (m 95 4), (m 95 4), (m 95 4)]
def F6L0b : XC :=
 .seq
  (.seq
   (.reg [⟨none, (some 27), .mov (.t 6)⟩,
     ⟨none, (some 28), .mov (.t 4)⟩,
     ⟨none, (some 29), .len (.t 28)⟩,
     ⟨none, (some 30), .bin .lss (.t 27) (.t 29)⟩])
   (.cond (.t 30)
    (.skip)
    (.exit 0 (m 65 0))))
  (.seq
   (.block 1 (m 65 80)
    (.seq
     (.reg [⟨none, (some 33), .mov (.t 4)⟩,
       ⟨none, (some 34), .mov (.t 6)⟩,
       ⟨none, (some 35), .indexA 1 (.t 33) (.t 34)⟩,
       ⟨none, (some 36), .load none (.t 35)⟩,
       ⟨none, (some 37), .call 1 25 [.t 36]⟩,
       ⟨none, (some 38), .un .not (.t 37)⟩,
       ⟨none, (some 39), .mov (.t 38)⟩,
       ⟨(some (39, false)), (some 40), .mov (.t 4)⟩,
       ⟨(some (39, false)), (some 41), .mov (.t 6)⟩,
       ⟨(some (39, false)), (some 42), .indexA 1 (.t 40) (.t 41)⟩,
       ⟨(some (39, false)), (some 43), .load none (.t 42)⟩,
       ⟨(some (39, false)), (some 44), .call 1 26 [.t 43]⟩,
       ⟨(some (39, false)), (some 45), .un .not (.t 44)⟩,
       ⟨none, (some 46), .pick (.t 39) (.c (.bool true)) (.t 45)⟩,
       ⟨none, (some 47), .mov (.t 46)⟩,
       ⟨(some (47, false)), (some 48), .mov (.t 6)⟩,
       ⟨(some (47, false)), (some 49), .bin .gtr (.t 48) (.c (.int .i64 (0)))⟩,
       ⟨(some (47, false)), (some 50), .mov (.t 49)⟩,
       ⟨(some (50, true)), (some 51), .mov (.t 4)⟩,
       ⟨(some (50, true)), (some 52), .mov (.t 6)⟩,
       ⟨(some (50, true)), (some 53), .bin .sub (.t 52) (.c (.int .i64 (1)))⟩,
       ⟨(some (50, true)), (some 54), .indexA 1 (.t 51) (.t 53)⟩,
       ⟨(some (50, true)), (some 55), .load none (.t 54)⟩,
       ⟨(some (50, true)), (some 56), .mov (.t 4)⟩,
       ⟨(some (50, true)), (some 57), .mov (.t 6)⟩,
       ⟨(some (50, true)), (some 58), .indexA 1 (.t 56) (.t 57)⟩,
       ⟨(some (50, true)), (some 59), .load none (.t 58)⟩,
       ⟨(some (50, true)), (some 60), .call 1 33 [.t 55, .t 59]⟩,
       ⟨(some (50, true)), (some 61), .un .not (.t 60)⟩,
       ⟨(some (47, false)), (some 62), .pick (.t 50) (.t 61) (.c (.bool false))⟩,
       ⟨none, (some 63), .pick (.t 47) (.c (.bool true)) (.t 62)⟩])
     (.cond (.t 63)
      (.seq
       (.reg [⟨none, (some 2), .mov (.c (.bool false))⟩])
       (.ret (m 65 4)))
      (.skip))))
   (.reg [⟨none, (some 31), .mov (.t 6)⟩,
     ⟨none, (some 32), .bin .add (.t 31) (.c (.int .i64 (1)))⟩,
     ⟨none, (some 6), .mov (.t 32)⟩]))
def F6L0 : XC := .loop (m 65 80) F6L0b
def F6T0 : XC :=
 .seq
  (.reg [⟨none, (some 64), .call 1 20 []⟩,
    ⟨none, (some 2), .mov (.t 64)⟩])
  (.ret (m 65 4))
def F6B : XC :=
 .seq
  (.reg [⟨none, (some 2), .mov (.c (.bool false))⟩])
  (.seq
   (.reg [⟨none, (some 7), .mov (.t 0)⟩,
     ⟨none, (some 8), .bin .rem (.t 7) (.c (.int .u8 (5)))⟩,
     ⟨none, (some 9), .conv .i64 (.t 8)⟩,
     ⟨none, (some 10), .bin .add (.c (.int .i64 (1))) (.t 9)⟩,
     ⟨none, (some 3), .mov (.t 10)⟩])
   (.seq
    (.reg [⟨none, (some 12), .mov (.t 3)⟩,
      ⟨none, (some 13), .call 2 18 [.t 12]⟩,
      ⟨none, (some 11), .mov (.t 13)⟩,
      ⟨none, (some 14), .ext (.t 11) 0⟩,
      ⟨none, (some 15), .ext (.t 11) 1⟩,
      ⟨none, (some 4), .mov (.t 14)⟩,
      ⟨none, (some 5), .mov (.t 15)⟩])
    (.seq
     (.seq
      (.reg [⟨none, (some 16), .mov (.t 5)⟩,
        ⟨none, (some 17), .bin .neq (.t 16) (.c (.int .i64 (0)))⟩,
        ⟨none, (some 18), .mov (.t 17)⟩,
        ⟨(some (18, false)), (some 19), .mov (.t 4)⟩,
        ⟨(some (18, false)), (some 20), .len (.t 19)⟩,
        ⟨(some (18, false)), (some 21), .bslice 1 6 [.int .i64 (0)] [(0, 1, .c (.int .i64 (0))), (1, 1, .c (.int .i64 (1))), (2, 1, .c (.int .i64 (2))), (3, 1, .c (.int .i64 (7))), (4, 1, .c (.int .i64 (42))), (5, 1, .c (.int .i64 (429)))]⟩,
        ⟨(some (18, false)), (some 22), .mov (.t 3)⟩,
        ⟨(some (18, false)), (some 23), .indexA 1 (.t 21) (.t 22)⟩,
        ⟨(some (18, false)), (some 24), .load none (.t 23)⟩,
        ⟨(some (18, false)), (some 25), .bin .neq (.t 20) (.t 24)⟩,
        ⟨none, (some 26), .pick (.t 18) (.c (.bool true)) (.t 25)⟩])
      (.cond (.t 26)
       (.seq
        (.reg [⟨none, (some 2), .mov (.c (.bool false))⟩])
        (.ret (m 65 4)))
       (.skip)))
     (.seq
      (.seq
       (.reg [⟨none, (some 6), .mov (.c (.int .i64 (0)))⟩])
       (.block 0 (m 65 0)
        (F6L0)))
      F6T0))))
def F6 : XF := ⟨1, 65, [.tmp 2], F6B⟩
def M6 : List (List Bool) := [(m 65 4), (m 65 0), (m 65 80), (m 65 0), (m 65 80), (m 65 4), (m 65 4)]
def F7B : XC :=
 .seq
  (.reg [⟨none, (some 4), .mov (.c (.bool false))⟩])
  (.seq
   (.seq
    (.reg [⟨none, (some 11), .mov (.t 0)⟩,
      ⟨none, (some 12), .bslice 1 1 [.nils] [(0, 1, .t 11)]⟩,
      ⟨none, (some 13), .call 1 23 [.t 12]⟩,
      ⟨none, (some 14), .un .not (.t 13)⟩,
      ⟨none, (some 15), .mov (.t 14)⟩,
      ⟨(some (15, false)), (some 16), .mov (.t 1)⟩,
      ⟨(some (15, false)), (some 17), .len (.t 16)⟩,
      ⟨(some (15, false)), (some 18), .bin .gtr (.t 17) (.c (.int .i64 (40)))⟩,
      ⟨none, (some 19), .pick (.t 15) (.c (.bool true)) (.t 18)⟩])
    (.cond (.t 19)
     (.seq
      (.reg [⟨none, (some 20), .call 1 20 []⟩,
        ⟨none, (some 4), .mov (.t 20)⟩])
      (.ret (m 61 16)))
     (.skip)))
   (.seq
    (.reg [⟨none, (some 22), .mov (.t 0)⟩,
      ⟨none, (some 23), .call 1 34 [.t 22]⟩,
      ⟨none, (some 21), .mov (.t 23)⟩,
      ⟨none, (some 24), .ext (.t 21) 0⟩,
      ⟨none, (some 25), .ext (.t 21) 1⟩,
      ⟨none, (some 5), .mov (.t 24)⟩,
      ⟨none, (some 6), .mov (.t 25)⟩])
    (.seq
     (.reg [⟨none, (some 27), .mov (.t 0)⟩,
       ⟨none, (some 28), .call 1 35 [.t 27]⟩,
       ⟨none, (some 26), .mov (.t 28)⟩,
       ⟨none, (some 29), .ext (.t 26) 0⟩,
       ⟨none, (some 30), .ext (.t 26) 1⟩,
       ⟨none, (some 7), .mov (.t 29)⟩,
       ⟨none, (some 8), .mov (.t 30)⟩])
     (.seq
      (.seq
       (.reg [⟨none, (some 31), .mov (.t 5)⟩,
         ⟨none, (some 32), .mov (.t 7)⟩,
         ⟨none, (some 33), .call 1 36 [.t 31, .t 32]⟩,
         ⟨none, (some 34), .un .not (.t 33)⟩,
         ⟨none, (some 35), .mov (.t 34)⟩,
         ⟨(some (35, false)), (some 36), .mov (.t 6)⟩,
         ⟨(some (35, false)), (some 37), .mov (.t 8)⟩,
         ⟨(some (35, false)), (some 38), .bin .neq (.t 36) (.t 37)⟩,
         ⟨none, (some 39), .pick (.t 35) (.c (.bool true)) (.t 38)⟩])
       (.cond (.t 39)
        (.seq
         (.reg [⟨none, (some 4), .mov (.c (.bool false))⟩])
         (.ret (m 61 16)))
        (.skip)))
      (.seq
       (.reg [⟨none, (some 41), .mov (.t 1)⟩,
         ⟨none, (some 42), .call 1 22 [.t 41]⟩,
         ⟨none, (some 40), .mov (.t 42)⟩,
         ⟨none, (some 43), .ext (.t 40) 0⟩,
         ⟨none, (some 44), .ext (.t 40) 1⟩,
         ⟨none, (some 9), .mov (.t 43)⟩,
         ⟨none, (some 6), .mov (.t 44)⟩])
       (.seq
        (.reg [⟨none, (some 46), .mov (.t 1)⟩,
          ⟨none, (some 47), .call 1 37 [.t 46]⟩,
          ⟨none, (some 45), .mov (.t 47)⟩,
          ⟨none, (some 48), .ext (.t 45) 0⟩,
          ⟨none, (some 49), .ext (.t 45) 1⟩,
          ⟨none, (some 10), .mov (.t 48)⟩,
          ⟨none, (some 8), .mov (.t 49)⟩])
        (.seq
         (.reg [⟨none, (some 50), .mov (.t 9)⟩,
           ⟨none, (some 51), .mov (.t 10)⟩,
           ⟨none, (some 52), .bin .eql (.t 50) (.t 51)⟩,
           ⟨none, (some 53), .mov (.t 52)⟩,
           ⟨(some (53, true)), (some 54), .mov (.t 6)⟩,
           ⟨(some (53, true)), (some 55), .mov (.t 8)⟩,
           ⟨(some (53, true)), (some 56), .bin .eql (.t 54) (.t 55)⟩,
           ⟨none, (some 57), .pick (.t 53) (.t 56) (.c (.bool false))⟩,
           ⟨none, (some 58), .mov (.t 57)⟩,
           ⟨(some (58, true)), (some 59), .call 1 20 []⟩,
           ⟨none, (some 60), .pick (.t 58) (.t 59) (.c (.bool false))⟩,
           ⟨none, (some 4), .mov (.t 60)⟩])
         (.ret (m 61 16)))))))))
def F7 : XF := ⟨2, 61, [.tmp 4], F7B⟩
def M7 : List (List Bool) := [(m 61 16), (m 61 16), (m 61 16)]
def F8B : XC :=
 .seq
  (.reg [⟨none, (some 4), .mov (.c (.bool false))⟩])
  (.seq
   (.seq
    (.reg [⟨none, (some 10), .mov (.t 0)⟩,
      ⟨none, (some 11), .bslice 1 1 [.nils] [(0, 1, .t 10)]⟩,
      ⟨none, (some 12), .call 1 23 [.t 11]⟩,
      ⟨none, (some 13), .un .not (.t 12)⟩,
      ⟨none, (some 14), .mov (.t 13)⟩,
      ⟨(some (14, false)), (some 15), .mov (.t 1)⟩,
      ⟨(some (14, false)), (some 16), .len (.t 15)⟩,
      ⟨(some (14, false)), (some 17), .bin .gtr (.t 16) (.c (.int .i64 (40)))⟩,
      ⟨none, (some 18), .pick (.t 14) (.c (.bool true)) (.t 17)⟩])
    (.cond (.t 18)
     (.seq
      (.reg [⟨none, (some 19), .call 1 20 []⟩,
        ⟨none, (some 4), .mov (.t 19)⟩])
      (.ret (m 82 16)))
     (.skip)))
   (.seq
    (.seq
     (.reg [⟨none, (some 20), .mov (.t 0)⟩,
       ⟨none, (some 21), .call 1 26 [.t 20]⟩])
     (.cond (.t 21)
      (.seq
       (.reg [⟨none, (some 23), .mov (.t 0)⟩,
         ⟨none, (some 24), .call 1 34 [.t 23]⟩,
         ⟨none, (some 22), .mov (.t 24)⟩,
         ⟨none, (some 25), .ext (.t 22) 0⟩,
         ⟨none, (some 26), .ext (.t 22) 1⟩,
         ⟨none, (some 5), .mov (.t 25)⟩,
         ⟨none, (some 6), .mov (.t 26)⟩])
       (.seq
        (.seq
         (.reg [⟨none, (some 27), .mov (.t 6)⟩,
           ⟨none, (some 28), .bin .neq (.t 27) (.c (.int .i64 (0)))⟩,
           ⟨none, (some 29), .mov (.t 28)⟩,
           ⟨(some (29, false)), (some 30), .mov (.t 5)⟩,
           ⟨(some (29, false)), (some 31), .len (.t 30)⟩,
           ⟨(some (29, false)), (some 32), .mov (.t 0)⟩,
           ⟨(some (29, false)), (some 33), .len (.t 32)⟩,
           ⟨(some (29, false)), (some 34), .bin .mul (.c (.int .i64 (2))) (.t 33)⟩,
           ⟨(some (29, false)), (some 35), .bin .neq (.t 31) (.t 34)⟩,
           ⟨none, (some 36), .pick (.t 29) (.c (.bool true)) (.t 35)⟩,
           ⟨none, (some 37), .mov (.t 36)⟩,
           ⟨(some (37, false)), (some 38), .mov (.t 5)⟩,
           ⟨(some (37, false)), (some 39), .call 1 38 [.t 38]⟩,
           ⟨(some (37, false)), (some 40), .un .not (.t 39)⟩,
           ⟨none, (some 41), .pick (.t 37) (.c (.bool true)) (.t 40)⟩,
           ⟨none, (some 42), .mov (.t 41)⟩,
           ⟨(some (42, false)), (some 43), .mov (.t 5)⟩,
           ⟨(some (42, false)), (some 44), .call 1 39 [.t 43]⟩,
           ⟨none, (some 45), .pick (.t 42) (.c (.bool true)) (.t 44)⟩])
         (.cond (.t 45)
          (.seq
           (.reg [⟨none, (some 4), .mov (.c (.bool false))⟩])
           (.ret (m 82 16)))
          (.skip)))
        (.seq
         (.reg [⟨none, (some 47), .mov (.t 5)⟩,
           ⟨none, (some 48), .call 1 22 [.t 47]⟩,
           ⟨none, (some 46), .mov (.t 48)⟩,
           ⟨none, (some 49), .ext (.t 46) 0⟩,
           ⟨none, (some 50), .ext (.t 46) 1⟩,
           ⟨none, (some 7), .mov (.t 49)⟩,
           ⟨none, (some 6), .mov (.t 50)⟩])
         (.seq
          (.reg [⟨none, (some 51), .mov (.t 6)⟩,
            ⟨none, (some 52), .bin .neq (.t 51) (.c (.int .i64 (0)))⟩,
            ⟨none, (some 53), .mov (.t 52)⟩,
            ⟨(some (53, false)), (some 54), .mov (.t 7)⟩,
            ⟨(some (53, false)), (some 55), .bin .lss (.t 54) (.c (.int .i64 (1)))⟩,
            ⟨none, (some 56), .pick (.t 53) (.c (.bool true)) (.t 55)⟩])
          (.cond (.t 56)
           (.seq
            (.reg [⟨none, (some 4), .mov (.c (.bool false))⟩])
            (.ret (m 82 16)))
           (.skip))))))
      (.skip)))
    (.seq
     (.seq
      (.reg [⟨none, (some 57), .mov (.t 1)⟩,
        ⟨none, (some 58), .call 1 38 [.t 57]⟩,
        ⟨none, (some 59), .un .not (.t 58)⟩])
      (.cond (.t 59)
       (.seq
        (.reg [⟨none, (some 60), .call 1 20 []⟩,
          ⟨none, (some 4), .mov (.t 60)⟩])
        (.ret (m 82 16)))
       (.skip)))
     (.seq
      (.reg [⟨none, (some 62), .mov (.t 1)⟩,
        ⟨none, (some 63), .call 1 22 [.t 62]⟩,
        ⟨none, (some 61), .mov (.t 63)⟩,
        ⟨none, (some 64), .ext (.t 61) 0⟩,
        ⟨none, (some 65), .ext (.t 61) 1⟩,
        ⟨none, (some 8), .mov (.t 64)⟩,
        ⟨none, (some 9), .mov (.t 65)⟩])
      (.seq
       (.reg [⟨none, (some 66), .mov (.t 9)⟩,
         ⟨none, (some 67), .bin .eql (.t 66) (.c (.int .i64 (0)))⟩,
         ⟨none, (some 68), .mov (.t 67)⟩,
         ⟨(some (68, true)), (some 69), .mov (.t 8)⟩,
         ⟨(some (68, true)), (some 70), .bin .eql (.t 69) (.c (.int .i64 (0)))⟩,
         ⟨(some (68, true)), (some 71), .mov (.t 1)⟩,
         ⟨(some (68, true)), (some 72), .call 1 39 [.t 71]⟩,
         ⟨(some (68, true)), (some 73), .eqb false (.t 70) (.t 72)⟩,
         ⟨none, (some 74), .pick (.t 68) (.t 73) (.c (.bool false))⟩,
         ⟨none, (some 75), .mov (.t 74)⟩,
         ⟨(some (75, true)), (some 76), .mov (.t 8)⟩,
         ⟨(some (75, true)), (some 77), .bin .geq (.t 76) (.c (.int .i64 (0)))⟩,
         ⟨none, (some 78), .pick (.t 75) (.t 77) (.c (.bool false))⟩,
         ⟨none, (some 79), .mov (.t 78)⟩,
         ⟨(some (79, true)), (some 80), .call 1 20 []⟩,
         ⟨none, (some 81), .pick (.t 79) (.t 80) (.c (.bool false))⟩,
         ⟨none, (some 4), .mov (.t 81)⟩])
       (.ret (m 82 16)))))))
def F8 : XF := ⟨2, 82, [.tmp 4], F8B⟩
def M8 : List (List Bool) := [(m 82 16), (m 82 16), (m 82 16), (m 82 16), (m 82 16)]
def F9B : XC :=
 .seq
  (.reg [⟨none, (some 4), .mov (.c (.bool false))⟩])
  (.seq
   (.seq
    (.reg [⟨none, (some 13), .mov (.t 0)⟩,
      ⟨none, (some 14), .mov (.t 1)⟩,
      ⟨none, (some 15), .bslice 1 2 [.nils] [(0, 1, .t 13), (1, 1, .t 14)]⟩,
      ⟨none, (some 16), .call 1 23 [.t 15]⟩,
      ⟨none, (some 17), .un .not (.t 16)⟩])
    (.cond (.t 17)
     (.seq
      (.reg [⟨none, (some 18), .call 1 20 []⟩,
        ⟨none, (some 4), .mov (.t 18)⟩])
      (.ret (m 63 16)))
     (.skip)))
   (.seq
    (.reg [⟨none, (some 19), .mov (.t 0)⟩,
      ⟨none, (some 20), .call 1 24 [.t 19]⟩,
      ⟨none, (some 21), .mov (.t 1)⟩,
      ⟨none, (some 22), .call 1 24 [.t 21]⟩,
      ⟨none, (some 5), .mov (.t 20)⟩,
      ⟨none, (some 6), .mov (.t 22)⟩])
    (.seq
     (.reg [⟨none, (some 24), .mov (.t 5)⟩,
       ⟨none, (some 25), .mov (.t 6)⟩,
       ⟨none, (some 26), .call 1 40 [.t 24, .t 25]⟩,
       ⟨none, (some 23), .mov (.t 26)⟩,
       ⟨none, (some 27), .ext (.t 23) 0⟩,
       ⟨none, (some 28), .ext (.t 23) 1⟩,
       ⟨none, (some 29), .ext (.t 23) 2⟩,
       ⟨none, (some 7), .mov (.t 27)⟩,
       ⟨none, (some 8), .mov (.t 28)⟩,
       ⟨none, (some 9), .mov (.t 29)⟩])
     (.seq
      (.reg [⟨none, (some 31), .mov (.t 0)⟩,
        ⟨none, (some 32), .mov (.t 1)⟩,
        ⟨none, (some 33), .call 1 41 [.t 31, .t 32]⟩,
        ⟨none, (some 30), .mov (.t 33)⟩,
        ⟨none, (some 34), .ext (.t 30) 0⟩,
        ⟨none, (some 35), .ext (.t 30) 1⟩,
        ⟨none, (some 36), .ext (.t 30) 2⟩,
        ⟨none, (some 10), .mov (.t 34)⟩,
        ⟨none, (some 11), .mov (.t 35)⟩,
        ⟨none, (some 12), .mov (.t 36)⟩])
      (.seq
       (.reg [⟨none, (some 37), .mov (.t 7)⟩,
         ⟨none, (some 38), .mov (.t 10)⟩,
         ⟨none, (some 39), .call 1 19 [.t 37, .t 38]⟩,
         ⟨none, (some 40), .mov (.t 39)⟩,
         ⟨(some (40, true)), (some 41), .mov (.t 8)⟩,
         ⟨(some (40, true)), (some 42), .mov (.t 11)⟩,
         ⟨(some (40, true)), (some 43), .call 1 19 [.t 41, .t 42]⟩,
         ⟨none, (some 44), .pick (.t 40) (.t 43) (.c (.bool false))⟩,
         ⟨none, (some 45), .mov (.t 44)⟩,
         ⟨(some (45, true)), (some 46), .mov (.t 9)⟩,
         ⟨(some (45, true)), (some 47), .mov (.t 12)⟩,
         ⟨(some (45, true)), (some 48), .bin .eql (.t 46) (.t 47)⟩,
         ⟨none, (some 49), .pick (.t 45) (.t 48) (.c (.bool false))⟩,
         ⟨none, (some 50), .mov (.t 49)⟩,
         ⟨(some (50, true)), (some 51), .mov (.t 5)⟩,
         ⟨(some (50, true)), (some 52), .mov (.t 0)⟩,
         ⟨(some (50, true)), (some 53), .call 1 19 [.t 51, .t 52]⟩,
         ⟨none, (some 54), .pick (.t 50) (.t 53) (.c (.bool false))⟩,
         ⟨none, (some 55), .mov (.t 54)⟩,
         ⟨(some (55, true)), (some 56), .mov (.t 6)⟩,
         ⟨(some (55, true)), (some 57), .mov (.t 1)⟩,
         ⟨(some (55, true)), (some 58), .call 1 19 [.t 56, .t 57]⟩,
         ⟨none, (some 59), .pick (.t 55) (.t 58) (.c (.bool false))⟩,
         ⟨none, (some 60), .mov (.t 59)⟩,
         ⟨(some (60, true)), (some 61), .call 1 20 []⟩,
         ⟨none, (some 62), .pick (.t 60) (.t 61) (.c (.bool false))⟩,
         ⟨none, (some 4), .mov (.t 62)⟩])
       (.ret (m 63 16)))))))
def F9 : XF := ⟨2, 63, [.tmp 4], F9B⟩
def M9 : List (List Bool) := [(m 63 16), (m 63 16)]
def F10B : XC :=
 .seq
  (.reg [⟨none, (some 4), .mov (.c (.bool false))⟩])
  (.seq
   (.seq
    (.reg [⟨none, (some 15), .mov (.t 0)⟩,
      ⟨none, (some 16), .mov (.t 1)⟩,
      ⟨none, (some 17), .bslice 1 2 [.nils] [(0, 1, .t 15), (1, 1, .t 16)]⟩,
      ⟨none, (some 18), .call 1 23 [.t 17]⟩,
      ⟨none, (some 19), .un .not (.t 18)⟩,
      ⟨none, (some 20), .mov (.t 19)⟩,
      ⟨(some (20, false)), (some 21), .mov (.t 0)⟩,
      ⟨(some (20, false)), (some 22), .call 1 26 [.t 21]⟩,
      ⟨(some (20, false)), (some 23), .un .not (.t 22)⟩,
      ⟨none, (some 24), .pick (.t 20) (.c (.bool true)) (.t 23)⟩,
      ⟨none, (some 25), .mov (.t 24)⟩,
      ⟨(some (25, false)), (some 26), .mov (.t 1)⟩,
      ⟨(some (25, false)), (some 27), .call 1 26 [.t 26]⟩,
      ⟨(some (25, false)), (some 28), .un .not (.t 27)⟩,
      ⟨none, (some 29), .pick (.t 25) (.c (.bool true)) (.t 28)⟩])
    (.cond (.t 29)
     (.seq
      (.reg [⟨none, (some 30), .call 1 20 []⟩,
        ⟨none, (some 4), .mov (.t 30)⟩])
      (.ret (m 126 16)))
     (.skip)))
   (.seq
    (.reg [⟨none, (some 32), .mov (.t 0)⟩,
      ⟨none, (some 33), .mov (.t 1)⟩,
      ⟨none, (some 34), .call 1 40 [.t 32, .t 33]⟩,
      ⟨none, (some 31), .mov (.t 34)⟩,
      ⟨none, (some 35), .ext (.t 31) 0⟩,
      ⟨none, (some 36), .ext (.t 31) 1⟩,
      ⟨none, (some 37), .ext (.t 31) 2⟩,
      ⟨none, (some 5), .mov (.t 35)⟩,
      ⟨none, (some 6), .mov (.t 36)⟩,
      ⟨none, (some 7), .mov (.t 37)⟩])
    (.seq
     (.seq
      (.reg [⟨none, (some 38), .mov (.t 0)⟩,
        ⟨none, (some 39), .len (.t 38)⟩,
        ⟨none, (some 40), .mov (.t 1)⟩,
        ⟨none, (some 41), .len (.t 40)⟩,
        ⟨none, (some 42), .bin .neq (.t 39) (.t 41)⟩])
      (.cond (.t 42)
       (.seq
        (.reg [⟨none, (some 43), .mov (.t 7)⟩,
          ⟨none, (some 44), .bin .eql (.t 43) (.c (.int .i64 (2)))⟩,
          ⟨none, (some 45), .mov (.t 44)⟩,
          ⟨(some (45, true)), (some 46), .call 1 20 []⟩,
          ⟨none, (some 47), .pick (.t 45) (.t 46) (.c (.bool false))⟩,
          ⟨none, (some 4), .mov (.t 47)⟩])
        (.ret (m 126 16)))
       (.skip)))
     (.seq
      (.reg [⟨none, (some 49), .mov (.t 1)⟩,
        ⟨none, (some 50), .mov (.t 0)⟩,
        ⟨none, (some 51), .call 1 40 [.t 49, .t 50]⟩,
        ⟨none, (some 48), .mov (.t 51)⟩,
        ⟨none, (some 52), .ext (.t 48) 0⟩,
        ⟨none, (some 53), .ext (.t 48) 1⟩,
        ⟨none, (some 54), .ext (.t 48) 2⟩,
        ⟨none, (some 8), .mov (.t 52)⟩,
        ⟨none, (some 9), .mov (.t 53)⟩,
        ⟨none, (some 10), .mov (.t 54)⟩])
      (.seq
       (.seq
        (.reg [⟨none, (some 55), .mov (.t 7)⟩,
          ⟨none, (some 56), .bin .neq (.t 55) (.c (.int .i64 (0)))⟩,
          ⟨none, (some 57), .mov (.t 56)⟩,
          ⟨(some (57, false)), (some 58), .mov (.t 10)⟩,
          ⟨(some (57, false)), (some 59), .bin .neq (.t 58) (.c (.int .i64 (0)))⟩,
          ⟨none, (some 60), .pick (.t 57) (.c (.bool true)) (.t 59)⟩,
          ⟨none, (some 61), .mov (.t 60)⟩,
          ⟨(some (61, false)), (some 62), .mov (.t 5)⟩,
          ⟨(some (61, false)), (some 63), .call 1 26 [.t 62]⟩,
          ⟨(some (61, false)), (some 64), .un .not (.t 63)⟩,
          ⟨none, (some 65), .pick (.t 61) (.c (.bool true)) (.t 64)⟩,
          ⟨none, (some 66), .mov (.t 65)⟩,
          ⟨(some (66, false)), (some 67), .mov (.t 6)⟩,
          ⟨(some (66, false)), (some 68), .call 1 26 [.t 67]⟩,
          ⟨(some (66, false)), (some 69), .un .not (.t 68)⟩,
          ⟨none, (some 70), .pick (.t 66) (.c (.bool true)) (.t 69)⟩,
          ⟨none, (some 71), .mov (.t 70)⟩,
          ⟨(some (71, false)), (some 72), .mov (.t 5)⟩,
          ⟨(some (71, false)), (some 73), .mov (.t 8)⟩,
          ⟨(some (71, false)), (some 74), .call 1 19 [.t 72, .t 73]⟩,
          ⟨(some (71, false)), (some 75), .un .not (.t 74)⟩,
          ⟨none, (some 76), .pick (.t 71) (.c (.bool true)) (.t 75)⟩,
          ⟨none, (some 77), .mov (.t 76)⟩,
          ⟨(some (77, false)), (some 78), .mov (.t 6)⟩,
          ⟨(some (77, false)), (some 79), .mov (.t 9)⟩,
          ⟨(some (77, false)), (some 80), .call 1 19 [.t 78, .t 79]⟩,
          ⟨(some (77, false)), (some 81), .un .not (.t 80)⟩,
          ⟨none, (some 82), .pick (.t 77) (.c (.bool true)) (.t 81)⟩])
        (.cond (.t 82)
         (.seq
          (.reg [⟨none, (some 4), .mov (.c (.bool false))⟩])
          (.ret (m 126 16)))
         (.skip)))
       (.seq
        (.reg [⟨none, (some 84), .mov (.t 5)⟩,
          ⟨none, (some 85), .mov (.t 6)⟩,
          ⟨none, (some 86), .call 1 40 [.t 84, .t 85]⟩,
          ⟨none, (some 83), .mov (.t 86)⟩,
          ⟨none, (some 87), .ext (.t 83) 0⟩,
          ⟨none, (some 88), .ext (.t 83) 1⟩,
          ⟨none, (some 89), .ext (.t 83) 2⟩,
          ⟨none, (some 11), .mov (.t 87)⟩,
          ⟨none, (some 12), .mov (.t 88)⟩,
          ⟨none, (some 7), .mov (.t 89)⟩])
        (.seq
         (.reg [⟨none, (some 91), .mov (.t 0)⟩,
           ⟨none, (some 92), .mov (.t 0)⟩,
           ⟨none, (some 93), .call 1 40 [.t 91, .t 92]⟩,
           ⟨none, (some 90), .mov (.t 93)⟩,
           ⟨none, (some 94), .ext (.t 90) 0⟩,
           ⟨none, (some 95), .ext (.t 90) 1⟩,
           ⟨none, (some 96), .ext (.t 90) 2⟩,
           ⟨none, (some 13), .mov (.t 94)⟩,
           ⟨none, (some 14), .mov (.t 95)⟩,
           ⟨none, (some 10), .mov (.t 96)⟩])
         (.seq
          (.reg [⟨none, (some 97), .mov (.t 7)⟩,
            ⟨none, (some 98), .bin .eql (.t 97) (.c (.int .i64 (0)))⟩,
            ⟨none, (some 99), .mov (.t 98)⟩,
            ⟨(some (99, true)), (some 100), .mov (.t 10)⟩,
            ⟨(some (99, true)), (some 101), .bin .eql (.t 100) (.c (.int .i64 (0)))⟩,
            ⟨none, (some 102), .pick (.t 99) (.t 101) (.c (.bool false))⟩,
            ⟨none, (some 103), .mov (.t 102)⟩,
            ⟨(some (103, true)), (some 104), .mov (.t 11)⟩,
            ⟨(some (103, true)), (some 105), .mov (.t 5)⟩,
            ⟨(some (103, true)), (some 106), .call 1 19 [.t 104, .t 105]⟩,
            ⟨none, (some 107), .pick (.t 103) (.t 106) (.c (.bool false))⟩,
            ⟨none, (some 108), .mov (.t 107)⟩,
            ⟨(some (108, true)), (some 109), .mov (.t 12)⟩,
            ⟨(some (108, true)), (some 110), .mov (.t 6)⟩,
            ⟨(some (108, true)), (some 111), .call 1 19 [.t 109, .t 110]⟩,
            ⟨none, (some 112), .pick (.t 108) (.t 111) (.c (.bool false))⟩,
            ⟨none, (some 113), .mov (.t 112)⟩,
            ⟨(some (113, true)), (some 114), .mov (.t 13)⟩,
            ⟨(some (113, true)), (some 115), .mov (.t 0)⟩,
            ⟨(some (113, true)), (some 116), .call 1 19 [.t 114, .t 115]⟩,
            ⟨none, (some 117), .pick (.t 113) (.t 116) (.c (.bool false))⟩,
            ⟨none, (some 118), .mov (.t 117)⟩,
            ⟨(some (118, true)), (some 119), .mov (.t 14)⟩,
            ⟨(some (118, true)), (some 120), .mov (.t 0)⟩,
            ⟨(some (118, true)), (some 121), .call 1 19 [.t 119, .t 120]⟩,
            ⟨none, (some 122), .pick (.t 118) (.t 121) (.c (.bool false))⟩,
            ⟨none, (some 123), .mov (.t 122)⟩,
            ⟨(some (123, true)), (some 124), .call 1 20 []⟩,
            ⟨none, (some 125), .pick (.t 123) (.t 124) (.c (.bool false))⟩,
            ⟨none, (some 4), .mov (.t 125)⟩])
          (.ret (m 126 16))))))))))
def F10 : XF := ⟨2, 126, [.tmp 4], F10B⟩
def M10 : List (List Bool) := [(m 126 16), (m 126 16), (m 126 16), (m 126 16)]
def F11B : XC :=
 .seq
  (.reg [⟨none, (some 4), .mov (.c (.bool false))⟩])
  (.seq
   (.seq
    (.reg [⟨none, (some 12), .mov (.t 0)⟩,
      ⟨none, (some 13), .mov (.t 1)⟩,
      ⟨none, (some 14), .bslice 1 2 [.nils] [(0, 1, .t 12), (1, 1, .t 13)]⟩,
      ⟨none, (some 15), .call 1 23 [.t 14]⟩,
      ⟨none, (some 16), .un .not (.t 15)⟩])
    (.cond (.t 16)
     (.seq
      (.reg [⟨none, (some 17), .call 1 20 []⟩,
        ⟨none, (some 4), .mov (.t 17)⟩])
      (.ret (m 94 16)))
     (.skip)))
   (.seq
    (.seq
     (.reg [⟨none, (some 18), .mov (.t 0)⟩,
       ⟨none, (some 19), .call 1 26 [.t 18]⟩])
     (.cond (.t 19)
      (.seq
       (.reg [⟨none, (some 21), .mov (.t 0)⟩,
         ⟨none, (some 22), .call 1 27 [.t 21]⟩,
         ⟨none, (some 20), .mov (.t 22)⟩,
         ⟨none, (some 23), .ext (.t 20) 0⟩,
         ⟨none, (some 24), .ext (.t 20) 1⟩,
         ⟨none, (some 5), .mov (.t 23)⟩,
         ⟨none, (some 6), .mov (.t 24)⟩])
       (.seq
        (.seq
         (.reg [⟨none, (some 25), .mov (.t 6)⟩,
           ⟨none, (some 26), .bin .neq (.t 25) (.c (.int .i64 (0)))⟩,
           ⟨none, (some 27), .mov (.t 26)⟩,
           ⟨(some (27, false)), (some 28), .mov (.t 5)⟩,
           ⟨(some (27, false)), (some 29), .call 1 42 [.t 28]⟩,
           ⟨(some (27, false)), (some 30), .un .not (.t 29)⟩,
           ⟨none, (some 31), .pick (.t 27) (.c (.bool true)) (.t 30)⟩,
           ⟨none, (some 32), .mov (.t 31)⟩,
           ⟨(some (32, false)), (some 33), .mov (.t 5)⟩,
           ⟨(some (32, false)), (some 34), .len (.t 33)⟩,
           ⟨(some (32, false)), (some 35), .mov (.t 0)⟩,
           ⟨(some (32, false)), (some 36), .len (.t 35)⟩,
           ⟨(some (32, false)), (some 37), .bin .add (.t 36) (.c (.int .i64 (1)))⟩,
           ⟨(some (32, false)), (some 38), .bin .neq (.t 34) (.t 37)⟩,
           ⟨none, (some 39), .pick (.t 32) (.c (.bool true)) (.t 38)⟩])
         (.cond (.t 39)
          (.seq
           (.reg [⟨none, (some 4), .mov (.c (.bool false))⟩])
           (.ret (m 94 16)))
          (.skip)))
        (.seq
         (.reg [⟨none, (some 41), .mov (.t 5)⟩,
           ⟨none, (some 42), .call 1 43 [.t 41]⟩,
           ⟨none, (some 40), .mov (.t 42)⟩,
           ⟨none, (some 43), .ext (.t 40) 0⟩,
           ⟨none, (some 44), .ext (.t 40) 1⟩,
           ⟨none, (some 7), .mov (.t 43)⟩,
           ⟨none, (some 6), .mov (.t 44)⟩])
         (.seq
          (.reg [⟨none, (some 45), .mov (.t 6)⟩,
            ⟨none, (some 46), .bin .neq (.t 45) (.c (.int .i64 (0)))⟩,
            ⟨none, (some 47), .mov (.t 46)⟩,
            ⟨(some (47, false)), (some 48), .mov (.t 7)⟩,
            ⟨(some (47, false)), (some 49), .mov (.t 0)⟩,
            ⟨(some (47, false)), (some 50), .call 1 19 [.t 48, .t 49]⟩,
            ⟨(some (47, false)), (some 51), .un .not (.t 50)⟩,
            ⟨none, (some 52), .pick (.t 47) (.c (.bool true)) (.t 51)⟩])
          (.cond (.t 52)
           (.seq
            (.reg [⟨none, (some 4), .mov (.c (.bool false))⟩])
            (.ret (m 94 16)))
           (.skip))))))
      (.skip)))
    (.seq
     (.reg [⟨none, (some 54), .mov (.t 1)⟩,
       ⟨none, (some 55), .call 1 43 [.t 54]⟩,
       ⟨none, (some 53), .mov (.t 55)⟩,
       ⟨none, (some 56), .ext (.t 53) 0⟩,
       ⟨none, (some 57), .ext (.t 53) 1⟩,
       ⟨none, (some 8), .mov (.t 56)⟩,
       ⟨none, (some 9), .mov (.t 57)⟩])
     (.seq
      (.seq
       (.reg [⟨none, (some 58), .mov (.t 1)⟩,
         ⟨none, (some 59), .call 1 42 [.t 58]⟩,
         ⟨none, (some 60), .un .not (.t 59)⟩])
       (.cond (.t 60)
        (.seq
         (.reg [⟨none, (some 61), .mov (.t 9)⟩,
           ⟨none, (some 62), .bin .eql (.t 61) (.c (.int .i64 (2)))⟩,
           ⟨none, (some 63), .mov (.t 62)⟩,
           ⟨(some (63, true)), (some 64), .mov (.t 8)⟩,
           ⟨(some (63, true)), (some 65), .len (.t 64)⟩,
           ⟨(some (63, true)), (some 66), .bin .eql (.t 65) (.c (.int .i64 (0)))⟩,
           ⟨none, (some 67), .pick (.t 63) (.t 66) (.c (.bool false))⟩,
           ⟨none, (some 68), .mov (.t 67)⟩,
           ⟨(some (68, true)), (some 69), .call 1 20 []⟩,
           ⟨none, (some 70), .pick (.t 68) (.t 69) (.c (.bool false))⟩,
           ⟨none, (some 4), .mov (.t 70)⟩])
         (.ret (m 94 16)))
        (.skip)))
      (.seq
       (.reg [⟨none, (some 72), .mov (.t 8)⟩,
         ⟨none, (some 73), .call 1 27 [.t 72]⟩,
         ⟨none, (some 71), .mov (.t 73)⟩,
         ⟨none, (some 74), .ext (.t 71) 0⟩,
         ⟨none, (some 75), .ext (.t 71) 1⟩,
         ⟨none, (some 10), .mov (.t 74)⟩,
         ⟨none, (some 11), .mov (.t 75)⟩])
       (.seq
        (.reg [⟨none, (some 76), .mov (.t 9)⟩,
          ⟨none, (some 77), .bin .eql (.t 76) (.c (.int .i64 (0)))⟩,
          ⟨none, (some 78), .mov (.t 77)⟩,
          ⟨(some (78, true)), (some 79), .mov (.t 11)⟩,
          ⟨(some (78, true)), (some 80), .bin .eql (.t 79) (.c (.int .i64 (0)))⟩,
          ⟨none, (some 81), .pick (.t 78) (.t 80) (.c (.bool false))⟩,
          ⟨none, (some 82), .mov (.t 81)⟩,
          ⟨(some (82, true)), (some 83), .mov (.t 8)⟩,
          ⟨(some (82, true)), (some 84), .call 1 26 [.t 83]⟩,
          ⟨none, (some 85), .pick (.t 82) (.t 84) (.c (.bool false))⟩,
          ⟨none, (some 86), .mov (.t 85)⟩,
          ⟨(some (86, true)), (some 87), .mov (.t 10)⟩,
          ⟨(some (86, true)), (some 88), .mov (.t 1)⟩,
          ⟨(some (86, true)), (some 89), .call 1 19 [.t 87, .t 88]⟩,
          ⟨none, (some 90), .pick (.t 86) (.t 89) (.c (.bool false))⟩,
          ⟨none, (some 91), .mov (.t 90)⟩,
          ⟨(some (91, true)), (some 92), .call 1 20 []⟩,
          ⟨none, (some 93), .pick (.t 91) (.t 92) (.c (.bool false))⟩,
          ⟨none, (some 4), .mov (.t 93)⟩])
        (.ret (m 94 16))))))))
def F11 : XF := ⟨2, 94, [.tmp 4], F11B⟩
def M11 : List (List Bool) := [(m 94 16), (m 94 16), (m 94 16), (m 94 16), (m 94 16)]
def F12B : XC :=
 .seq
  (.reg [⟨none, (some 4), .mov (.c (.bool false))⟩])
  (.seq
   (.seq
    (.reg [⟨none, (some 12), .mov (.t 0)⟩,
      ⟨none, (some 13), .mov (.t 1)⟩,
      ⟨none, (some 14), .bslice 1 2 [.nils] [(0, 1, .t 12), (1, 1, .t 13)]⟩,
      ⟨none, (some 15), .call 1 23 [.t 14]⟩,
      ⟨none, (some 16), .un .not (.t 15)⟩])
    (.cond (.t 16)
     (.seq
      (.reg [⟨none, (some 17), .call 1 20 []⟩,
        ⟨none, (some 4), .mov (.t 17)⟩])
      (.ret (m 93 16)))
     (.skip)))
   (.seq
    (.seq
     (.reg [⟨none, (some 18), .mov (.t 0)⟩,
       ⟨none, (some 19), .call 1 26 [.t 18]⟩])
     (.cond (.t 19)
      (.seq
       (.reg [⟨none, (some 21), .mov (.t 0)⟩,
         ⟨none, (some 22), .call 1 29 [.t 21]⟩,
         ⟨none, (some 20), .mov (.t 22)⟩,
         ⟨none, (some 23), .ext (.t 20) 0⟩,
         ⟨none, (some 24), .ext (.t 20) 1⟩,
         ⟨none, (some 5), .mov (.t 23)⟩,
         ⟨none, (some 6), .mov (.t 24)⟩])
       (.seq
        (.seq
         (.reg [⟨none, (some 25), .mov (.t 6)⟩,
           ⟨none, (some 26), .bin .neq (.t 25) (.c (.int .i64 (0)))⟩,
           ⟨none, (some 27), .mov (.t 26)⟩,
           ⟨(some (27, false)), (some 28), .mov (.t 5)⟩,
           ⟨(some (27, false)), (some 29), .call 1 44 [.t 28]⟩,
           ⟨(some (27, false)), (some 30), .un .not (.t 29)⟩,
           ⟨none, (some 31), .pick (.t 27) (.c (.bool true)) (.t 30)⟩,
           ⟨none, (some 32), .mov (.t 31)⟩,
           ⟨(some (32, false)), (some 33), .mov (.t 5)⟩,
           ⟨(some (32, false)), (some 34), .len (.t 33)⟩,
           ⟨(some (32, false)), (some 35), .mov (.t 0)⟩,
           ⟨(some (32, false)), (some 36), .len (.t 35)⟩,
           ⟨(some (32, false)), (some 37), .bin .neq (.t 34) (.t 36)⟩,
           ⟨none, (some 38), .pick (.t 32) (.c (.bool true)) (.t 37)⟩])
         (.cond (.t 38)
          (.seq
           (.reg [⟨none, (some 4), .mov (.c (.bool false))⟩])
           (.ret (m 93 16)))
          (.skip)))
        (.seq
         (.reg [⟨none, (some 40), .mov (.t 5)⟩,
           ⟨none, (some 41), .call 1 45 [.t 40]⟩,
           ⟨none, (some 39), .mov (.t 41)⟩,
           ⟨none, (some 42), .ext (.t 39) 0⟩,
           ⟨none, (some 43), .ext (.t 39) 1⟩,
           ⟨none, (some 7), .mov (.t 42)⟩,
           ⟨none, (some 6), .mov (.t 43)⟩])
         (.seq
          (.reg [⟨none, (some 44), .mov (.t 6)⟩,
            ⟨none, (some 45), .bin .neq (.t 44) (.c (.int .i64 (0)))⟩,
            ⟨none, (some 46), .mov (.t 45)⟩,
            ⟨(some (46, false)), (some 47), .mov (.t 7)⟩,
            ⟨(some (46, false)), (some 48), .mov (.t 0)⟩,
            ⟨(some (46, false)), (some 49), .call 1 19 [.t 47, .t 48]⟩,
            ⟨(some (46, false)), (some 50), .un .not (.t 49)⟩,
            ⟨none, (some 51), .pick (.t 46) (.c (.bool true)) (.t 50)⟩])
          (.cond (.t 51)
           (.seq
            (.reg [⟨none, (some 4), .mov (.c (.bool false))⟩])
            (.ret (m 93 16)))
           (.skip))))))
      (.skip)))
    (.seq
     (.reg [⟨none, (some 53), .mov (.t 1)⟩,
       ⟨none, (some 54), .call 1 45 [.t 53]⟩,
       ⟨none, (some 52), .mov (.t 54)⟩,
       ⟨none, (some 55), .ext (.t 52) 0⟩,
       ⟨none, (some 56), .ext (.t 52) 1⟩,
       ⟨none, (some 8), .mov (.t 55)⟩,
       ⟨none, (some 9), .mov (.t 56)⟩])
     (.seq
      (.seq
       (.reg [⟨none, (some 57), .mov (.t 1)⟩,
         ⟨none, (some 58), .call 1 44 [.t 57]⟩,
         ⟨none, (some 59), .un .not (.t 58)⟩])
       (.cond (.t 59)
        (.seq
         (.reg [⟨none, (some 60), .mov (.t 9)⟩,
           ⟨none, (some 61), .bin .eql (.t 60) (.c (.int .i64 (2)))⟩,
           ⟨none, (some 62), .mov (.t 61)⟩,
           ⟨(some (62, true)), (some 63), .mov (.t 8)⟩,
           ⟨(some (62, true)), (some 64), .len (.t 63)⟩,
           ⟨(some (62, true)), (some 65), .bin .eql (.t 64) (.c (.int .i64 (0)))⟩,
           ⟨none, (some 66), .pick (.t 62) (.t 65) (.c (.bool false))⟩,
           ⟨none, (some 67), .mov (.t 66)⟩,
           ⟨(some (67, true)), (some 68), .call 1 20 []⟩,
           ⟨none, (some 69), .pick (.t 67) (.t 68) (.c (.bool false))⟩,
           ⟨none, (some 4), .mov (.t 69)⟩])
         (.ret (m 93 16)))
        (.skip)))
      (.seq
       (.reg [⟨none, (some 71), .mov (.t 8)⟩,
         ⟨none, (some 72), .call 1 29 [.t 71]⟩,
         ⟨none, (some 70), .mov (.t 72)⟩,
         ⟨none, (some 73), .ext (.t 70) 0⟩,
         ⟨none, (some 74), .ext (.t 70) 1⟩,
         ⟨none, (some 10), .mov (.t 73)⟩,
         ⟨none, (some 11), .mov (.t 74)⟩])
       (.seq
        (.reg [⟨none, (some 75), .mov (.t 9)⟩,
          ⟨none, (some 76), .bin .eql (.t 75) (.c (.int .i64 (0)))⟩,
          ⟨none, (some 77), .mov (.t 76)⟩,
          ⟨(some (77, true)), (some 78), .mov (.t 11)⟩,
          ⟨(some (77, true)), (some 79), .bin .eql (.t 78) (.c (.int .i64 (0)))⟩,
          ⟨none, (some 80), .pick (.t 77) (.t 79) (.c (.bool false))⟩,
          ⟨none, (some 81), .mov (.t 80)⟩,
          ⟨(some (81, true)), (some 82), .mov (.t 8)⟩,
          ⟨(some (81, true)), (some 83), .call 1 26 [.t 82]⟩,
          ⟨none, (some 84), .pick (.t 81) (.t 83) (.c (.bool false))⟩,
          ⟨none, (some 85), .mov (.t 84)⟩,
          ⟨(some (85, true)), (some 86), .mov (.t 10)⟩,
          ⟨(some (85, true)), (some 87), .mov (.t 1)⟩,
          ⟨(some (85, true)), (some 88), .call 1 19 [.t 86, .t 87]⟩,
          ⟨none, (some 89), .pick (.t 85) (.t 88) (.c (.bool false))⟩,
          ⟨none, (some 90), .mov (.t 89)⟩,
          ⟨(some (90, true)), (some 91), .call 1 20 []⟩,
          ⟨none, (some 92), .pick (.t 90) (.t 91) (.c (.bool false))⟩,
          ⟨none, (some 4), .mov (.t 92)⟩])
        (.ret (m 93 16))))))))
def F12 : XF := ⟨2, 93, [.tmp 4], F12B⟩
def M12 : List (List Bool) := [(m 93 16), (m 93 16), (m 93 16), (m 93 16), (m 93 16)]
def F13L0b : XC :=
 .seq
  (.seq
   (.reg [⟨none, (some 38), .mov (.t 11)⟩,
     ⟨none, (some 39), .mov (.t 7)⟩,
     ⟨none, (some 40), .bin .lss (.t 38) (.t 39)⟩])
   (.cond (.t 40)
    (.skip)
    (.exit 2 (m 148 1927))))
  (.seq
   (.block 3 (m 148 3975)
    (.seq
     (.reg [⟨none, (some 43), .mov (.t 8)⟩,
       ⟨none, (some 44), .mov (.t 10)⟩,
       ⟨none, (some 45), .indexA 1 (.t 43) (.t 44)⟩,
       ⟨none, (some 46), .load none (.t 45)⟩,
       ⟨none, (some 47), .mov (.t 11)⟩,
       ⟨none, (some 48), .mov (.t 0)⟩,
       ⟨none, (some 49), .mov (.t 10)⟩,
       ⟨none, (some 50), .indexA 1 (.t 48) (.t 49)⟩,
       ⟨none, (some 51), .load none (.t 50)⟩,
       ⟨none, (some 52), .mov (.t 7)⟩,
       ⟨none, (some 53), .bin .sub (.t 52) (.c (.int .i64 (1)))⟩,
       ⟨none, (some 54), .mov (.t 11)⟩,
       ⟨none, (some 55), .bin .sub (.t 53) (.t 54)⟩,
       ⟨none, (some 56), .indexA 1 (.t 51) (.t 55)⟩,
       ⟨none, (some 57), .load none (.t 56)⟩,
       ⟨none, (some 58), .indexA 1 (.t 46) (.t 47)⟩,
       ⟨none, none, .store 1 (.t 58) (.t 57)⟩])
     (.reg [⟨none, (some 59), .mov (.t 9)⟩,
       ⟨none, (some 60), .mov (.t 10)⟩,
       ⟨none, (some 61), .indexA 1 (.t 59) (.t 60)⟩,
       ⟨none, (some 62), .load none (.t 61)⟩,
       ⟨none, (some 63), .mov (.t 11)⟩,
       ⟨none, (some 64), .mov (.t 0)⟩,
       ⟨none, (some 65), .mov (.t 11)⟩,
       ⟨none, (some 66), .indexA 1 (.t 64) (.t 65)⟩,
       ⟨none, (some 67), .load none (.t 66)⟩,
       ⟨none, (some 68), .mov (.t 10)⟩,
       ⟨none, (some 69), .indexA 1 (.t 67) (.t 68)⟩,
       ⟨none, (some 70), .load none (.t 69)⟩,
       ⟨none, (some 71), .indexA 1 (.t 62) (.t 63)⟩,
       ⟨none, none, .store 1 (.t 71) (.t 70)⟩])))
   (.reg [⟨none, (some 41), .mov (.t 11)⟩,
     ⟨none, (some 42), .bin .add (.t 41) (.c (.int .i64 (1)))⟩,
     ⟨none, (some 11), .mov (.t 42)⟩]))
def F13L0 : XC := .loop (m 148 3975) F13L0b
def F13T0 : XC :=
 .reg [⟨none, (some 36), .mov (.t 10)⟩,
   ⟨none, (some 37), .bin .add (.t 36) (.c (.int .i64 (1)))⟩,
   ⟨none, (some 10), .mov (.t 37)⟩]
def F13L1b : XC :=
 .seq
  (.seq
   (.reg [⟨none, (some 33), .mov (.t 10)⟩,
     ⟨none, (some 34), .mov (.t 7)⟩,
     ⟨none, (some 35), .bin .lss (.t 33) (.t 34)⟩])
   (.cond (.t 35)
    (.skip)
    (.exit 0 (m 148 903))))
  (.seq
   (.block 1 (m 148 1927)
    (.seq
     (.reg [⟨none, (some 11), .mov (.c (.int .i64 (0)))⟩])
     (.block 2 (m 148 1927)
      (F13L0))))
   F13T0)
def F13L1 : XC := .loop (m 148 1927) F13L1b
def F13T1 : XC :=
 .seq
  (.seq
   (.reg [⟨none, (some 72), .mov (.t 0)⟩,
     ⟨none, (some 73), .call 1 25 [.t 72]⟩,
     ⟨none, (some 74), .un .not (.t 73)⟩,
     ⟨none, (some 75), .mov (.t 74)⟩,
     ⟨(some (75, false)), (some 76), .mov (.t 8)⟩,
     ⟨(some (75, false)), (some 77), .call 1 25 [.t 76]⟩,
     ⟨(some (75, false)), (some 78), .un .not (.t 77)⟩,
     ⟨none, (some 79), .pick (.t 75) (.c (.bool true)) (.t 78)⟩,
     ⟨none, (some 80), .mov (.t 79)⟩,
     ⟨(some (80, false)), (some 81), .mov (.t 9)⟩,
     ⟨(some (80, false)), (some 82), .call 1 25 [.t 81]⟩,
     ⟨(some (80, false)), (some 83), .un .not (.t 82)⟩,
     ⟨none, (some 84), .pick (.t 80) (.c (.bool true)) (.t 83)⟩])
   (.cond (.t 84)
    (.seq
     (.reg [⟨none, (some 6), .mov (.c (.bool false))⟩])
     (.ret (m 148 64)))
    (.skip)))
  (.seq
   (.reg [⟨none, (some 85), .mov (.t 1)⟩,
     ⟨none, (some 86), .conv .i64 (.t 85)⟩,
     ⟨none, (some 87), .mov (.t 7)⟩,
     ⟨none, (some 88), .bin .rem (.t 86) (.t 87)⟩,
     ⟨none, (some 89), .mov (.t 2)⟩,
     ⟨none, (some 90), .conv .i64 (.t 89)⟩,
     ⟨none, (some 91), .mov (.t 7)⟩,
     ⟨none, (some 92), .bin .rem (.t 90) (.t 91)⟩,
     ⟨none, (some 12), .mov (.t 88)⟩,
     ⟨none, (some 13), .mov (.t 92)⟩])
   (.seq
    (.reg [⟨none, (some 94), .mov (.t 0)⟩,
      ⟨none, (some 95), .mov (.t 12)⟩,
      ⟨none, (some 96), .mov (.t 13)⟩,
      ⟨none, (some 97), .call 1 46 [.t 94, .t 95, .t 96]⟩,
      ⟨none, (some 93), .mov (.t 97)⟩,
      ⟨none, (some 98), .ext (.t 93) 0⟩,
      ⟨none, (some 99), .ext (.t 93) 1⟩,
      ⟨none, (some 14), .mov (.t 98)⟩,
      ⟨none, (some 15), .mov (.t 99)⟩])
    (.seq
     (.seq
      (.reg [⟨none, (some 100), .mov (.t 12)⟩,
        ⟨none, (some 101), .bin .eql (.t 100) (.c (.int .i64 (0)))⟩,
        ⟨none, (some 102), .mov (.t 101)⟩,
        ⟨(some (102, false)), (some 103), .mov (.t 13)⟩,
        ⟨(some (102, false)), (some 104), .bin .eql (.t 103) (.c (.int .i64 (0)))⟩,
        ⟨none, (some 105), .pick (.t 102) (.c (.bool true)) (.t 104)⟩])
      (.cond (.t 105)
       (.seq
        (.reg [⟨none, (some 106), .mov (.t 15)⟩,
          ⟨none, (some 107), .bin .eql (.t 106) (.c (.int .i64 (2)))⟩,
          ⟨none, (some 108), .mov (.t 107)⟩,
          ⟨(some (108, true)), (some 109), .call 1 20 []⟩,
          ⟨none, (some 110), .pick (.t 108) (.t 109) (.c (.bool false))⟩,
          ⟨none, (some 6), .mov (.t 110)⟩])
        (.ret (m 148 64)))
       (.skip)))
     (.seq
      (.seq
       (.reg [⟨none, (some 111), .mov (.t 15)⟩,
         ⟨none, (some 112), .bin .neq (.t 111) (.c (.int .i64 (0)))⟩])
       (.cond (.t 112)
        (.seq
         (.reg [⟨none, (some 113), .mov (.t 15)⟩,
           ⟨none, (some 114), .bin .eql (.t 113) (.c (.int .i64 (9)))⟩,
           ⟨none, (some 115), .mov (.t 114)⟩,
           ⟨(some (115, true)), (some 116), .mov (.t 14)⟩,
           ⟨(some (115, true)), (some 117), .len (.t 116)⟩,
           ⟨(some (115, true)), (some 118), .bin .eql (.t 117) (.c (.int .i64 (0)))⟩,
           ⟨none, (some 119), .pick (.t 115) (.t 118) (.c (.bool false))⟩,
           ⟨none, (some 120), .mov (.t 119)⟩,
           ⟨(some (120, true)), (some 121), .call 1 20 []⟩,
           ⟨none, (some 122), .pick (.t 120) (.t 121) (.c (.bool false))⟩,
           ⟨none, (some 6), .mov (.t 122)⟩])
         (.ret (m 148 64)))
        (.skip)))
      (.seq
       (.seq
        (.reg [⟨none, (some 123), .mov (.t 14)⟩,
          ⟨none, (some 124), .call 1 26 [.t 123]⟩,
          ⟨none, (some 125), .un .not (.t 124)⟩,
          ⟨none, (some 126), .mov (.t 125)⟩,
          ⟨(some (126, false)), (some 127), .mov (.t 14)⟩,
          ⟨(some (126, false)), (some 128), .mov (.t 0)⟩,
          ⟨(some (126, false)), (some 129), .call 1 19 [.t 127, .t 128]⟩,
          ⟨none, (some 130), .pick (.t 126) (.c (.bool true)) (.t 129)⟩])
        (.cond (.t 130)
         (.seq
          (.reg [⟨none, (some 6), .mov (.c (.bool false))⟩])
          (.ret (m 148 64)))
         (.skip)))
       (.seq
        (.reg [⟨none, (some 132), .mov (.t 14)⟩,
          ⟨none, (some 133), .mov (.t 12)⟩,
          ⟨none, (some 134), .mov (.t 13)⟩,
          ⟨none, (some 135), .call 1 46 [.t 132, .t 133, .t 134]⟩,
          ⟨none, (some 131), .mov (.t 135)⟩,
          ⟨none, (some 136), .ext (.t 131) 0⟩,
          ⟨none, (some 137), .ext (.t 131) 1⟩,
          ⟨none, (some 16), .mov (.t 136)⟩,
          ⟨none, (some 15), .mov (.t 137)⟩])
        (.seq
         (.reg [⟨none, (some 138), .mov (.t 15)⟩,
           ⟨none, (some 139), .bin .eql (.t 138) (.c (.int .i64 (0)))⟩,
           ⟨none, (some 140), .mov (.t 139)⟩,
           ⟨(some (140, true)), (some 141), .mov (.t 16)⟩,
           ⟨(some (140, true)), (some 142), .mov (.t 0)⟩,
           ⟨(some (140, true)), (some 143), .call 1 19 [.t 141, .t 142]⟩,
           ⟨none, (some 144), .pick (.t 140) (.t 143) (.c (.bool false))⟩,
           ⟨none, (some 145), .mov (.t 144)⟩,
           ⟨(some (145, true)), (some 146), .call 1 20 []⟩,
           ⟨none, (some 147), .pick (.t 145) (.t 146) (.c (.bool false))⟩,
           ⟨none, (some 6), .mov (.t 147)⟩])
         (.ret (m 148 64)))))))))
def F13B : XC :=
 .seq
  (.reg [⟨none, (some 6), .mov (.c (.bool false))⟩])
  (.seq
   (.seq
    (.reg [⟨none, (some 17), .mov (.t 0)⟩,
      ⟨none, (some 18), .bslice 1 1 [.nils] [(0, 1, .t 17)]⟩,
      ⟨none, (some 19), .call 1 23 [.t 18]⟩,
      ⟨none, (some 20), .un .not (.t 19)⟩,
      ⟨none, (some 21), .mov (.t 20)⟩,
      ⟨(some (21, false)), (some 22), .mov (.t 0)⟩,
      ⟨(some (21, false)), (some 23), .call 1 26 [.t 22]⟩,
      ⟨(some (21, false)), (some 24), .un .not (.t 23)⟩,
      ⟨none, (some 25), .pick (.t 21) (.c (.bool true)) (.t 24)⟩])
    (.cond (.t 25)
     (.seq
      (.reg [⟨none, (some 26), .call 1 20 []⟩,
        ⟨none, (some 6), .mov (.t 26)⟩])
      (.ret (m 148 64)))
     (.skip)))
   (.seq
    (.reg [⟨none, (some 27), .mov (.t 0)⟩,
      ⟨none, (some 28), .len (.t 27)⟩,
      ⟨none, (some 7), .mov (.t 28)⟩])
    (.seq
     (.reg [⟨none, (some 29), .mov (.t 0)⟩,
       ⟨none, (some 30), .call 2 24 [.t 29]⟩,
       ⟨none, (some 31), .mov (.t 0)⟩,
       ⟨none, (some 32), .call 2 24 [.t 31]⟩,
       ⟨none, (some 8), .mov (.t 30)⟩,
       ⟨none, (some 9), .mov (.t 32)⟩])
     (.seq
      (.seq
       (.reg [⟨none, (some 10), .mov (.c (.int .i64 (0)))⟩])
       (.block 0 (m 148 903)
        (F13L1)))
      F13T1))))
def F13 : XF := ⟨3, 148, [.tmp 6], F13B⟩
def M13 : List (List Bool) := [(m 148 64), (m 148 903), (m 148 1927), (m 148 903), (m 148 1927), (m 148 1927), (m 148 3975), (m 148 1927), (m 148 3975), (m 148 64), (m 148 64), (m 148 64), (m 148 64), (m 148 64)]
def F14B : XC :=
 .seq
  (.reg [⟨none, (some 4), .mov (.c (.bool false))⟩])
  (.seq
   (.seq
    (.reg [⟨none, (some 14), .mov (.t 0)⟩,
      ⟨none, (some 15), .bslice 1 1 [.nils] [(0, 1, .t 14)]⟩,
      ⟨none, (some 16), .call 1 23 [.t 15]⟩,
      ⟨none, (some 17), .un .not (.t 16)⟩,
      ⟨none, (some 18), .mov (.t 17)⟩,
      ⟨(some (18, false)), (some 19), .mov (.t 1)⟩,
      ⟨(some (18, false)), (some 20), .len (.t 19)⟩,
      ⟨(some (18, false)), (some 21), .bin .gtr (.t 20) (.c (.int .i64 (40)))⟩,
      ⟨none, (some 22), .pick (.t 18) (.c (.bool true)) (.t 21)⟩])
    (.cond (.t 22)
     (.seq
      (.reg [⟨none, (some 23), .call 1 20 []⟩,
        ⟨none, (some 4), .mov (.t 23)⟩])
      (.ret (m 103 16)))
     (.skip)))
   (.seq
    (.seq
     (.reg [⟨none, (some 24), .mov (.t 0)⟩,
       ⟨none, (some 25), .call 1 26 [.t 24]⟩])
     (.cond (.t 25)
      (.seq
       (.reg [⟨none, (some 27), .mov (.t 0)⟩,
         ⟨none, (some 28), .call 1 47 [.t 27]⟩,
         ⟨none, (some 26), .mov (.t 28)⟩,
         ⟨none, (some 29), .ext (.t 26) 0⟩,
         ⟨none, (some 30), .ext (.t 26) 1⟩,
         ⟨none, (some 5), .mov (.t 29)⟩,
         ⟨none, (some 6), .mov (.t 30)⟩])
       (.seq
        (.reg [⟨none, (some 32), .mov (.t 0)⟩,
          ⟨none, (some 33), .call 1 34 [.t 32]⟩,
          ⟨none, (some 31), .mov (.t 33)⟩,
          ⟨none, (some 34), .ext (.t 31) 0⟩,
          ⟨none, (some 35), .ext (.t 31) 1⟩,
          ⟨none, (some 7), .mov (.t 34)⟩,
          ⟨none, (some 8), .mov (.t 35)⟩])
        (.seq
         (.seq
          (.reg [⟨none, (some 36), .mov (.t 6)⟩,
            ⟨none, (some 37), .bin .neq (.t 36) (.c (.int .i64 (0)))⟩,
            ⟨none, (some 38), .mov (.t 37)⟩,
            ⟨(some (38, false)), (some 39), .mov (.t 8)⟩,
            ⟨(some (38, false)), (some 40), .bin .neq (.t 39) (.c (.int .i64 (0)))⟩,
            ⟨none, (some 41), .pick (.t 38) (.c (.bool true)) (.t 40)⟩,
            ⟨none, (some 42), .mov (.t 41)⟩,
            ⟨(some (42, false)), (some 43), .mov (.t 5)⟩,
            ⟨(some (42, false)), (some 44), .call 1 26 [.t 43]⟩,
            ⟨(some (42, false)), (some 45), .un .not (.t 44)⟩,
            ⟨none, (some 46), .pick (.t 42) (.c (.bool true)) (.t 45)⟩,
            ⟨none, (some 47), .mov (.t 46)⟩,
            ⟨(some (47, false)), (some 48), .mov (.t 7)⟩,
            ⟨(some (47, false)), (some 49), .len (.t 48)⟩,
            ⟨(some (47, false)), (some 50), .mov (.t 0)⟩,
            ⟨(some (47, false)), (some 51), .len (.t 50)⟩,
            ⟨(some (47, false)), (some 52), .bin .mul (.c (.int .i64 (2))) (.t 51)⟩,
            ⟨(some (47, false)), (some 53), .bin .neq (.t 49) (.t 52)⟩,
            ⟨none, (some 54), .pick (.t 47) (.c (.bool true)) (.t 53)⟩,
            ⟨none, (some 55), .mov (.t 54)⟩,
            ⟨(some (55, false)), (some 56), .mov (.t 7)⟩,
            ⟨(some (55, false)), (some 57), .call 1 38 [.t 56]⟩,
            ⟨(some (55, false)), (some 58), .un .not (.t 57)⟩,
            ⟨none, (some 59), .pick (.t 55) (.c (.bool true)) (.t 58)⟩])
          (.cond (.t 59)
           (.seq
            (.reg [⟨none, (some 4), .mov (.c (.bool false))⟩])
            (.ret (m 103 16)))
           (.skip)))
         (.seq
          (.reg [⟨none, (some 61), .mov (.t 5)⟩,
            ⟨none, (some 62), .call 1 34 [.t 61]⟩,
            ⟨none, (some 60), .mov (.t 62)⟩,
            ⟨none, (some 63), .ext (.t 60) 0⟩,
            ⟨none, (some 64), .ext (.t 60) 1⟩,
            ⟨none, (some 9), .mov (.t 63)⟩,
            ⟨none, (some 6), .mov (.t 64)⟩])
          (.seq
           (.reg [⟨none, (some 65), .mov (.t 6)⟩,
             ⟨none, (some 66), .bin .neq (.t 65) (.c (.int .i64 (0)))⟩,
             ⟨none, (some 67), .mov (.t 66)⟩,
             ⟨(some (67, false)), (some 68), .mov (.t 9)⟩,
             ⟨(some (67, false)), (some 69), .mov (.t 7)⟩,
             ⟨(some (67, false)), (some 70), .call 1 48 [.t 69]⟩,
             ⟨(some (67, false)), (some 71), .call 1 36 [.t 68, .t 70]⟩,
             ⟨(some (67, false)), (some 72), .un .not (.t 71)⟩,
             ⟨none, (some 73), .pick (.t 67) (.c (.bool true)) (.t 72)⟩])
           (.cond (.t 73)
            (.seq
             (.reg [⟨none, (some 4), .mov (.c (.bool false))⟩])
             (.ret (m 103 16)))
            (.skip)))))))
      (.skip)))
    (.seq
     (.seq
      (.reg [⟨none, (some 74), .mov (.t 1)⟩,
        ⟨none, (some 75), .call 1 38 [.t 74]⟩,
        ⟨none, (some 76), .un .not (.t 75)⟩])
      (.cond (.t 76)
       (.seq
        (.reg [⟨none, (some 77), .call 1 20 []⟩,
          ⟨none, (some 4), .mov (.t 77)⟩])
        (.ret (m 103 16)))
       (.skip)))
     (.seq
      (.reg [⟨none, (some 79), .mov (.t 1)⟩,
        ⟨none, (some 80), .call 1 22 [.t 79]⟩,
        ⟨none, (some 78), .mov (.t 80)⟩,
        ⟨none, (some 81), .ext (.t 78) 0⟩,
        ⟨none, (some 82), .ext (.t 78) 1⟩,
        ⟨none, (some 10), .mov (.t 81)⟩,
        ⟨none, (some 11), .mov (.t 82)⟩])
      (.seq
       (.reg [⟨none, (some 84), .mov (.t 1)⟩,
         ⟨none, (some 85), .call 1 48 [.t 84]⟩,
         ⟨none, (some 86), .call 1 22 [.t 85]⟩,
         ⟨none, (some 83), .mov (.t 86)⟩,
         ⟨none, (some 87), .ext (.t 83) 0⟩,
         ⟨none, (some 88), .ext (.t 83) 1⟩,
         ⟨none, (some 12), .mov (.t 87)⟩,
         ⟨none, (some 13), .mov (.t 88)⟩])
       (.seq
        (.reg [⟨none, (some 89), .mov (.t 11)⟩,
          ⟨none, (some 90), .bin .eql (.t 89) (.c (.int .i64 (0)))⟩,
          ⟨none, (some 91), .mov (.t 90)⟩,
          ⟨(some (91, true)), (some 92), .mov (.t 13)⟩,
          ⟨(some (91, true)), (some 93), .bin .eql (.t 92) (.c (.int .i64 (0)))⟩,
          ⟨none, (some 94), .pick (.t 91) (.t 93) (.c (.bool false))⟩,
          ⟨none, (some 95), .mov (.t 94)⟩,
          ⟨(some (95, true)), (some 96), .mov (.t 10)⟩,
          ⟨(some (95, true)), (some 97), .mov (.t 12)⟩,
          ⟨(some (95, true)), (some 98), .bin .eql (.t 96) (.t 97)⟩,
          ⟨none, (some 99), .pick (.t 95) (.t 98) (.c (.bool false))⟩,
          ⟨none, (some 100), .mov (.t 99)⟩,
          ⟨(some (100, true)), (some 101), .call 1 20 []⟩,
          ⟨none, (some 102), .pick (.t 100) (.t 101) (.c (.bool false))⟩,
          ⟨none, (some 4), .mov (.t 102)⟩])
        (.ret (m 103 16))))))))
def F14 : XF := ⟨2, 103, [.tmp 4], F14B⟩
def M14 : List (List Bool) := [(m 103 16), (m 103 16), (m 103 16), (m 103 16), (m 103 16)]
def F15B : XC :=
 .seq
  (.reg [⟨none, (some 4), .mov (.c (.bool false))⟩])
  (.seq
   (.seq
    (.reg [⟨none, (some 11), .mov (.t 0)⟩,
      ⟨none, (some 12), .mov (.t 1)⟩,
      ⟨none, (some 13), .bslice 1 2 [.nils] [(0, 1, .t 11), (1, 1, .t 12)]⟩,
      ⟨none, (some 14), .call 1 23 [.t 13]⟩,
      ⟨none, (some 15), .un .not (.t 14)⟩])
    (.cond (.t 15)
     (.seq
      (.reg [⟨none, (some 16), .call 1 20 []⟩,
        ⟨none, (some 4), .mov (.t 16)⟩])
      (.ret (m 71 16)))
     (.skip)))
   (.seq
    (.reg [⟨none, (some 17), .mov (.t 0)⟩,
      ⟨none, (some 18), .call 1 24 [.t 17]⟩,
      ⟨none, (some 19), .mov (.t 1)⟩,
      ⟨none, (some 20), .call 1 24 [.t 19]⟩,
      ⟨none, (some 5), .mov (.t 18)⟩,
      ⟨none, (some 6), .mov (.t 20)⟩])
    (.seq
     (.reg [⟨none, (some 22), .mov (.t 5)⟩,
       ⟨none, (some 23), .call 1 43 [.t 22]⟩,
       ⟨none, (some 21), .mov (.t 23)⟩,
       ⟨none, (some 24), .ext (.t 21) 0⟩,
       ⟨none, (some 25), .ext (.t 21) 1⟩,
       ⟨none, (some 7), .mov (.t 24)⟩,
       ⟨none, (some 8), .mov (.t 25)⟩])
     (.seq
      (.reg [⟨none, (some 27), .mov (.t 0)⟩,
        ⟨none, (some 28), .call 1 49 [.t 27]⟩,
        ⟨none, (some 26), .mov (.t 28)⟩,
        ⟨none, (some 29), .ext (.t 26) 0⟩,
        ⟨none, (some 30), .ext (.t 26) 1⟩,
        ⟨none, (some 9), .mov (.t 29)⟩,
        ⟨none, (some 10), .mov (.t 30)⟩])
      (.seq
       (.seq
        (.reg [⟨none, (some 31), .mov (.t 7)⟩,
          ⟨none, (some 32), .mov (.t 9)⟩,
          ⟨none, (some 33), .call 1 19 [.t 31, .t 32]⟩,
          ⟨none, (some 34), .un .not (.t 33)⟩,
          ⟨none, (some 35), .mov (.t 34)⟩,
          ⟨(some (35, false)), (some 36), .mov (.t 8)⟩,
          ⟨(some (35, false)), (some 37), .mov (.t 10)⟩,
          ⟨(some (35, false)), (some 38), .bin .neq (.t 36) (.t 37)⟩,
          ⟨none, (some 39), .pick (.t 35) (.c (.bool true)) (.t 38)⟩])
        (.cond (.t 39)
         (.seq
          (.reg [⟨none, (some 4), .mov (.c (.bool false))⟩])
          (.ret (m 71 16)))
         (.skip)))
       (.seq
        (.reg [⟨none, (some 41), .mov (.t 6)⟩,
          ⟨none, (some 42), .call 1 45 [.t 41]⟩,
          ⟨none, (some 40), .mov (.t 42)⟩,
          ⟨none, (some 43), .ext (.t 40) 0⟩,
          ⟨none, (some 44), .ext (.t 40) 1⟩,
          ⟨none, (some 7), .mov (.t 43)⟩,
          ⟨none, (some 8), .mov (.t 44)⟩])
        (.seq
         (.reg [⟨none, (some 46), .mov (.t 1)⟩,
           ⟨none, (some 47), .call 1 50 [.t 46]⟩,
           ⟨none, (some 45), .mov (.t 47)⟩,
           ⟨none, (some 48), .ext (.t 45) 0⟩,
           ⟨none, (some 49), .ext (.t 45) 1⟩,
           ⟨none, (some 9), .mov (.t 48)⟩,
           ⟨none, (some 10), .mov (.t 49)⟩])
         (.seq
          (.reg [⟨none, (some 50), .mov (.t 7)⟩,
            ⟨none, (some 51), .mov (.t 9)⟩,
            ⟨none, (some 52), .call 1 19 [.t 50, .t 51]⟩,
            ⟨none, (some 53), .mov (.t 52)⟩,
            ⟨(some (53, true)), (some 54), .mov (.t 8)⟩,
            ⟨(some (53, true)), (some 55), .mov (.t 10)⟩,
            ⟨(some (53, true)), (some 56), .bin .eql (.t 54) (.t 55)⟩,
            ⟨none, (some 57), .pick (.t 53) (.t 56) (.c (.bool false))⟩,
            ⟨none, (some 58), .mov (.t 57)⟩,
            ⟨(some (58, true)), (some 59), .mov (.t 5)⟩,
            ⟨(some (58, true)), (some 60), .mov (.t 0)⟩,
            ⟨(some (58, true)), (some 61), .call 1 19 [.t 59, .t 60]⟩,
            ⟨none, (some 62), .pick (.t 58) (.t 61) (.c (.bool false))⟩,
            ⟨none, (some 63), .mov (.t 62)⟩,
            ⟨(some (63, true)), (some 64), .mov (.t 6)⟩,
            ⟨(some (63, true)), (some 65), .mov (.t 1)⟩,
            ⟨(some (63, true)), (some 66), .call 1 19 [.t 64, .t 65]⟩,
            ⟨none, (some 67), .pick (.t 63) (.t 66) (.c (.bool false))⟩,
            ⟨none, (some 68), .mov (.t 67)⟩,
            ⟨(some (68, true)), (some 69), .call 1 20 []⟩,
            ⟨none, (some 70), .pick (.t 68) (.t 69) (.c (.bool false))⟩,
            ⟨none, (some 4), .mov (.t 70)⟩])
          (.ret (m 71 16))))))))))
def F15 : XF := ⟨2, 71, [.tmp 4], F15B⟩
def M15 : List (List Bool) := [(m 71 16), (m 71 16), (m 71 16)]
def F16B : XC :=
 .seq
  (.reg [⟨none, (some 6), .mov (.c (.bool false))⟩])
  (.seq
   (.seq
    (.reg [⟨none, (some 12), .mov (.t 0)⟩,
      ⟨none, (some 13), .bslice 1 1 [.nils] [(0, 1, .t 12)]⟩,
      ⟨none, (some 14), .call 1 23 [.t 13]⟩,
      ⟨none, (some 15), .un .not (.t 14)⟩])
    (.cond (.t 15)
     (.seq
      (.reg [⟨none, (some 16), .call 1 20 []⟩,
        ⟨none, (some 6), .mov (.t 16)⟩])
      (.ret (m 68 64)))
     (.skip)))
   (.seq
    (.reg [⟨none, (some 17), .mov (.t 0)⟩,
      ⟨none, (some 18), .call 1 24 [.t 17]⟩,
      ⟨none, (some 7), .mov (.t 18)⟩])
    (.seq
     (.reg [⟨none, (some 20), .mov (.t 7)⟩,
       ⟨none, (some 21), .mov (.t 1)⟩,
       ⟨none, (some 22), .mov (.t 2)⟩,
       ⟨none, (some 23), .call 1 46 [.t 20, .t 21, .t 22]⟩,
       ⟨none, (some 19), .mov (.t 23)⟩,
       ⟨none, (some 24), .ext (.t 19) 0⟩,
       ⟨none, (some 25), .ext (.t 19) 1⟩,
       ⟨none, (some 8), .mov (.t 24)⟩,
       ⟨none, (some 9), .mov (.t 25)⟩])
     (.seq
      (.reg [⟨none, (some 27), .mov (.t 0)⟩,
        ⟨none, (some 28), .mov (.t 1)⟩,
        ⟨none, (some 29), .mov (.t 2)⟩,
        ⟨none, (some 30), .call 1 51 [.t 27, .t 28, .t 29]⟩,
        ⟨none, (some 26), .mov (.t 30)⟩,
        ⟨none, (some 31), .ext (.t 26) 0⟩,
        ⟨none, (some 32), .ext (.t 26) 1⟩,
        ⟨none, (some 10), .mov (.t 31)⟩,
        ⟨none, (some 11), .mov (.t 32)⟩])
      (.seq
       (.seq
        (.reg [⟨none, (some 33), .mov (.t 8)⟩,
          ⟨none, (some 34), .mov (.t 10)⟩,
          ⟨none, (some 35), .call 1 19 [.t 33, .t 34]⟩,
          ⟨none, (some 36), .un .not (.t 35)⟩,
          ⟨none, (some 37), .mov (.t 36)⟩,
          ⟨(some (37, false)), (some 38), .mov (.t 9)⟩,
          ⟨(some (37, false)), (some 39), .mov (.t 11)⟩,
          ⟨(some (37, false)), (some 40), .bin .neq (.t 38) (.t 39)⟩,
          ⟨none, (some 41), .pick (.t 37) (.c (.bool true)) (.t 40)⟩])
        (.cond (.t 41)
         (.seq
          (.reg [⟨none, (some 6), .mov (.c (.bool false))⟩])
          (.ret (m 68 64)))
         (.skip)))
       (.seq
        (.reg [⟨none, (some 43), .mov (.t 7)⟩,
          ⟨none, (some 44), .call 1 47 [.t 43]⟩,
          ⟨none, (some 42), .mov (.t 44)⟩,
          ⟨none, (some 45), .ext (.t 42) 0⟩,
          ⟨none, (some 46), .ext (.t 42) 1⟩,
          ⟨none, (some 8), .mov (.t 45)⟩,
          ⟨none, (some 9), .mov (.t 46)⟩])
        (.seq
         (.reg [⟨none, (some 48), .mov (.t 0)⟩,
           ⟨none, (some 49), .call 1 52 [.t 48]⟩,
           ⟨none, (some 47), .mov (.t 49)⟩,
           ⟨none, (some 50), .ext (.t 47) 0⟩,
           ⟨none, (some 51), .ext (.t 47) 1⟩,
           ⟨none, (some 10), .mov (.t 50)⟩,
           ⟨none, (some 11), .mov (.t 51)⟩])
         (.seq
          (.reg [⟨none, (some 52), .mov (.t 8)⟩,
            ⟨none, (some 53), .mov (.t 10)⟩,
            ⟨none, (some 54), .call 1 19 [.t 52, .t 53]⟩,
            ⟨none, (some 55), .mov (.t 54)⟩,
            ⟨(some (55, true)), (some 56), .mov (.t 9)⟩,
            ⟨(some (55, true)), (some 57), .mov (.t 11)⟩,
            ⟨(some (55, true)), (some 58), .bin .eql (.t 56) (.t 57)⟩,
            ⟨none, (some 59), .pick (.t 55) (.t 58) (.c (.bool false))⟩,
            ⟨none, (some 60), .mov (.t 59)⟩,
            ⟨(some (60, true)), (some 61), .mov (.t 7)⟩,
            ⟨(some (60, true)), (some 62), .mov (.t 0)⟩,
            ⟨(some (60, true)), (some 63), .call 1 19 [.t 61, .t 62]⟩,
            ⟨none, (some 64), .pick (.t 60) (.t 63) (.c (.bool false))⟩,
            ⟨none, (some 65), .mov (.t 64)⟩,
            ⟨(some (65, true)), (some 66), .call 1 20 []⟩,
            ⟨none, (some 67), .pick (.t 65) (.t 66) (.c (.bool false))⟩,
            ⟨none, (some 6), .mov (.t 67)⟩])
          (.ret (m 68 64))))))))))
def F16 : XF := ⟨3, 68, [.tmp 6], F16B⟩
def M16 : List (List Bool) := [(m 68 64), (m 68 64), (m 68 64)]
def F17B : XC :=
 .seq
  (.reg [⟨none, (some 2), .mov (.c (.nils))⟩,
    ⟨none, (some 3), .mov (.c (.int .i64 (0)))⟩])
  (.seq
   (.seq
    (.reg [⟨none, (some 4), .mov (.t 0)⟩,
      ⟨none, (some 5), .bin .lss (.t 4) (.c (.int .i64 (1)))⟩,
      ⟨none, (some 6), .mov (.t 5)⟩,
      ⟨(some (6, false)), (some 7), .mov (.t 0)⟩,
      ⟨(some (6, false)), (some 8), .bin .gtr (.t 7) (.c (.int .i64 (5)))⟩,
      ⟨none, (some 9), .pick (.t 6) (.c (.bool true)) (.t 8)⟩])
    (.cond (.t 9)
     (.seq
      (.reg [⟨none, (some 2), .mov (.c (.nils))⟩,
        ⟨none, (some 3), .mov (.c (.int .i64 (2)))⟩])
      (.ret (m 13 12)))
     (.skip)))
   (.seq
    (.reg [⟨none, (some 10), .mov (.t 0)⟩,
      ⟨none, (some 11), .call 2 54 [.t 10]⟩,
      ⟨none, (some 12), .call 0 53 [.t 11, .c (.int .i64 (0)), .c (.nils)]⟩,
      ⟨none, (some 2), .mov (.t 12)⟩,
      ⟨none, (some 3), .mov (.c (.int .i64 (0)))⟩])
    (.ret (m 13 12))))
def F17 : XF := ⟨1, 13, [.tmp 2, .tmp 3], F17B⟩
def M17 : List (List Bool) := [(m 13 12), (m 13 12)]
def F18B : XC :=
 .seq
  (.reg [⟨none, (some 2), .mov (.c (.nils))⟩,
    ⟨none, (some 3), .mov (.c (.int .i64 (0)))⟩])
  (.seq
   (.seq
    (.reg [⟨none, (some 5), .mov (.t 0)⟩,
      ⟨none, (some 6), .bin .lss (.t 5) (.c (.int .i64 (1)))⟩,
      ⟨none, (some 7), .mov (.t 6)⟩,
      ⟨(some (7, false)), (some 8), .mov (.t 0)⟩,
      ⟨(some (7, false)), (some 9), .bin .gtr (.t 8) (.c (.int .i64 (5)))⟩,
      ⟨none, (some 10), .pick (.t 7) (.c (.bool true)) (.t 9)⟩])
    (.cond (.t 10)
     (.seq
      (.reg [⟨none, (some 2), .mov (.c (.nils))⟩,
        ⟨none, (some 3), .mov (.c (.int .i64 (2)))⟩])
      (.ret (m 15 12)))
     (.skip)))
   (.seq
    (.reg [⟨none, (some 4), .alloc [.nils]⟩])
    (.seq
     (.reg [⟨none, (some 11), .mov (.t 0)⟩,
       ⟨none, (some 12), .mkf 56 [.t 4]⟩,
       ⟨none, (some 13), .call 0 55 [.t 11, .t 12]⟩])
     (.seq
      (.reg [⟨none, (some 14), .load none (.t 4)⟩,
        ⟨none, (some 2), .mov (.t 14)⟩,
        ⟨none, (some 3), .mov (.c (.int .i64 (0)))⟩])
      (.ret (m 15 12))))))
def F18 : XF := ⟨1, 15, [.tmp 2, .tmp 3], F18B⟩
def M18 : List (List Bool) := [(m 15 12), (m 15 12)]
def F19L0b : XC :=
 .seq
  (.seq
   (.reg [⟨none, (some 29), .mov (.t 6)⟩,
     ⟨none, (some 30), .mov (.t 0)⟩,
     ⟨none, (some 31), .mov (.t 5)⟩,
     ⟨none, (some 32), .indexA 1 (.t 30) (.t 31)⟩,
     ⟨none, (some 33), .load none (.t 32)⟩,
     ⟨none, (some 34), .len (.t 33)⟩,
     ⟨none, (some 35), .bin .lss (.t 29) (.t 34)⟩])
   (.cond (.t 35)
    (.skip)
    (.exit 2 (m 53 35))))
  (.seq
   (.block 3 (m 53 99)
    (.seq
     (.reg [⟨none, (some 38), .mov (.t 0)⟩,
       ⟨none, (some 39), .mov (.t 5)⟩,
       ⟨none, (some 40), .indexA 1 (.t 38) (.t 39)⟩,
       ⟨none, (some 41), .load none (.t 40)⟩,
       ⟨none, (some 42), .mov (.t 6)⟩,
       ⟨none, (some 43), .indexA 1 (.t 41) (.t 42)⟩,
       ⟨none, (some 44), .load none (.t 43)⟩,
       ⟨none, (some 45), .mov (.t 1)⟩,
       ⟨none, (some 46), .mov (.t 5)⟩,
       ⟨none, (some 47), .indexA 1 (.t 45) (.t 46)⟩,
       ⟨none, (some 48), .load none (.t 47)⟩,
       ⟨none, (some 49), .mov (.t 6)⟩,
       ⟨none, (some 50), .indexA 1 (.t 48) (.t 49)⟩,
       ⟨none, (some 51), .load none (.t 50)⟩,
       ⟨none, (some 52), .bin .neq (.t 44) (.t 51)⟩])
     (.cond (.t 52)
      (.seq
       (.reg [⟨none, (some 4), .mov (.c (.bool false))⟩])
       (.ret (m 53 16)))
      (.skip))))
   (.reg [⟨none, (some 36), .mov (.t 6)⟩,
     ⟨none, (some 37), .bin .add (.t 36) (.c (.int .i64 (1)))⟩,
     ⟨none, (some 6), .mov (.t 37)⟩]))
def F19L0 : XC := .loop (m 53 99) F19L0b
def F19T0 : XC :=
 .reg [⟨none, (some 16), .mov (.t 5)⟩,
   ⟨none, (some 17), .bin .add (.t 16) (.c (.int .i64 (1)))⟩,
   ⟨none, (some 5), .mov (.t 17)⟩]
def F19L1b : XC :=
 .seq
  (.seq
   (.reg [⟨none, (some 12), .mov (.t 5)⟩,
     ⟨none, (some 13), .mov (.t 0)⟩,
     ⟨none, (some 14), .len (.t 13)⟩,
     ⟨none, (some 15), .bin .lss (.t 12) (.t 14)⟩])
   (.cond (.t 15)
    (.skip)
    (.exit 0 (m 53 0))))
  (.seq
   (.block 1 (m 53 35)
    (.seq
     (.seq
      (.reg [⟨none, (some 18), .mov (.t 0)⟩,
        ⟨none, (some 19), .mov (.t 5)⟩,
        ⟨none, (some 20), .indexA 1 (.t 18) (.t 19)⟩,
        ⟨none, (some 21), .load none (.t 20)⟩,
        ⟨none, (some 22), .len (.t 21)⟩,
        ⟨none, (some 23), .mov (.t 1)⟩,
        ⟨none, (some 24), .mov (.t 5)⟩,
        ⟨none, (some 25), .indexA 1 (.t 23) (.t 24)⟩,
        ⟨none, (some 26), .load none (.t 25)⟩,
        ⟨none, (some 27), .len (.t 26)⟩,
        ⟨none, (some 28), .bin .neq (.t 22) (.t 27)⟩])
      (.cond (.t 28)
       (.seq
        (.reg [⟨none, (some 4), .mov (.c (.bool false))⟩])
        (.ret (m 53 16)))
       (.skip)))
     (.seq
      (.reg [⟨none, (some 6), .mov (.c (.int .i64 (0)))⟩])
      (.block 2 (m 53 35)
       (F19L0)))))
   F19T0)
def F19L1 : XC := .loop (m 53 35) F19L1b
def F19T1 : XC :=
 .seq
  (.reg [⟨none, (some 4), .mov (.c (.bool true))⟩])
  (.ret (m 53 16))
def F19B : XC :=
 .seq
  (.reg [⟨none, (some 4), .mov (.c (.bool false))⟩])
  (.seq
   (.seq
    (.reg [⟨none, (some 7), .mov (.t 0)⟩,
      ⟨none, (some 8), .len (.t 7)⟩,
      ⟨none, (some 9), .mov (.t 1)⟩,
      ⟨none, (some 10), .len (.t 9)⟩,
      ⟨none, (some 11), .bin .neq (.t 8) (.t 10)⟩])
    (.cond (.t 11)
     (.seq
      (.reg [⟨none, (some 4), .mov (.c (.bool false))⟩])
      (.ret (m 53 16)))
     (.skip)))
   (.seq
    (.seq
     (.reg [⟨none, (some 5), .mov (.c (.int .i64 (0)))⟩])
     (.block 0 (m 53 0)
      (F19L1)))
    F19T1))
def F19 : XF := ⟨2, 53, [.tmp 4], F19B⟩
def M19 : List (List Bool) := [(m 53 16), (m 53 0), (m 53 35), (m 53 0), (m 53 35), (m 53 16), (m 53 35), (m 53 99), (m 53 35), (m 53 99), (m 53 16), (m 53 16)]
def F20B : XC :=
 .seq
  (.reg [⟨none, (some 0), .mov (.c (.bool false))⟩])
  (.seq
   (.reg [⟨none, (some 13), .call 1 58 []⟩,
     ⟨none, (some 14), .call 1 27 [.t 13]⟩,
     ⟨none, (some 12), .mov (.t 14)⟩,
     ⟨none, (some 15), .ext (.t 12) 0⟩,
     ⟨none, (some 16), .ext (.t 12) 1⟩,
     ⟨none, (some 1), .mov (.t 15)⟩,
     ⟨none, (some 2), .mov (.t 16)⟩])
   (.seq
    (.reg [⟨none, (some 18), .call 1 58 []⟩,
      ⟨none, (some 19), .call 1 29 [.t 18]⟩,
      ⟨none, (some 17), .mov (.t 19)⟩,
      ⟨none, (some 20), .ext (.t 17) 0⟩,
      ⟨none, (some 21), .ext (.t 17) 1⟩,
      ⟨none, (some 3), .mov (.t 20)⟩,
      ⟨none, (some 4), .mov (.t 21)⟩])
    (.seq
     (.reg [⟨none, (some 23), .call 1 58 []⟩,
       ⟨none, (some 24), .call 1 31 [.t 23]⟩,
       ⟨none, (some 22), .mov (.t 24)⟩,
       ⟨none, (some 25), .ext (.t 22) 0⟩,
       ⟨none, (some 26), .ext (.t 22) 1⟩,
       ⟨none, (some 27), .ext (.t 22) 2⟩,
       ⟨none, (some 5), .mov (.t 25)⟩,
       ⟨none, (some 6), .mov (.t 26)⟩,
       ⟨none, (some 7), .mov (.t 27)⟩])
     (.seq
      (.reg [⟨none, (some 29), .bslice 1 6 [.int .i64 (0)] [(0, 1, .c (.int .i64 (1))), (1, 1, .c (.int .i64 (0))), (2, 1, .c (.int .i64 (3))), (3, 1, .c (.int .i64 (2))), (4, 1, .c (.int .i64 (5))), (5, 1, .c (.int .i64 (4)))]⟩,
        ⟨none, (some 30), .call 1 22 [.t 29]⟩,
        ⟨none, (some 28), .mov (.t 30)⟩,
        ⟨none, (some 31), .ext (.t 28) 0⟩,
        ⟨none, (some 32), .ext (.t 28) 1⟩,
        ⟨none, (some 8), .mov (.t 31)⟩,
        ⟨none, (some 9), .mov (.t 32)⟩])
      (.seq
       (.reg [⟨none, (some 34), .call 2 18 [.c (.int .i64 (2))]⟩,
         ⟨none, (some 33), .mov (.t 34)⟩,
         ⟨none, (some 35), .ext (.t 33) 0⟩,
         ⟨none, (some 36), .ext (.t 33) 1⟩,
         ⟨none, (some 10), .mov (.t 35)⟩,
         ⟨none, (some 11), .mov (.t 36)⟩])
       (.seq
        (.reg [⟨none, (some 37), .mov (.t 2)⟩,
          ⟨none, (some 38), .bin .eql (.t 37) (.c (.int .i64 (0)))⟩,
          ⟨none, (some 39), .mov (.t 38)⟩,
          ⟨(some (39, true)), (some 40), .mov (.t 1)⟩,
          ⟨(some (39, true)), (some 41), .bslice 1 4 [.int .i64 (0)] [(0, 1, .c (.int .i64 (0))), (1, 1, .c (.int .i64 (1))), (2, 1, .c (.int .i64 (2))), (3, 1, .c (.int .i64 (3)))]⟩,
          ⟨(some (39, true)), (some 42), .bslice 1 4 [.int .i64 (0)] [(0, 1, .c (.int .i64 (1))), (1, 1, .c (.int .i64 (2))), (2, 1, .c (.int .i64 (1))), (3, 1, .c (.int .i64 (2)))]⟩,
          ⟨(some (39, true)), (some 43), .bslice 1 4 [.int .i64 (0)] [(0, 1, .c (.int .i64 (2))), (1, 1, .c (.int .i64 (1))), (2, 1, .c (.int .i64 (2))), (3, 1, .c (.int .i64 (1)))]⟩,
          ⟨(some (39, true)), (some 44), .bslice 1 4 [.int .i64 (0)] [(0, 1, .c (.int .i64 (3))), (1, 1, .c (.int .i64 (2))), (2, 1, .c (.int .i64 (1))), (3, 1, .c (.int .i64 (0)))]⟩,
          ⟨(some (39, true)), (some 45), .bslice 1 4 [.nils] [(0, 1, .t 41), (1, 1, .t 42), (2, 1, .t 43), (3, 1, .t 44)]⟩,
          ⟨(some (39, true)), (some 46), .call 1 19 [.t 40, .t 45]⟩,
          ⟨none, (some 47), .pick (.t 39) (.t 46) (.c (.bool false))⟩,
          ⟨none, (some 48), .mov (.t 47)⟩,
          ⟨(some (48, true)), (some 49), .mov (.t 4)⟩,
          ⟨(some (48, true)), (some 50), .bin .eql (.t 49) (.c (.int .i64 (0)))⟩,
          ⟨none, (some 51), .pick (.t 48) (.t 50) (.c (.bool false))⟩,
          ⟨none, (some 52), .mov (.t 51)⟩,
          ⟨(some (52, true)), (some 53), .mov (.t 3)⟩,
          ⟨(some (52, true)), (some 54), .bslice 1 1 [.int .i64 (0)] [(0, 1, .c (.int .i64 (2)))]⟩,
          ⟨(some (52, true)), (some 55), .bslice 1 2 [.int .i64 (0)] [(0, 1, .c (.int .i64 (1))), (1, 1, .c (.int .i64 (3)))]⟩,
          ⟨(some (52, true)), (some 56), .bslice 1 3 [.int .i64 (0)] [(0, 1, .c (.int .i64 (1))), (1, 1, .c (.int .i64 (2))), (2, 1, .c (.int .i64 (3)))]⟩,
          ⟨(some (52, true)), (some 57), .bslice 1 3 [.nils] [(0, 1, .t 54), (1, 1, .t 55), (2, 1, .t 56)]⟩,
          ⟨(some (52, true)), (some 58), .call 1 19 [.t 53, .t 57]⟩,
          ⟨none, (some 59), .pick (.t 52) (.t 58) (.c (.bool false))⟩,
          ⟨none, (some 60), .mov (.t 59)⟩,
          ⟨(some (60, true)), (some 61), .mov (.t 7)⟩,
          ⟨(some (60, true)), (some 62), .bin .eql (.t 61) (.c (.int .i64 (0)))⟩,
          ⟨none, (some 63), .pick (.t 60) (.t 62) (.c (.bool false))⟩,
          ⟨none, (some 64), .mov (.t 63)⟩,
          ⟨(some (64, true)), (some 65), .mov (.t 5)⟩,
          ⟨(some (64, true)), (some 66), .bin .eql (.t 65) (.c (.int .i64 (1)))⟩,
          ⟨none, (some 67), .pick (.t 64) (.t 66) (.c (.bool false))⟩,
          ⟨none, (some 68), .mov (.t 67)⟩,
          ⟨(some (68, true)), (some 69), .mov (.t 6)⟩,
          ⟨(some (68, true)), (some 70), .bin .eql (.t 69) (.c (.int .i64 (2)))⟩,
          ⟨none, (some 71), .pick (.t 68) (.t 70) (.c (.bool false))⟩,
          ⟨none, (some 72), .mov (.t 71)⟩,
          ⟨(some (72, true)), (some 73), .mov (.t 9)⟩,
          ⟨(some (72, true)), (some 74), .bin .eql (.t 73) (.c (.int .i64 (0)))⟩,
          ⟨none, (some 75), .pick (.t 72) (.t 74) (.c (.bool false))⟩,
          ⟨none, (some 76), .mov (.t 75)⟩,
          ⟨(some (76, true)), (some 77), .mov (.t 8)⟩,
          ⟨(some (76, true)), (some 78), .bin .eql (.t 77) (.c (.int .i64 (2)))⟩,
          ⟨none, (some 79), .pick (.t 76) (.t 78) (.c (.bool false))⟩,
          ⟨none, (some 80), .mov (.t 79)⟩,
          ⟨(some (80, true)), (some 81), .mov (.t 11)⟩,
          ⟨(some (80, true)), (some 82), .bin .eql (.t 81) (.c (.int .i64 (0)))⟩,
          ⟨none, (some 83), .pick (.t 80) (.t 82) (.c (.bool false))⟩,
          ⟨none, (some 84), .mov (.t 83)⟩,
          ⟨(some (84, true)), (some 85), .mov (.t 10)⟩,
          ⟨(some (84, true)), (some 86), .len (.t 85)⟩,
          ⟨(some (84, true)), (some 87), .bin .eql (.t 86) (.c (.int .i64 (2)))⟩,
          ⟨none, (some 88), .pick (.t 84) (.t 87) (.c (.bool false))⟩,
          ⟨none, (some 89), .mov (.t 88)⟩,
          ⟨(some (89, true)), (some 90), .mov (.t 10)⟩,
          ⟨(some (89, true)), (some 91), .indexA 1 (.t 90) (.c (.int .i64 (0)))⟩,
          ⟨(some (89, true)), (some 92), .load none (.t 91)⟩,
          ⟨(some (89, true)), (some 93), .bslice 1 2 [.int .i64 (0)] [(0, 1, .c (.int .i64 (0))), (1, 1, .c (.int .i64 (1)))]⟩,
          ⟨(some (89, true)), (some 94), .bslice 1 2 [.int .i64 (0)] [(0, 1, .c (.int .i64 (1))), (1, 1, .c (.int .i64 (0)))]⟩,
          ⟨(some (89, true)), (some 95), .bslice 1 2 [.nils] [(0, 1, .t 93), (1, 1, .t 94)]⟩,
          ⟨(some (89, true)), (some 96), .call 1 19 [.t 92, .t 95]⟩,
          ⟨none, (some 97), .pick (.t 89) (.t 96) (.c (.bool false))⟩,
          ⟨none, (some 0), .mov (.t 97)⟩])
        (.ret (m 98 1))))))))
def F20 : XF := ⟨0, 98, [.tmp 0], F20B⟩
def M20 : List (List Bool) := [(m 98 1)]
def F21L0b : XC :=
 .seq
  (.seq
   (.reg [⟨none, (some 8), .mov (.t 1)⟩,
     ⟨none, (some 9), .mov (.t 0)⟩,
     ⟨none, (some 10), .len (.t 9)⟩,
     ⟨none, (some 11), .bin .lss (.t 8) (.t 10)⟩,
     ⟨none, (some 12), .mov (.t 11)⟩,
     ⟨(some (12, true)), (some 13), .mov (.t 0)⟩,
     ⟨(some (12, true)), (some 14), .mov (.t 1)⟩,
     ⟨(some (12, true)), (some 15), .indexA 1 (.t 13) (.t 14)⟩,
     ⟨(some (12, true)), (some 16), .load none (.t 15)⟩,
     ⟨(some (12, true)), (some 17), .bin .geq (.t 16) (.c (.int .i64 (0)))⟩,
     ⟨none, (some 18), .pick (.t 12) (.t 17) (.c (.bool false))⟩])
   (.cond (.t 18)
    (.skip)
    (.exit 0 (m 67 7))))
  (.block 1 (m 67 7)
   (.reg [⟨none, (some 19), .mov (.t 1)⟩,
     ⟨none, (some 20), .bin .add (.t 19) (.c (.int .i64 (1)))⟩,
     ⟨none, (some 1), .mov (.t 20)⟩]))
def F21L0 : XC := .loop (m 67 7) F21L0b
def F21L1b : XC :=
 .seq
  (.seq
   (.reg [⟨none, (some 33), .mov (.t 7)⟩,
     ⟨none, (some 34), .mov (.t 0)⟩,
     ⟨none, (some 35), .len (.t 34)⟩,
     ⟨none, (some 36), .bin .lss (.t 33) (.t 35)⟩])
   (.cond (.t 36)
    (.skip)
    (.exit 2 (m 67 4))))
  (.seq
   (.block 3 (m 67 135)
    (.seq
     (.seq
      (.reg [⟨none, (some 39), .mov (.t 0)⟩,
        ⟨none, (some 40), .mov (.t 7)⟩,
        ⟨none, (some 41), .indexA 1 (.t 39) (.t 40)⟩,
        ⟨none, (some 42), .load none (.t 41)⟩,
        ⟨none, (some 43), .bin .geq (.t 42) (.c (.int .i64 (0)))⟩])
      (.cond (.t 43)
       (.exit 3 (m 67 135))
       (.skip)))
     (.seq
      (.reg [⟨none, (some 44), .mov (.t 0)⟩,
        ⟨none, (some 45), .mov (.t 1)⟩,
        ⟨none, (some 46), .mov (.t 7)⟩,
        ⟨none, (some 47), .indexA 1 (.t 44) (.t 45)⟩,
        ⟨none, none, .store 1 (.t 47) (.t 46)⟩])
      (.seq
       (.reg [⟨none, (some 48), .mov (.t 0)⟩,
         ⟨none, (some 49), .mov (.t 7)⟩,
         ⟨none, (some 50), .mov (.t 1)⟩,
         ⟨none, (some 51), .indexA 1 (.t 48) (.t 49)⟩,
         ⟨none, none, .store 1 (.t 51) (.t 50)⟩])
       (.seq
        (.seq
         (.reg [⟨none, (some 52), .mov (.t 0)⟩,
           ⟨none, (some 53), .call 1 59 [.t 52]⟩,
           ⟨none, (some 54), .un .not (.t 53)⟩])
         (.cond (.t 54)
          (.reg [⟨none, (some 55), .mov (.t 0)⟩,
            ⟨none, (some 56), .mov (.t 1)⟩,
            ⟨none, (some 57), .bin .add (.t 56) (.c (.int .i64 (1)))⟩,
            ⟨none, (some 58), .mov (.t 2)⟩,
            ⟨none, (some 59), .call 0 21 [.t 55, .t 57, .t 58]⟩,
            ⟨none, (some 2), .mov (.t 59)⟩])
          (.skip)))
        (.seq
         (.reg [⟨none, (some 60), .mov (.t 0)⟩,
           ⟨none, (some 61), .mov (.t 1)⟩,
           ⟨none, (some 62), .indexA 1 (.t 60) (.t 61)⟩,
           ⟨none, none, .store 1 (.t 62) (.c (.int .i64 (-1)))⟩])
         (.reg [⟨none, (some 63), .mov (.t 0)⟩,
           ⟨none, (some 64), .mov (.t 7)⟩,
           ⟨none, (some 65), .indexA 1 (.t 63) (.t 64)⟩,
           ⟨none, none, .store 1 (.t 65) (.c (.int .i64 (-1)))⟩])))))))
   (.reg [⟨none, (some 37), .mov (.t 7)⟩,
     ⟨none, (some 38), .bin .add (.t 37) (.c (.int .i64 (1)))⟩,
     ⟨none, (some 7), .mov (.t 38)⟩]))
def F21L1 : XC := .loop (m 67 135) F21L1b
def F21T0 : XC :=
 .seq
  (.reg [⟨none, (some 66), .mov (.t 2)⟩,
    ⟨none, (some 6), .mov (.t 66)⟩])
  (.ret (m 67 64))
def F21T1 : XC :=
 .seq
  (.seq
   (.reg [⟨none, (some 21), .mov (.t 1)⟩,
     ⟨none, (some 22), .mov (.t 0)⟩,
     ⟨none, (some 23), .len (.t 22)⟩,
     ⟨none, (some 24), .bin .eql (.t 21) (.t 23)⟩])
   (.cond (.t 24)
    (.seq
     (.reg [⟨none, (some 25), .mov (.t 2)⟩,
       ⟨none, (some 26), .bslice 1 0 [.int .i64 (0)] []⟩,
       ⟨none, (some 27), .mov (.t 0)⟩,
       ⟨none, (some 28), .app 1 8 (.t 26) (.t 27)⟩,
       ⟨none, (some 29), .bslice 1 1 [.nils] [(0, 1, .t 28)]⟩,
       ⟨none, (some 30), .app 1 24 (.t 25) (.t 29)⟩,
       ⟨none, (some 6), .mov (.t 30)⟩])
     (.ret (m 67 64)))
    (.skip)))
  (.seq
   (.seq
    (.reg [⟨none, (some 31), .mov (.t 1)⟩,
      ⟨none, (some 32), .bin .add (.t 31) (.c (.int .i64 (1)))⟩,
      ⟨none, (some 7), .mov (.t 32)⟩])
    (.block 2 (m 67 4)
     (F21L1)))
   F21T0)
def F21B : XC :=
 .seq
  (.reg [⟨none, (some 6), .mov (.c (.nils))⟩])
  (.seq
   (.block 0 (m 67 7)
    (F21L0))
   F21T1)
def F21 : XF := ⟨3, 67, [.tmp 6], F21B⟩
def M21 : List (List Bool) := [(m 67 7), (m 67 7), (m 67 7), (m 67 7), (m 67 64), (m 67 4), (m 67 135), (m 67 4), (m 67 135), (m 67 135), (m 67 64)]
def F22L0b : XC :=
 .seq
  (.reg [⟨none, (some 26), .bin .lss (.t 25) (.t 24)⟩])
  (.seq
   (.cond (.t 26)
    (.skip)
    (.exit 0 (m 56 18)))
   (.seq
    (.block 1 (m 56 58720274)
     (.seq
      (.reg [⟨none, (some 27), .mov (.t 25)⟩,
        ⟨none, (some 28), .indexA 1 (.t 23) (.t 25)⟩,
        ⟨none, (some 29), .load none (.t 28)⟩,
        ⟨none, (some 5), .mov (.t 27)⟩,
        ⟨none, (some 6), .mov (.t 29)⟩])
      (.seq
       (.reg [⟨none, (some 30), .mov (.t 6)⟩,
         ⟨none, (some 31), .bin .lss (.t 30) (.c (.int .i64 (0)))⟩,
         ⟨none, (some 32), .mov (.t 31)⟩,
         ⟨(some (32, false)), (some 33), .mov (.t 6)⟩,
         ⟨(some (32, false)), (some 34), .load none (.t 1)⟩,
         ⟨(some (32, false)), (some 35), .len (.t 34)⟩,
         ⟨(some (32, false)), (some 36), .bin .geq (.t 33) (.t 35)⟩,
         ⟨none, (some 37), .pick (.t 32) (.c (.bool true)) (.t 36)⟩,
         ⟨none, (some 38), .mov (.t 37)⟩,
         ⟨(some (38, false)), (some 39), .mov (.t 6)⟩,
         ⟨(some (38, false)), (some 40), .mov (.t 5)⟩,
         ⟨(some (38, false)), (some 41), .bin .eql (.t 39) (.t 40)⟩,
         ⟨none, (some 42), .pick (.t 38) (.c (.bool true)) (.t 41)⟩,
         ⟨none, (some 43), .mov (.t 42)⟩,
         ⟨(some (43, false)), (some 44), .load none (.t 1)⟩,
         ⟨(some (43, false)), (some 45), .mov (.t 6)⟩,
         ⟨(some (43, false)), (some 46), .indexA 1 (.t 44) (.t 45)⟩,
         ⟨(some (43, false)), (some 47), .load none (.t 46)⟩,
         ⟨(some (43, false)), (some 48), .mov (.t 5)⟩,
         ⟨(some (43, false)), (some 49), .bin .neq (.t 47) (.t 48)⟩,
         ⟨none, (some 50), .pick (.t 43) (.c (.bool true)) (.t 49)⟩])
       (.cond (.t 50)
        (.seq
         (.reg [⟨none, (some 2), .mov (.c (.int .i64 (0)))⟩,
           ⟨none, (some 3), .mov (.c (.int .i64 (2)))⟩])
         (.ret (m 56 12)))
        (.skip)))))
    (.reg [⟨none, (some 51), .bin .add (.t 25) (.c (.int .i64 (1)))⟩,
      ⟨none, (some 25), .mov (.t 51)⟩])))
def F22L0 : XC := .loop (m 56 58720274) F22L0b
def F22T0 : XC :=
 .seq
  (.reg [⟨none, (some 7), .alloc [.int .i64 (0)]⟩,
    ⟨none, none, .store 1 (.t 7) (.c (.int .i64 (0)))⟩])
  (.seq
   (.reg [⟨none, (some 52), .mov (.t 4)⟩,
     ⟨none, (some 53), .mkf 60 [.t 1, .t 7]⟩,
     ⟨none, (some 54), .call 0 55 [.t 52, .t 53]⟩])
   (.seq
    (.reg [⟨none, (some 55), .load none (.t 7)⟩,
      ⟨none, (some 2), .mov (.t 55)⟩,
      ⟨none, (some 3), .mov (.c (.int .i64 (0)))⟩])
    (.ret (m 56 12))))
def F22B : XC :=
 .seq
  (.reg [⟨none, (some 1), .box (.t 0)⟩,
    ⟨none, (some 2), .mov (.c (.int .i64 (0)))⟩,
    ⟨none, (some 3), .mov (.c (.int .i64 (0)))⟩])
  (.seq
   (.reg [⟨none, (some 8), .load none (.t 1)⟩,
     ⟨none, (some 9), .len (.t 8)⟩,
     ⟨none, (some 10), .bin .quo (.t 9) (.c (.int .i64 (2)))⟩,
     ⟨none, (some 4), .mov (.t 10)⟩])
   (.seq
    (.seq
     (.reg [⟨none, (some 11), .load none (.t 1)⟩,
       ⟨none, (some 12), .len (.t 11)⟩,
       ⟨none, (some 13), .bin .rem (.t 12) (.c (.int .i64 (2)))⟩,
       ⟨none, (some 14), .bin .eql (.t 13) (.c (.int .i64 (1)))⟩,
       ⟨none, (some 15), .mov (.t 14)⟩,
       ⟨(some (15, false)), (some 16), .mov (.t 4)⟩,
       ⟨(some (15, false)), (some 17), .bin .lss (.t 16) (.c (.int .i64 (1)))⟩,
       ⟨none, (some 18), .pick (.t 15) (.c (.bool true)) (.t 17)⟩,
       ⟨none, (some 19), .mov (.t 18)⟩,
       ⟨(some (19, false)), (some 20), .mov (.t 4)⟩,
       ⟨(some (19, false)), (some 21), .bin .gtr (.t 20) (.c (.int .i64 (5)))⟩,
       ⟨none, (some 22), .pick (.t 19) (.c (.bool true)) (.t 21)⟩])
     (.cond (.t 22)
      (.seq
       (.reg [⟨none, (some 2), .mov (.c (.int .i64 (0)))⟩,
         ⟨none, (some 3), .mov (.c (.int .i64 (2)))⟩])
       (.ret (m 56 12)))
      (.skip)))
    (.seq
     (.seq
      (.reg [⟨none, (some 23), .load none (.t 1)⟩,
        ⟨none, (some 24), .len (.t 23)⟩,
        ⟨none, (some 25), .mov (.c (.int .i64 (0)))⟩])
      (.block 0 (m 56 18)
       (F22L0)))
     F22T0)))
def F22 : XF := ⟨1, 56, [.tmp 2, .tmp 3], F22B⟩
def M22 : List (List Bool) := [(m 56 12), (m 56 18), (m 56 58720274), (m 56 18), (m 56 58720274), (m 56 12), (m 56 12)]
def F23L0b : XC :=
 .seq
  (.seq
   (.reg [⟨none, (some 17), .mov (.t 4)⟩,
     ⟨none, (some 18), .mov (.t 0)⟩,
     ⟨none, (some 19), .mov (.t 3)⟩,
     ⟨none, (some 20), .indexA 1 (.t 18) (.t 19)⟩,
     ⟨none, (some 21), .load none (.t 20)⟩,
     ⟨none, (some 22), .len (.t 21)⟩,
     ⟨none, (some 23), .bin .lss (.t 17) (.t 22)⟩])
   (.cond (.t 23)
    (.skip)
    (.exit 2 (m 35 9))))
  (.seq
   (.block 3 (m 35 25)
    (.seq
     (.reg [⟨none, (some 26), .mov (.t 0)⟩,
       ⟨none, (some 27), .mov (.t 3)⟩,
       ⟨none, (some 28), .indexA 1 (.t 26) (.t 27)⟩,
       ⟨none, (some 29), .load none (.t 28)⟩,
       ⟨none, (some 30), .mov (.t 4)⟩,
       ⟨none, (some 31), .indexA 1 (.t 29) (.t 30)⟩,
       ⟨none, (some 32), .load none (.t 31)⟩,
       ⟨none, (some 33), .len (.t 32)⟩,
       ⟨none, (some 34), .bin .gtr (.t 33) (.c (.int .i64 (20)))⟩])
     (.cond (.t 34)
      (.seq
       (.reg [⟨none, (some 2), .mov (.c (.bool false))⟩])
       (.ret (m 35 4)))
      (.skip))))
   (.reg [⟨none, (some 24), .mov (.t 4)⟩,
     ⟨none, (some 25), .bin .add (.t 24) (.c (.int .i64 (1)))⟩,
     ⟨none, (some 4), .mov (.t 25)⟩]))
def F23L0 : XC := .loop (m 35 25) F23L0b
def F23T0 : XC :=
 .reg [⟨none, (some 9), .mov (.t 3)⟩,
   ⟨none, (some 10), .bin .add (.t 9) (.c (.int .i64 (1)))⟩,
   ⟨none, (some 3), .mov (.t 10)⟩]
def F23L1b : XC :=
 .seq
  (.seq
   (.reg [⟨none, (some 5), .mov (.t 3)⟩,
     ⟨none, (some 6), .mov (.t 0)⟩,
     ⟨none, (some 7), .len (.t 6)⟩,
     ⟨none, (some 8), .bin .lss (.t 5) (.t 7)⟩])
   (.cond (.t 8)
    (.skip)
    (.exit 0 (m 35 0))))
  (.seq
   (.block 1 (m 35 9)
    (.seq
     (.seq
      (.reg [⟨none, (some 11), .mov (.t 0)⟩,
        ⟨none, (some 12), .mov (.t 3)⟩,
        ⟨none, (some 13), .indexA 1 (.t 11) (.t 12)⟩,
        ⟨none, (some 14), .load none (.t 13)⟩,
        ⟨none, (some 15), .len (.t 14)⟩,
        ⟨none, (some 16), .bin .gtr (.t 15) (.c (.int .i64 (20)))⟩])
      (.cond (.t 16)
       (.seq
        (.reg [⟨none, (some 2), .mov (.c (.bool false))⟩])
        (.ret (m 35 4)))
       (.skip)))
     (.seq
      (.reg [⟨none, (some 4), .mov (.c (.int .i64 (0)))⟩])
      (.block 2 (m 35 9)
       (F23L0)))))
   F23T0)
def F23L1 : XC := .loop (m 35 9) F23L1b
def F23T1 : XC :=
 .seq
  (.reg [⟨none, (some 2), .mov (.c (.bool true))⟩])
  (.ret (m 35 4))
def F23B : XC :=
 .seq
  (.reg [⟨none, (some 2), .mov (.c (.bool false))⟩])
  (.seq
   (.seq
    (.reg [⟨none, (some 3), .mov (.c (.int .i64 (0)))⟩])
    (.block 0 (m 35 0)
     (F23L1)))
   F23T1)
def F23 : XF := ⟨1, 35, [.tmp 2], F23B⟩
def M23 : List (List Bool) := [(m 35 0), (m 35 9), (m 35 0), (m 35 9), (m 35 4), (m 35 9), (m 35 25), (m 35 9), (m 35 25), (m 35 4), (m 35 4)]
def F24L0b : XC :=
 .seq
  (.seq
   (.reg [⟨none, (some 6), .mov (.t 4)⟩,
     ⟨none, (some 7), .mov (.t 0)⟩,
     ⟨none, (some 8), .len (.t 7)⟩,
     ⟨none, (some 9), .bin .lss (.t 6) (.t 8)⟩])
   (.cond (.t 9)
    (.skip)
    (.exit 0 (m 23 8))))
  (.seq
   (.block 1 (m 23 25)
    (.seq
     (.reg [⟨none, (some 5), .mov (.c (.nils))⟩])
     (.seq
      (.reg [⟨none, (some 12), .mov (.t 5)⟩,
        ⟨none, (some 13), .mov (.t 0)⟩,
        ⟨none, (some 14), .mov (.t 4)⟩,
        ⟨none, (some 15), .indexA 1 (.t 13) (.t 14)⟩,
        ⟨none, (some 16), .load none (.t 15)⟩,
        ⟨none, (some 17), .app 1 8 (.t 12) (.t 16)⟩,
        ⟨none, (some 5), .mov (.t 17)⟩])
      (.reg [⟨none, (some 18), .mov (.t 3)⟩,
        ⟨none, (some 19), .mov (.t 5)⟩,
        ⟨none, (some 20), .bslice 1 1 [.nils] [(0, 1, .t 19)]⟩,
        ⟨none, (some 21), .app 1 24 (.t 18) (.t 20)⟩,
        ⟨none, (some 3), .mov (.t 21)⟩]))))
   (.reg [⟨none, (some 10), .mov (.t 4)⟩,
     ⟨none, (some 11), .bin .add (.t 10) (.c (.int .i64 (1)))⟩,
     ⟨none, (some 4), .mov (.t 11)⟩]))
def F24L0 : XC := .loop (m 23 25) F24L0b
def F24T0 : XC :=
 .seq
  (.reg [⟨none, (some 22), .mov (.t 3)⟩,
    ⟨none, (some 2), .mov (.t 22)⟩])
  (.ret (m 23 4))
def F24B : XC :=
 .seq
  (.reg [⟨none, (some 2), .mov (.c (.nils))⟩])
  (.seq
   (.reg [⟨none, (some 3), .mov (.c (.nils))⟩])
   (.seq
    (.seq
     (.reg [⟨none, (some 4), .mov (.c (.int .i64 (0)))⟩])
     (.block 0 (m 23 8)
      (F24L0)))
    F24T0))
def F24 : XF := ⟨1, 23, [.tmp 2], F24B⟩
def M24 : List (List Bool) := [(m 23 8), (m 23 25), (m 23 8), (m 23 25), (m 23 4)]
def F25B : XC :=
 .seq
  (.reg [⟨none, (some 2), .mov (.c (.bool false))⟩])
  (.seq
   (.reg [⟨none, (some 6), .mov (.t 0)⟩,
     ⟨none, (some 7), .call 0 64 [.t 6]⟩,
     ⟨none, (some 5), .mov (.t 7)⟩,
     ⟨none, (some 8), .ext (.t 5) 0⟩,
     ⟨none, (some 9), .ext (.t 5) 1⟩,
     ⟨none, (some 3), .mov (.t 8)⟩,
     ⟨none, (some 4), .mov (.t 9)⟩])
   (.seq
    (.reg [⟨none, (some 10), .mov (.t 4)⟩,
      ⟨none, (some 2), .mov (.t 10)⟩])
    (.ret (m 11 4))))
def F25 : XF := ⟨1, 11, [.tmp 2], F25B⟩
def M25 : List (List Bool) := [(m 11 4)]
def F26L0b : XC :=
 .seq
  (.seq
   (.reg [⟨none, (some 30), .mov (.t 5)⟩,
     ⟨none, (some 31), .mov (.t 3)⟩,
     ⟨none, (some 32), .bin .lss (.t 30) (.t 31)⟩])
   (.cond (.t 32)
    (.skip)
    (.exit 2 (m 101 25))))
  (.seq
   (.block 3 (m 101 57)
    (.seq
     (.reg [⟨none, (some 35), .mov (.t 0)⟩,
       ⟨none, (some 36), .mov (.t 4)⟩,
       ⟨none, (some 37), .indexA 1 (.t 35) (.t 36)⟩,
       ⟨none, (some 38), .load none (.t 37)⟩,
       ⟨none, (some 39), .mov (.t 5)⟩,
       ⟨none, (some 40), .indexA 1 (.t 38) (.t 39)⟩,
       ⟨none, (some 41), .load none (.t 40)⟩,
       ⟨none, (some 42), .bin .lss (.t 41) (.c (.int .i64 (-1)))⟩,
       ⟨none, (some 43), .mov (.t 42)⟩,
       ⟨(some (43, false)), (some 44), .mov (.t 0)⟩,
       ⟨(some (43, false)), (some 45), .mov (.t 4)⟩,
       ⟨(some (43, false)), (some 46), .indexA 1 (.t 44) (.t 45)⟩,
       ⟨(some (43, false)), (some 47), .load none (.t 46)⟩,
       ⟨(some (43, false)), (some 48), .mov (.t 5)⟩,
       ⟨(some (43, false)), (some 49), .indexA 1 (.t 47) (.t 48)⟩,
       ⟨(some (43, false)), (some 50), .load none (.t 49)⟩,
       ⟨(some (43, false)), (some 51), .bin .gtr (.t 50) (.c (.int .i64 (1)))⟩,
       ⟨none, (some 52), .pick (.t 43) (.c (.bool true)) (.t 51)⟩])
     (.cond (.t 52)
      (.seq
       (.reg [⟨none, (some 2), .mov (.c (.bool false))⟩])
       (.ret (m 101 4)))
      (.skip))))
   (.reg [⟨none, (some 33), .mov (.t 5)⟩,
     ⟨none, (some 34), .bin .add (.t 33) (.c (.int .i64 (1)))⟩,
     ⟨none, (some 5), .mov (.t 34)⟩]))
def F26L0 : XC := .loop (m 101 57) F26L0b
def F26T0 : XC :=
 .reg [⟨none, (some 21), .mov (.t 4)⟩,
   ⟨none, (some 22), .bin .add (.t 21) (.c (.int .i64 (1)))⟩,
   ⟨none, (some 4), .mov (.t 22)⟩]
def F26L1b : XC :=
 .seq
  (.seq
   (.reg [⟨none, (some 18), .mov (.t 4)⟩,
     ⟨none, (some 19), .mov (.t 3)⟩,
     ⟨none, (some 20), .bin .lss (.t 18) (.t 19)⟩])
   (.cond (.t 20)
    (.skip)
    (.exit 0 (m 101 9))))
  (.seq
   (.block 1 (m 101 25)
    (.seq
     (.seq
      (.reg [⟨none, (some 23), .mov (.t 0)⟩,
        ⟨none, (some 24), .mov (.t 4)⟩,
        ⟨none, (some 25), .indexA 1 (.t 23) (.t 24)⟩,
        ⟨none, (some 26), .load none (.t 25)⟩,
        ⟨none, (some 27), .len (.t 26)⟩,
        ⟨none, (some 28), .mov (.t 3)⟩,
        ⟨none, (some 29), .bin .neq (.t 27) (.t 28)⟩])
      (.cond (.t 29)
       (.seq
        (.reg [⟨none, (some 2), .mov (.c (.bool false))⟩])
        (.ret (m 101 4)))
       (.skip)))
     (.seq
      (.reg [⟨none, (some 5), .mov (.c (.int .i64 (0)))⟩])
      (.block 2 (m 101 25)
       (F26L0)))))
   F26T0)
def F26L1 : XC := .loop (m 101 25) F26L1b
def F26L2b : XC :=
 .seq
  (.seq
   (.reg [⟨none, (some 58), .mov (.t 9)⟩,
     ⟨none, (some 59), .mov (.t 3)⟩,
     ⟨none, (some 60), .bin .lss (.t 58) (.t 59)⟩])
   (.cond (.t 60)
    (.skip)
    (.exit 6 (m 101 457))))
  (.seq
   (.block 7 (m 101 969)
    (.seq
     (.reg [⟨none, (some 63), .mov (.t 7)⟩,
       ⟨none, (some 64), .mov (.t 0)⟩,
       ⟨none, (some 65), .mov (.t 6)⟩,
       ⟨none, (some 66), .indexA 1 (.t 64) (.t 65)⟩,
       ⟨none, (some 67), .load none (.t 66)⟩,
       ⟨none, (some 68), .mov (.t 9)⟩,
       ⟨none, (some 69), .indexA 1 (.t 67) (.t 68)⟩,
       ⟨none, (some 70), .load none (.t 69)⟩,
       ⟨none, (some 71), .bin .add (.t 63) (.t 70)⟩,
       ⟨none, (some 7), .mov (.t 71)⟩])
     (.seq
      (.reg [⟨none, (some 72), .mov (.t 8)⟩,
        ⟨none, (some 73), .mov (.t 0)⟩,
        ⟨none, (some 74), .mov (.t 9)⟩,
        ⟨none, (some 75), .indexA 1 (.t 73) (.t 74)⟩,
        ⟨none, (some 76), .load none (.t 75)⟩,
        ⟨none, (some 77), .mov (.t 6)⟩,
        ⟨none, (some 78), .indexA 1 (.t 76) (.t 77)⟩,
        ⟨none, (some 79), .load none (.t 78)⟩,
        ⟨none, (some 80), .bin .add (.t 72) (.t 79)⟩,
        ⟨none, (some 8), .mov (.t 80)⟩])
      (.seq
       (.reg [⟨none, (some 81), .mov (.t 7)⟩,
         ⟨none, (some 82), .bin .lss (.t 81) (.c (.int .i64 (0)))⟩,
         ⟨none, (some 83), .mov (.t 82)⟩,
         ⟨(some (83, false)), (some 84), .mov (.t 7)⟩,
         ⟨(some (83, false)), (some 85), .bin .gtr (.t 84) (.c (.int .i64 (1)))⟩,
         ⟨none, (some 86), .pick (.t 83) (.c (.bool true)) (.t 85)⟩,
         ⟨none, (some 87), .mov (.t 86)⟩,
         ⟨(some (87, false)), (some 88), .mov (.t 8)⟩,
         ⟨(some (87, false)), (some 89), .bin .lss (.t 88) (.c (.int .i64 (0)))⟩,
         ⟨none, (some 90), .pick (.t 87) (.c (.bool true)) (.t 89)⟩,
         ⟨none, (some 91), .mov (.t 90)⟩,
         ⟨(some (91, false)), (some 92), .mov (.t 8)⟩,
         ⟨(some (91, false)), (some 93), .bin .gtr (.t 92) (.c (.int .i64 (1)))⟩,
         ⟨none, (some 94), .pick (.t 91) (.c (.bool true)) (.t 93)⟩])
       (.cond (.t 94)
        (.seq
         (.reg [⟨none, (some 2), .mov (.c (.bool false))⟩])
         (.ret (m 101 4)))
        (.skip))))))
   (.reg [⟨none, (some 61), .mov (.t 9)⟩,
     ⟨none, (some 62), .bin .add (.t 61) (.c (.int .i64 (1)))⟩,
     ⟨none, (some 9), .mov (.t 62)⟩]))
def F26L2 : XC := .loop (m 101 969) F26L2b
def F26T1 : XC :=
 .seq
  (.reg [⟨none, (some 95), .mov (.t 7)⟩,
    ⟨none, (some 96), .bin .neq (.t 95) (.c (.int .i64 (1)))⟩,
    ⟨none, (some 97), .mov (.t 96)⟩,
    ⟨(some (97, false)), (some 98), .mov (.t 8)⟩,
    ⟨(some (97, false)), (some 99), .bin .neq (.t 98) (.c (.int .i64 (1)))⟩,
    ⟨none, (some 100), .pick (.t 97) (.c (.bool true)) (.t 99)⟩])
  (.cond (.t 100)
   (.seq
    (.reg [⟨none, (some 2), .mov (.c (.bool false))⟩])
    (.ret (m 101 4)))
   (.skip))
def F26T2 : XC :=
 .reg [⟨none, (some 56), .mov (.t 6)⟩,
   ⟨none, (some 57), .bin .add (.t 56) (.c (.int .i64 (1)))⟩,
   ⟨none, (some 6), .mov (.t 57)⟩]
def F26L3b : XC :=
 .seq
  (.seq
   (.reg [⟨none, (some 53), .mov (.t 6)⟩,
     ⟨none, (some 54), .mov (.t 3)⟩,
     ⟨none, (some 55), .bin .lss (.t 53) (.t 54)⟩])
   (.cond (.t 55)
    (.skip)
    (.exit 4 (m 101 0))))
  (.seq
   (.block 5 (m 101 73)
    (.seq
     (.reg [⟨none, (some 7), .mov (.c (.int .i64 (0)))⟩,
       ⟨none, (some 8), .mov (.c (.int .i64 (0)))⟩])
     (.seq
      (.seq
       (.reg [⟨none, (some 9), .mov (.c (.int .i64 (0)))⟩])
       (.block 6 (m 101 457)
        (F26L2)))
      F26T1)))
   F26T2)
def F26L3 : XC := .loop (m 101 73) F26L3b
def F26T3 : XC :=
 .seq
  (.reg [⟨none, (some 2), .mov (.c (.bool true))⟩])
  (.ret (m 101 4))
def F26T4 : XC :=
 .seq
  (.seq
   (.reg [⟨none, (some 6), .mov (.c (.int .i64 (0)))⟩])
   (.block 4 (m 101 0)
    (F26L3)))
  F26T3
def F26B : XC :=
 .seq
  (.reg [⟨none, (some 2), .mov (.c (.bool false))⟩])
  (.seq
   (.reg [⟨none, (some 10), .mov (.t 0)⟩,
     ⟨none, (some 11), .len (.t 10)⟩,
     ⟨none, (some 3), .mov (.t 11)⟩])
   (.seq
    (.seq
     (.reg [⟨none, (some 12), .mov (.t 3)⟩,
       ⟨none, (some 13), .bin .lss (.t 12) (.c (.int .i64 (1)))⟩,
       ⟨none, (some 14), .mov (.t 13)⟩,
       ⟨(some (14, false)), (some 15), .mov (.t 3)⟩,
       ⟨(some (14, false)), (some 16), .bin .gtr (.t 15) (.c (.int .i64 (5)))⟩,
       ⟨none, (some 17), .pick (.t 14) (.c (.bool true)) (.t 16)⟩])
     (.cond (.t 17)
      (.seq
       (.reg [⟨none, (some 2), .mov (.c (.bool false))⟩])
       (.ret (m 101 4)))
      (.skip)))
    (.seq
     (.seq
      (.reg [⟨none, (some 4), .mov (.c (.int .i64 (0)))⟩])
      (.block 0 (m 101 9)
       (F26L1)))
     F26T4)))
def F26 : XF := ⟨1, 101, [.tmp 2], F26B⟩
def M26 : List (List Bool) := [(m 101 4), (m 101 9), (m 101 25), (m 101 9), (m 101 25), (m 101 4), (m 101 25), (m 101 57), (m 101 25), (m 101 57), (m 101 4), (m 101 0), (m 101 73), (m 101 0), (m 101 73), (m 101 457), (m 101 969), (m 101 457), (m 101 969), (m 101 4), (m 101 4), (m 101 4)]
def F27B : XC :=
 .seq
  (.reg [⟨none, (some 2), .mov (.c (.nils))⟩,
    ⟨none, (some 3), .mov (.c (.int .i64 (0)))⟩])
  (.seq
   (.reg [⟨none, (some 7), .mov (.t 0)⟩,
     ⟨none, (some 8), .call 0 64 [.t 7]⟩,
     ⟨none, (some 6), .mov (.t 8)⟩,
     ⟨none, (some 9), .ext (.t 6) 0⟩,
     ⟨none, (some 10), .ext (.t 6) 1⟩,
     ⟨none, (some 4), .mov (.t 9)⟩,
     ⟨none, (some 5), .mov (.t 10)⟩])
   (.seq
    (.seq
     (.reg [⟨none, (some 11), .mov (.t 5)⟩,
       ⟨none, (some 12), .un .not (.t 11)⟩])
     (.cond (.t 12)
      (.seq
       (.reg [⟨none, (some 2), .mov (.c (.nils))⟩,
         ⟨none, (some 3), .mov (.c (.int .i64 (2)))⟩])
       (.ret (m 16 12)))
      (.skip)))
    (.seq
     (.reg [⟨none, (some 13), .mov (.t 4)⟩,
       ⟨none, (some 14), .mki 56 (.t 13)⟩,
       ⟨none, (some 15), .call 2 62 [.t 14]⟩,
       ⟨none, (some 2), .mov (.t 15)⟩,
       ⟨none, (some 3), .mov (.c (.int .i64 (0)))⟩])
     (.ret (m 16 12)))))
def F27 : XF := ⟨1, 16, [.tmp 2, .tmp 3], F27B⟩
def M27 : List (List Bool) := [(m 16 12), (m 16 12)]
def F28B : XC :=
 .seq
  (.reg [⟨none, (some 2), .mov (.c (.nils))⟩,
    ⟨none, (some 3), .mov (.c (.int .i64 (0)))⟩])
  (.seq
   (.seq
    (.reg [⟨none, (some 4), .mov (.t 0)⟩,
      ⟨none, (some 5), .call 1 26 [.t 4]⟩,
      ⟨none, (some 6), .un .not (.t 5)⟩])
    (.cond (.t 6)
     (.seq
      (.reg [⟨none, (some 2), .mov (.c (.nils))⟩,
        ⟨none, (some 3), .mov (.c (.int .i64 (2)))⟩])
      (.ret (m 9 12)))
     (.skip)))
   (.seq
    (.reg [⟨none, (some 7), .mov (.t 0)⟩,
      ⟨none, (some 8), .call 2 65 [.t 7]⟩,
      ⟨none, (some 2), .mov (.t 8)⟩,
      ⟨none, (some 3), .mov (.c (.int .i64 (0)))⟩])
    (.ret (m 9 12))))
def F28 : XF := ⟨1, 9, [.tmp 2, .tmp 3], F28B⟩
def M28 : List (List Bool) := [(m 9 12), (m 9 12)]
def F29L0b : XC :=
 .seq
  (.reg [⟨none, (some 25), .bin .lss (.t 24) (.t 23)⟩])
  (.seq
   (.cond (.t 25)
    (.skip)
    (.exit 2 (m 51 786768)))
   (.seq
    (.block 3 (m 51 25952720)
     (.seq
      (.reg [⟨none, (some 26), .mov (.t 24)⟩,
        ⟨none, (some 9), .mov (.t 26)⟩])
      (.seq
       (.reg [⟨none, (some 27), .mov (.t 4)⟩,
         ⟨none, (some 28), .mov (.t 7)⟩,
         ⟨none, (some 29), .bin .add (.t 28) (.c (.int .i64 (1)))⟩,
         ⟨none, (some 30), .mov (.t 9)⟩,
         ⟨none, (some 31), .bin .add (.t 30) (.c (.int .i64 (1)))⟩,
         ⟨none, (some 32), .call 1 66 [.t 27, .t 29, .t 31]⟩,
         ⟨none, (some 33), .mov (.t 4)⟩,
         ⟨none, (some 34), .mov (.t 7)⟩,
         ⟨none, (some 35), .bin .add (.t 34) (.c (.int .i64 (1)))⟩,
         ⟨none, (some 36), .mov (.t 9)⟩,
         ⟨none, (some 37), .call 1 66 [.t 33, .t 35, .t 36]⟩,
         ⟨none, (some 38), .bin .gtr (.t 32) (.t 37)⟩])
       (.cond (.t 38)
        (.reg [⟨none, (some 39), .mov (.t 8)⟩,
          ⟨none, (some 40), .mov (.t 9)⟩,
          ⟨none, (some 41), .bin .add (.t 40) (.c (.int .i64 (1)))⟩,
          ⟨none, (some 42), .bslice 1 1 [.int .i64 (0)] [(0, 1, .t 41)]⟩,
          ⟨none, (some 43), .app 1 8 (.t 39) (.t 42)⟩,
          ⟨none, (some 8), .mov (.t 43)⟩])
        (.skip)))))
    (.reg [⟨none, (some 44), .bin .add (.t 24) (.c (.int .i64 (1)))⟩,
      ⟨none, (some 24), .mov (.t 44)⟩])))
def F29L0 : XC := .loop (m 51 25952720) F29L0b
def F29T0 : XC :=
 .reg [⟨none, (some 45), .mov (.t 6)⟩,
   ⟨none, (some 46), .mov (.t 8)⟩,
   ⟨none, (some 47), .bslice 1 1 [.nils] [(0, 1, .t 46)]⟩,
   ⟨none, (some 48), .app 1 24 (.t 45) (.t 47)⟩,
   ⟨none, (some 6), .mov (.t 48)⟩]
def F29T1 : XC :=
 .reg [⟨none, (some 49), .bin .add (.t 19) (.c (.int .i64 (1)))⟩,
   ⟨none, (some 19), .mov (.t 49)⟩]
def F29L1b : XC :=
 .seq
  (.reg [⟨none, (some 20), .bin .lss (.t 19) (.t 18)⟩])
  (.seq
   (.cond (.t 20)
    (.skip)
    (.exit 0 (m 51 64)))
   (.seq
    (.block 1 (m 51 786512)
     (.seq
      (.reg [⟨none, (some 21), .mov (.t 19)⟩,
        ⟨none, (some 7), .mov (.t 21)⟩])
      (.seq
       (.reg [⟨none, (some 8), .mov (.c (.nils))⟩])
       (.seq
        (.seq
         (.reg [⟨none, (some 22), .mov (.t 4)⟩,
           ⟨none, (some 23), .len (.t 22)⟩,
           ⟨none, (some 24), .mov (.c (.int .i64 (0)))⟩])
         (.block 2 (m 51 786768)
          (F29L0)))
        F29T0))))
    F29T1))
def F29L1 : XC := .loop (m 51 786512) F29L1b
def F29T2 : XC :=
 .seq
  (.reg [⟨none, (some 50), .mov (.t 6)⟩,
    ⟨none, (some 2), .mov (.t 50)⟩,
    ⟨none, (some 3), .mov (.c (.int .i64 (0)))⟩])
  (.ret (m 51 12))
def F29B : XC :=
 .seq
  (.reg [⟨none, (some 2), .mov (.c (.nils))⟩,
    ⟨none, (some 3), .mov (.c (.int .i64 (0)))⟩])
  (.seq
   (.reg [⟨none, (some 11), .mov (.t 0)⟩,
     ⟨none, (some 12), .call 0 64 [.t 11]⟩,
     ⟨none, (some 10), .mov (.t 12)⟩,
     ⟨none, (some 13), .ext (.t 10) 0⟩,
     ⟨none, (some 14), .ext (.t 10) 1⟩,
     ⟨none, (some 4), .mov (.t 13)⟩,
     ⟨none, (some 5), .mov (.t 14)⟩])
   (.seq
    (.seq
     (.reg [⟨none, (some 15), .mov (.t 5)⟩,
       ⟨none, (some 16), .un .not (.t 15)⟩])
     (.cond (.t 16)
      (.seq
       (.reg [⟨none, (some 2), .mov (.c (.nils))⟩,
         ⟨none, (some 3), .mov (.c (.int .i64 (2)))⟩])
       (.ret (m 51 12)))
      (.skip)))
    (.seq
     (.reg [⟨none, (some 6), .mov (.c (.nils))⟩])
     (.seq
      (.seq
       (.reg [⟨none, (some 17), .mov (.t 4)⟩,
         ⟨none, (some 18), .len (.t 17)⟩,
         ⟨none, (some 19), .mov (.c (.int .i64 (0)))⟩])
       (.block 0 (m 51 64)
        (F29L1)))
      F29T2))))
def F29 : XF := ⟨1, 51, [.tmp 2, .tmp 3], F29B⟩
def M29 : List (List Bool) := [(m 51 12), (m 51 64), (m 51 786512), (m 51 64), (m 51 786512), (m 51 786768), (m 51 25952720), (m 51 786768), (m 51 25952720), (m 51 12)]
def F30B : XC :=
 .seq
  (.reg [⟨none, (some 2), .mov (.c (.nils))⟩,
    ⟨none, (some 3), .mov (.c (.int .i64 (0)))⟩])
  (.seq
   (.seq
    (.reg [⟨none, (some 4), .mov (.t 0)⟩,
      ⟨none, (some 5), .call 1 26 [.t 4]⟩,
      ⟨none, (some 6), .un .not (.t 5)⟩])
    (.cond (.t 6)
     (.seq
      (.reg [⟨none, (some 2), .mov (.c (.nils))⟩,
        ⟨none, (some 3), .mov (.c (.int .i64 (2)))⟩])
      (.ret (m 9 12)))
     (.skip)))
   (.seq
    (.reg [⟨none, (some 7), .mov (.t 0)⟩,
      ⟨none, (some 8), .call 1 67 [.t 7]⟩,
      ⟨none, (some 2), .mov (.t 8)⟩,
      ⟨none, (some 3), .mov (.c (.int .i64 (0)))⟩])
    (.ret (m 9 12))))
def F30 : XF := ⟨1, 9, [.tmp 2, .tmp 3], F30B⟩
def M30 : List (List Bool) := [(m 9 12), (m 9 12)]
def F31L0b : XC :=
 .seq
  (.reg [⟨none, (some 30), .bin .lss (.t 29) (.t 28)⟩])
  (.seq
   (.cond (.t 30)
    (.skip)
    (.exit 2 (m 57 7340448)))
   (.seq
    (.block 3 (m 57 946865056)
     (.seq
      (.reg [⟨none, (some 31), .mov (.t 29)⟩,
        ⟨none, (some 32), .indexA 1 (.t 27) (.t 29)⟩,
        ⟨none, (some 33), .load none (.t 32)⟩,
        ⟨none, (some 11), .mov (.t 31)⟩,
        ⟨none, (some 12), .mov (.t 33)⟩])
      (.seq
       (.seq
        (.reg [⟨none, (some 34), .mov (.t 12)⟩,
          ⟨none, (some 35), .bin .lss (.t 34) (.c (.int .i64 (0)))⟩])
        (.cond (.t 35)
         (.reg [⟨none, (some 36), .mov (.t 7)⟩,
           ⟨none, (some 37), .bin .add (.t 36) (.c (.int .i64 (1)))⟩,
           ⟨none, (some 7), .mov (.t 37)⟩])
         (.skip)))
       (.reg [⟨none, (some 38), .mov (.t 8)⟩,
         ⟨none, (some 39), .mov (.t 12)⟩,
         ⟨none, (some 40), .mov (.t 5)⟩,
         ⟨none, (some 41), .mov (.t 5)⟩,
         ⟨none, (some 42), .len (.t 41)⟩,
         ⟨none, (some 43), .mov (.t 11)⟩,
         ⟨none, (some 44), .call 1 66 [.t 40, .t 42, .t 43]⟩,
         ⟨none, (some 45), .mov (.t 5)⟩,
         ⟨none, (some 46), .mov (.t 9)⟩,
         ⟨none, (some 47), .bin .add (.t 46) (.c (.int .i64 (1)))⟩,
         ⟨none, (some 48), .mov (.t 11)⟩,
         ⟨none, (some 49), .call 1 66 [.t 45, .t 47, .t 48]⟩,
         ⟨none, (some 50), .bin .sub (.t 44) (.t 49)⟩,
         ⟨none, (some 51), .bin .mul (.t 39) (.t 50)⟩,
         ⟨none, (some 52), .bin .add (.t 38) (.t 51)⟩,
         ⟨none, (some 8), .mov (.t 52)⟩]))))
    (.reg [⟨none, (some 53), .bin .add (.t 29) (.c (.int .i64 (1)))⟩,
      ⟨none, (some 29), .mov (.t 53)⟩])))
def F31L0 : XC := .loop (m 57 946865056) F31L0b
def F31T0 : XC :=
 .reg [⟨none, (some 54), .bin .add (.t 22) (.c (.int .i64 (1)))⟩,
   ⟨none, (some 22), .mov (.t 54)⟩]
def F31L1b : XC :=
 .seq
  (.reg [⟨none, (some 23), .bin .lss (.t 22) (.t 21)⟩])
  (.seq
   (.cond (.t 23)
    (.skip)
    (.exit 0 (m 57 384)))
   (.seq
    (.block 1 (m 57 7340448)
     (.seq
      (.reg [⟨none, (some 24), .mov (.t 22)⟩,
        ⟨none, (some 25), .indexA 1 (.t 20) (.t 22)⟩,
        ⟨none, (some 26), .load none (.t 25)⟩,
        ⟨none, (some 9), .mov (.t 24)⟩,
        ⟨none, (some 10), .mov (.t 26)⟩])
      (.seq
       (.reg [⟨none, (some 27), .mov (.t 10)⟩,
         ⟨none, (some 28), .len (.t 27)⟩,
         ⟨none, (some 29), .mov (.c (.int .i64 (0)))⟩])
       (.block 2 (m 57 7340448)
        (F31L0)))))
    F31T0))
def F31L1 : XC := .loop (m 57 7340448) F31L1b
def F31T1 : XC :=
 .seq
  (.reg [⟨none, (some 55), .mov (.t 7)⟩,
    ⟨none, (some 56), .mov (.t 8)⟩,
    ⟨none, (some 2), .mov (.t 55)⟩,
    ⟨none, (some 3), .mov (.t 56)⟩,
    ⟨none, (some 4), .mov (.c (.int .i64 (0)))⟩])
  (.ret (m 57 28))
def F31B : XC :=
 .seq
  (.reg [⟨none, (some 2), .mov (.c (.int .i64 (0)))⟩,
    ⟨none, (some 3), .mov (.c (.int .i64 (0)))⟩,
    ⟨none, (some 4), .mov (.c (.int .i64 (0)))⟩])
  (.seq
   (.reg [⟨none, (some 14), .mov (.t 0)⟩,
     ⟨none, (some 15), .call 0 64 [.t 14]⟩,
     ⟨none, (some 13), .mov (.t 15)⟩,
     ⟨none, (some 16), .ext (.t 13) 0⟩,
     ⟨none, (some 17), .ext (.t 13) 1⟩,
     ⟨none, (some 5), .mov (.t 16)⟩,
     ⟨none, (some 6), .mov (.t 17)⟩])
   (.seq
    (.seq
     (.reg [⟨none, (some 18), .mov (.t 6)⟩,
       ⟨none, (some 19), .un .not (.t 18)⟩])
     (.cond (.t 19)
      (.seq
       (.reg [⟨none, (some 2), .mov (.c (.int .i64 (0)))⟩,
         ⟨none, (some 3), .mov (.c (.int .i64 (0)))⟩,
         ⟨none, (some 4), .mov (.c (.int .i64 (2)))⟩])
       (.ret (m 57 28)))
      (.skip)))
    (.seq
     (.reg [⟨none, (some 7), .mov (.c (.int .i64 (0)))⟩,
       ⟨none, (some 8), .mov (.c (.int .i64 (0)))⟩])
     (.seq
      (.seq
       (.reg [⟨none, (some 20), .mov (.t 5)⟩,
         ⟨none, (some 21), .len (.t 20)⟩,
         ⟨none, (some 22), .mov (.c (.int .i64 (0)))⟩])
       (.block 0 (m 57 384)
        (F31L1)))
      F31T1))))
def F31 : XF := ⟨1, 57, [.tmp 2, .tmp 3, .tmp 4], F31B⟩
def M31 : List (List Bool) := [(m 57 28), (m 57 384), (m 57 7340448), (m 57 384), (m 57 7340448), (m 57 7340448), (m 57 946865056), (m 57 7340448), (m 57 946865056), (m 57 28)]
def F32L0b : XC :=
 .seq
  (.seq
   (.reg [⟨none, (some 44), .mov (.t 10)⟩,
     ⟨none, (some 45), .mov (.t 8)⟩,
     ⟨none, (some 46), .bin .lss (.t 44) (.t 45)⟩])
   (.cond (.t 46)
    (.skip)
    (.exit 6 (m 68 993))))
  (.seq
   (.block 7 (m 68 2017)
    (.reg [⟨none, (some 49), .mov (.t 6)⟩,
      ⟨none, (some 50), .mov (.t 0)⟩,
      ⟨none, (some 51), .mov (.t 7)⟩,
      ⟨none, (some 52), .indexA 1 (.t 50) (.t 51)⟩,
      ⟨none, (some 53), .load none (.t 52)⟩,
      ⟨none, (some 54), .mov (.t 8)⟩,
      ⟨none, (some 55), .indexA 1 (.t 53) (.t 54)⟩,
      ⟨none, (some 56), .load none (.t 55)⟩,
      ⟨none, (some 57), .mov (.t 0)⟩,
      ⟨none, (some 58), .mov (.t 9)⟩,
      ⟨none, (some 59), .indexA 1 (.t 57) (.t 58)⟩,
      ⟨none, (some 60), .load none (.t 59)⟩,
      ⟨none, (some 61), .mov (.t 10)⟩,
      ⟨none, (some 62), .indexA 1 (.t 60) (.t 61)⟩,
      ⟨none, (some 63), .load none (.t 62)⟩,
      ⟨none, (some 64), .bin .mul (.t 56) (.t 63)⟩,
      ⟨none, (some 65), .bin .add (.t 49) (.t 64)⟩,
      ⟨none, (some 6), .mov (.t 65)⟩]))
   (.reg [⟨none, (some 47), .mov (.t 10)⟩,
     ⟨none, (some 48), .bin .add (.t 47) (.c (.int .i64 (1)))⟩,
     ⟨none, (some 10), .mov (.t 48)⟩]))
def F32L0 : XC := .loop (m 68 2017) F32L0b
def F32T0 : XC :=
 .reg [⟨none, (some 42), .mov (.t 9)⟩,
   ⟨none, (some 43), .bin .add (.t 42) (.c (.int .i64 (1)))⟩,
   ⟨none, (some 9), .mov (.t 43)⟩]
def F32L1b : XC :=
 .seq
  (.seq
   (.reg [⟨none, (some 38), .mov (.t 9)⟩,
     ⟨none, (some 39), .mov (.t 0)⟩,
     ⟨none, (some 40), .len (.t 39)⟩,
     ⟨none, (some 41), .bin .lss (.t 38) (.t 40)⟩])
   (.cond (.t 41)
    (.skip)
    (.exit 4 (m 68 481))))
  (.seq
   (.block 5 (m 68 993)
    (.seq
     (.reg [⟨none, (some 10), .mov (.c (.int .i64 (0)))⟩])
     (.block 6 (m 68 993)
      (F32L0))))
   F32T0)
def F32L1 : XC := .loop (m 68 993) F32L1b
def F32T1 : XC :=
 .reg [⟨none, (some 24), .mov (.t 8)⟩,
   ⟨none, (some 25), .bin .add (.t 24) (.c (.int .i64 (1)))⟩,
   ⟨none, (some 8), .mov (.t 25)⟩]
def F32L2b : XC :=
 .seq
  (.seq
   (.reg [⟨none, (some 20), .mov (.t 8)⟩,
     ⟨none, (some 21), .mov (.t 0)⟩,
     ⟨none, (some 22), .len (.t 21)⟩,
     ⟨none, (some 23), .bin .lss (.t 20) (.t 22)⟩])
   (.cond (.t 23)
    (.skip)
    (.exit 2 (m 68 225))))
  (.seq
   (.block 3 (m 68 481)
    (.seq
     (.seq
      (.reg [⟨none, (some 26), .mov (.t 0)⟩,
        ⟨none, (some 27), .mov (.t 7)⟩,
        ⟨none, (some 28), .indexA 1 (.t 26) (.t 27)⟩,
        ⟨none, (some 29), .load none (.t 28)⟩,
        ⟨none, (some 30), .mov (.t 8)⟩,
        ⟨none, (some 31), .indexA 1 (.t 29) (.t 30)⟩,
        ⟨none, (some 32), .load none (.t 31)⟩,
        ⟨none, (some 33), .bin .eql (.t 32) (.c (.int .i64 (-1)))⟩])
      (.cond (.t 33)
       (.reg [⟨none, (some 34), .mov (.t 5)⟩,
         ⟨none, (some 35), .bin .add (.t 34) (.c (.int .i64 (1)))⟩,
         ⟨none, (some 5), .mov (.t 35)⟩])
       (.skip)))
     (.seq
      (.reg [⟨none, (some 36), .mov (.t 7)⟩,
        ⟨none, (some 37), .bin .add (.t 36) (.c (.int .i64 (1)))⟩,
        ⟨none, (some 9), .mov (.t 37)⟩])
      (.block 4 (m 68 481)
       (F32L1)))))
   F32T1)
def F32L2 : XC := .loop (m 68 481) F32L2b
def F32T2 : XC :=
 .reg [⟨none, (some 18), .mov (.t 7)⟩,
   ⟨none, (some 19), .bin .add (.t 18) (.c (.int .i64 (1)))⟩,
   ⟨none, (some 7), .mov (.t 19)⟩]
def F32L3b : XC :=
 .seq
  (.seq
   (.reg [⟨none, (some 14), .mov (.t 7)⟩,
     ⟨none, (some 15), .mov (.t 0)⟩,
     ⟨none, (some 16), .len (.t 15)⟩,
     ⟨none, (some 17), .bin .lss (.t 14) (.t 16)⟩])
   (.cond (.t 17)
    (.skip)
    (.exit 0 (m 68 96))))
  (.seq
   (.block 1 (m 68 225)
    (.seq
     (.reg [⟨none, (some 8), .mov (.c (.int .i64 (0)))⟩])
     (.block 2 (m 68 225)
      (F32L2))))
   F32T2)
def F32L3 : XC := .loop (m 68 225) F32L3b
def F32T3 : XC :=
 .seq
  (.reg [⟨none, (some 66), .mov (.t 5)⟩,
    ⟨none, (some 67), .mov (.t 6)⟩,
    ⟨none, (some 2), .mov (.t 66)⟩,
    ⟨none, (some 3), .mov (.t 67)⟩,
    ⟨none, (some 4), .mov (.c (.int .i64 (0)))⟩])
  (.ret (m 68 28))
def F32B : XC :=
 .seq
  (.reg [⟨none, (some 2), .mov (.c (.int .i64 (0)))⟩,
    ⟨none, (some 3), .mov (.c (.int .i64 (0)))⟩,
    ⟨none, (some 4), .mov (.c (.int .i64 (0)))⟩])
  (.seq
   (.seq
    (.reg [⟨none, (some 11), .mov (.t 0)⟩,
      ⟨none, (some 12), .call 1 26 [.t 11]⟩,
      ⟨none, (some 13), .un .not (.t 12)⟩])
    (.cond (.t 13)
     (.seq
      (.reg [⟨none, (some 2), .mov (.c (.int .i64 (0)))⟩,
        ⟨none, (some 3), .mov (.c (.int .i64 (0)))⟩,
        ⟨none, (some 4), .mov (.c (.int .i64 (2)))⟩])
      (.ret (m 68 28)))
     (.skip)))
   (.seq
    (.reg [⟨none, (some 5), .mov (.c (.int .i64 (0)))⟩,
      ⟨none, (some 6), .mov (.c (.int .i64 (0)))⟩])
    (.seq
     (.seq
      (.reg [⟨none, (some 7), .mov (.c (.int .i64 (0)))⟩])
      (.block 0 (m 68 96)
       (F32L3)))
     F32T3)))
def F32 : XF := ⟨1, 68, [.tmp 2, .tmp 3, .tmp 4], F32B⟩
def M32 : List (List Bool) := [(m 68 28), (m 68 96), (m 68 225), (m 68 96), (m 68 225), (m 68 225), (m 68 481), (m 68 225), (m 68 481), (m 68 481), (m 68 993), (m 68 481), (m 68 993), (m 68 993), (m 68 2017), (m 68 993), (m 68 2017), (m 68 28)]
def F33L0b : XC :=
 .seq
  (.seq
   (.reg [⟨none, (some 13), .mov (.t 6)⟩,
     ⟨none, (some 14), .mov (.t 0)⟩,
     ⟨none, (some 15), .len (.t 14)⟩,
     ⟨none, (some 16), .bin .lss (.t 13) (.t 15)⟩])
   (.cond (.t 16)
    (.skip)
    (.exit 2 (m 49 35))))
  (.seq
   (.block 3 (m 49 99)
    (.seq
     (.reg [⟨none, (some 19), .mov (.t 0)⟩,
       ⟨none, (some 20), .mov (.t 5)⟩,
       ⟨none, (some 21), .indexA 1 (.t 19) (.t 20)⟩,
       ⟨none, (some 22), .load none (.t 21)⟩,
       ⟨none, (some 23), .mov (.t 6)⟩,
       ⟨none, (some 24), .indexA 1 (.t 22) (.t 23)⟩,
       ⟨none, (some 25), .load none (.t 24)⟩,
       ⟨none, (some 26), .mov (.t 1)⟩,
       ⟨none, (some 27), .mov (.t 5)⟩,
       ⟨none, (some 28), .indexA 1 (.t 26) (.t 27)⟩,
       ⟨none, (some 29), .load none (.t 28)⟩,
       ⟨none, (some 30), .mov (.t 6)⟩,
       ⟨none, (some 31), .indexA 1 (.t 29) (.t 30)⟩,
       ⟨none, (some 32), .load none (.t 31)⟩,
       ⟨none, (some 33), .bin .neq (.t 25) (.t 32)⟩])
     (.cond (.t 33)
      (.seq
       (.reg [⟨none, (some 34), .mov (.t 0)⟩,
         ⟨none, (some 35), .mov (.t 5)⟩,
         ⟨none, (some 36), .indexA 1 (.t 34) (.t 35)⟩,
         ⟨none, (some 37), .load none (.t 36)⟩,
         ⟨none, (some 38), .mov (.t 6)⟩,
         ⟨none, (some 39), .indexA 1 (.t 37) (.t 38)⟩,
         ⟨none, (some 40), .load none (.t 39)⟩,
         ⟨none, (some 41), .mov (.t 1)⟩,
         ⟨none, (some 42), .mov (.t 5)⟩,
         ⟨none, (some 43), .indexA 1 (.t 41) (.t 42)⟩,
         ⟨none, (some 44), .load none (.t 43)⟩,
         ⟨none, (some 45), .mov (.t 6)⟩,
         ⟨none, (some 46), .indexA 1 (.t 44) (.t 45)⟩,
         ⟨none, (some 47), .load none (.t 46)⟩,
         ⟨none, (some 48), .bin .lss (.t 40) (.t 47)⟩,
         ⟨none, (some 4), .mov (.t 48)⟩])
       (.ret (m 49 16)))
      (.skip))))
   (.reg [⟨none, (some 17), .mov (.t 6)⟩,
     ⟨none, (some 18), .bin .add (.t 17) (.c (.int .i64 (1)))⟩,
     ⟨none, (some 6), .mov (.t 18)⟩]))
def F33L0 : XC := .loop (m 49 99) F33L0b
def F33T0 : XC :=
 .reg [⟨none, (some 11), .mov (.t 5)⟩,
   ⟨none, (some 12), .bin .add (.t 11) (.c (.int .i64 (1)))⟩,
   ⟨none, (some 5), .mov (.t 12)⟩]
def F33L1b : XC :=
 .seq
  (.seq
   (.reg [⟨none, (some 7), .mov (.t 5)⟩,
     ⟨none, (some 8), .mov (.t 0)⟩,
     ⟨none, (some 9), .len (.t 8)⟩,
     ⟨none, (some 10), .bin .lss (.t 7) (.t 9)⟩])
   (.cond (.t 10)
    (.skip)
    (.exit 0 (m 49 0))))
  (.seq
   (.block 1 (m 49 35)
    (.seq
     (.reg [⟨none, (some 6), .mov (.c (.int .i64 (0)))⟩])
     (.block 2 (m 49 35)
      (F33L0))))
   F33T0)
def F33L1 : XC := .loop (m 49 35) F33L1b
def F33T1 : XC :=
 .seq
  (.reg [⟨none, (some 4), .mov (.c (.bool false))⟩])
  (.ret (m 49 16))
def F33B : XC :=
 .seq
  (.reg [⟨none, (some 4), .mov (.c (.bool false))⟩])
  (.seq
   (.seq
    (.reg [⟨none, (some 5), .mov (.c (.int .i64 (0)))⟩])
    (.block 0 (m 49 0)
     (F33L1)))
   F33T1)
def F33 : XF := ⟨2, 49, [.tmp 4], F33B⟩
def M33 : List (List Bool) := [(m 49 0), (m 49 35), (m 49 0), (m 49 35), (m 49 35), (m 49 99), (m 49 35), (m 49 99), (m 49 16), (m 49 16)]
def F34B : XC :=
 .seq
  (.reg [⟨none, (some 2), .mov (.c (.nils))⟩,
    ⟨none, (some 3), .mov (.c (.int .i64 (0)))⟩])
  (.seq
   (.reg [⟨none, (some 7), .mov (.t 0)⟩,
     ⟨none, (some 8), .call 0 64 [.t 7]⟩,
     ⟨none, (some 6), .mov (.t 8)⟩,
     ⟨none, (some 9), .ext (.t 6) 0⟩,
     ⟨none, (some 10), .ext (.t 6) 1⟩,
     ⟨none, (some 4), .mov (.t 9)⟩,
     ⟨none, (some 5), .mov (.t 10)⟩])
   (.seq
    (.seq
     (.reg [⟨none, (some 11), .mov (.t 5)⟩,
       ⟨none, (some 12), .un .not (.t 11)⟩])
     (.cond (.t 12)
      (.seq
       (.reg [⟨none, (some 2), .mov (.c (.nils))⟩,
         ⟨none, (some 3), .mov (.c (.int .i64 (2)))⟩])
       (.ret (m 17 12)))
      (.skip)))
    (.seq
     (.reg [⟨none, (some 13), .mov (.t 4)⟩,
       ⟨none, (some 14), .mki 56 (.t 13)⟩,
       ⟨none, (some 15), .call 2 62 [.t 14]⟩,
       ⟨none, (some 16), .call 1 63 [.t 15]⟩,
       ⟨none, (some 2), .mov (.t 16)⟩,
       ⟨none, (some 3), .mov (.c (.int .i64 (0)))⟩])
     (.ret (m 17 12)))))
def F34 : XF := ⟨1, 17, [.tmp 2, .tmp 3], F34B⟩
def M34 : List (List Bool) := [(m 17 12), (m 17 12)]
def F35B : XC :=
 .seq
  (.reg [⟨none, (some 2), .mov (.c (.nils))⟩,
    ⟨none, (some 3), .mov (.c (.int .i64 (0)))⟩])
  (.seq
   (.seq
    (.reg [⟨none, (some 4), .mov (.t 0)⟩,
      ⟨none, (some 5), .call 1 26 [.t 4]⟩,
      ⟨none, (some 6), .un .not (.t 5)⟩])
    (.cond (.t 6)
     (.seq
      (.reg [⟨none, (some 2), .mov (.c (.nils))⟩,
        ⟨none, (some 3), .mov (.c (.int .i64 (2)))⟩])
      (.ret (m 9 12)))
     (.skip)))
   (.seq
    (.reg [⟨none, (some 7), .mov (.t 0)⟩,
      ⟨none, (some 8), .call 1 68 [.t 7]⟩,
      ⟨none, (some 2), .mov (.t 8)⟩,
      ⟨none, (some 3), .mov (.c (.int .i64 (0)))⟩])
    (.ret (m 9 12))))
def F35 : XF := ⟨1, 9, [.tmp 2, .tmp 3], F35B⟩
def M35 : List (List Bool) := [(m 9 12), (m 9 12)]
def F36L0b : XC :=
 .seq
  (.seq
   (.reg [⟨none, (some 11), .mov (.t 5)⟩,
     ⟨none, (some 12), .mov (.t 0)⟩,
     ⟨none, (some 13), .len (.t 12)⟩,
     ⟨none, (some 14), .bin .lss (.t 11) (.t 13)⟩])
   (.cond (.t 14)
    (.skip)
    (.exit 0 (m 26 0))))
  (.seq
   (.block 1 (m 26 35)
    (.seq
     (.reg [⟨none, (some 17), .mov (.t 0)⟩,
       ⟨none, (some 18), .mov (.t 5)⟩,
       ⟨none, (some 19), .indexA 1 (.t 17) (.t 18)⟩,
       ⟨none, (some 20), .load none (.t 19)⟩,
       ⟨none, (some 21), .mov (.t 1)⟩,
       ⟨none, (some 22), .mov (.t 5)⟩,
       ⟨none, (some 23), .indexA 1 (.t 21) (.t 22)⟩,
       ⟨none, (some 24), .load none (.t 23)⟩,
       ⟨none, (some 25), .bin .neq (.t 20) (.t 24)⟩])
     (.cond (.t 25)
      (.seq
       (.reg [⟨none, (some 4), .mov (.c (.bool false))⟩])
       (.ret (m 26 16)))
      (.skip))))
   (.reg [⟨none, (some 15), .mov (.t 5)⟩,
     ⟨none, (some 16), .bin .add (.t 15) (.c (.int .i64 (1)))⟩,
     ⟨none, (some 5), .mov (.t 16)⟩]))
def F36L0 : XC := .loop (m 26 35) F36L0b
def F36T0 : XC :=
 .seq
  (.reg [⟨none, (some 4), .mov (.c (.bool true))⟩])
  (.ret (m 26 16))
def F36B : XC :=
 .seq
  (.reg [⟨none, (some 4), .mov (.c (.bool false))⟩])
  (.seq
   (.seq
    (.reg [⟨none, (some 6), .mov (.t 0)⟩,
      ⟨none, (some 7), .len (.t 6)⟩,
      ⟨none, (some 8), .mov (.t 1)⟩,
      ⟨none, (some 9), .len (.t 8)⟩,
      ⟨none, (some 10), .bin .neq (.t 7) (.t 9)⟩])
    (.cond (.t 10)
     (.seq
      (.reg [⟨none, (some 4), .mov (.c (.bool false))⟩])
      (.ret (m 26 16)))
     (.skip)))
   (.seq
    (.seq
     (.reg [⟨none, (some 5), .mov (.c (.int .i64 (0)))⟩])
     (.block 0 (m 26 0)
      (F36L0)))
    F36T0))
def F36 : XF := ⟨2, 26, [.tmp 4], F36B⟩
def M36 : List (List Bool) := [(m 26 16), (m 26 0), (m 26 35), (m 26 0), (m 26 35), (m 26 16), (m 26 16)]
def F37L0b : XC :=
 .seq
  (.seq
   (.reg [⟨none, (some 34), .mov (.t 9)⟩,
     ⟨none, (some 35), .mov (.t 7)⟩,
     ⟨none, (some 36), .len (.t 35)⟩,
     ⟨none, (some 37), .bin .lss (.t 34) (.t 36)⟩,
     ⟨none, (some 38), .mov (.t 37)⟩,
     ⟨(some (38, true)), (some 39), .mov (.t 8)⟩,
     ⟨none, (some 40), .pick (.t 38) (.t 39) (.c (.bool false))⟩])
   (.cond (.t 40)
    (.skip)
    (.exit 2 (m 56 369))))
  (.seq
   (.block 3 (m 56 1009)
    (.reg [⟨none, (some 43), .mov (.t 7)⟩,
      ⟨none, (some 44), .mov (.t 9)⟩,
      ⟨none, (some 45), .indexA 1 (.t 43) (.t 44)⟩,
      ⟨none, (some 46), .load none (.t 45)⟩,
      ⟨none, (some 47), .mov (.t 0)⟩,
      ⟨none, (some 48), .mov (.t 9)⟩,
      ⟨none, (some 49), .indexA 1 (.t 47) (.t 48)⟩,
      ⟨none, (some 50), .load none (.t 49)⟩,
      ⟨none, (some 51), .bin .eql (.t 46) (.t 50)⟩,
      ⟨none, (some 8), .mov (.t 51)⟩]))
   (.reg [⟨none, (some 41), .mov (.t 9)⟩,
     ⟨none, (some 42), .bin .add (.t 41) (.c (.int .i64 (1)))⟩,
     ⟨none, (some 9), .mov (.t 42)⟩]))
def F37L0 : XC := .loop (m 56 1009) F37L0b
def F37T0 : XC :=
 .seq
  (.reg [⟨none, (some 52), .mov (.t 8)⟩])
  (.cond (.t 52)
   (.reg [⟨none, (some 53), .mov (.t 5)⟩,
     ⟨none, (some 54), .bin .add (.t 53) (.c (.int .i64 (1)))⟩,
     ⟨none, (some 5), .mov (.t 54)⟩])
   (.skip))
def F37T1 : XC :=
 .reg [⟨none, (some 22), .mov (.t 6)⟩,
   ⟨none, (some 23), .bin .add (.t 22) (.c (.int .i64 (1)))⟩,
   ⟨none, (some 6), .mov (.t 23)⟩]
def F37L1b : XC :=
 .seq
  (.seq
   (.reg [⟨none, (some 18), .mov (.t 6)⟩,
     ⟨none, (some 19), .mov (.t 4)⟩,
     ⟨none, (some 20), .len (.t 19)⟩,
     ⟨none, (some 21), .bin .lss (.t 18) (.t 20)⟩])
   (.cond (.t 21)
    (.skip)
    (.exit 0 (m 56 32))))
  (.seq
   (.block 1 (m 56 113)
    (.seq
     (.reg [⟨none, (some 24), .mov (.t 4)⟩,
       ⟨none, (some 25), .mov (.t 6)⟩,
       ⟨none, (some 26), .indexA 1 (.t 24) (.t 25)⟩,
       ⟨none, (some 27), .load none (.t 26)⟩,
       ⟨none, (some 28), .call 1 68 [.t 27]⟩,
       ⟨none, (some 7), .mov (.t 28)⟩])
     (.seq
      (.reg [⟨none, (some 29), .mov (.t 7)⟩,
        ⟨none, (some 30), .len (.t 29)⟩,
        ⟨none, (some 31), .mov (.t 0)⟩,
        ⟨none, (some 32), .len (.t 31)⟩,
        ⟨none, (some 33), .bin .eql (.t 30) (.t 32)⟩,
        ⟨none, (some 8), .mov (.t 33)⟩])
      (.seq
       (.seq
        (.reg [⟨none, (some 9), .mov (.c (.int .i64 (0)))⟩])
        (.block 2 (m 56 369)
         (F37L0)))
       F37T0))))
   F37T1)
def F37L1 : XC := .loop (m 56 113) F37L1b
def F37T2 : XC :=
 .seq
  (.reg [⟨none, (some 55), .mov (.t 5)⟩,
    ⟨none, (some 2), .mov (.t 55)⟩,
    ⟨none, (some 3), .mov (.c (.int .i64 (0)))⟩])
  (.ret (m 56 12))
def F37B : XC :=
 .seq
  (.reg [⟨none, (some 2), .mov (.c (.int .i64 (0)))⟩,
    ⟨none, (some 3), .mov (.c (.int .i64 (0)))⟩])
  (.seq
   (.seq
    (.reg [⟨none, (some 10), .mov (.t 0)⟩,
      ⟨none, (some 11), .call 1 38 [.t 10]⟩,
      ⟨none, (some 12), .un .not (.t 11)⟩])
    (.cond (.t 12)
     (.seq
      (.reg [⟨none, (some 2), .mov (.c (.int .i64 (0)))⟩,
        ⟨none, (some 3), .mov (.c (.int .i64 (2)))⟩])
      (.ret (m 56 12)))
     (.skip)))
   (.seq
    (.reg [⟨none, (some 13), .mov (.t 0)⟩,
      ⟨none, (some 14), .len (.t 13)⟩,
      ⟨none, (some 15), .bin .quo (.t 14) (.c (.int .i64 (2)))⟩,
      ⟨none, (some 16), .call 2 54 [.t 15]⟩,
      ⟨none, (some 17), .call 0 53 [.t 16, .c (.int .i64 (0)), .c (.nils)]⟩,
      ⟨none, (some 4), .mov (.t 17)⟩])
    (.seq
     (.reg [⟨none, (some 5), .mov (.c (.int .i64 (0)))⟩])
     (.seq
      (.seq
       (.reg [⟨none, (some 6), .mov (.c (.int .i64 (0)))⟩])
       (.block 0 (m 56 32)
        (F37L1)))
      F37T2))))
def F37 : XF := ⟨1, 56, [.tmp 2, .tmp 3], F37B⟩
def M37 : List (List Bool) := [(m 56 12), (m 56 32), (m 56 113), (m 56 32), (m 56 113), (m 56 369), (m 56 1009), (m 56 369), (m 56 1009), (m 56 12)]
def F38L0b : XC :=
 .seq
  (.seq
   (.reg [⟨none, (some 18), .mov (.t 3)⟩,
     ⟨none, (some 19), .mov (.t 0)⟩,
     ⟨none, (some 20), .len (.t 19)⟩,
     ⟨none, (some 21), .bin .lss (.t 18) (.t 20)⟩])
   (.cond (.t 21)
    (.skip)
    (.exit 0 (m 57 0))))
  (.seq
   (.block 1 (m 57 9)
    (.seq
     (.reg [⟨none, (some 24), .mov (.t 0)⟩,
       ⟨none, (some 25), .mov (.t 3)⟩,
       ⟨none, (some 26), .indexA 1 (.t 24) (.t 25)⟩,
       ⟨none, (some 27), .load none (.t 26)⟩,
       ⟨none, (some 28), .bin .lss (.t 27) (.c (.int .i64 (0)))⟩,
       ⟨none, (some 29), .mov (.t 28)⟩,
       ⟨(some (29, false)), (some 30), .mov (.t 0)⟩,
       ⟨(some (29, false)), (some 31), .mov (.t 3)⟩,
       ⟨(some (29, false)), (some 32), .indexA 1 (.t 30) (.t 31)⟩,
       ⟨(some (29, false)), (some 33), .load none (.t 32)⟩,
       ⟨(some (29, false)), (some 34), .mov (.t 0)⟩,
       ⟨(some (29, false)), (some 35), .len (.t 34)⟩,
       ⟨(some (29, false)), (some 36), .bin .geq (.t 33) (.t 35)⟩,
       ⟨none, (some 37), .pick (.t 29) (.c (.bool true)) (.t 36)⟩,
       ⟨none, (some 38), .mov (.t 37)⟩,
       ⟨(some (38, false)), (some 39), .mov (.t 0)⟩,
       ⟨(some (38, false)), (some 40), .mov (.t 3)⟩,
       ⟨(some (38, false)), (some 41), .indexA 1 (.t 39) (.t 40)⟩,
       ⟨(some (38, false)), (some 42), .load none (.t 41)⟩,
       ⟨(some (38, false)), (some 43), .mov (.t 3)⟩,
       ⟨(some (38, false)), (some 44), .bin .eql (.t 42) (.t 43)⟩,
       ⟨none, (some 45), .pick (.t 38) (.c (.bool true)) (.t 44)⟩,
       ⟨none, (some 46), .mov (.t 45)⟩,
       ⟨(some (46, false)), (some 47), .mov (.t 0)⟩,
       ⟨(some (46, false)), (some 48), .mov (.t 0)⟩,
       ⟨(some (46, false)), (some 49), .mov (.t 3)⟩,
       ⟨(some (46, false)), (some 50), .indexA 1 (.t 48) (.t 49)⟩,
       ⟨(some (46, false)), (some 51), .load none (.t 50)⟩,
       ⟨(some (46, false)), (some 52), .indexA 1 (.t 47) (.t 51)⟩,
       ⟨(some (46, false)), (some 53), .load none (.t 52)⟩,
       ⟨(some (46, false)), (some 54), .mov (.t 3)⟩,
       ⟨(some (46, false)), (some 55), .bin .neq (.t 53) (.t 54)⟩,
       ⟨none, (some 56), .pick (.t 46) (.c (.bool true)) (.t 55)⟩])
     (.cond (.t 56)
      (.seq
       (.reg [⟨none, (some 2), .mov (.c (.bool false))⟩])
       (.ret (m 57 4)))
      (.skip))))
   (.reg [⟨none, (some 22), .mov (.t 3)⟩,
     ⟨none, (some 23), .bin .add (.t 22) (.c (.int .i64 (1)))⟩,
     ⟨none, (some 3), .mov (.t 23)⟩]))
def F38L0 : XC := .loop (m 57 9) F38L0b
def F38T0 : XC :=
 .seq
  (.reg [⟨none, (some 2), .mov (.c (.bool true))⟩])
  (.ret (m 57 4))
def F38B : XC :=
 .seq
  (.reg [⟨none, (some 2), .mov (.c (.bool false))⟩])
  (.seq
   (.seq
    (.reg [⟨none, (some 4), .mov (.t 0)⟩,
      ⟨none, (some 5), .len (.t 4)⟩,
      ⟨none, (some 6), .bin .lss (.t 5) (.c (.int .i64 (2)))⟩,
      ⟨none, (some 7), .mov (.t 6)⟩,
      ⟨(some (7, false)), (some 8), .mov (.t 0)⟩,
      ⟨(some (7, false)), (some 9), .len (.t 8)⟩,
      ⟨(some (7, false)), (some 10), .bin .gtr (.t 9) (.c (.int .i64 (10)))⟩,
      ⟨none, (some 11), .pick (.t 7) (.c (.bool true)) (.t 10)⟩,
      ⟨none, (some 12), .mov (.t 11)⟩,
      ⟨(some (12, false)), (some 13), .mov (.t 0)⟩,
      ⟨(some (12, false)), (some 14), .len (.t 13)⟩,
      ⟨(some (12, false)), (some 15), .bin .rem (.t 14) (.c (.int .i64 (2)))⟩,
      ⟨(some (12, false)), (some 16), .bin .eql (.t 15) (.c (.int .i64 (1)))⟩,
      ⟨none, (some 17), .pick (.t 12) (.c (.bool true)) (.t 16)⟩])
    (.cond (.t 17)
     (.seq
      (.reg [⟨none, (some 2), .mov (.c (.bool false))⟩])
      (.ret (m 57 4)))
     (.skip)))
   (.seq
    (.seq
     (.reg [⟨none, (some 3), .mov (.c (.int .i64 (0)))⟩])
     (.block 0 (m 57 0)
      (F38L0)))
    F38T0))
def F38 : XF := ⟨1, 57, [.tmp 2], F38B⟩
def M38 : List (List Bool) := [(m 57 4), (m 57 0), (m 57 9), (m 57 0), (m 57 9), (m 57 4), (m 57 4)]
def F39L0b : XC :=
 .seq
  (.seq
   (.reg [⟨none, (some 13), .mov (.t 4)⟩,
     ⟨none, (some 14), .mov (.t 0)⟩,
     ⟨none, (some 15), .mov (.t 3)⟩,
     ⟨none, (some 16), .indexA 1 (.t 14) (.t 15)⟩,
     ⟨none, (some 17), .load none (.t 16)⟩,
     ⟨none, (some 18), .bin .lss (.t 13) (.t 17)⟩])
   (.cond (.t 18)
    (.skip)
    (.exit 2 (m 30 9))))
  (.seq
   (.block 3 (m 30 25)
    (.seq
     (.reg [⟨none, (some 21), .mov (.t 0)⟩,
       ⟨none, (some 22), .mov (.t 4)⟩,
       ⟨none, (some 23), .indexA 1 (.t 21) (.t 22)⟩,
       ⟨none, (some 24), .load none (.t 23)⟩,
       ⟨none, (some 25), .mov (.t 0)⟩,
       ⟨none, (some 26), .mov (.t 3)⟩,
       ⟨none, (some 27), .indexA 1 (.t 25) (.t 26)⟩,
       ⟨none, (some 28), .load none (.t 27)⟩,
       ⟨none, (some 29), .bin .gtr (.t 24) (.t 28)⟩])
     (.cond (.t 29)
      (.seq
       (.reg [⟨none, (some 2), .mov (.c (.bool true))⟩])
       (.ret (m 30 4)))
      (.skip))))
   (.reg [⟨none, (some 19), .mov (.t 4)⟩,
     ⟨none, (some 20), .bin .add (.t 19) (.c (.int .i64 (1)))⟩,
     ⟨none, (some 4), .mov (.t 20)⟩]))
def F39L0 : XC := .loop (m 30 25) F39L0b
def F39T0 : XC :=
 .reg [⟨none, (some 9), .mov (.t 3)⟩,
   ⟨none, (some 10), .bin .add (.t 9) (.c (.int .i64 (1)))⟩,
   ⟨none, (some 3), .mov (.t 10)⟩]
def F39L1b : XC :=
 .seq
  (.seq
   (.reg [⟨none, (some 5), .mov (.t 3)⟩,
     ⟨none, (some 6), .mov (.t 0)⟩,
     ⟨none, (some 7), .len (.t 6)⟩,
     ⟨none, (some 8), .bin .lss (.t 5) (.t 7)⟩])
   (.cond (.t 8)
    (.skip)
    (.exit 0 (m 30 0))))
  (.seq
   (.block 1 (m 30 9)
    (.seq
     (.reg [⟨none, (some 11), .mov (.t 3)⟩,
       ⟨none, (some 12), .bin .add (.t 11) (.c (.int .i64 (1)))⟩,
       ⟨none, (some 4), .mov (.t 12)⟩])
     (.block 2 (m 30 9)
      (F39L0))))
   F39T0)
def F39L1 : XC := .loop (m 30 9) F39L1b
def F39T1 : XC :=
 .seq
  (.reg [⟨none, (some 2), .mov (.c (.bool false))⟩])
  (.ret (m 30 4))
def F39B : XC :=
 .seq
  (.reg [⟨none, (some 2), .mov (.c (.bool false))⟩])
  (.seq
   (.seq
    (.reg [⟨none, (some 3), .mov (.c (.int .i64 (0)))⟩])
    (.block 0 (m 30 0)
     (F39L1)))
   F39T1)
def F39 : XF := ⟨1, 30, [.tmp 2], F39B⟩
def M39 : List (List Bool) := [(m 30 0), (m 30 9), (m 30 0), (m 30 9), (m 30 9), (m 30 25), (m 30 9), (m 30 25), (m 30 4), (m 30 4)]
def F40B : XC :=
 .seq
  (.reg [⟨none, (some 4), .mov (.c (.nils))⟩,
    ⟨none, (some 5), .mov (.c (.nils))⟩,
    ⟨none, (some 6), .mov (.c (.int .i64 (0)))⟩])
  (.seq
   (.reg [⟨none, (some 16), .mov (.t 0)⟩,
     ⟨none, (some 17), .call 0 64 [.t 16]⟩,
     ⟨none, (some 15), .mov (.t 17)⟩,
     ⟨none, (some 18), .ext (.t 15) 0⟩,
     ⟨none, (some 19), .ext (.t 15) 1⟩,
     ⟨none, (some 7), .mov (.t 18)⟩,
     ⟨none, (some 8), .mov (.t 19)⟩])
   (.seq
    (.reg [⟨none, (some 21), .mov (.t 1)⟩,
      ⟨none, (some 22), .call 0 64 [.t 21]⟩,
      ⟨none, (some 20), .mov (.t 22)⟩,
      ⟨none, (some 23), .ext (.t 20) 0⟩,
      ⟨none, (some 24), .ext (.t 20) 1⟩,
      ⟨none, (some 9), .mov (.t 23)⟩,
      ⟨none, (some 10), .mov (.t 24)⟩])
    (.seq
     (.seq
      (.reg [⟨none, (some 25), .mov (.t 8)⟩,
        ⟨none, (some 26), .un .not (.t 25)⟩,
        ⟨none, (some 27), .mov (.t 26)⟩,
        ⟨(some (27, false)), (some 28), .mov (.t 10)⟩,
        ⟨(some (27, false)), (some 29), .un .not (.t 28)⟩,
        ⟨none, (some 30), .pick (.t 27) (.c (.bool true)) (.t 29)⟩,
        ⟨none, (some 31), .mov (.t 30)⟩,
        ⟨(some (31, false)), (some 32), .mov (.t 0)⟩,
        ⟨(some (31, false)), (some 33), .len (.t 32)⟩,
        ⟨(some (31, false)), (some 34), .mov (.t 1)⟩,
        ⟨(some (31, false)), (some 35), .len (.t 34)⟩,
        ⟨(some (31, false)), (some 36), .bin .neq (.t 33) (.t 35)⟩,
        ⟨none, (some 37), .pick (.t 31) (.c (.bool true)) (.t 36)⟩])
      (.cond (.t 37)
       (.seq
        (.reg [⟨none, (some 4), .mov (.c (.nils))⟩,
          ⟨none, (some 5), .mov (.c (.nils))⟩,
          ⟨none, (some 6), .mov (.c (.int .i64 (2)))⟩])
        (.ret (m 58 112)))
       (.skip)))
     (.seq
      (.reg [⟨none, (some 38), .mov (.t 7)⟩,
        ⟨none, (some 39), .mki 56 (.t 38)⟩,
        ⟨none, (some 40), .call 2 62 [.t 39]⟩,
        ⟨none, (some 41), .mov (.t 9)⟩,
        ⟨none, (some 42), .mki 56 (.t 41)⟩,
        ⟨none, (some 43), .call 2 62 [.t 42]⟩,
        ⟨none, (some 11), .alloc [.nils]⟩,
        ⟨none, (some 12), .alloc [.nils]⟩,
        ⟨none, none, .store 1 (.t 11) (.t 40)⟩,
        ⟨none, none, .store 1 (.t 12) (.t 43)⟩])
      (.seq
       (.reg [⟨none, (some 44), .load none (.t 11)⟩,
         ⟨none, (some 45), .len (.t 44)⟩,
         ⟨none, (some 46), .mkf 70 [.t 11, .t 12]⟩,
         ⟨none, (some 47), .call 2 69 [.t 45, .t 46]⟩,
         ⟨none, (some 13), .mov (.t 47)⟩])
       (.seq
        (.reg [⟨none, (some 48), .load none (.t 11)⟩,
          ⟨none, (some 49), .len (.t 48)⟩,
          ⟨none, (some 50), .mkf 71 [.t 11, .t 12]⟩,
          ⟨none, (some 51), .call 2 69 [.t 49, .t 50]⟩,
          ⟨none, (some 14), .mov (.t 51)⟩])
        (.seq
         (.reg [⟨none, (some 52), .mov (.t 13)⟩,
           ⟨none, (some 53), .mki 59 (.t 52)⟩,
           ⟨none, (some 54), .call 1 72 [.t 53]⟩,
           ⟨none, (some 55), .mov (.t 14)⟩,
           ⟨none, (some 56), .mki 59 (.t 55)⟩,
           ⟨none, (some 57), .call 1 72 [.t 56]⟩,
           ⟨none, (some 4), .mov (.t 54)⟩,
           ⟨none, (some 5), .mov (.t 57)⟩,
           ⟨none, (some 6), .mov (.c (.int .i64 (0)))⟩])
         (.ret (m 58 112)))))))))
def F40 : XF := ⟨2, 58, [.tmp 4, .tmp 5, .tmp 6], F40B⟩
def M40 : List (List Bool) := [(m 58 112), (m 58 112)]
def F41L0b : XC :=
 .seq
  (.seq
   (.reg [⟨none, (some 44), .mov (.t 12)⟩,
     ⟨none, (some 45), .mov (.t 7)⟩,
     ⟨none, (some 46), .len (.t 45)⟩,
     ⟨none, (some 47), .bin .lss (.t 44) (.t 46)⟩])
   (.cond (.t 47)
    (.skip)
    (.exit 2 (m 96 3968))))
  (.seq
   (.block 3 (m 96 8064)
    (.seq
     (.reg [⟨none, (some 50), .mov (.t 9)⟩,
       ⟨none, (some 51), .mov (.t 11)⟩,
       ⟨none, (some 52), .indexA 1 (.t 50) (.t 51)⟩,
       ⟨none, (some 53), .load none (.t 52)⟩,
       ⟨none, (some 54), .mov (.t 12)⟩,
       ⟨none, (some 55), .mov (.t 7)⟩,
       ⟨none, (some 56), .mov (.t 11)⟩,
       ⟨none, (some 57), .indexA 1 (.t 55) (.t 56)⟩,
       ⟨none, (some 58), .load none (.t 57)⟩,
       ⟨none, (some 59), .mov (.t 12)⟩,
       ⟨none, (some 60), .indexA 1 (.t 58) (.t 59)⟩,
       ⟨none, (some 61), .load none (.t 60)⟩,
       ⟨none, (some 62), .mov (.t 8)⟩,
       ⟨none, (some 63), .mov (.t 11)⟩,
       ⟨none, (some 64), .indexA 1 (.t 62) (.t 63)⟩,
       ⟨none, (some 65), .load none (.t 64)⟩,
       ⟨none, (some 66), .mov (.t 12)⟩,
       ⟨none, (some 67), .indexA 1 (.t 65) (.t 66)⟩,
       ⟨none, (some 68), .load none (.t 67)⟩,
       ⟨none, (some 69), .mnx false [.t 61, .t 68]⟩,
       ⟨none, (some 70), .indexA 1 (.t 53) (.t 54)⟩,
       ⟨none, none, .store 1 (.t 70) (.t 69)⟩])
     (.reg [⟨none, (some 71), .mov (.t 10)⟩,
       ⟨none, (some 72), .mov (.t 11)⟩,
       ⟨none, (some 73), .indexA 1 (.t 71) (.t 72)⟩,
       ⟨none, (some 74), .load none (.t 73)⟩,
       ⟨none, (some 75), .mov (.t 12)⟩,
       ⟨none, (some 76), .mov (.t 7)⟩,
       ⟨none, (some 77), .mov (.t 11)⟩,
       ⟨none, (some 78), .indexA 1 (.t 76) (.t 77)⟩,
       ⟨none, (some 79), .load none (.t 78)⟩,
       ⟨none, (some 80), .mov (.t 12)⟩,
       ⟨none, (some 81), .indexA 1 (.t 79) (.t 80)⟩,
       ⟨none, (some 82), .load none (.t 81)⟩,
       ⟨none, (some 83), .mov (.t 8)⟩,
       ⟨none, (some 84), .mov (.t 11)⟩,
       ⟨none, (some 85), .indexA 1 (.t 83) (.t 84)⟩,
       ⟨none, (some 86), .load none (.t 85)⟩,
       ⟨none, (some 87), .mov (.t 12)⟩,
       ⟨none, (some 88), .indexA 1 (.t 86) (.t 87)⟩,
       ⟨none, (some 89), .load none (.t 88)⟩,
       ⟨none, (some 90), .mnx true [.t 82, .t 89]⟩,
       ⟨none, (some 91), .indexA 1 (.t 74) (.t 75)⟩,
       ⟨none, none, .store 1 (.t 91) (.t 90)⟩])))
   (.reg [⟨none, (some 48), .mov (.t 12)⟩,
     ⟨none, (some 49), .bin .add (.t 48) (.c (.int .i64 (1)))⟩,
     ⟨none, (some 12), .mov (.t 49)⟩]))
def F41L0 : XC := .loop (m 96 8064) F41L0b
def F41T0 : XC :=
 .reg [⟨none, (some 42), .mov (.t 11)⟩,
   ⟨none, (some 43), .bin .add (.t 42) (.c (.int .i64 (1)))⟩,
   ⟨none, (some 11), .mov (.t 43)⟩]
def F41L1b : XC :=
 .seq
  (.seq
   (.reg [⟨none, (some 38), .mov (.t 11)⟩,
     ⟨none, (some 39), .mov (.t 7)⟩,
     ⟨none, (some 40), .len (.t 39)⟩,
     ⟨none, (some 41), .bin .lss (.t 38) (.t 40)⟩])
   (.cond (.t 41)
    (.skip)
    (.exit 0 (m 96 1536))))
  (.seq
   (.block 1 (m 96 3968)
    (.seq
     (.reg [⟨none, (some 12), .mov (.c (.int .i64 (0)))⟩])
     (.block 2 (m 96 3968)
      (F41L0))))
   F41T0)
def F41L1 : XC := .loop (m 96 3968) F41L1b
def F41T1 : XC :=
 .seq
  (.reg [⟨none, (some 92), .mov (.t 9)⟩,
    ⟨none, (some 93), .call 1 73 [.t 92]⟩,
    ⟨none, (some 94), .mov (.t 10)⟩,
    ⟨none, (some 95), .call 1 73 [.t 94]⟩,
    ⟨none, (some 4), .mov (.t 93)⟩,
    ⟨none, (some 5), .mov (.t 95)⟩,
    ⟨none, (some 6), .mov (.c (.int .i64 (0)))⟩])
  (.ret (m 96 112))
def F41B : XC :=
 .seq
  (.reg [⟨none, (some 4), .mov (.c (.nils))⟩,
    ⟨none, (some 5), .mov (.c (.nils))⟩,
    ⟨none, (some 6), .mov (.c (.int .i64 (0)))⟩])
  (.seq
   (.seq
    (.reg [⟨none, (some 13), .mov (.t 0)⟩,
      ⟨none, (some 14), .call 1 26 [.t 13]⟩,
      ⟨none, (some 15), .un .not (.t 14)⟩,
      ⟨none, (some 16), .mov (.t 15)⟩,
      ⟨(some (16, false)), (some 17), .mov (.t 1)⟩,
      ⟨(some (16, false)), (some 18), .call 1 26 [.t 17]⟩,
      ⟨(some (16, false)), (some 19), .un .not (.t 18)⟩,
      ⟨none, (some 20), .pick (.t 16) (.c (.bool true)) (.t 19)⟩,
      ⟨none, (some 21), .mov (.t 20)⟩,
      ⟨(some (21, false)), (some 22), .mov (.t 0)⟩,
      ⟨(some (21, false)), (some 23), .len (.t 22)⟩,
      ⟨(some (21, false)), (some 24), .mov (.t 1)⟩,
      ⟨(some (21, false)), (some 25), .len (.t 24)⟩,
      ⟨(some (21, false)), (some 26), .bin .neq (.t 23) (.t 25)⟩,
      ⟨none, (some 27), .pick (.t 21) (.c (.bool true)) (.t 26)⟩])
    (.cond (.t 27)
     (.seq
      (.reg [⟨none, (some 4), .mov (.c (.nils))⟩,
        ⟨none, (some 5), .mov (.c (.nils))⟩,
        ⟨none, (some 6), .mov (.c (.int .i64 (2)))⟩])
      (.ret (m 96 112)))
     (.skip)))
   (.seq
    (.reg [⟨none, (some 28), .mov (.t 0)⟩,
      ⟨none, (some 29), .call 2 65 [.t 28]⟩,
      ⟨none, (some 30), .mov (.t 1)⟩,
      ⟨none, (some 31), .call 2 65 [.t 30]⟩,
      ⟨none, (some 7), .mov (.t 29)⟩,
      ⟨none, (some 8), .mov (.t 31)⟩])
    (.seq
     (.reg [⟨none, (some 32), .mov (.t 7)⟩,
       ⟨none, (some 33), .len (.t 32)⟩,
       ⟨none, (some 34), .call 2 54 [.t 33]⟩,
       ⟨none, (some 35), .mov (.t 7)⟩,
       ⟨none, (some 36), .len (.t 35)⟩,
       ⟨none, (some 37), .call 2 54 [.t 36]⟩,
       ⟨none, (some 9), .mov (.t 34)⟩,
       ⟨none, (some 10), .mov (.t 37)⟩])
     (.seq
      (.seq
       (.reg [⟨none, (some 11), .mov (.c (.int .i64 (0)))⟩])
       (.block 0 (m 96 1536)
        (F41L1)))
      F41T1))))
def F41 : XF := ⟨2, 96, [.tmp 4, .tmp 5, .tmp 6], F41B⟩
def M41 : List (List Bool) := [(m 96 112), (m 96 1536), (m 96 3968), (m 96 1536), (m 96 3968), (m 96 3968), (m 96 8064), (m 96 3968), (m 96 8064), (m 96 112)]
def F42L0b : XC :=
 .seq
  (.seq
   (.reg [⟨none, (some 30), .mov (.t 5)⟩,
     ⟨none, (some 31), .mov (.t 3)⟩,
     ⟨none, (some 32), .bin .leq (.t 30) (.t 31)⟩])
   (.cond (.t 32)
    (.skip)
    (.exit 2 (m 182 25))))
  (.seq
   (.block 3 (m 182 57)
    (.seq
     (.reg [⟨none, (some 35), .mov (.t 0)⟩,
       ⟨none, (some 36), .mov (.t 4)⟩,
       ⟨none, (some 37), .indexA 1 (.t 35) (.t 36)⟩,
       ⟨none, (some 38), .load none (.t 37)⟩,
       ⟨none, (some 39), .mov (.t 5)⟩,
       ⟨none, (some 40), .indexA 1 (.t 38) (.t 39)⟩,
       ⟨none, (some 41), .load none (.t 40)⟩,
       ⟨none, (some 42), .bin .lss (.t 41) (.c (.int .i64 (0)))⟩,
       ⟨none, (some 43), .mov (.t 42)⟩,
       ⟨(some (43, false)), (some 44), .mov (.t 0)⟩,
       ⟨(some (43, false)), (some 45), .mov (.t 4)⟩,
       ⟨(some (43, false)), (some 46), .indexA 1 (.t 44) (.t 45)⟩,
       ⟨(some (43, false)), (some 47), .load none (.t 46)⟩,
       ⟨(some (43, false)), (some 48), .mov (.t 5)⟩,
       ⟨(some (43, false)), (some 49), .indexA 1 (.t 47) (.t 48)⟩,
       ⟨(some (43, false)), (some 50), .load none (.t 49)⟩,
       ⟨(some (43, false)), (some 51), .mov (.t 3)⟩,
       ⟨(some (43, false)), (some 52), .bin .gtr (.t 50) (.t 51)⟩,
       ⟨none, (some 53), .pick (.t 43) (.c (.bool true)) (.t 52)⟩])
     (.cond (.t 53)
      (.seq
       (.reg [⟨none, (some 2), .mov (.c (.bool false))⟩])
       (.ret (m 182 4)))
      (.skip))))
   (.reg [⟨none, (some 33), .mov (.t 5)⟩,
     ⟨none, (some 34), .bin .add (.t 33) (.c (.int .i64 (1)))⟩,
     ⟨none, (some 5), .mov (.t 34)⟩]))
def F42L0 : XC := .loop (m 182 57) F42L0b
def F42T0 : XC :=
 .reg [⟨none, (some 20), .mov (.t 4)⟩,
   ⟨none, (some 21), .bin .add (.t 20) (.c (.int .i64 (1)))⟩,
   ⟨none, (some 4), .mov (.t 21)⟩]
def F42L1b : XC :=
 .seq
  (.seq
   (.reg [⟨none, (some 17), .mov (.t 4)⟩,
     ⟨none, (some 18), .mov (.t 3)⟩,
     ⟨none, (some 19), .bin .leq (.t 17) (.t 18)⟩])
   (.cond (.t 19)
    (.skip)
    (.exit 0 (m 182 9))))
  (.seq
   (.block 1 (m 182 25)
    (.seq
     (.seq
      (.reg [⟨none, (some 22), .mov (.t 0)⟩,
        ⟨none, (some 23), .mov (.t 4)⟩,
        ⟨none, (some 24), .indexA 1 (.t 22) (.t 23)⟩,
        ⟨none, (some 25), .load none (.t 24)⟩,
        ⟨none, (some 26), .len (.t 25)⟩,
        ⟨none, (some 27), .mov (.t 3)⟩,
        ⟨none, (some 28), .bin .add (.t 27) (.c (.int .i64 (1)))⟩,
        ⟨none, (some 29), .bin .neq (.t 26) (.t 28)⟩])
      (.cond (.t 29)
       (.seq
        (.reg [⟨none, (some 2), .mov (.c (.bool false))⟩])
        (.ret (m 182 4)))
       (.skip)))
     (.seq
      (.reg [⟨none, (some 5), .mov (.c (.int .i64 (0)))⟩])
      (.block 2 (m 182 25)
       (F42L0)))))
   F42T0)
def F42L1 : XC := .loop (m 182 25) F42L1b
def F42L2b : XC :=
 .seq
  (.seq
   (.reg [⟨none, (some 103), .mov (.t 7)⟩,
     ⟨none, (some 104), .mov (.t 3)⟩,
     ⟨none, (some 105), .bin .lss (.t 103) (.t 104)⟩])
   (.cond (.t 105)
    (.skip)
    (.exit 6 (m 182 73))))
  (.seq
   (.block 7 (m 182 201)
    (.seq
     (.reg [⟨none, (some 108), .mov (.t 0)⟩,
       ⟨none, (some 109), .mov (.t 6)⟩,
       ⟨none, (some 110), .indexA 1 (.t 108) (.t 109)⟩,
       ⟨none, (some 111), .load none (.t 110)⟩,
       ⟨none, (some 112), .mov (.t 7)⟩,
       ⟨none, (some 113), .bin .add (.t 112) (.c (.int .i64 (1)))⟩,
       ⟨none, (some 114), .indexA 1 (.t 111) (.t 113)⟩,
       ⟨none, (some 115), .load none (.t 114)⟩,
       ⟨none, (some 116), .mov (.t 0)⟩,
       ⟨none, (some 117), .mov (.t 6)⟩,
       ⟨none, (some 118), .indexA 1 (.t 116) (.t 117)⟩,
       ⟨none, (some 119), .load none (.t 118)⟩,
       ⟨none, (some 120), .mov (.t 7)⟩,
       ⟨none, (some 121), .indexA 1 (.t 119) (.t 120)⟩,
       ⟨none, (some 122), .load none (.t 121)⟩,
       ⟨none, (some 123), .bin .sub (.t 115) (.t 122)⟩,
       ⟨none, (some 124), .bin .neq (.t 123) (.c (.int .i64 (1)))⟩,
       ⟨none, (some 125), .mov (.t 124)⟩,
       ⟨(some (125, true)), (some 126), .mov (.t 0)⟩,
       ⟨(some (125, true)), (some 127), .mov (.t 6)⟩,
       ⟨(some (125, true)), (some 128), .indexA 1 (.t 126) (.t 127)⟩,
       ⟨(some (125, true)), (some 129), .load none (.t 128)⟩,
       ⟨(some (125, true)), (some 130), .mov (.t 7)⟩,
       ⟨(some (125, true)), (some 131), .bin .add (.t 130) (.c (.int .i64 (1)))⟩,
       ⟨(some (125, true)), (some 132), .indexA 1 (.t 129) (.t 131)⟩,
       ⟨(some (125, true)), (some 133), .load none (.t 132)⟩,
       ⟨(some (125, true)), (some 134), .mov (.t 0)⟩,
       ⟨(some (125, true)), (some 135), .mov (.t 6)⟩,
       ⟨(some (125, true)), (some 136), .indexA 1 (.t 134) (.t 135)⟩,
       ⟨(some (125, true)), (some 137), .load none (.t 136)⟩,
       ⟨(some (125, true)), (some 138), .mov (.t 7)⟩,
       ⟨(some (125, true)), (some 139), .indexA 1 (.t 137) (.t 138)⟩,
       ⟨(some (125, true)), (some 140), .load none (.t 139)⟩,
       ⟨(some (125, true)), (some 141), .bin .sub (.t 133) (.t 140)⟩,
       ⟨(some (125, true)), (some 142), .bin .neq (.t 141) (.c (.int .i64 (-1)))⟩,
       ⟨none, (some 143), .pick (.t 125) (.t 142) (.c (.bool false))⟩,
       ⟨none, (some 144), .mov (.t 143)⟩,
       ⟨(some (144, false)), (some 145), .mov (.t 0)⟩,
       ⟨(some (144, false)), (some 146), .mov (.t 7)⟩,
       ⟨(some (144, false)), (some 147), .bin .add (.t 146) (.c (.int .i64 (1)))⟩,
       ⟨(some (144, false)), (some 148), .indexA 1 (.t 145) (.t 147)⟩,
       ⟨(some (144, false)), (some 149), .load none (.t 148)⟩,
       ⟨(some (144, false)), (some 150), .mov (.t 6)⟩,
       ⟨(some (144, false)), (some 151), .indexA 1 (.t 149) (.t 150)⟩,
       ⟨(some (144, false)), (some 152), .load none (.t 151)⟩,
       ⟨(some (144, false)), (some 153), .mov (.t 0)⟩,
       ⟨(some (144, false)), (some 154), .mov (.t 7)⟩,
       ⟨(some (144, false)), (some 155), .indexA 1 (.t 153) (.t 154)⟩,
       ⟨(some (144, false)), (some 156), .load none (.t 155)⟩,
       ⟨(some (144, false)), (some 157), .mov (.t 6)⟩,
       ⟨(some (144, false)), (some 158), .indexA 1 (.t 156) (.t 157)⟩,
       ⟨(some (144, false)), (some 159), .load none (.t 158)⟩,
       ⟨(some (144, false)), (some 160), .bin .sub (.t 152) (.t 159)⟩,
       ⟨(some (144, false)), (some 161), .bin .neq (.t 160) (.c (.int .i64 (1)))⟩,
       ⟨(some (144, false)), (some 162), .mov (.t 161)⟩,
       ⟨(some (162, true)), (some 163), .mov (.t 0)⟩,
       ⟨(some (162, true)), (some 164), .mov (.t 7)⟩,
       ⟨(some (162, true)), (some 165), .bin .add (.t 164) (.c (.int .i64 (1)))⟩,
       ⟨(some (162, true)), (some 166), .indexA 1 (.t 163) (.t 165)⟩,
       ⟨(some (162, true)), (some 167), .load none (.t 166)⟩,
       ⟨(some (162, true)), (some 168), .mov (.t 6)⟩,
       ⟨(some (162, true)), (some 169), .indexA 1 (.t 167) (.t 168)⟩,
       ⟨(some (162, true)), (some 170), .load none (.t 169)⟩,
       ⟨(some (162, true)), (some 171), .mov (.t 0)⟩,
       ⟨(some (162, true)), (some 172), .mov (.t 7)⟩,
       ⟨(some (162, true)), (some 173), .indexA 1 (.t 171) (.t 172)⟩,
       ⟨(some (162, true)), (some 174), .load none (.t 173)⟩,
       ⟨(some (162, true)), (some 175), .mov (.t 6)⟩,
       ⟨(some (162, true)), (some 176), .indexA 1 (.t 174) (.t 175)⟩,
       ⟨(some (162, true)), (some 177), .load none (.t 176)⟩,
       ⟨(some (162, true)), (some 178), .bin .sub (.t 170) (.t 177)⟩,
       ⟨(some (162, true)), (some 179), .bin .neq (.t 178) (.c (.int .i64 (-1)))⟩,
       ⟨(some (144, false)), (some 180), .pick (.t 162) (.t 179) (.c (.bool false))⟩,
       ⟨none, (some 181), .pick (.t 144) (.c (.bool true)) (.t 180)⟩])
     (.cond (.t 181)
      (.seq
       (.reg [⟨none, (some 2), .mov (.c (.bool false))⟩])
       (.ret (m 182 4)))
      (.skip))))
   (.reg [⟨none, (some 106), .mov (.t 7)⟩,
     ⟨none, (some 107), .bin .add (.t 106) (.c (.int .i64 (1)))⟩,
     ⟨none, (some 7), .mov (.t 107)⟩]))
def F42L2 : XC := .loop (m 182 201) F42L2b
def F42T1 : XC :=
 .reg [⟨none, (some 57), .mov (.t 6)⟩,
   ⟨none, (some 58), .bin .add (.t 57) (.c (.int .i64 (1)))⟩,
   ⟨none, (some 6), .mov (.t 58)⟩]
def F42L3b : XC :=
 .seq
  (.seq
   (.reg [⟨none, (some 54), .mov (.t 6)⟩,
     ⟨none, (some 55), .mov (.t 3)⟩,
     ⟨none, (some 56), .bin .leq (.t 54) (.t 55)⟩])
   (.cond (.t 56)
    (.skip)
    (.exit 4 (m 182 0))))
  (.seq
   (.block 5 (m 182 73)
    (.seq
     (.seq
      (.reg [⟨none, (some 59), .mov (.t 0)⟩,
        ⟨none, (some 60), .indexA 1 (.t 59) (.c (.int .i64 (0)))⟩,
        ⟨none, (some 61), .load none (.t 60)⟩,
        ⟨none, (some 62), .mov (.t 6)⟩,
        ⟨none, (some 63), .indexA 1 (.t 61) (.t 62)⟩,
        ⟨none, (some 64), .load none (.t 63)⟩,
        ⟨none, (some 65), .mov (.t 6)⟩,
        ⟨none, (some 66), .bin .neq (.t 64) (.t 65)⟩,
        ⟨none, (some 67), .mov (.t 66)⟩,
        ⟨(some (67, false)), (some 68), .mov (.t 0)⟩,
        ⟨(some (67, false)), (some 69), .mov (.t 6)⟩,
        ⟨(some (67, false)), (some 70), .indexA 1 (.t 68) (.t 69)⟩,
        ⟨(some (67, false)), (some 71), .load none (.t 70)⟩,
        ⟨(some (67, false)), (some 72), .indexA 1 (.t 71) (.c (.int .i64 (0)))⟩,
        ⟨(some (67, false)), (some 73), .load none (.t 72)⟩,
        ⟨(some (67, false)), (some 74), .mov (.t 6)⟩,
        ⟨(some (67, false)), (some 75), .bin .neq (.t 73) (.t 74)⟩,
        ⟨none, (some 76), .pick (.t 67) (.c (.bool true)) (.t 75)⟩,
        ⟨none, (some 77), .mov (.t 76)⟩,
        ⟨(some (77, false)), (some 78), .mov (.t 0)⟩,
        ⟨(some (77, false)), (some 79), .mov (.t 3)⟩,
        ⟨(some (77, false)), (some 80), .indexA 1 (.t 78) (.t 79)⟩,
        ⟨(some (77, false)), (some 81), .load none (.t 80)⟩,
        ⟨(some (77, false)), (some 82), .mov (.t 6)⟩,
        ⟨(some (77, false)), (some 83), .indexA 1 (.t 81) (.t 82)⟩,
        ⟨(some (77, false)), (some 84), .load none (.t 83)⟩,
        ⟨(some (77, false)), (some 85), .mov (.t 3)⟩,
        ⟨(some (77, false)), (some 86), .mov (.t 6)⟩,
        ⟨(some (77, false)), (some 87), .bin .sub (.t 85) (.t 86)⟩,
        ⟨(some (77, false)), (some 88), .bin .neq (.t 84) (.t 87)⟩,
        ⟨none, (some 89), .pick (.t 77) (.c (.bool true)) (.t 88)⟩,
        ⟨none, (some 90), .mov (.t 89)⟩,
        ⟨(some (90, false)), (some 91), .mov (.t 0)⟩,
        ⟨(some (90, false)), (some 92), .mov (.t 6)⟩,
        ⟨(some (90, false)), (some 93), .indexA 1 (.t 91) (.t 92)⟩,
        ⟨(some (90, false)), (some 94), .load none (.t 93)⟩,
        ⟨(some (90, false)), (some 95), .mov (.t 3)⟩,
        ⟨(some (90, false)), (some 96), .indexA 1 (.t 94) (.t 95)⟩,
        ⟨(some (90, false)), (some 97), .load none (.t 96)⟩,
        ⟨(some (90, false)), (some 98), .mov (.t 3)⟩,
        ⟨(some (90, false)), (some 99), .mov (.t 6)⟩,
        ⟨(some (90, false)), (some 100), .bin .sub (.t 98) (.t 99)⟩,
        ⟨(some (90, false)), (some 101), .bin .neq (.t 97) (.t 100)⟩,
        ⟨none, (some 102), .pick (.t 90) (.c (.bool true)) (.t 101)⟩])
      (.cond (.t 102)
       (.seq
        (.reg [⟨none, (some 2), .mov (.c (.bool false))⟩])
        (.ret (m 182 4)))
       (.skip)))
     (.seq
      (.reg [⟨none, (some 7), .mov (.c (.int .i64 (0)))⟩])
      (.block 6 (m 182 73)
       (F42L2)))))
   F42T1)
def F42L3 : XC := .loop (m 182 73) F42L3b
def F42T2 : XC :=
 .seq
  (.reg [⟨none, (some 2), .mov (.c (.bool true))⟩])
  (.ret (m 182 4))
def F42T3 : XC :=
 .seq
  (.seq
   (.reg [⟨none, (some 6), .mov (.c (.int .i64 (0)))⟩])
   (.block 4 (m 182 0)
    (F42L3)))
  F42T2
def F42B : XC :=
 .seq
  (.reg [⟨none, (some 2), .mov (.c (.bool false))⟩])
  (.seq
   (.reg [⟨none, (some 8), .mov (.t 0)⟩,
     ⟨none, (some 9), .len (.t 8)⟩,
     ⟨none, (some 10), .bin .sub (.t 9) (.c (.int .i64 (1)))⟩,
     ⟨none, (some 3), .mov (.t 10)⟩])
   (.seq
    (.seq
     (.reg [⟨none, (some 11), .mov (.t 3)⟩,
       ⟨none, (some 12), .bin .lss (.t 11) (.c (.int .i64 (1)))⟩,
       ⟨none, (some 13), .mov (.t 12)⟩,
       ⟨(some (13, false)), (some 14), .mov (.t 3)⟩,
       ⟨(some (13, false)), (some 15), .bin .gtr (.t 14) (.c (.int .i64 (5)))⟩,
       ⟨none, (some 16), .pick (.t 13) (.c (.bool true)) (.t 15)⟩])
     (.cond (.t 16)
      (.seq
       (.reg [⟨none, (some 2), .mov (.c (.bool false))⟩])
       (.ret (m 182 4)))
      (.skip)))
    (.seq
     (.seq
      (.reg [⟨none, (some 4), .mov (.c (.int .i64 (0)))⟩])
      (.block 0 (m 182 9)
       (F42L1)))
     F42T3)))
def F42 : XF := ⟨1, 182, [.tmp 2], F42B⟩
def M42 : List (List Bool) := [(m 182 4), (m 182 9), (m 182 25), (m 182 9), (m 182 25), (m 182 4), (m 182 25), (m 182 57), (m 182 25), (m 182 57), (m 182 4), (m 182 0), (m 182 73), (m 182 0), (m 182 73), (m 182 4), (m 182 73), (m 182 201), (m 182 73), (m 182 201), (m 182 4), (m 182 4)]
def F43L0b : XC :=
 .seq
  (.reg [⟨none, (some 34), .bin .lss (.t 33) (.t 32)⟩])
  (.seq
   (.cond (.t 34)
    (.skip)
    (.exit 2 (m 138 3670033)))
   (.seq
    (.block 3 (m 138 15036055665)
     (.seq
      (.reg [⟨none, (some 35), .mov (.t 33)⟩,
        ⟨none, (some 36), .indexA 1 (.t 31) (.t 33)⟩,
        ⟨none, (some 37), .load none (.t 36)⟩,
        ⟨none, (some 7), .mov (.t 35)⟩,
        ⟨none, (some 8), .mov (.t 37)⟩])
      (.seq
       (.reg [⟨none, (some 38), .mov (.t 5)⟩,
         ⟨none, (some 39), .bin .eql (.t 38) (.c (.int .i64 (0)))⟩,
         ⟨none, (some 40), .mov (.t 39)⟩,
         ⟨(some (40, true)), (some 41), .mov (.t 8)⟩,
         ⟨(some (40, true)), (some 42), .mov (.t 7)⟩,
         ⟨(some (40, true)), (some 43), .bin .neq (.t 41) (.t 42)⟩,
         ⟨none, (some 44), .pick (.t 40) (.t 43) (.c (.bool false))⟩,
         ⟨none, (some 45), .mov (.t 44)⟩,
         ⟨(some (45, false)), (some 46), .mov (.t 7)⟩,
         ⟨(some (45, false)), (some 47), .bin .eql (.t 46) (.c (.int .i64 (0)))⟩,
         ⟨(some (45, false)), (some 48), .mov (.t 47)⟩,
         ⟨(some (48, true)), (some 49), .mov (.t 8)⟩,
         ⟨(some (48, true)), (some 50), .mov (.t 5)⟩,
         ⟨(some (48, true)), (some 51), .bin .neq (.t 49) (.t 50)⟩,
         ⟨(some (45, false)), (some 52), .pick (.t 48) (.t 51) (.c (.bool false))⟩,
         ⟨none, (some 53), .pick (.t 45) (.c (.bool true)) (.t 52)⟩,
         ⟨none, (some 54), .mov (.t 53)⟩,
         ⟨(some (54, false)), (some 55), .mov (.t 5)⟩,
         ⟨(some (54, false)), (some 56), .mov (.t 4)⟩,
         ⟨(some (54, false)), (some 57), .bin .eql (.t 55) (.t 56)⟩,
         ⟨(some (54, false)), (some 58), .mov (.t 57)⟩,
         ⟨(some (58, true)), (some 59), .mov (.t 8)⟩,
         ⟨(some (58, true)), (some 60), .mov (.t 4)⟩,
         ⟨(some (58, true)), (some 61), .mov (.t 7)⟩,
         ⟨(some (58, true)), (some 62), .bin .sub (.t 60) (.t 61)⟩,
         ⟨(some (58, true)), (some 63), .bin .neq (.t 59) (.t 62)⟩,
         ⟨(some (54, false)), (some 64), .pick (.t 58) (.t 63) (.c (.bool false))⟩,
         ⟨none, (some 65), .pick (.t 54) (.c (.bool true)) (.t 64)⟩,
         ⟨none, (some 66), .mov (.t 65)⟩,
         ⟨(some (66, false)), (some 67), .mov (.t 7)⟩,
         ⟨(some (66, false)), (some 68), .mov (.t 4)⟩,
         ⟨(some (66, false)), (some 69), .bin .eql (.t 67) (.t 68)⟩,
         ⟨(some (66, false)), (some 70), .mov (.t 69)⟩,
         ⟨(some (70, true)), (some 71), .mov (.t 8)⟩,
         ⟨(some (70, true)), (some 72), .mov (.t 4)⟩,
         ⟨(some (70, true)), (some 73), .mov (.t 5)⟩,
         ⟨(some (70, true)), (some 74), .bin .sub (.t 72) (.t 73)⟩,
         ⟨(some (70, true)), (some 75), .bin .neq (.t 71) (.t 74)⟩,
         ⟨(some (66, false)), (some 76), .pick (.t 70) (.t 75) (.c (.bool false))⟩,
         ⟨none, (some 77), .pick (.t 66) (.c (.bool true)) (.t 76)⟩,
         ⟨none, (some 9), .mov (.t 77)⟩])
       (.seq
        (.reg [⟨none, (some 78), .mov (.t 9)⟩,
          ⟨none, (some 79), .mov (.t 78)⟩,
          ⟨(some (79, false)), (some 80), .mov (.t 5)⟩,
          ⟨(some (79, false)), (some 81), .bin .gtr (.t 80) (.c (.int .i64 (0)))⟩,
          ⟨(some (79, false)), (some 82), .mov (.t 81)⟩,
          ⟨(some (82, true)), (some 83), .mov (.t 8)⟩,
          ⟨(some (82, true)), (some 84), .mov (.t 0)⟩,
          ⟨(some (82, true)), (some 85), .mov (.t 5)⟩,
          ⟨(some (82, true)), (some 86), .bin .sub (.t 85) (.c (.int .i64 (1)))⟩,
          ⟨(some (82, true)), (some 87), .indexA 1 (.t 84) (.t 86)⟩,
          ⟨(some (82, true)), (some 88), .load none (.t 87)⟩,
          ⟨(some (82, true)), (some 89), .mov (.t 7)⟩,
          ⟨(some (82, true)), (some 90), .indexA 1 (.t 88) (.t 89)⟩,
          ⟨(some (82, true)), (some 91), .load none (.t 90)⟩,
          ⟨(some (82, true)), (some 92), .bin .add (.t 91) (.c (.int .i64 (1)))⟩,
          ⟨(some (82, true)), (some 93), .bin .neq (.t 83) (.t 92)⟩,
          ⟨(some (79, false)), (some 94), .pick (.t 82) (.t 93) (.c (.bool false))⟩,
          ⟨(some (79, false)), (some 95), .mov (.t 94)⟩,
          ⟨(some (95, true)), (some 96), .mov (.t 8)⟩,
          ⟨(some (95, true)), (some 97), .mov (.t 0)⟩,
          ⟨(some (95, true)), (some 98), .mov (.t 5)⟩,
          ⟨(some (95, true)), (some 99), .bin .sub (.t 98) (.c (.int .i64 (1)))⟩,
          ⟨(some (95, true)), (some 100), .indexA 1 (.t 97) (.t 99)⟩,
          ⟨(some (95, true)), (some 101), .load none (.t 100)⟩,
          ⟨(some (95, true)), (some 102), .mov (.t 7)⟩,
          ⟨(some (95, true)), (some 103), .indexA 1 (.t 101) (.t 102)⟩,
          ⟨(some (95, true)), (some 104), .load none (.t 103)⟩,
          ⟨(some (95, true)), (some 105), .bin .sub (.t 104) (.c (.int .i64 (1)))⟩,
          ⟨(some (95, true)), (some 106), .bin .neq (.t 96) (.t 105)⟩,
          ⟨(some (79, false)), (some 107), .pick (.t 95) (.t 106) (.c (.bool false))⟩,
          ⟨none, (some 108), .pick (.t 79) (.c (.bool true)) (.t 107)⟩,
          ⟨none, (some 109), .mov (.t 108)⟩,
          ⟨(some (109, false)), (some 110), .mov (.t 7)⟩,
          ⟨(some (109, false)), (some 111), .bin .gtr (.t 110) (.c (.int .i64 (0)))⟩,
          ⟨(some (109, false)), (some 112), .mov (.t 111)⟩,
          ⟨(some (112, true)), (some 113), .mov (.t 8)⟩,
          ⟨(some (112, true)), (some 114), .mov (.t 6)⟩,
          ⟨(some (112, true)), (some 115), .mov (.t 7)⟩,
          ⟨(some (112, true)), (some 116), .bin .sub (.t 115) (.c (.int .i64 (1)))⟩,
          ⟨(some (112, true)), (some 117), .indexA 1 (.t 114) (.t 116)⟩,
          ⟨(some (112, true)), (some 118), .load none (.t 117)⟩,
          ⟨(some (112, true)), (some 119), .bin .add (.t 118) (.c (.int .i64 (1)))⟩,
          ⟨(some (112, true)), (some 120), .bin .neq (.t 113) (.t 119)⟩,
          ⟨(some (109, false)), (some 121), .pick (.t 112) (.t 120) (.c (.bool false))⟩,
          ⟨(some (109, false)), (some 122), .mov (.t 121)⟩,
          ⟨(some (122, true)), (some 123), .mov (.t 8)⟩,
          ⟨(some (122, true)), (some 124), .mov (.t 6)⟩,
          ⟨(some (122, true)), (some 125), .mov (.t 7)⟩,
          ⟨(some (122, true)), (some 126), .bin .sub (.t 125) (.c (.int .i64 (1)))⟩,
          ⟨(some (122, true)), (some 127), .indexA 1 (.t 124) (.t 126)⟩,
          ⟨(some (122, true)), (some 128), .load none (.t 127)⟩,
          ⟨(some (122, true)), (some 129), .bin .sub (.t 128) (.c (.int .i64 (1)))⟩,
          ⟨(some (122, true)), (some 130), .bin .neq (.t 123) (.t 129)⟩,
          ⟨(some (109, false)), (some 131), .pick (.t 122) (.t 130) (.c (.bool false))⟩,
          ⟨none, (some 132), .pick (.t 109) (.c (.bool true)) (.t 131)⟩])
        (.cond (.t 132)
         (.seq
          (.reg [⟨none, (some 2), .mov (.c (.nils))⟩,
            ⟨none, (some 3), .mov (.c (.int .i64 (2)))⟩])
          (.ret (m 138 12)))
         (.skip))))))
    (.reg [⟨none, (some 133), .bin .add (.t 33) (.c (.int .i64 (1)))⟩,
      ⟨none, (some 33), .mov (.t 133)⟩])))
def F43L0 : XC := .loop (m 138 15036055665) F43L0b
def F43T0 : XC :=
 .reg [⟨none, (some 134), .bin .add (.t 21) (.c (.int .i64 (1)))⟩,
   ⟨none, (some 21), .mov (.t 134)⟩]
def F43L1b : XC :=
 .seq
  (.reg [⟨none, (some 22), .bin .lss (.t 21) (.t 20)⟩])
  (.seq
   (.cond (.t 22)
    (.skip)
    (.exit 0 (m 138 1)))
   (.seq
    (.block 1 (m 138 3670033)
     (.seq
      (.reg [⟨none, (some 23), .mov (.t 21)⟩,
        ⟨none, (some 24), .indexA 1 (.t 19) (.t 21)⟩,
        ⟨none, (some 25), .load none (.t 24)⟩,
        ⟨none, (some 5), .mov (.t 23)⟩,
        ⟨none, (some 6), .mov (.t 25)⟩])
      (.seq
       (.seq
        (.reg [⟨none, (some 26), .mov (.t 6)⟩,
          ⟨none, (some 27), .len (.t 26)⟩,
          ⟨none, (some 28), .mov (.t 4)⟩,
          ⟨none, (some 29), .bin .add (.t 28) (.c (.int .i64 (1)))⟩,
          ⟨none, (some 30), .bin .neq (.t 27) (.t 29)⟩])
        (.cond (.t 30)
         (.seq
          (.reg [⟨none, (some 2), .mov (.c (.nils))⟩,
            ⟨none, (some 3), .mov (.c (.int .i64 (2)))⟩])
          (.ret (m 138 12)))
         (.skip)))
       (.seq
        (.reg [⟨none, (some 31), .mov (.t 6)⟩,
          ⟨none, (some 32), .len (.t 31)⟩,
          ⟨none, (some 33), .mov (.c (.int .i64 (0)))⟩])
        (.block 2 (m 138 3670033)
         (F43L0))))))
    F43T0))
def F43L1 : XC := .loop (m 138 3670033) F43L1b
def F43T1 : XC :=
 .seq
  (.reg [⟨none, (some 135), .mov (.t 0)⟩,
    ⟨none, (some 136), .mki 59 (.t 135)⟩,
    ⟨none, (some 137), .call 1 72 [.t 136]⟩,
    ⟨none, (some 2), .mov (.t 137)⟩,
    ⟨none, (some 3), .mov (.c (.int .i64 (0)))⟩])
  (.ret (m 138 12))
def F43B : XC :=
 .seq
  (.reg [⟨none, (some 2), .mov (.c (.nils))⟩,
    ⟨none, (some 3), .mov (.c (.int .i64 (0)))⟩])
  (.seq
   (.reg [⟨none, (some 10), .mov (.t 0)⟩,
     ⟨none, (some 11), .len (.t 10)⟩,
     ⟨none, (some 12), .bin .sub (.t 11) (.c (.int .i64 (1)))⟩,
     ⟨none, (some 4), .mov (.t 12)⟩])
   (.seq
    (.seq
     (.reg [⟨none, (some 13), .mov (.t 4)⟩,
       ⟨none, (some 14), .bin .lss (.t 13) (.c (.int .i64 (1)))⟩,
       ⟨none, (some 15), .mov (.t 14)⟩,
       ⟨(some (15, false)), (some 16), .mov (.t 4)⟩,
       ⟨(some (15, false)), (some 17), .bin .gtr (.t 16) (.c (.int .i64 (5)))⟩,
       ⟨none, (some 18), .pick (.t 15) (.c (.bool true)) (.t 17)⟩])
     (.cond (.t 18)
      (.seq
       (.reg [⟨none, (some 2), .mov (.c (.nils))⟩,
         ⟨none, (some 3), .mov (.c (.int .i64 (2)))⟩])
       (.ret (m 138 12)))
      (.skip)))
    (.seq
     (.seq
      (.reg [⟨none, (some 19), .mov (.t 0)⟩,
        ⟨none, (some 20), .len (.t 19)⟩,
        ⟨none, (some 21), .mov (.c (.int .i64 (0)))⟩])
      (.block 0 (m 138 1)
       (F43L1)))
     F43T1)))
def F43 : XF := ⟨1, 138, [.tmp 2, .tmp 3], F43B⟩
def M43 : List (List Bool) := [(m 138 12), (m 138 1), (m 138 3670033), (m 138 1), (m 138 3670033), (m 138 12), (m 138 3670033), (m 138 15036055665), (m 138 3670033), (m 138 15036055665), (m 138 12), (m 138 12)]
def F44L0b : XC :=
 .seq
  (.seq
   (.reg [⟨none, (some 29), .mov (.t 5)⟩,
     ⟨none, (some 30), .mov (.t 4)⟩,
     ⟨none, (some 31), .bin .leq (.t 29) (.t 30)⟩])
   (.cond (.t 31)
    (.skip)
    (.exit 2 (m 121 25))))
  (.seq
   (.block 3 (m 121 57)
    (.seq
     (.reg [⟨none, (some 34), .mov (.t 0)⟩,
       ⟨none, (some 35), .mov (.t 4)⟩,
       ⟨none, (some 36), .indexA 1 (.t 34) (.t 35)⟩,
       ⟨none, (some 37), .load none (.t 36)⟩,
       ⟨none, (some 38), .mov (.t 5)⟩,
       ⟨none, (some 39), .indexA 1 (.t 37) (.t 38)⟩,
       ⟨none, (some 40), .load none (.t 39)⟩,
       ⟨none, (some 41), .bin .lss (.t 40) (.c (.int .i64 (1)))⟩,
       ⟨none, (some 42), .mov (.t 41)⟩,
       ⟨(some (42, false)), (some 43), .mov (.t 0)⟩,
       ⟨(some (42, false)), (some 44), .mov (.t 4)⟩,
       ⟨(some (42, false)), (some 45), .indexA 1 (.t 43) (.t 44)⟩,
       ⟨(some (42, false)), (some 46), .load none (.t 45)⟩,
       ⟨(some (42, false)), (some 47), .mov (.t 5)⟩,
       ⟨(some (42, false)), (some 48), .indexA 1 (.t 46) (.t 47)⟩,
       ⟨(some (42, false)), (some 49), .load none (.t 48)⟩,
       ⟨(some (42, false)), (some 50), .mov (.t 3)⟩,
       ⟨(some (42, false)), (some 51), .bin .gtr (.t 49) (.t 50)⟩,
       ⟨none, (some 52), .pick (.t 42) (.c (.bool true)) (.t 51)⟩,
       ⟨none, (some 53), .mov (.t 52)⟩,
       ⟨(some (53, false)), (some 54), .mov (.t 5)⟩,
       ⟨(some (53, false)), (some 55), .bin .gtr (.t 54) (.c (.int .i64 (0)))⟩,
       ⟨(some (53, false)), (some 56), .mov (.t 55)⟩,
       ⟨(some (56, true)), (some 57), .mov (.t 0)⟩,
       ⟨(some (56, true)), (some 58), .mov (.t 4)⟩,
       ⟨(some (56, true)), (some 59), .indexA 1 (.t 57) (.t 58)⟩,
       ⟨(some (56, true)), (some 60), .load none (.t 59)⟩,
       ⟨(some (56, true)), (some 61), .mov (.t 5)⟩,
       ⟨(some (56, true)), (some 62), .indexA 1 (.t 60) (.t 61)⟩,
       ⟨(some (56, true)), (some 63), .load none (.t 62)⟩,
       ⟨(some (56, true)), (some 64), .mov (.t 0)⟩,
       ⟨(some (56, true)), (some 65), .mov (.t 4)⟩,
       ⟨(some (56, true)), (some 66), .indexA 1 (.t 64) (.t 65)⟩,
       ⟨(some (56, true)), (some 67), .load none (.t 66)⟩,
       ⟨(some (56, true)), (some 68), .mov (.t 5)⟩,
       ⟨(some (56, true)), (some 69), .bin .sub (.t 68) (.c (.int .i64 (1)))⟩,
       ⟨(some (56, true)), (some 70), .indexA 1 (.t 67) (.t 69)⟩,
       ⟨(some (56, true)), (some 71), .load none (.t 70)⟩,
       ⟨(some (56, true)), (some 72), .bin .leq (.t 63) (.t 71)⟩,
       ⟨(some (53, false)), (some 73), .pick (.t 56) (.t 72) (.c (.bool false))⟩,
       ⟨none, (some 74), .pick (.t 53) (.c (.bool true)) (.t 73)⟩])
     (.cond (.t 74)
      (.seq
       (.reg [⟨none, (some 2), .mov (.c (.bool false))⟩])
       (.ret (m 121 4)))
      (.skip))))
   (.reg [⟨none, (some 32), .mov (.t 5)⟩,
     ⟨none, (some 33), .bin .add (.t 32) (.c (.int .i64 (1)))⟩,
     ⟨none, (some 5), .mov (.t 33)⟩]))
def F44L0 : XC := .loop (m 121 57) F44L0b
def F44T0 : XC :=
 .reg [⟨none, (some 19), .mov (.t 4)⟩,
   ⟨none, (some 20), .bin .add (.t 19) (.c (.int .i64 (1)))⟩,
   ⟨none, (some 4), .mov (.t 20)⟩]
def F44L1b : XC :=
 .seq
  (.seq
   (.reg [⟨none, (some 16), .mov (.t 4)⟩,
     ⟨none, (some 17), .mov (.t 3)⟩,
     ⟨none, (some 18), .bin .lss (.t 16) (.t 17)⟩])
   (.cond (.t 18)
    (.skip)
    (.exit 0 (m 121 9))))
  (.seq
   (.block 1 (m 121 25)
    (.seq
     (.seq
      (.reg [⟨none, (some 21), .mov (.t 0)⟩,
        ⟨none, (some 22), .mov (.t 4)⟩,
        ⟨none, (some 23), .indexA 1 (.t 21) (.t 22)⟩,
        ⟨none, (some 24), .load none (.t 23)⟩,
        ⟨none, (some 25), .len (.t 24)⟩,
        ⟨none, (some 26), .mov (.t 4)⟩,
        ⟨none, (some 27), .bin .add (.t 26) (.c (.int .i64 (1)))⟩,
        ⟨none, (some 28), .bin .neq (.t 25) (.t 27)⟩])
      (.cond (.t 28)
       (.seq
        (.reg [⟨none, (some 2), .mov (.c (.bool false))⟩])
        (.ret (m 121 4)))
       (.skip)))
     (.seq
      (.reg [⟨none, (some 5), .mov (.c (.int .i64 (0)))⟩])
      (.block 2 (m 121 25)
       (F44L0)))))
   F44T0)
def F44L1 : XC := .loop (m 121 25) F44L1b
def F44L2b : XC :=
 .seq
  (.seq
   (.reg [⟨none, (some 81), .mov (.t 7)⟩,
     ⟨none, (some 82), .mov (.t 6)⟩,
     ⟨none, (some 83), .bin .leq (.t 81) (.t 82)⟩])
   (.cond (.t 83)
    (.skip)
    (.exit 6 (m 121 73))))
  (.seq
   (.block 7 (m 121 201)
    (.seq
     (.reg [⟨none, (some 86), .mov (.t 0)⟩,
       ⟨none, (some 87), .mov (.t 6)⟩,
       ⟨none, (some 88), .indexA 1 (.t 86) (.t 87)⟩,
       ⟨none, (some 89), .load none (.t 88)⟩,
       ⟨none, (some 90), .mov (.t 7)⟩,
       ⟨none, (some 91), .indexA 1 (.t 89) (.t 90)⟩,
       ⟨none, (some 92), .load none (.t 91)⟩,
       ⟨none, (some 93), .mov (.t 0)⟩,
       ⟨none, (some 94), .mov (.t 6)⟩,
       ⟨none, (some 95), .bin .add (.t 94) (.c (.int .i64 (1)))⟩,
       ⟨none, (some 96), .indexA 1 (.t 93) (.t 95)⟩,
       ⟨none, (some 97), .load none (.t 96)⟩,
       ⟨none, (some 98), .mov (.t 7)⟩,
       ⟨none, (some 99), .indexA 1 (.t 97) (.t 98)⟩,
       ⟨none, (some 100), .load none (.t 99)⟩,
       ⟨none, (some 101), .bin .lss (.t 92) (.t 100)⟩,
       ⟨none, (some 102), .mov (.t 101)⟩,
       ⟨(some (102, false)), (some 103), .mov (.t 0)⟩,
       ⟨(some (102, false)), (some 104), .mov (.t 6)⟩,
       ⟨(some (102, false)), (some 105), .indexA 1 (.t 103) (.t 104)⟩,
       ⟨(some (102, false)), (some 106), .load none (.t 105)⟩,
       ⟨(some (102, false)), (some 107), .mov (.t 7)⟩,
       ⟨(some (102, false)), (some 108), .indexA 1 (.t 106) (.t 107)⟩,
       ⟨(some (102, false)), (some 109), .load none (.t 108)⟩,
       ⟨(some (102, false)), (some 110), .mov (.t 0)⟩,
       ⟨(some (102, false)), (some 111), .mov (.t 6)⟩,
       ⟨(some (102, false)), (some 112), .bin .add (.t 111) (.c (.int .i64 (1)))⟩,
       ⟨(some (102, false)), (some 113), .indexA 1 (.t 110) (.t 112)⟩,
       ⟨(some (102, false)), (some 114), .load none (.t 113)⟩,
       ⟨(some (102, false)), (some 115), .mov (.t 7)⟩,
       ⟨(some (102, false)), (some 116), .bin .add (.t 115) (.c (.int .i64 (1)))⟩,
       ⟨(some (102, false)), (some 117), .indexA 1 (.t 114) (.t 116)⟩,
       ⟨(some (102, false)), (some 118), .load none (.t 117)⟩,
       ⟨(some (102, false)), (some 119), .bin .gtr (.t 109) (.t 118)⟩,
       ⟨none, (some 120), .pick (.t 102) (.c (.bool true)) (.t 119)⟩])
     (.cond (.t 120)
      (.seq
       (.reg [⟨none, (some 2), .mov (.c (.bool false))⟩])
       (.ret (m 121 4)))
      (.skip))))
   (.reg [⟨none, (some 84), .mov (.t 7)⟩,
     ⟨none, (some 85), .bin .add (.t 84) (.c (.int .i64 (1)))⟩,
     ⟨none, (some 7), .mov (.t 85)⟩]))
def F44L2 : XC := .loop (m 121 201) F44L2b
def F44T1 : XC :=
 .reg [⟨none, (some 79), .mov (.t 6)⟩,
   ⟨none, (some 80), .bin .add (.t 79) (.c (.int .i64 (1)))⟩,
   ⟨none, (some 6), .mov (.t 80)⟩]
def F44L3b : XC :=
 .seq
  (.seq
   (.reg [⟨none, (some 75), .mov (.t 6)⟩,
     ⟨none, (some 76), .bin .add (.t 75) (.c (.int .i64 (1)))⟩,
     ⟨none, (some 77), .mov (.t 3)⟩,
     ⟨none, (some 78), .bin .lss (.t 76) (.t 77)⟩])
   (.cond (.t 78)
    (.skip)
    (.exit 4 (m 121 0))))
  (.seq
   (.block 5 (m 121 73)
    (.seq
     (.reg [⟨none, (some 7), .mov (.c (.int .i64 (0)))⟩])
     (.block 6 (m 121 73)
      (F44L2))))
   F44T1)
def F44L3 : XC := .loop (m 121 73) F44L3b
def F44T2 : XC :=
 .seq
  (.reg [⟨none, (some 2), .mov (.c (.bool true))⟩])
  (.ret (m 121 4))
def F44T3 : XC :=
 .seq
  (.seq
   (.reg [⟨none, (some 6), .mov (.c (.int .i64 (0)))⟩])
   (.block 4 (m 121 0)
    (F44L3)))
  F44T2
def F44B : XC :=
 .seq
  (.reg [⟨none, (some 2), .mov (.c (.bool false))⟩])
  (.seq
   (.reg [⟨none, (some 8), .mov (.t 0)⟩,
     ⟨none, (some 9), .len (.t 8)⟩,
     ⟨none, (some 3), .mov (.t 9)⟩])
   (.seq
    (.seq
     (.reg [⟨none, (some 10), .mov (.t 3)⟩,
       ⟨none, (some 11), .bin .lss (.t 10) (.c (.int .i64 (1)))⟩,
       ⟨none, (some 12), .mov (.t 11)⟩,
       ⟨(some (12, false)), (some 13), .mov (.t 3)⟩,
       ⟨(some (12, false)), (some 14), .bin .gtr (.t 13) (.c (.int .i64 (5)))⟩,
       ⟨none, (some 15), .pick (.t 12) (.c (.bool true)) (.t 14)⟩])
     (.cond (.t 15)
      (.seq
       (.reg [⟨none, (some 2), .mov (.c (.bool false))⟩])
       (.ret (m 121 4)))
      (.skip)))
    (.seq
     (.seq
      (.reg [⟨none, (some 4), .mov (.c (.int .i64 (0)))⟩])
      (.block 0 (m 121 9)
       (F44L1)))
     F44T3)))
def F44 : XF := ⟨1, 121, [.tmp 2], F44B⟩
def M44 : List (List Bool) := [(m 121 4), (m 121 9), (m 121 25), (m 121 9), (m 121 25), (m 121 4), (m 121 25), (m 121 57), (m 121 25), (m 121 57), (m 121 4), (m 121 0), (m 121 73), (m 121 0), (m 121 73), (m 121 73), (m 121 201), (m 121 73), (m 121 201), (m 121 4), (m 121 4)]
def F45L0b : XC :=
 .seq
  (.reg [⟨none, (some 35), .bin .lss (.t 34) (.t 33)⟩])
  (.seq
   (.cond (.t 35)
    (.skip)
    (.exit 2 (m 72 7340049)))
   (.seq
    (.block 3 (m 72 30072111185)
     (.seq
      (.reg [⟨none, (some 36), .mov (.t 34)⟩,
        ⟨none, (some 37), .indexA 1 (.t 32) (.t 34)⟩,
        ⟨none, (some 38), .load none (.t 37)⟩,
        ⟨none, (some 7), .mov (.t 36)⟩,
        ⟨none, (some 8), .mov (.t 38)⟩])
      (.seq
       (.reg [⟨none, (some 39), .mov (.t 8)⟩,
         ⟨none, (some 40), .bin .lss (.t 39) (.c (.int .i64 (1)))⟩,
         ⟨none, (some 41), .mov (.t 40)⟩,
         ⟨(some (41, false)), (some 42), .mov (.t 8)⟩,
         ⟨(some (41, false)), (some 43), .mov (.t 4)⟩,
         ⟨(some (41, false)), (some 44), .bin .gtr (.t 42) (.t 43)⟩,
         ⟨none, (some 45), .pick (.t 41) (.c (.bool true)) (.t 44)⟩,
         ⟨none, (some 46), .mov (.t 45)⟩,
         ⟨(some (46, false)), (some 47), .mov (.t 7)⟩,
         ⟨(some (46, false)), (some 48), .bin .gtr (.t 47) (.c (.int .i64 (0)))⟩,
         ⟨(some (46, false)), (some 49), .mov (.t 48)⟩,
         ⟨(some (49, true)), (some 50), .mov (.t 8)⟩,
         ⟨(some (49, true)), (some 51), .mov (.t 6)⟩,
         ⟨(some (49, true)), (some 52), .mov (.t 7)⟩,
         ⟨(some (49, true)), (some 53), .bin .sub (.t 52) (.c (.int .i64 (1)))⟩,
         ⟨(some (49, true)), (some 54), .indexA 1 (.t 51) (.t 53)⟩,
         ⟨(some (49, true)), (some 55), .load none (.t 54)⟩,
         ⟨(some (49, true)), (some 56), .bin .leq (.t 50) (.t 55)⟩,
         ⟨(some (46, false)), (some 57), .pick (.t 49) (.t 56) (.c (.bool false))⟩,
         ⟨none, (some 58), .pick (.t 46) (.c (.bool true)) (.t 57)⟩])
       (.cond (.t 58)
        (.seq
         (.reg [⟨none, (some 2), .mov (.c (.nils))⟩,
           ⟨none, (some 3), .mov (.c (.int .i64 (2)))⟩])
         (.ret (m 72 12)))
        (.skip)))))
    (.reg [⟨none, (some 59), .bin .add (.t 34) (.c (.int .i64 (1)))⟩,
      ⟨none, (some 34), .mov (.t 59)⟩])))
def F45L0 : XC := .loop (m 72 30072111185) F45L0b
def F45T0 : XC :=
 .reg [⟨none, (some 60), .bin .add (.t 22) (.c (.int .i64 (1)))⟩,
   ⟨none, (some 22), .mov (.t 60)⟩]
def F45L1b : XC :=
 .seq
  (.reg [⟨none, (some 23), .bin .lss (.t 22) (.t 21)⟩])
  (.seq
   (.cond (.t 23)
    (.skip)
    (.exit 0 (m 72 1)))
   (.seq
    (.block 1 (m 72 7340049)
     (.seq
      (.reg [⟨none, (some 24), .mov (.t 22)⟩,
        ⟨none, (some 25), .indexA 1 (.t 20) (.t 22)⟩,
        ⟨none, (some 26), .load none (.t 25)⟩,
        ⟨none, (some 5), .mov (.t 24)⟩,
        ⟨none, (some 6), .mov (.t 26)⟩])
      (.seq
       (.seq
        (.reg [⟨none, (some 27), .mov (.t 6)⟩,
          ⟨none, (some 28), .len (.t 27)⟩,
          ⟨none, (some 29), .mov (.t 5)⟩,
          ⟨none, (some 30), .bin .add (.t 29) (.c (.int .i64 (1)))⟩,
          ⟨none, (some 31), .bin .neq (.t 28) (.t 30)⟩])
        (.cond (.t 31)
         (.seq
          (.reg [⟨none, (some 2), .mov (.c (.nils))⟩,
            ⟨none, (some 3), .mov (.c (.int .i64 (2)))⟩])
          (.ret (m 72 12)))
         (.skip)))
       (.seq
        (.reg [⟨none, (some 32), .mov (.t 6)⟩,
          ⟨none, (some 33), .len (.t 32)⟩,
          ⟨none, (some 34), .mov (.c (.int .i64 (0)))⟩])
        (.block 2 (m 72 7340049)
         (F45L0))))))
    F45T0))
def F45L1 : XC := .loop (m 72 7340049) F45L1b
def F45T1 : XC :=
 .seq
  (.reg [⟨none, (some 61), .mov (.t 0)⟩,
    ⟨none, (some 62), .mki 69 (.t 61)⟩,
    ⟨none, (some 63), .call 1 72 [.t 62]⟩,
    ⟨none, (some 9), .mov (.t 63)⟩])
  (.seq
   (.seq
    (.reg [⟨none, (some 65), .mov (.t 9)⟩,
      ⟨none, (some 66), .call 0 64 [.t 65]⟩,
      ⟨none, (some 64), .mov (.t 66)⟩,
      ⟨none, (some 67), .ext (.t 64) 0⟩,
      ⟨none, (some 68), .ext (.t 64) 1⟩,
      ⟨none, (some 10), .mov (.t 67)⟩,
      ⟨none, (some 11), .mov (.t 68)⟩])
    (.seq
     (.reg [⟨none, (some 69), .mov (.t 11)⟩,
       ⟨none, (some 70), .un .not (.t 69)⟩])
     (.cond (.t 70)
      (.seq
       (.reg [⟨none, (some 2), .mov (.c (.nils))⟩,
         ⟨none, (some 3), .mov (.c (.int .i64 (2)))⟩])
       (.ret (m 72 12)))
      (.skip))))
   (.seq
    (.reg [⟨none, (some 71), .mov (.t 9)⟩,
      ⟨none, (some 2), .mov (.t 71)⟩,
      ⟨none, (some 3), .mov (.c (.int .i64 (0)))⟩])
    (.ret (m 72 12))))
def F45B : XC :=
 .seq
  (.reg [⟨none, (some 2), .mov (.c (.nils))⟩,
    ⟨none, (some 3), .mov (.c (.int .i64 (0)))⟩])
  (.seq
   (.reg [⟨none, (some 12), .mov (.t 0)⟩,
     ⟨none, (some 13), .len (.t 12)⟩,
     ⟨none, (some 4), .mov (.t 13)⟩])
   (.seq
    (.seq
     (.reg [⟨none, (some 14), .mov (.t 4)⟩,
       ⟨none, (some 15), .bin .lss (.t 14) (.c (.int .i64 (1)))⟩,
       ⟨none, (some 16), .mov (.t 15)⟩,
       ⟨(some (16, false)), (some 17), .mov (.t 4)⟩,
       ⟨(some (16, false)), (some 18), .bin .gtr (.t 17) (.c (.int .i64 (5)))⟩,
       ⟨none, (some 19), .pick (.t 16) (.c (.bool true)) (.t 18)⟩])
     (.cond (.t 19)
      (.seq
       (.reg [⟨none, (some 2), .mov (.c (.nils))⟩,
         ⟨none, (some 3), .mov (.c (.int .i64 (2)))⟩])
       (.ret (m 72 12)))
      (.skip)))
    (.seq
     (.seq
      (.reg [⟨none, (some 20), .mov (.t 0)⟩,
        ⟨none, (some 21), .len (.t 20)⟩,
        ⟨none, (some 22), .mov (.c (.int .i64 (0)))⟩])
      (.block 0 (m 72 1)
       (F45L1)))
     F45T1)))
def F45 : XF := ⟨1, 72, [.tmp 2, .tmp 3], F45B⟩
def M45 : List (List Bool) := [(m 72 12), (m 72 1), (m 72 7340049), (m 72 1), (m 72 7340049), (m 72 12), (m 72 7340049), (m 72 30072111185), (m 72 7340049), (m 72 30072111185), (m 72 12), (m 72 12), (m 72 12)]
def F46B : XC :=
 .seq
  (.reg [⟨none, (some 6), .mov (.c (.nils))⟩,
    ⟨none, (some 7), .mov (.c (.int .i64 (0)))⟩])
  (.seq
   (.reg [⟨none, (some 13), .mov (.t 0)⟩,
     ⟨none, (some 14), .call 0 64 [.t 13]⟩,
     ⟨none, (some 12), .mov (.t 14)⟩,
     ⟨none, (some 15), .ext (.t 12) 0⟩,
     ⟨none, (some 16), .ext (.t 12) 1⟩,
     ⟨none, (some 8), .mov (.t 15)⟩,
     ⟨none, (some 9), .mov (.t 16)⟩])
   (.seq
    (.seq
     (.reg [⟨none, (some 17), .mov (.t 9)⟩,
       ⟨none, (some 18), .un .not (.t 17)⟩,
       ⟨none, (some 19), .mov (.t 18)⟩,
       ⟨(some (19, false)), (some 20), .mov (.t 1)⟩,
       ⟨(some (19, false)), (some 21), .mov (.t 2)⟩,
       ⟨(some (19, false)), (some 22), .mnx false [.t 20, .t 21]⟩,
       ⟨(some (19, false)), (some 23), .bin .lss (.t 22) (.c (.int .i64 (1)))⟩,
       ⟨none, (some 24), .pick (.t 19) (.c (.bool true)) (.t 23)⟩,
       ⟨none, (some 25), .mov (.t 24)⟩,
       ⟨(some (25, false)), (some 26), .mov (.t 1)⟩,
       ⟨(some (25, false)), (some 27), .mov (.t 2)⟩,
       ⟨(some (25, false)), (some 28), .mnx true [.t 26, .t 27]⟩,
       ⟨(some (25, false)), (some 29), .mov (.t 0)⟩,
       ⟨(some (25, false)), (some 30), .len (.t 29)⟩,
       ⟨(some (25, false)), (some 31), .bin .geq (.t 28) (.t 30)⟩,
       ⟨none, (some 32), .pick (.t 25) (.c (.bool true)) (.t 31)⟩])
     (.cond (.t 32)
      (.seq
       (.reg [⟨none, (some 6), .mov (.c (.nils))⟩,
         ⟨none, (some 7), .mov (.c (.int .i64 (2)))⟩])
       (.ret (m 55 192)))
      (.skip)))
    (.seq
     (.reg [⟨none, (some 33), .mov (.t 8)⟩,
       ⟨none, (some 34), .mki 56 (.t 33)⟩,
       ⟨none, (some 35), .call 2 62 [.t 34]⟩,
       ⟨none, (some 10), .mov (.t 35)⟩])
     (.seq
      (.reg [⟨none, (some 37), .mov (.t 10)⟩,
        ⟨none, (some 38), .mov (.t 1)⟩,
        ⟨none, (some 39), .mov (.t 2)⟩,
        ⟨none, (some 40), .call 1 74 [.t 37, .t 38, .t 39]⟩,
        ⟨none, (some 36), .mov (.t 40)⟩,
        ⟨none, (some 41), .ext (.t 36) 0⟩,
        ⟨none, (some 42), .ext (.t 36) 1⟩,
        ⟨none, (some 11), .mov (.t 41)⟩,
        ⟨none, (some 9), .mov (.t 42)⟩])
      (.seq
       (.seq
        (.reg [⟨none, (some 43), .mov (.t 9)⟩,
          ⟨none, (some 44), .un .not (.t 43)⟩])
        (.cond (.t 44)
         (.seq
          (.reg [⟨none, (some 6), .mov (.c (.nils))⟩,
            ⟨none, (some 7), .mov (.c (.int .i64 (9)))⟩])
          (.ret (m 55 192)))
         (.skip)))
       (.seq
        (.reg [⟨none, (some 45), .mov (.t 10)⟩,
          ⟨none, (some 46), .mov (.t 1)⟩,
          ⟨none, (some 47), .indexA 1 (.t 45) (.t 46)⟩,
          ⟨none, (some 48), .load none (.t 47)⟩,
          ⟨none, (some 49), .mov (.t 2)⟩,
          ⟨none, (some 50), .mov (.t 11)⟩,
          ⟨none, (some 51), .indexA 1 (.t 48) (.t 49)⟩,
          ⟨none, none, .store 1 (.t 51) (.t 50)⟩])
        (.seq
         (.reg [⟨none, (some 52), .mov (.t 10)⟩,
           ⟨none, (some 53), .mki 59 (.t 52)⟩,
           ⟨none, (some 54), .call 1 72 [.t 53]⟩,
           ⟨none, (some 6), .mov (.t 54)⟩,
           ⟨none, (some 7), .mov (.c (.int .i64 (0)))⟩])
         (.ret (m 55 192)))))))))
def F46 : XF := ⟨3, 55, [.tmp 6, .tmp 7], F46B⟩
def M46 : List (List Bool) := [(m 55 192), (m 55 192), (m 55 192)]
def F47B : XC :=
 .seq
  (.reg [⟨none, (some 2), .mov (.c (.nils))⟩,
    ⟨none, (some 3), .mov (.c (.int .i64 (0)))⟩])
  (.seq
   (.reg [⟨none, (some 8), .mov (.t 0)⟩,
     ⟨none, (some 9), .call 0 64 [.t 8]⟩,
     ⟨none, (some 7), .mov (.t 9)⟩,
     ⟨none, (some 10), .ext (.t 7) 0⟩,
     ⟨none, (some 11), .ext (.t 7) 1⟩,
     ⟨none, (some 4), .mov (.t 10)⟩,
     ⟨none, (some 5), .mov (.t 11)⟩])
   (.seq
    (.seq
     (.reg [⟨none, (some 12), .mov (.t 5)⟩,
       ⟨none, (some 13), .un .not (.t 12)⟩])
     (.cond (.t 13)
      (.seq
       (.reg [⟨none, (some 2), .mov (.c (.nils))⟩,
         ⟨none, (some 3), .mov (.c (.int .i64 (2)))⟩])
       (.ret (m 22 12)))
      (.skip)))
    (.seq
     (.reg [⟨none, (some 14), .mov (.t 4)⟩,
       ⟨none, (some 15), .mki 56 (.t 14)⟩,
       ⟨none, (some 16), .call 2 62 [.t 15]⟩,
       ⟨none, (some 6), .mov (.t 16)⟩])
     (.seq
      (.reg [⟨none, (some 17), .mov (.t 6)⟩,
        ⟨none, (some 18), .call 0 75 [.t 17]⟩])
      (.seq
       (.reg [⟨none, (some 19), .mov (.t 6)⟩,
         ⟨none, (some 20), .mki 59 (.t 19)⟩,
         ⟨none, (some 21), .call 1 72 [.t 20]⟩,
         ⟨none, (some 2), .mov (.t 21)⟩,
         ⟨none, (some 3), .mov (.c (.int .i64 (0)))⟩])
       (.ret (m 22 12)))))))
def F47 : XF := ⟨1, 22, [.tmp 2, .tmp 3], F47B⟩
def M47 : List (List Bool) := [(m 22 12), (m 22 12)]
def F48L0b : XC :=
 .seq
  (.seq
   (.reg [⟨none, (some 8), .mov (.t 4)⟩,
     ⟨none, (some 9), .mov (.t 0)⟩,
     ⟨none, (some 10), .len (.t 9)⟩,
     ⟨none, (some 11), .bin .lss (.t 8) (.t 10)⟩])
   (.cond (.t 11)
    (.skip)
    (.exit 0 (m 30 8))))
  (.seq
   (.block 1 (m 30 25)
    (.reg [⟨none, (some 14), .mov (.t 3)⟩,
      ⟨none, (some 15), .mov (.t 4)⟩,
      ⟨none, (some 16), .bin .add (.t 15) (.c (.int .i64 (1)))⟩,
      ⟨none, (some 17), .mov (.t 0)⟩,
      ⟨none, (some 18), .len (.t 17)⟩,
      ⟨none, (some 19), .bin .rem (.t 16) (.t 18)⟩,
      ⟨none, (some 20), .mov (.t 0)⟩,
      ⟨none, (some 21), .mov (.t 4)⟩,
      ⟨none, (some 22), .indexA 1 (.t 20) (.t 21)⟩,
      ⟨none, (some 23), .load none (.t 22)⟩,
      ⟨none, (some 24), .bin .add (.t 23) (.c (.int .i64 (1)))⟩,
      ⟨none, (some 25), .mov (.t 0)⟩,
      ⟨none, (some 26), .len (.t 25)⟩,
      ⟨none, (some 27), .bin .rem (.t 24) (.t 26)⟩,
      ⟨none, (some 28), .indexA 1 (.t 14) (.t 19)⟩,
      ⟨none, none, .store 1 (.t 28) (.t 27)⟩]))
   (.reg [⟨none, (some 12), .mov (.t 4)⟩,
     ⟨none, (some 13), .bin .add (.t 12) (.c (.int .i64 (1)))⟩,
     ⟨none, (some 4), .mov (.t 13)⟩]))
def F48L0 : XC := .loop (m 30 25) F48L0b
def F48T0 : XC :=
 .seq
  (.reg [⟨none, (some 29), .mov (.t 3)⟩,
    ⟨none, (some 2), .mov (.t 29)⟩])
  (.ret (m 30 4))
def F48B : XC :=
 .seq
  (.reg [⟨none, (some 2), .mov (.c (.nils))⟩])
  (.seq
   (.reg [⟨none, (some 5), .mov (.t 0)⟩,
     ⟨none, (some 6), .len (.t 5)⟩,
     ⟨none, (some 7), .mks 1 8 [.int .i64 (0)] (.t 6) (.t 6)⟩,
     ⟨none, (some 3), .mov (.t 7)⟩])
   (.seq
    (.seq
     (.reg [⟨none, (some 4), .mov (.c (.int .i64 (0)))⟩])
     (.block 0 (m 30 8)
      (F48L0)))
    F48T0))
def F48 : XF := ⟨1, 30, [.tmp 2], F48B⟩
def M48 : List (List Bool) := [(m 30 8), (m 30 25), (m 30 8), (m 30 25), (m 30 4)]
def F49L0b : XC :=
 .seq
  (.seq
   (.reg [⟨none, (some 30), .mov (.t 6)⟩,
     ⟨none, (some 31), .mov (.t 4)⟩,
     ⟨none, (some 32), .bin .leq (.t 30) (.t 31)⟩])
   (.cond (.t 32)
    (.skip)
    (.exit 2 (m 68 49))))
  (.seq
   (.block 3 (m 68 113)
    (.seq
     (.reg [⟨none, (some 35), .mov (.t 0)⟩,
       ⟨none, (some 36), .mov (.t 5)⟩,
       ⟨none, (some 37), .indexA 1 (.t 35) (.t 36)⟩,
       ⟨none, (some 38), .load none (.t 37)⟩,
       ⟨none, (some 39), .mov (.t 6)⟩,
       ⟨none, (some 40), .indexA 1 (.t 38) (.t 39)⟩,
       ⟨none, (some 41), .load none (.t 40)⟩,
       ⟨none, (some 42), .bin .lss (.t 41) (.c (.int .i64 (0)))⟩,
       ⟨none, (some 43), .mov (.t 42)⟩,
       ⟨(some (43, false)), (some 44), .mov (.t 0)⟩,
       ⟨(some (43, false)), (some 45), .mov (.t 5)⟩,
       ⟨(some (43, false)), (some 46), .indexA 1 (.t 44) (.t 45)⟩,
       ⟨(some (43, false)), (some 47), .load none (.t 46)⟩,
       ⟨(some (43, false)), (some 48), .mov (.t 6)⟩,
       ⟨(some (43, false)), (some 49), .indexA 1 (.t 47) (.t 48)⟩,
       ⟨(some (43, false)), (some 50), .load none (.t 49)⟩,
       ⟨(some (43, false)), (some 51), .mov (.t 4)⟩,
       ⟨(some (43, false)), (some 52), .bin .mul (.c (.int .i64 (2))) (.t 51)⟩,
       ⟨(some (43, false)), (some 53), .bin .gtr (.t 50) (.t 52)⟩,
       ⟨none, (some 54), .pick (.t 43) (.c (.bool true)) (.t 53)⟩])
     (.cond (.t 54)
      (.seq
       (.reg [⟨none, (some 2), .mov (.c (.nils))⟩,
         ⟨none, (some 3), .mov (.c (.int .i64 (2)))⟩])
       (.ret (m 68 12)))
      (.skip))))
   (.reg [⟨none, (some 33), .mov (.t 6)⟩,
     ⟨none, (some 34), .bin .add (.t 33) (.c (.int .i64 (1)))⟩,
     ⟨none, (some 6), .mov (.t 34)⟩]))
def F49L0 : XC := .loop (m 68 113) F49L0b
def F49T0 : XC :=
 .reg [⟨none, (some 20), .mov (.t 5)⟩,
   ⟨none, (some 21), .bin .add (.t 20) (.c (.int .i64 (1)))⟩,
   ⟨none, (some 5), .mov (.t 21)⟩]
def F49L1b : XC :=
 .seq
  (.seq
   (.reg [⟨none, (some 17), .mov (.t 5)⟩,
     ⟨none, (some 18), .mov (.t 4)⟩,
     ⟨none, (some 19), .bin .leq (.t 17) (.t 18)⟩])
   (.cond (.t 19)
    (.skip)
    (.exit 0 (m 68 1))))
  (.seq
   (.block 1 (m 68 49)
    (.seq
     (.seq
      (.reg [⟨none, (some 22), .mov (.t 0)⟩,
        ⟨none, (some 23), .mov (.t 5)⟩,
        ⟨none, (some 24), .indexA 1 (.t 22) (.t 23)⟩,
        ⟨none, (some 25), .load none (.t 24)⟩,
        ⟨none, (some 26), .len (.t 25)⟩,
        ⟨none, (some 27), .mov (.t 4)⟩,
        ⟨none, (some 28), .bin .add (.t 27) (.c (.int .i64 (1)))⟩,
        ⟨none, (some 29), .bin .neq (.t 26) (.t 28)⟩])
      (.cond (.t 29)
       (.seq
        (.reg [⟨none, (some 2), .mov (.c (.nils))⟩,
          ⟨none, (some 3), .mov (.c (.int .i64 (2)))⟩])
        (.ret (m 68 12)))
       (.skip)))
     (.seq
      (.reg [⟨none, (some 6), .mov (.c (.int .i64 (0)))⟩])
      (.block 2 (m 68 49)
       (F49L0)))))
   F49T0)
def F49L1 : XC := .loop (m 68 49) F49L1b
def F49T1 : XC :=
 .seq
  (.reg [⟨none, (some 55), .mov (.t 0)⟩,
    ⟨none, (some 56), .call 1 73 [.t 55]⟩,
    ⟨none, (some 7), .mov (.t 56)⟩])
  (.seq
   (.seq
    (.reg [⟨none, (some 57), .mov (.t 7)⟩,
      ⟨none, (some 58), .call 1 26 [.t 57]⟩,
      ⟨none, (some 59), .un .not (.t 58)⟩,
      ⟨none, (some 60), .mov (.t 59)⟩,
      ⟨(some (60, false)), (some 61), .mov (.t 7)⟩,
      ⟨(some (60, false)), (some 62), .call 2 65 [.t 61]⟩,
      ⟨(some (60, false)), (some 63), .mov (.t 0)⟩,
      ⟨(some (60, false)), (some 64), .call 1 19 [.t 62, .t 63]⟩,
      ⟨(some (60, false)), (some 65), .un .not (.t 64)⟩,
      ⟨none, (some 66), .pick (.t 60) (.c (.bool true)) (.t 65)⟩])
    (.cond (.t 66)
     (.seq
      (.reg [⟨none, (some 2), .mov (.c (.nils))⟩,
        ⟨none, (some 3), .mov (.c (.int .i64 (2)))⟩])
      (.ret (m 68 12)))
     (.skip)))
   (.seq
    (.reg [⟨none, (some 67), .mov (.t 7)⟩,
      ⟨none, (some 2), .mov (.t 67)⟩,
      ⟨none, (some 3), .mov (.c (.int .i64 (0)))⟩])
    (.ret (m 68 12))))
def F49B : XC :=
 .seq
  (.reg [⟨none, (some 2), .mov (.c (.nils))⟩,
    ⟨none, (some 3), .mov (.c (.int .i64 (0)))⟩])
  (.seq
   (.reg [⟨none, (some 8), .mov (.t 0)⟩,
     ⟨none, (some 9), .len (.t 8)⟩,
     ⟨none, (some 10), .bin .sub (.t 9) (.c (.int .i64 (1)))⟩,
     ⟨none, (some 4), .mov (.t 10)⟩])
   (.seq
    (.seq
     (.reg [⟨none, (some 11), .mov (.t 4)⟩,
       ⟨none, (some 12), .bin .lss (.t 11) (.c (.int .i64 (1)))⟩,
       ⟨none, (some 13), .mov (.t 12)⟩,
       ⟨(some (13, false)), (some 14), .mov (.t 4)⟩,
       ⟨(some (13, false)), (some 15), .bin .gtr (.t 14) (.c (.int .i64 (5)))⟩,
       ⟨none, (some 16), .pick (.t 13) (.c (.bool true)) (.t 15)⟩])
     (.cond (.t 16)
      (.seq
       (.reg [⟨none, (some 2), .mov (.c (.nils))⟩,
         ⟨none, (some 3), .mov (.c (.int .i64 (2)))⟩])
       (.ret (m 68 12)))
      (.skip)))
    (.seq
     (.seq
      (.reg [⟨none, (some 5), .mov (.c (.int .i64 (0)))⟩])
      (.block 0 (m 68 1)
       (F49L1)))
     F49T1)))
def F49 : XF := ⟨1, 68, [.tmp 2, .tmp 3], F49B⟩
def M49 : List (List Bool) := [(m 68 12), (m 68 1), (m 68 49), (m 68 1), (m 68 49), (m 68 12), (m 68 49), (m 68 113), (m 68 49), (m 68 113), (m 68 12), (m 68 12), (m 68 12)]
def F50L0b : XC :=
 .seq
  (.seq
   (.reg [⟨none, (some 24), .mov (.t 7)⟩,
     ⟨none, (some 25), .mov (.t 0)⟩,
     ⟨none, (some 26), .mov (.t 6)⟩,
     ⟨none, (some 27), .indexA 1 (.t 25) (.t 26)⟩,
     ⟨none, (some 28), .load none (.t 27)⟩,
     ⟨none, (some 29), .len (.t 28)⟩,
     ⟨none, (some 30), .bin .lss (.t 24) (.t 29)⟩])
   (.cond (.t 30)
    (.skip)
    (.exit 2 (m 88 113))))
  (.seq
   (.block 3 (m 88 241)
    (.seq
     (.reg [⟨none, (some 33), .mov (.t 0)⟩,
       ⟨none, (some 34), .mov (.t 6)⟩,
       ⟨none, (some 35), .indexA 1 (.t 33) (.t 34)⟩,
       ⟨none, (some 36), .load none (.t 35)⟩,
       ⟨none, (some 37), .mov (.t 7)⟩,
       ⟨none, (some 38), .indexA 1 (.t 36) (.t 37)⟩,
       ⟨none, (some 39), .load none (.t 38)⟩,
       ⟨none, (some 8), .mov (.t 39)⟩])
     (.seq
      (.seq
       (.reg [⟨none, (some 40), .mov (.t 8)⟩,
         ⟨none, (some 41), .bin .lss (.t 40) (.c (.int .i64 (1)))⟩,
         ⟨none, (some 42), .mov (.t 41)⟩,
         ⟨(some (42, false)), (some 43), .mov (.t 8)⟩,
         ⟨(some (42, false)), (some 44), .mov (.t 4)⟩,
         ⟨(some (42, false)), (some 45), .bin .gtr (.t 43) (.t 44)⟩,
         ⟨none, (some 46), .pick (.t 42) (.c (.bool true)) (.t 45)⟩,
         ⟨none, (some 47), .mov (.t 46)⟩,
         ⟨(some (47, false)), (some 48), .mov (.t 7)⟩,
         ⟨(some (47, false)), (some 49), .mov (.t 4)⟩,
         ⟨(some (47, false)), (some 50), .bin .geq (.t 48) (.t 49)⟩,
         ⟨none, (some 51), .pick (.t 47) (.c (.bool true)) (.t 50)⟩])
       (.cond (.t 51)
        (.seq
         (.reg [⟨none, (some 2), .mov (.c (.nils))⟩,
           ⟨none, (some 3), .mov (.c (.int .i64 (2)))⟩])
         (.ret (m 88 12)))
        (.skip)))
      (.seq
       (.reg [⟨none, (some 52), .mov (.t 5)⟩,
         ⟨none, (some 53), .mov (.t 6)⟩,
         ⟨none, (some 54), .indexA 1 (.t 52) (.t 53)⟩,
         ⟨none, (some 55), .load none (.t 54)⟩,
         ⟨none, (some 56), .mov (.t 8)⟩,
         ⟨none, (some 57), .bin .sub (.t 56) (.c (.int .i64 (1)))⟩,
         ⟨none, (some 58), .indexA 1 (.t 55) (.t 57)⟩,
         ⟨none, (some 59), .load none (.t 58)⟩,
         ⟨none, (some 60), .bin .add (.t 59) (.c (.int .i64 (1)))⟩,
         ⟨none, (some 61), .indexA 1 (.t 55) (.t 57)⟩,
         ⟨none, none, .store 1 (.t 61) (.t 60)⟩])
       (.seq
        (.reg [⟨none, (some 62), .mov (.t 6)⟩,
          ⟨none, (some 63), .bin .add (.t 62) (.c (.int .i64 (1)))⟩,
          ⟨none, (some 64), .mov (.t 4)⟩,
          ⟨none, (some 65), .bin .lss (.t 63) (.t 64)⟩])
        (.cond (.t 65)
         (.reg [⟨none, (some 66), .mov (.t 5)⟩,
           ⟨none, (some 67), .mov (.t 6)⟩,
           ⟨none, (some 68), .bin .add (.t 67) (.c (.int .i64 (1)))⟩,
           ⟨none, (some 69), .indexA 1 (.t 66) (.t 68)⟩,
           ⟨none, (some 70), .load none (.t 69)⟩,
           ⟨none, (some 71), .mov (.t 8)⟩,
           ⟨none, (some 72), .bin .sub (.t 71) (.c (.int .i64 (1)))⟩,
           ⟨none, (some 73), .indexA 1 (.t 70) (.t 72)⟩,
           ⟨none, (some 74), .load none (.t 73)⟩,
           ⟨none, (some 75), .bin .sub (.t 74) (.c (.int .i64 (1)))⟩,
           ⟨none, (some 76), .indexA 1 (.t 70) (.t 72)⟩,
           ⟨none, none, .store 1 (.t 76) (.t 75)⟩])
         (.skip)))))))
   (.reg [⟨none, (some 31), .mov (.t 7)⟩,
     ⟨none, (some 32), .bin .add (.t 31) (.c (.int .i64 (1)))⟩,
     ⟨none, (some 7), .mov (.t 32)⟩]))
def F50L0 : XC := .loop (m 88 241) F50L0b
def F50T0 : XC :=
 .reg [⟨none, (some 22), .mov (.t 6)⟩,
   ⟨none, (some 23), .bin .add (.t 22) (.c (.int .i64 (1)))⟩,
   ⟨none, (some 6), .mov (.t 23)⟩]
def F50L1b : XC :=
 .seq
  (.seq
   (.reg [⟨none, (some 19), .mov (.t 6)⟩,
     ⟨none, (some 20), .mov (.t 4)⟩,
     ⟨none, (some 21), .bin .lss (.t 19) (.t 20)⟩])
   (.cond (.t 21)
    (.skip)
    (.exit 0 (m 88 33))))
  (.seq
   (.block 1 (m 88 113)
    (.seq
     (.reg [⟨none, (some 7), .mov (.c (.int .i64 (0)))⟩])
     (.block 2 (m 88 113)
      (F50L0))))
   F50T0)
def F50L1 : XC := .loop (m 88 113) F50L1b
def F50T1 : XC :=
 .seq
  (.seq
   (.reg [⟨none, (some 77), .mov (.t 5)⟩,
     ⟨none, (some 78), .call 1 26 [.t 77]⟩,
     ⟨none, (some 79), .un .not (.t 78)⟩,
     ⟨none, (some 80), .mov (.t 79)⟩,
     ⟨(some (80, false)), (some 81), .mov (.t 5)⟩,
     ⟨(some (80, false)), (some 82), .call 1 67 [.t 81]⟩,
     ⟨(some (80, false)), (some 83), .mov (.t 0)⟩,
     ⟨(some (80, false)), (some 84), .call 1 19 [.t 82, .t 83]⟩,
     ⟨(some (80, false)), (some 85), .un .not (.t 84)⟩,
     ⟨none, (some 86), .pick (.t 80) (.c (.bool true)) (.t 85)⟩])
   (.cond (.t 86)
    (.seq
     (.reg [⟨none, (some 2), .mov (.c (.nils))⟩,
       ⟨none, (some 3), .mov (.c (.int .i64 (2)))⟩])
     (.ret (m 88 12)))
    (.skip)))
  (.seq
   (.reg [⟨none, (some 87), .mov (.t 5)⟩,
     ⟨none, (some 2), .mov (.t 87)⟩,
     ⟨none, (some 3), .mov (.c (.int .i64 (0)))⟩])
   (.ret (m 88 12)))
def F50B : XC :=
 .seq
  (.reg [⟨none, (some 2), .mov (.c (.nils))⟩,
    ⟨none, (some 3), .mov (.c (.int .i64 (0)))⟩])
  (.seq
   (.reg [⟨none, (some 9), .mov (.t 0)⟩,
     ⟨none, (some 10), .len (.t 9)⟩,
     ⟨none, (some 4), .mov (.t 10)⟩])
   (.seq
    (.seq
     (.reg [⟨none, (some 11), .mov (.t 4)⟩,
       ⟨none, (some 12), .bin .lss (.t 11) (.c (.int .i64 (1)))⟩,
       ⟨none, (some 13), .mov (.t 12)⟩,
       ⟨(some (13, false)), (some 14), .mov (.t 4)⟩,
       ⟨(some (13, false)), (some 15), .bin .gtr (.t 14) (.c (.int .i64 (5)))⟩,
       ⟨none, (some 16), .pick (.t 13) (.c (.bool true)) (.t 15)⟩])
     (.cond (.t 16)
      (.seq
       (.reg [⟨none, (some 2), .mov (.c (.nils))⟩,
         ⟨none, (some 3), .mov (.c (.int .i64 (2)))⟩])
       (.ret (m 88 12)))
      (.skip)))
    (.seq
     (.reg [⟨none, (some 17), .mov (.t 4)⟩,
       ⟨none, (some 18), .call 2 54 [.t 17]⟩,
       ⟨none, (some 5), .mov (.t 18)⟩])
     (.seq
      (.seq
       (.reg [⟨none, (some 6), .mov (.c (.int .i64 (0)))⟩])
       (.block 0 (m 88 33)
        (F50L1)))
      F50T1))))
def F50 : XF := ⟨1, 88, [.tmp 2, .tmp 3], F50B⟩
def M50 : List (List Bool) := [(m 88 12), (m 88 33), (m 88 113), (m 88 33), (m 88 113), (m 88 113), (m 88 241), (m 88 113), (m 88 241), (m 88 12), (m 88 12), (m 88 12)]
def F51B : XC :=
 .seq
  (.reg [⟨none, (some 6), .mov (.c (.nils))⟩,
    ⟨none, (some 7), .mov (.c (.int .i64 (0)))⟩])
  (.seq
   (.seq
    (.reg [⟨none, (some 11), .mov (.t 0)⟩,
      ⟨none, (some 12), .call 1 26 [.t 11]⟩,
      ⟨none, (some 13), .un .not (.t 12)⟩,
      ⟨none, (some 14), .mov (.t 13)⟩,
      ⟨(some (14, false)), (some 15), .mov (.t 1)⟩,
      ⟨(some (14, false)), (some 16), .bin .lss (.t 15) (.c (.int .i64 (1)))⟩,
      ⟨none, (some 17), .pick (.t 14) (.c (.bool true)) (.t 16)⟩,
      ⟨none, (some 18), .mov (.t 17)⟩,
      ⟨(some (18, false)), (some 19), .mov (.t 1)⟩,
      ⟨(some (18, false)), (some 20), .mov (.t 0)⟩,
      ⟨(some (18, false)), (some 21), .len (.t 20)⟩,
      ⟨(some (18, false)), (some 22), .bin .geq (.t 19) (.t 21)⟩,
      ⟨none, (some 23), .pick (.t 18) (.c (.bool true)) (.t 22)⟩,
      ⟨none, (some 24), .mov (.t 23)⟩,
      ⟨(some (24, false)), (some 25), .mov (.t 2)⟩,
      ⟨(some (24, false)), (some 26), .bin .lss (.t 25) (.c (.int .i64 (1)))⟩,
      ⟨none, (some 27), .pick (.t 24) (.c (.bool true)) (.t 26)⟩,
      ⟨none, (some 28), .mov (.t 27)⟩,
      ⟨(some (28, false)), (some 29), .mov (.t 2)⟩,
      ⟨(some (28, false)), (some 30), .mov (.t 0)⟩,
      ⟨(some (28, false)), (some 31), .len (.t 30)⟩,
      ⟨(some (28, false)), (some 32), .bin .geq (.t 29) (.t 31)⟩,
      ⟨none, (some 33), .pick (.t 28) (.c (.bool true)) (.t 32)⟩])
    (.cond (.t 33)
     (.seq
      (.reg [⟨none, (some 6), .mov (.c (.nils))⟩,
        ⟨none, (some 7), .mov (.c (.int .i64 (2)))⟩])
      (.ret (m 54 192)))
     (.skip)))
   (.seq
    (.reg [⟨none, (some 34), .mov (.t 0)⟩,
      ⟨none, (some 35), .call 2 65 [.t 34]⟩,
      ⟨none, (some 8), .mov (.t 35)⟩])
    (.seq
     (.reg [⟨none, (some 37), .mov (.t 8)⟩,
       ⟨none, (some 38), .mov (.t 1)⟩,
       ⟨none, (some 39), .mov (.t 2)⟩,
       ⟨none, (some 40), .call 1 76 [.t 37, .t 38, .t 39]⟩,
       ⟨none, (some 36), .mov (.t 40)⟩,
       ⟨none, (some 41), .ext (.t 36) 0⟩,
       ⟨none, (some 42), .ext (.t 36) 1⟩,
       ⟨none, (some 9), .mov (.t 41)⟩,
       ⟨none, (some 10), .mov (.t 42)⟩])
     (.seq
      (.seq
       (.reg [⟨none, (some 43), .mov (.t 10)⟩,
         ⟨none, (some 44), .un .not (.t 43)⟩])
       (.cond (.t 44)
        (.seq
         (.reg [⟨none, (some 6), .mov (.c (.nils))⟩,
           ⟨none, (some 7), .mov (.c (.int .i64 (9)))⟩])
         (.ret (m 54 192)))
        (.skip)))
      (.seq
       (.reg [⟨none, (some 45), .mov (.t 8)⟩,
         ⟨none, (some 46), .mov (.t 1)⟩,
         ⟨none, (some 47), .indexA 1 (.t 45) (.t 46)⟩,
         ⟨none, (some 48), .load none (.t 47)⟩,
         ⟨none, (some 49), .mov (.t 2)⟩,
         ⟨none, (some 50), .mov (.t 9)⟩,
         ⟨none, (some 51), .indexA 1 (.t 48) (.t 49)⟩,
         ⟨none, none, .store 1 (.t 51) (.t 50)⟩])
       (.seq
        (.reg [⟨none, (some 52), .mov (.t 8)⟩,
          ⟨none, (some 53), .call 1 73 [.t 52]⟩,
          ⟨none, (some 6), .mov (.t 53)⟩,
          ⟨none, (some 7), .mov (.c (.int .i64 (0)))⟩])
        (.ret (m 54 192))))))))
def F51 : XF := ⟨3, 54, [.tmp 6, .tmp 7], F51B⟩
def M51 : List (List Bool) := [(m 54 192), (m 54 192), (m 54 192)]
def F52L0b : XC :=
 .seq
  (.seq
   (.reg [⟨none, (some 25), .mov (.t 7)⟩,
     ⟨none, (some 26), .mov (.t 0)⟩,
     ⟨none, (some 27), .len (.t 26)⟩,
     ⟨none, (some 28), .bin .lss (.t 25) (.t 27)⟩])
   (.cond (.t 28)
    (.skip)
    (.exit 4 (m 56 113))))
  (.seq
   (.block 5 (m 56 241)
    (.seq
     (.reg [⟨none, (some 32), .mov (.t 4)⟩,
       ⟨none, (some 33), .mov (.t 6)⟩,
       ⟨none, (some 34), .mov (.t 7)⟩,
       ⟨none, (some 35), .call 1 76 [.t 32, .t 33, .t 34]⟩,
       ⟨none, (some 31), .mov (.t 35)⟩,
       ⟨none, (some 36), .ext (.t 31) 0⟩,
       ⟨none, (some 37), .ext (.t 31) 1⟩,
       ⟨none, (some 8), .mov (.t 36)⟩,
       ⟨none, (some 9), .mov (.t 37)⟩])
     (.seq
      (.reg [⟨none, (some 38), .mov (.t 9)⟩,
        ⟨none, (some 39), .mov (.t 38)⟩,
        ⟨(some (39, true)), (some 40), .mov (.t 6)⟩,
        ⟨(some (39, true)), (some 41), .mov (.t 7)⟩,
        ⟨(some (39, true)), (some 42), .bin .add (.t 40) (.t 41)⟩,
        ⟨(some (39, true)), (some 43), .bin .rem (.t 42) (.c (.int .i64 (2)))⟩,
        ⟨(some (39, true)), (some 44), .mov (.t 5)⟩,
        ⟨(some (39, true)), (some 45), .bin .eql (.t 43) (.t 44)⟩,
        ⟨none, (some 46), .pick (.t 39) (.t 45) (.c (.bool false))⟩])
      (.cond (.t 46)
       (.reg [⟨none, (some 47), .mov (.t 4)⟩,
         ⟨none, (some 48), .mov (.t 6)⟩,
         ⟨none, (some 49), .indexA 1 (.t 47) (.t 48)⟩,
         ⟨none, (some 50), .load none (.t 49)⟩,
         ⟨none, (some 51), .mov (.t 7)⟩,
         ⟨none, (some 52), .mov (.t 8)⟩,
         ⟨none, (some 53), .indexA 1 (.t 50) (.t 51)⟩,
         ⟨none, none, .store 1 (.t 53) (.t 52)⟩])
       (.skip)))))
   (.reg [⟨none, (some 29), .mov (.t 7)⟩,
     ⟨none, (some 30), .bin .add (.t 29) (.c (.int .i64 (1)))⟩,
     ⟨none, (some 7), .mov (.t 30)⟩]))
def F52L0 : XC := .loop (m 56 241) F52L0b
def F52T0 : XC :=
 .reg [⟨none, (some 23), .mov (.t 6)⟩,
   ⟨none, (some 24), .bin .add (.t 23) (.c (.int .i64 (1)))⟩,
   ⟨none, (some 6), .mov (.t 24)⟩]
def F52L1b : XC :=
 .seq
  (.seq
   (.reg [⟨none, (some 19), .mov (.t 6)⟩,
     ⟨none, (some 20), .mov (.t 0)⟩,
     ⟨none, (some 21), .len (.t 20)⟩,
     ⟨none, (some 22), .bin .lss (.t 19) (.t 21)⟩])
   (.cond (.t 22)
    (.skip)
    (.exit 2 (m 56 49))))
  (.seq
   (.block 3 (m 56 113)
    (.seq
     (.reg [⟨none, (some 7), .mov (.c (.int .i64 (1)))⟩])
     (.block 4 (m 56 113)
      (F52L0))))
   F52T0)
def F52L1 : XC := .loop (m 56 113) F52L1b
def F52T1 : XC :=
 .reg [⟨none, (some 17), .mov (.t 5)⟩,
   ⟨none, (some 18), .bin .sub (.t 17) (.c (.int .i64 (1)))⟩,
   ⟨none, (some 5), .mov (.t 18)⟩]
def F52L2b : XC :=
 .seq
  (.seq
   (.reg [⟨none, (some 15), .mov (.t 5)⟩,
     ⟨none, (some 16), .bin .geq (.t 15) (.c (.int .i64 (0)))⟩])
   (.cond (.t 16)
    (.skip)
    (.exit 0 (m 56 16))))
  (.seq
   (.block 1 (m 56 49)
    (.seq
     (.reg [⟨none, (some 6), .mov (.c (.int .i64 (1)))⟩])
     (.block 2 (m 56 49)
      (F52L1))))
   F52T1)
def F52L2 : XC := .loop (m 56 49) F52L2b
def F52T2 : XC :=
 .seq
  (.reg [⟨none, (some 54), .mov (.t 4)⟩,
    ⟨none, (some 55), .call 1 73 [.t 54]⟩,
    ⟨none, (some 2), .mov (.t 55)⟩,
    ⟨none, (some 3), .mov (.c (.int .i64 (0)))⟩])
  (.ret (m 56 12))
def F52B : XC :=
 .seq
  (.reg [⟨none, (some 2), .mov (.c (.nils))⟩,
    ⟨none, (some 3), .mov (.c (.int .i64 (0)))⟩])
  (.seq
   (.seq
    (.reg [⟨none, (some 10), .mov (.t 0)⟩,
      ⟨none, (some 11), .call 1 26 [.t 10]⟩,
      ⟨none, (some 12), .un .not (.t 11)⟩])
    (.cond (.t 12)
     (.seq
      (.reg [⟨none, (some 2), .mov (.c (.nils))⟩,
        ⟨none, (some 3), .mov (.c (.int .i64 (2)))⟩])
      (.ret (m 56 12)))
     (.skip)))
   (.seq
    (.reg [⟨none, (some 13), .mov (.t 0)⟩,
      ⟨none, (some 14), .call 2 65 [.t 13]⟩,
      ⟨none, (some 4), .mov (.t 14)⟩])
    (.seq
     (.seq
      (.reg [⟨none, (some 5), .mov (.c (.int .i64 (1)))⟩])
      (.block 0 (m 56 16)
       (F52L2)))
     F52T2)))
def F52 : XF := ⟨1, 56, [.tmp 2, .tmp 3], F52B⟩
def M52 : List (List Bool) := [(m 56 12), (m 56 16), (m 56 49), (m 56 16), (m 56 49), (m 56 49), (m 56 113), (m 56 49), (m 56 113), (m 56 113), (m 56 241), (m 56 113), (m 56 241), (m 56 12)]
def F53L0b : XC :=
 .seq
  (.seq
   (.reg [⟨none, (some 33), .mov (.t 12)⟩,
     ⟨none, (some 34), .mov (.t 9)⟩,
     ⟨none, (some 35), .bin .lss (.t 33) (.t 34)⟩])
   (.cond (.t 35)
    (.skip)
    (.exit 0 (m 130 3975))))
  (.seq
   (.block 1 (m 130 8071)
    (.reg [⟨none, (some 38), .mov (.t 10)⟩,
      ⟨none, (some 39), .mov (.t 0)⟩,
      ⟨none, (some 40), .mov (.t 8)⟩,
      ⟨none, (some 41), .indexA 1 (.t 39) (.t 40)⟩,
      ⟨none, (some 42), .load none (.t 41)⟩,
      ⟨none, (some 43), .mov (.t 12)⟩,
      ⟨none, (some 44), .indexA 1 (.t 42) (.t 43)⟩,
      ⟨none, (some 45), .load none (.t 44)⟩,
      ⟨none, (some 46), .bin .add (.t 38) (.t 45)⟩,
      ⟨none, (some 10), .mov (.t 46)⟩]))
   (.reg [⟨none, (some 36), .mov (.t 12)⟩,
     ⟨none, (some 37), .bin .add (.t 36) (.c (.int .i64 (1)))⟩,
     ⟨none, (some 12), .mov (.t 37)⟩]))
def F53L0 : XC := .loop (m 130 8071) F53L0b
def F53L1b : XC :=
 .seq
  (.seq
   (.reg [⟨none, (some 47), .mov (.t 13)⟩,
     ⟨none, (some 48), .mov (.t 8)⟩,
     ⟨none, (some 49), .bin .lss (.t 47) (.t 48)⟩])
   (.cond (.t 49)
    (.skip)
    (.exit 2 (m 130 3975))))
  (.seq
   (.block 3 (m 130 12167)
    (.reg [⟨none, (some 52), .mov (.t 11)⟩,
      ⟨none, (some 53), .mov (.t 0)⟩,
      ⟨none, (some 54), .mov (.t 13)⟩,
      ⟨none, (some 55), .indexA 1 (.t 53) (.t 54)⟩,
      ⟨none, (some 56), .load none (.t 55)⟩,
      ⟨none, (some 57), .mov (.t 9)⟩,
      ⟨none, (some 58), .indexA 1 (.t 56) (.t 57)⟩,
      ⟨none, (some 59), .load none (.t 58)⟩,
      ⟨none, (some 60), .bin .add (.t 52) (.t 59)⟩,
      ⟨none, (some 11), .mov (.t 60)⟩]))
   (.reg [⟨none, (some 50), .mov (.t 13)⟩,
     ⟨none, (some 51), .bin .add (.t 50) (.c (.int .i64 (1)))⟩,
     ⟨none, (some 13), .mov (.t 51)⟩]))
def F53L1 : XC := .loop (m 130 12167) F53L1b
def F53L2b : XC :=
 .seq
  (.seq
   (.reg [⟨none, (some 61), .mov (.t 14)⟩,
     ⟨none, (some 62), .bin .leq (.t 61) (.c (.int .i64 (1)))⟩])
   (.cond (.t 62)
    (.skip)
    (.exit 4 (m 130 773))))
  (.seq
   (.block 5 (m 130 20359)
    (.seq
     (.seq
      (.reg [⟨none, (some 65), .mov (.t 10)⟩,
        ⟨none, (some 66), .mov (.t 14)⟩,
        ⟨none, (some 67), .bin .add (.t 65) (.t 66)⟩,
        ⟨none, (some 68), .bin .lss (.t 67) (.c (.int .i64 (0)))⟩,
        ⟨none, (some 69), .mov (.t 68)⟩,
        ⟨(some (69, false)), (some 70), .mov (.t 10)⟩,
        ⟨(some (69, false)), (some 71), .mov (.t 14)⟩,
        ⟨(some (69, false)), (some 72), .bin .add (.t 70) (.t 71)⟩,
        ⟨(some (69, false)), (some 73), .bin .gtr (.t 72) (.c (.int .i64 (1)))⟩,
        ⟨none, (some 74), .pick (.t 69) (.c (.bool true)) (.t 73)⟩,
        ⟨none, (some 75), .mov (.t 74)⟩,
        ⟨(some (75, false)), (some 76), .mov (.t 11)⟩,
        ⟨(some (75, false)), (some 77), .mov (.t 14)⟩,
        ⟨(some (75, false)), (some 78), .bin .add (.t 76) (.t 77)⟩,
        ⟨(some (75, false)), (some 79), .bin .lss (.t 78) (.c (.int .i64 (0)))⟩,
        ⟨none, (some 80), .pick (.t 75) (.c (.bool true)) (.t 79)⟩,
        ⟨none, (some 81), .mov (.t 80)⟩,
        ⟨(some (81, false)), (some 82), .mov (.t 11)⟩,
        ⟨(some (81, false)), (some 83), .mov (.t 14)⟩,
        ⟨(some (81, false)), (some 84), .bin .add (.t 82) (.t 83)⟩,
        ⟨(some (81, false)), (some 85), .bin .gtr (.t 84) (.c (.int .i64 (1)))⟩,
        ⟨none, (some 86), .pick (.t 81) (.c (.bool true)) (.t 85)⟩,
        ⟨none, (some 87), .mov (.t 86)⟩,
        ⟨(some (87, false)), (some 88), .mov (.t 9)⟩,
        ⟨(some (87, false)), (some 89), .mov (.t 7)⟩,
        ⟨(some (87, false)), (some 90), .bin .sub (.t 89) (.c (.int .i64 (1)))⟩,
        ⟨(some (87, false)), (some 91), .bin .eql (.t 88) (.t 90)⟩,
        ⟨(some (87, false)), (some 92), .mov (.t 91)⟩,
        ⟨(some (92, true)), (some 93), .mov (.t 10)⟩,
        ⟨(some (92, true)), (some 94), .mov (.t 14)⟩,
        ⟨(some (92, true)), (some 95), .bin .add (.t 93) (.t 94)⟩,
        ⟨(some (92, true)), (some 96), .bin .neq (.t 95) (.c (.int .i64 (1)))⟩,
        ⟨(some (87, false)), (some 97), .pick (.t 92) (.t 96) (.c (.bool false))⟩,
        ⟨none, (some 98), .pick (.t 87) (.c (.bool true)) (.t 97)⟩,
        ⟨none, (some 99), .mov (.t 98)⟩,
        ⟨(some (99, false)), (some 100), .mov (.t 8)⟩,
        ⟨(some (99, false)), (some 101), .mov (.t 7)⟩,
        ⟨(some (99, false)), (some 102), .bin .sub (.t 101) (.c (.int .i64 (1)))⟩,
        ⟨(some (99, false)), (some 103), .bin .eql (.t 100) (.t 102)⟩,
        ⟨(some (99, false)), (some 104), .mov (.t 103)⟩,
        ⟨(some (104, true)), (some 105), .mov (.t 11)⟩,
        ⟨(some (104, true)), (some 106), .mov (.t 14)⟩,
        ⟨(some (104, true)), (some 107), .bin .add (.t 105) (.t 106)⟩,
        ⟨(some (104, true)), (some 108), .bin .neq (.t 107) (.c (.int .i64 (1)))⟩,
        ⟨(some (99, false)), (some 109), .pick (.t 104) (.t 108) (.c (.bool false))⟩,
        ⟨none, (some 110), .pick (.t 99) (.c (.bool true)) (.t 109)⟩])
      (.cond (.t 110)
       (.exit 5 (m 130 20359))
       (.skip)))
     (.seq
      (.reg [⟨none, (some 111), .mov (.t 0)⟩,
        ⟨none, (some 112), .mov (.t 8)⟩,
        ⟨none, (some 113), .indexA 1 (.t 111) (.t 112)⟩,
        ⟨none, (some 114), .load none (.t 113)⟩,
        ⟨none, (some 115), .mov (.t 9)⟩,
        ⟨none, (some 116), .mov (.t 14)⟩,
        ⟨none, (some 117), .indexA 1 (.t 114) (.t 115)⟩,
        ⟨none, none, .store 1 (.t 117) (.t 116)⟩])
      (.reg [⟨none, (some 118), .mov (.t 0)⟩,
        ⟨none, (some 119), .mov (.t 1)⟩,
        ⟨none, (some 120), .bin .add (.t 119) (.c (.int .i64 (1)))⟩,
        ⟨none, (some 121), .mov (.t 2)⟩,
        ⟨none, (some 122), .call 0 53 [.t 118, .t 120, .t 121]⟩,
        ⟨none, (some 2), .mov (.t 122)⟩]))))
   (.reg [⟨none, (some 63), .mov (.t 14)⟩,
     ⟨none, (some 64), .bin .add (.t 63) (.c (.int .i64 (1)))⟩,
     ⟨none, (some 14), .mov (.t 64)⟩]))
def F53L2 : XC := .loop (m 130 20359) F53L2b
def F53T0 : XC :=
 .seq
  (.reg [⟨none, (some 123), .mov (.t 0)⟩,
    ⟨none, (some 124), .mov (.t 8)⟩,
    ⟨none, (some 125), .indexA 1 (.t 123) (.t 124)⟩,
    ⟨none, (some 126), .load none (.t 125)⟩,
    ⟨none, (some 127), .mov (.t 9)⟩,
    ⟨none, (some 128), .indexA 1 (.t 126) (.t 127)⟩,
    ⟨none, none, .store 1 (.t 128) (.c (.int .i64 (0)))⟩])
  (.seq
   (.reg [⟨none, (some 129), .mov (.t 2)⟩,
     ⟨none, (some 6), .mov (.t 129)⟩])
   (.ret (m 130 64)))
def F53T1 : XC :=
 .seq
  (.seq
   (.reg [⟨none, (some 14), .mov (.c (.int .i64 (-1)))⟩])
   (.block 4 (m 130 773)
    (F53L2)))
  F53T0
def F53T2 : XC :=
 .seq
  (.seq
   (.reg [⟨none, (some 13), .mov (.c (.int .i64 (0)))⟩])
   (.block 2 (m 130 3975)
    (F53L1)))
  F53T1
def F53B : XC :=
 .seq
  (.reg [⟨none, (some 6), .mov (.c (.nils))⟩])
  (.seq
   (.reg [⟨none, (some 15), .mov (.t 0)⟩,
     ⟨none, (some 16), .len (.t 15)⟩,
     ⟨none, (some 7), .mov (.t 16)⟩])
   (.seq
    (.seq
     (.reg [⟨none, (some 17), .mov (.t 1)⟩,
       ⟨none, (some 18), .mov (.t 7)⟩,
       ⟨none, (some 19), .mov (.t 7)⟩,
       ⟨none, (some 20), .bin .mul (.t 18) (.t 19)⟩,
       ⟨none, (some 21), .bin .eql (.t 17) (.t 20)⟩])
     (.cond (.t 21)
      (.seq
       (.reg [⟨none, (some 22), .mov (.t 2)⟩,
         ⟨none, (some 23), .mov (.t 0)⟩,
         ⟨none, (some 24), .call 1 24 [.t 23]⟩,
         ⟨none, (some 25), .bslice 1 1 [.nils] [(0, 1, .t 24)]⟩,
         ⟨none, (some 26), .app 1 24 (.t 22) (.t 25)⟩,
         ⟨none, (some 6), .mov (.t 26)⟩])
       (.ret (m 130 64)))
      (.skip)))
    (.seq
     (.reg [⟨none, (some 27), .mov (.t 1)⟩,
       ⟨none, (some 28), .mov (.t 7)⟩,
       ⟨none, (some 29), .bin .quo (.t 27) (.t 28)⟩,
       ⟨none, (some 30), .mov (.t 1)⟩,
       ⟨none, (some 31), .mov (.t 7)⟩,
       ⟨none, (some 32), .bin .rem (.t 30) (.t 31)⟩,
       ⟨none, (some 8), .mov (.t 29)⟩,
       ⟨none, (some 9), .mov (.t 32)⟩])
     (.seq
      (.reg [⟨none, (some 10), .mov (.c (.int .i64 (0)))⟩,
        ⟨none, (some 11), .mov (.c (.int .i64 (0)))⟩])
      (.seq
       (.seq
        (.reg [⟨none, (some 12), .mov (.c (.int .i64 (0)))⟩])
        (.block 0 (m 130 3975)
         (F53L0)))
       F53T2)))))
def F53 : XF := ⟨3, 130, [.tmp 6], F53B⟩
def M53 : List (List Bool) := [(m 130 64), (m 130 3975), (m 130 8071), (m 130 3975), (m 130 8071), (m 130 3975), (m 130 12167), (m 130 3975), (m 130 12167), (m 130 773), (m 130 20359), (m 130 773), (m 130 20359), (m 130 20359), (m 130 64)]
def F54L0b : XC :=
 .seq
  (.seq
   (.reg [⟨none, (some 5), .mov (.t 4)⟩,
     ⟨none, (some 6), .mov (.t 0)⟩,
     ⟨none, (some 7), .bin .lss (.t 5) (.t 6)⟩])
   (.cond (.t 7)
    (.skip)
    (.exit 0 (m 16 8))))
  (.seq
   (.block 1 (m 16 25)
    (.reg [⟨none, (some 10), .mov (.t 3)⟩,
      ⟨none, (some 11), .mov (.t 0)⟩,
      ⟨none, (some 12), .mks 1 8 [.int .i64 (0)] (.t 11) (.t 11)⟩,
      ⟨none, (some 13), .bslice 1 1 [.nils] [(0, 1, .t 12)]⟩,
      ⟨none, (some 14), .app 1 24 (.t 10) (.t 13)⟩,
      ⟨none, (some 3), .mov (.t 14)⟩]))
   (.reg [⟨none, (some 8), .mov (.t 4)⟩,
     ⟨none, (some 9), .bin .add (.t 8) (.c (.int .i64 (1)))⟩,
     ⟨none, (some 4), .mov (.t 9)⟩]))
def F54L0 : XC := .loop (m 16 25) F54L0b
def F54T0 : XC :=
 .seq
  (.reg [⟨none, (some 15), .mov (.t 3)⟩,
    ⟨none, (some 2), .mov (.t 15)⟩])
  (.ret (m 16 4))
def F54B : XC :=
 .seq
  (.reg [⟨none, (some 2), .mov (.c (.nils))⟩])
  (.seq
   (.reg [⟨none, (some 3), .mov (.c (.nils))⟩])
   (.seq
    (.seq
     (.reg [⟨none, (some 4), .mov (.c (.int .i64 (0)))⟩])
     (.block 0 (m 16 8)
      (F54L0)))
    F54T0))
def F54 : XF := ⟨1, 16, [.tmp 2], F54B⟩
def M54 : List (List Bool) := [(m 16 8), (m 16 25), (m 16 8), (m 16 25), (m 16 4)]
def F55B : XC :=
 .seq
  (.reg [⟨none, (some 2), .box (.t 0)⟩,
    ⟨none, (some 3), .box (.t 1)⟩])
  (.seq
   (.reg [⟨none, (some 8), .load none (.t 2)⟩,
     ⟨none, (some 9), .call 2 69 [.t 8, .c (.fn 77 [])]⟩,
     ⟨none, (some 4), .alloc [.nils]⟩,
     ⟨none, none, .store 1 (.t 4) (.t 9)⟩])
   (.seq
    (.reg [⟨none, (some 10), .load none (.t 2)⟩,
      ⟨none, (some 11), .mks 1 8 [.int .i64 (0)] (.t 10) (.t 10)⟩,
      ⟨none, (some 12), .load none (.t 2)⟩,
      ⟨none, (some 13), .mks 1 8 [.int .i64 (0)] (.t 12) (.t 12)⟩,
      ⟨none, (some 5), .alloc [.nils]⟩,
      ⟨none, (some 6), .alloc [.nils]⟩,
      ⟨none, none, .store 1 (.t 5) (.t 11)⟩,
      ⟨none, none, .store 1 (.t 6) (.t 13)⟩,
      ⟨none, none, .apt (.t 2) (.t 5)⟩])
    (.seq
     (.reg [⟨none, (some 7), .alloc [.nilf]⟩])
     (.seq
      (.reg [⟨none, (some 14), .mkf 78 [.t 2, .t 6, .t 3, .t 4, .t 5, .t 7]⟩,
        ⟨none, none, .store 1 (.t 7) (.t 14)⟩])
      (.reg [⟨none, (some 15), .load none (.t 7)⟩,
        ⟨none, (some 16), .calld 0 (.t 15) [.c (.int .i64 (0))]⟩])))))
def F55 : XF := ⟨2, 17, [], F55B⟩
def M55 : List (List Bool) := []
def F56B : XC :=
 .reg [⟨none, (some 3), .load none (.t 1)⟩,
   ⟨none, (some 4), .mov (.t 0)⟩,
   ⟨none, (some 5), .call 2 57 [.t 4]⟩,
   ⟨none, (some 6), .bslice 1 1 [.nils] [(0, 1, .t 5)]⟩,
   ⟨none, (some 7), .app 1 24 (.t 3) (.t 6)⟩,
   ⟨none, none, .store 1 (.t 1) (.t 7)⟩]
def F56 : XF := ⟨2, 8, [], F56B⟩
def M56 : List (List Bool) := []
def F57L0b : XC :=
 .seq
  (.reg [⟨none, (some 9), .bin .lss (.t 8) (.t 7)⟩])
  (.seq
   (.cond (.t 9)
    (.skip)
    (.exit 0 (m 19 8)))
   (.seq
    (.block 1 (m 19 456)
     (.seq
      (.reg [⟨none, (some 10), .indexA 1 (.t 6) (.t 8)⟩,
        ⟨none, (some 11), .load none (.t 10)⟩,
        ⟨none, (some 5), .mov (.t 11)⟩])
      (.reg [⟨none, (some 12), .mov (.t 3)⟩,
        ⟨none, (some 13), .mov (.t 5)⟩,
        ⟨none, (some 14), .call 2 80 [.t 13]⟩,
        ⟨none, (some 15), .bslice 1 1 [.nils] [(0, 1, .t 14)]⟩,
        ⟨none, (some 16), .app 1 24 (.t 12) (.t 15)⟩,
        ⟨none, (some 3), .mov (.t 16)⟩])))
    (.reg [⟨none, (some 17), .bin .add (.t 8) (.c (.int .i64 (1)))⟩,
      ⟨none, (some 8), .mov (.t 17)⟩])))
def F57L0 : XC := .loop (m 19 456) F57L0b
def F57T0 : XC :=
 .seq
  (.reg [⟨none, (some 18), .mov (.t 3)⟩,
    ⟨none, (some 2), .mov (.t 18)⟩])
  (.ret (m 19 4))
def F57B : XC :=
 .seq
  (.reg [⟨none, (some 2), .mov (.c (.nils))⟩])
  (.seq
   (.reg [⟨none, (some 3), .mov (.c (.nils))⟩])
   (.seq
    (.seq
     (.reg [⟨none, (some 6), .mov (.t 0)⟩,
       ⟨none, (some 7), .len (.t 6)⟩,
       ⟨none, (some 8), .mov (.c (.int .i64 (0)))⟩])
     (.block 0 (m 19 8)
      (F57L0)))
    F57T0))
def F57 : XF := ⟨1, 19, [.tmp 2], F57B⟩
def M57 : List (List Bool) := [(m 19 8), (m 19 456), (m 19 8), (m 19 456), (m 19 4)]
def F58B : XC :=
 .seq
  (.reg [⟨none, (some 0), .mov (.c (.nils))⟩])
  (.seq
   (.reg [⟨none, (some 1), .bslice 1 3 [.int .i64 (0)] [(0, 1, .c (.int .i64 (0))), (1, 1, .c (.int .i64 (1))), (2, 1, .c (.int .i64 (0)))]⟩,
     ⟨none, (some 2), .bslice 1 3 [.int .i64 (0)] [(0, 1, .c (.int .i64 (1))), (1, 1, .c (.int .i64 (-1))), (2, 1, .c (.int .i64 (1)))]⟩,
     ⟨none, (some 3), .bslice 1 3 [.int .i64 (0)] [(0, 1, .c (.int .i64 (0))), (1, 1, .c (.int .i64 (1))), (2, 1, .c (.int .i64 (0)))]⟩,
     ⟨none, (some 4), .bslice 1 3 [.nils] [(0, 1, .t 1), (1, 1, .t 2), (2, 1, .t 3)]⟩,
     ⟨none, (some 0), .mov (.t 4)⟩])
   (.ret (m 5 1)))
def F58 : XF := ⟨0, 5, [.tmp 0], F58B⟩
def M58 : List (List Bool) := [(m 5 1)]
def F59L0b : XC :=
 .seq
  (.seq
   (.reg [⟨none, (some 13), .mov (.t 4)⟩,
     ⟨none, (some 14), .mov (.t 0)⟩,
     ⟨none, (some 15), .mov (.t 3)⟩,
     ⟨none, (some 16), .indexA 1 (.t 14) (.t 15)⟩,
     ⟨none, (some 17), .load none (.t 16)⟩,
     ⟨none, (some 18), .bin .lss (.t 13) (.t 17)⟩])
   (.cond (.t 18)
    (.skip)
    (.exit 2 (m 45 9))))
  (.seq
   (.block 3 (m 45 25)
    (.seq
     (.reg [⟨none, (some 21), .mov (.t 0)⟩,
       ⟨none, (some 22), .mov (.t 4)⟩,
       ⟨none, (some 23), .indexA 1 (.t 21) (.t 22)⟩,
       ⟨none, (some 24), .load none (.t 23)⟩,
       ⟨none, (some 25), .bin .geq (.t 24) (.c (.int .i64 (0)))⟩,
       ⟨none, (some 26), .mov (.t 25)⟩,
       ⟨(some (26, true)), (some 27), .mov (.t 0)⟩,
       ⟨(some (26, true)), (some 28), .mov (.t 4)⟩,
       ⟨(some (26, true)), (some 29), .indexA 1 (.t 27) (.t 28)⟩,
       ⟨(some (26, true)), (some 30), .load none (.t 29)⟩,
       ⟨(some (26, true)), (some 31), .mov (.t 0)⟩,
       ⟨(some (26, true)), (some 32), .mov (.t 3)⟩,
       ⟨(some (26, true)), (some 33), .indexA 1 (.t 31) (.t 32)⟩,
       ⟨(some (26, true)), (some 34), .load none (.t 33)⟩,
       ⟨(some (26, true)), (some 35), .bin .gtr (.t 30) (.t 34)⟩,
       ⟨(some (26, true)), (some 36), .mov (.t 35)⟩,
       ⟨(some (36, false)), (some 37), .mov (.t 0)⟩,
       ⟨(some (36, false)), (some 38), .mov (.t 4)⟩,
       ⟨(some (36, false)), (some 39), .indexA 1 (.t 37) (.t 38)⟩,
       ⟨(some (36, false)), (some 40), .load none (.t 39)⟩,
       ⟨(some (36, false)), (some 41), .mov (.t 3)⟩,
       ⟨(some (36, false)), (some 42), .bin .lss (.t 40) (.t 41)⟩,
       ⟨(some (26, true)), (some 43), .pick (.t 36) (.c (.bool true)) (.t 42)⟩,
       ⟨none, (some 44), .pick (.t 26) (.t 43) (.c (.bool false))⟩])
     (.cond (.t 44)
      (.seq
       (.reg [⟨none, (some 2), .mov (.c (.bool true))⟩])
       (.ret (m 45 4)))
      (.skip))))
   (.reg [⟨none, (some 19), .mov (.t 4)⟩,
     ⟨none, (some 20), .bin .add (.t 19) (.c (.int .i64 (1)))⟩,
     ⟨none, (some 4), .mov (.t 20)⟩]))
def F59L0 : XC := .loop (m 45 25) F59L0b
def F59T0 : XC :=
 .reg [⟨none, (some 9), .mov (.t 3)⟩,
   ⟨none, (some 10), .bin .add (.t 9) (.c (.int .i64 (1)))⟩,
   ⟨none, (some 3), .mov (.t 10)⟩]
def F59L1b : XC :=
 .seq
  (.seq
   (.reg [⟨none, (some 5), .mov (.t 3)⟩,
     ⟨none, (some 6), .mov (.t 0)⟩,
     ⟨none, (some 7), .len (.t 6)⟩,
     ⟨none, (some 8), .bin .lss (.t 5) (.t 7)⟩])
   (.cond (.t 8)
    (.skip)
    (.exit 0 (m 45 0))))
  (.seq
   (.block 1 (m 45 9)
    (.seq
     (.reg [⟨none, (some 11), .mov (.t 3)⟩,
       ⟨none, (some 12), .bin .add (.t 11) (.c (.int .i64 (1)))⟩,
       ⟨none, (some 4), .mov (.t 12)⟩])
     (.block 2 (m 45 9)
      (F59L0))))
   F59T0)
def F59L1 : XC := .loop (m 45 9) F59L1b
def F59T1 : XC :=
 .seq
  (.reg [⟨none, (some 2), .mov (.c (.bool false))⟩])
  (.ret (m 45 4))
def F59B : XC :=
 .seq
  (.reg [⟨none, (some 2), .mov (.c (.bool false))⟩])
  (.seq
   (.seq
    (.reg [⟨none, (some 3), .mov (.c (.int .i64 (0)))⟩])
    (.block 0 (m 45 0)
     (F59L1)))
   F59T1)
def F59 : XF := ⟨1, 45, [.tmp 2], F59B⟩
def M59 : List (List Bool) := [(m 45 0), (m 45 9), (m 45 0), (m 45 9), (m 45 9), (m 45 25), (m 45 9), (m 45 25), (m 45 4), (m 45 4)]
def F60B : XC :=
 .seq
  (.reg [⟨none, (some 4), .mov (.t 0)⟩,
    ⟨none, (some 5), .mki 56 (.t 4)⟩,
    ⟨none, (some 6), .call 2 62 [.t 5]⟩,
    ⟨none, (some 7), .call 1 63 [.t 6]⟩,
    ⟨none, (some 8), .load none (.t 1)⟩,
    ⟨none, (some 9), .call 1 61 [.t 7, .t 8]⟩])
  (.cond (.t 9)
   (.reg [⟨none, (some 10), .load none (.t 2)⟩,
     ⟨none, (some 11), .bin .add (.t 10) (.c (.int .i64 (1)))⟩,
     ⟨none, none, .store 1 (.t 2) (.t 11)⟩])
   (.skip))
def F60 : XF := ⟨3, 12, [], F60B⟩
def M60 : List (List Bool) := []
def F61L0b : XC :=
 .seq
  (.reg [⟨none, (some 14), .bin .lss (.t 13) (.t 12)⟩])
  (.seq
   (.cond (.t 14)
    (.skip)
    (.exit 0 (m 26 0)))
   (.seq
    (.block 1 (m 26 12291)
     (.seq
      (.reg [⟨none, (some 15), .mov (.t 13)⟩,
        ⟨none, (some 5), .mov (.t 15)⟩])
      (.seq
       (.reg [⟨none, (some 16), .mov (.t 0)⟩,
         ⟨none, (some 17), .mov (.t 5)⟩,
         ⟨none, (some 18), .indexA 1 (.t 16) (.t 17)⟩,
         ⟨none, (some 19), .load none (.t 18)⟩,
         ⟨none, (some 20), .mov (.t 1)⟩,
         ⟨none, (some 21), .mov (.t 5)⟩,
         ⟨none, (some 22), .indexA 1 (.t 20) (.t 21)⟩,
         ⟨none, (some 23), .load none (.t 22)⟩,
         ⟨none, (some 24), .bin .neq (.t 19) (.t 23)⟩])
       (.cond (.t 24)
        (.seq
         (.reg [⟨none, (some 4), .mov (.c (.bool false))⟩])
         (.ret (m 26 16)))
        (.skip)))))
    (.reg [⟨none, (some 25), .bin .add (.t 13) (.c (.int .i64 (1)))⟩,
      ⟨none, (some 13), .mov (.t 25)⟩])))
def F61L0 : XC := .loop (m 26 12291) F61L0b
def F61T0 : XC :=
 .seq
  (.reg [⟨none, (some 4), .mov (.c (.bool true))⟩])
  (.ret (m 26 16))
def F61B : XC :=
 .seq
  (.reg [⟨none, (some 4), .mov (.c (.bool false))⟩])
  (.seq
   (.seq
    (.reg [⟨none, (some 6), .mov (.t 0)⟩,
      ⟨none, (some 7), .len (.t 6)⟩,
      ⟨none, (some 8), .mov (.t 1)⟩,
      ⟨none, (some 9), .len (.t 8)⟩,
      ⟨none, (some 10), .bin .neq (.t 7) (.t 9)⟩])
    (.cond (.t 10)
     (.seq
      (.reg [⟨none, (some 4), .mov (.c (.bool false))⟩])
      (.ret (m 26 16)))
     (.skip)))
   (.seq
    (.seq
     (.reg [⟨none, (some 11), .mov (.t 0)⟩,
       ⟨none, (some 12), .len (.t 11)⟩,
       ⟨none, (some 13), .mov (.c (.int .i64 (0)))⟩])
     (.block 0 (m 26 0)
      (F61L0)))
    F61T0))
def F61 : XF := ⟨2, 26, [.tmp 4], F61B⟩
def M61 : List (List Bool) := [(m 26 16), (m 26 0), (m 26 12291), (m 26 0), (m 26 12291), (m 26 16), (m 26 16)]
def F62B : XC :=
 .seq
  (.reg [⟨none, (some 1), .box (.t 0)⟩,
    ⟨none, (some 2), .mov (.c (.nils))⟩])
  (.seq
   (.reg [⟨none, (some 3), .load none (.t 1)⟩,
     ⟨none, (some 4), .callm 1 [(56, 114), (59, 91), (69, 116)] (.t 3) []⟩,
     ⟨none, (some 5), .bin .add (.t 4) (.c (.int .i64 (1)))⟩,
     ⟨none, (some 6), .mkf 81 [.t 1]⟩,
     ⟨none, (some 7), .call 2 69 [.t 5, .t 6]⟩,
     ⟨none, (some 2), .mov (.t 7)⟩])
   (.ret (m 8 4)))
def F62 : XF := ⟨1, 8, [.tmp 2], F62B⟩
def M62 : List (List Bool) := [(m 8 4)]
def F63L0b : XC :=
 .seq
  (.reg [⟨none, (some 12), .bin .lss (.t 11) (.t 10)⟩])
  (.seq
   (.cond (.t 12)
    (.skip)
    (.exit 0 (m 25 16)))
   (.seq
    (.block 1 (m 25 3609)
     (.seq
      (.reg [⟨none, (some 13), .indexA 3 (.t 9) (.t 11)⟩,
        ⟨none, (some 14), .load (some 3) (.t 13)⟩,
        ⟨none, (some 6), .alloc [.int .i64 (0), .int .i64 (0), .int .i64 (0)]⟩,
        ⟨none, none, .store 3 (.t 6) (.t 14)⟩])
      (.reg [⟨none, (some 15), .mov (.t 4)⟩,
        ⟨none, (some 16), .mov (.t 3)⟩,
        ⟨none, (some 17), .mov (.t 0)⟩,
        ⟨none, (some 18), .load (some 3) (.t 6)⟩,
        ⟨none, (some 19), .call 1 84 [.t 17, .t 18]⟩,
        ⟨none, (some 20), .call 1 83 [.t 16, .t 19]⟩,
        ⟨none, (some 21), .bslice 1 1 [.int .i64 (0)] [(0, 1, .t 20)]⟩,
        ⟨none, (some 22), .app 1 8 (.t 15) (.t 21)⟩,
        ⟨none, (some 4), .mov (.t 22)⟩])))
    (.reg [⟨none, (some 23), .bin .add (.t 11) (.c (.int .i64 (1)))⟩,
      ⟨none, (some 11), .mov (.t 23)⟩])))
def F63L0 : XC := .loop (m 25 3609) F63L0b
def F63T0 : XC :=
 .seq
  (.reg [⟨none, (some 24), .mov (.t 4)⟩,
    ⟨none, (some 2), .mov (.t 24)⟩])
  (.ret (m 25 4))
def F63B : XC :=
 .seq
  (.reg [⟨none, (some 2), .mov (.c (.nils))⟩])
  (.seq
   (.reg [⟨none, (some 7), .mov (.t 0)⟩,
     ⟨none, (some 8), .call 1 82 [.t 7]⟩,
     ⟨none, (some 3), .mov (.t 8)⟩])
   (.seq
    (.reg [⟨none, (some 4), .mov (.c (.nils))⟩])
    (.seq
     (.seq
      (.reg [⟨none, (some 9), .mov (.t 3)⟩,
        ⟨none, (some 10), .len (.t 9)⟩,
        ⟨none, (some 11), .mov (.c (.int .i64 (0)))⟩])
      (.block 0 (m 25 16)
       (F63L0)))
     F63T0)))
def F63 : XF := ⟨1, 25, [.tmp 2], F63B⟩
def M63 : List (List Bool) := [(m 25 16), (m 25 3609), (m 25 16), (m 25 3609), (m 25 4)]
end Go.X
