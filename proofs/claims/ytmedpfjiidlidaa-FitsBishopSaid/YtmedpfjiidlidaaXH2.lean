import Derived.Test.YtmedpfjiidlidaaXF
import Derived.Test.YtmedpfjiidlidaaXU2
/-! The functions of the program that are met, as the small machine has them. Printed by a program of our own. -/
namespace Go.X
def F6L0b : XC :=
 .seq
  (.seq
   (.reg [⟨none, (some 120), .mov (.t 15)⟩,
     ⟨none, (some 121), .mov (.t 0)⟩,
     ⟨none, (some 122), .len (.t 121)⟩,
     ⟨none, (some 123), .bin .lss (.t 120) (.t 122)⟩])
   (.cond (.t 123)
    (.skip)
    (.exit 0 (m 161 0))))
  (.seq
   (.block 1 (m 161 35345)
    (.seq
     (.reg [⟨none, (some 126), .mov (.t 9)⟩,
       ⟨none, (some 127), .mov (.t 15)⟩,
       ⟨none, (some 128), .bin .shr (.t 126) (.t 127)⟩,
       ⟨none, (some 129), .bin .rem (.t 128) (.c (.int .i64 (2)))⟩,
       ⟨none, (some 130), .bin .eql (.t 129) (.c (.int .i64 (1)))⟩])
     (.cond (.t 130)
      (.seq
       (.reg [⟨none, (some 131), .mov (.t 0)⟩,
         ⟨none, (some 132), .len (.t 131)⟩,
         ⟨none, (some 133), .mks 1 8 [.int .i64 (0)] (.t 132) (.t 132)⟩,
         ⟨none, (some 134), .build [.nils, .int .i64 (0)] [(0, 1, .t 133), (1, 1, .c (.int .i64 (1)))]⟩,
         ⟨none, (some 16), .alloc [.nils, .int .i64 (0)]⟩,
         ⟨none, none, .store 2 (.t 16) (.t 134)⟩])
       (.seq
        (.reg [⟨none, (some 135), .fieldA 0 (.t 16)⟩,
          ⟨none, (some 136), .load none (.t 135)⟩,
          ⟨none, (some 137), .mov (.t 15)⟩,
          ⟨none, (some 138), .indexA 1 (.t 136) (.t 137)⟩,
          ⟨none, none, .store 1 (.t 138) (.c (.int .i64 (1)))⟩])
        (.seq
         (.reg [⟨none, (some 140), .mov (.t 0)⟩,
           ⟨none, (some 141), .load (some 2) (.t 16)⟩,
           ⟨none, (some 142), .load (some 2) (.t 4)⟩,
           ⟨none, (some 143), .call 1 23 [.t 140, .t 141, .t 142]⟩,
           ⟨none, (some 139), .mov (.t 143)⟩,
           ⟨none, (some 144), .ext (.t 139) 0⟩,
           ⟨none, (some 145), .ext (.t 139) 1⟩,
           ⟨none, (some 17), .alloc [.int .i64 (0), .int .i64 (0)]⟩,
           ⟨none, none, .store 2 (.t 17) (.t 144)⟩,
           ⟨none, (some 18), .mov (.t 145)⟩])
         (.seq
          (.reg [⟨none, (some 146), .mov (.t 18)⟩,
            ⟨none, (some 147), .bin .neq (.t 146) (.c (.int .i64 (0)))⟩,
            ⟨none, (some 148), .mov (.t 147)⟩,
            ⟨(some (148, false)), (some 149), .load (some 2) (.t 17)⟩,
            ⟨(some (148, false)), (some 150), .bslice 2 1 [.int .i64 (0), .int .i64 (0)] [(0, 2, .t 149)]⟩,
            ⟨(some (148, false)), (some 151), .call 1 35 [.t 150]⟩,
            ⟨(some (148, false)), (some 152), .un .not (.t 151)⟩,
            ⟨none, (some 153), .pick (.t 148) (.c (.bool true)) (.t 152)⟩,
            ⟨none, (some 154), .mov (.t 153)⟩,
            ⟨(some (154, false)), (some 155), .load (some 2) (.t 17)⟩,
            ⟨(some (154, false)), (some 156), .load (some 2) (.t 11)⟩,
            ⟨(some (154, false)), (some 157), .call 1 37 [.t 155, .t 156]⟩,
            ⟨(some (154, false)), (some 158), .un .not (.t 157)⟩,
            ⟨none, (some 159), .pick (.t 154) (.c (.bool true)) (.t 158)⟩])
          (.cond (.t 159)
           (.seq
            (.reg [⟨none, (some 6), .mov (.c (.bool false))⟩])
            (.ret (m 161 64)))
           (.skip))))))
      (.skip))))
   (.reg [⟨none, (some 124), .mov (.t 15)⟩,
     ⟨none, (some 125), .bin .add (.t 124) (.c (.int .i64 (1)))⟩,
     ⟨none, (some 15), .mov (.t 125)⟩]))
def F6L0 : XC := .loop (m 161 35345) F6L0b
def F6T0 : XC :=
 .seq
  (.reg [⟨none, (some 160), .call 1 16 []⟩,
    ⟨none, (some 6), .mov (.t 160)⟩])
  (.ret (m 161 64))
def F6B : XC :=
 .seq
  (.reg [⟨none, (some 4), .box (.t 1)⟩,
    ⟨none, (some 5), .box (.t 2)⟩,
    ⟨none, (some 6), .mov (.c (.bool false))⟩])
  (.seq
   (.seq
    (.reg [⟨none, (some 19), .mov (.t 0)⟩,
      ⟨none, (some 20), .load (some 2) (.t 4)⟩,
      ⟨none, (some 21), .load (some 2) (.t 5)⟩,
      ⟨none, (some 22), .bslice 2 2 [.nils, .int .i64 (0)] [(0, 2, .t 20), (2, 2, .t 21)]⟩,
      ⟨none, (some 23), .call 1 15 [.t 19, .t 22]⟩,
      ⟨none, (some 24), .un .not (.t 23)⟩,
      ⟨none, (some 25), .mov (.t 24)⟩,
      ⟨(some (25, false)), (some 26), .mov (.t 0)⟩,
      ⟨(some (25, false)), (some 27), .call 1 34 [.t 26]⟩,
      ⟨(some (25, false)), (some 28), .un .not (.t 27)⟩,
      ⟨none, (some 29), .pick (.t 25) (.c (.bool true)) (.t 28)⟩,
      ⟨none, (some 30), .mov (.t 29)⟩,
      ⟨(some (30, false)), (some 31), .mov (.t 0)⟩,
      ⟨(some (30, false)), (some 32), .len (.t 31)⟩,
      ⟨(some (30, false)), (some 33), .load (some 2) (.t 4)⟩,
      ⟨(some (30, false)), (some 34), .call 1 22 [.t 32, .t 33]⟩,
      ⟨(some (30, false)), (some 35), .un .not (.t 34)⟩,
      ⟨none, (some 36), .pick (.t 30) (.c (.bool true)) (.t 35)⟩,
      ⟨none, (some 37), .mov (.t 36)⟩,
      ⟨(some (37, false)), (some 38), .mov (.t 0)⟩,
      ⟨(some (37, false)), (some 39), .len (.t 38)⟩,
      ⟨(some (37, false)), (some 40), .load (some 2) (.t 5)⟩,
      ⟨(some (37, false)), (some 41), .call 1 22 [.t 39, .t 40]⟩,
      ⟨(some (37, false)), (some 42), .un .not (.t 41)⟩,
      ⟨none, (some 43), .pick (.t 37) (.c (.bool true)) (.t 42)⟩])
    (.cond (.t 43)
     (.seq
      (.reg [⟨none, (some 44), .call 1 16 []⟩,
        ⟨none, (some 6), .mov (.t 44)⟩])
      (.ret (m 161 64)))
     (.skip)))
   (.seq
    (.reg [⟨none, (some 46), .mov (.t 0)⟩,
      ⟨none, (some 47), .load (some 2) (.t 4)⟩,
      ⟨none, (some 48), .call 1 25 [.t 46, .t 47]⟩,
      ⟨none, (some 45), .mov (.t 48)⟩,
      ⟨none, (some 49), .ext (.t 45) 0⟩,
      ⟨none, (some 50), .ext (.t 45) 1⟩,
      ⟨none, (some 7), .mov (.t 49)⟩,
      ⟨none, (some 8), .mov (.t 50)⟩])
    (.seq
     (.reg [⟨none, (some 52), .mov (.t 0)⟩,
       ⟨none, (some 53), .load (some 2) (.t 4)⟩,
       ⟨none, (some 54), .call 1 27 [.t 52, .t 53]⟩,
       ⟨none, (some 51), .mov (.t 54)⟩,
       ⟨none, (some 55), .ext (.t 51) 0⟩,
       ⟨none, (some 56), .ext (.t 51) 1⟩,
       ⟨none, (some 9), .mov (.t 55)⟩,
       ⟨none, (some 10), .mov (.t 56)⟩])
     (.seq
      (.reg [⟨none, (some 58), .mov (.t 0)⟩,
        ⟨none, (some 59), .load (some 2) (.t 4)⟩,
        ⟨none, (some 60), .load (some 2) (.t 4)⟩,
        ⟨none, (some 61), .call 1 23 [.t 58, .t 59, .t 60]⟩,
        ⟨none, (some 57), .mov (.t 61)⟩,
        ⟨none, (some 62), .ext (.t 57) 0⟩,
        ⟨none, (some 63), .ext (.t 57) 1⟩,
        ⟨none, (some 11), .alloc [.int .i64 (0), .int .i64 (0)]⟩,
        ⟨none, none, .store 2 (.t 11) (.t 62)⟩,
        ⟨none, (some 12), .mov (.t 63)⟩])
      (.seq
       (.reg [⟨none, (some 65), .mov (.t 0)⟩,
         ⟨none, (some 66), .load (some 2) (.t 5)⟩,
         ⟨none, (some 67), .load (some 2) (.t 4)⟩,
         ⟨none, (some 68), .call 1 23 [.t 65, .t 66, .t 67]⟩,
         ⟨none, (some 64), .mov (.t 68)⟩,
         ⟨none, (some 69), .ext (.t 64) 0⟩,
         ⟨none, (some 70), .ext (.t 64) 1⟩,
         ⟨none, (some 13), .alloc [.int .i64 (0), .int .i64 (0)]⟩,
         ⟨none, none, .store 2 (.t 13) (.t 69)⟩,
         ⟨none, (some 14), .mov (.t 70)⟩])
       (.seq
        (.seq
         (.reg [⟨none, (some 71), .mov (.t 8)⟩,
           ⟨none, (some 72), .bin .neq (.t 71) (.c (.int .i64 (0)))⟩,
           ⟨none, (some 73), .mov (.t 72)⟩,
           ⟨(some (73, false)), (some 74), .mov (.t 10)⟩,
           ⟨(some (73, false)), (some 75), .bin .neq (.t 74) (.c (.int .i64 (0)))⟩,
           ⟨none, (some 76), .pick (.t 73) (.c (.bool true)) (.t 75)⟩,
           ⟨none, (some 77), .mov (.t 76)⟩,
           ⟨(some (77, false)), (some 78), .mov (.t 12)⟩,
           ⟨(some (77, false)), (some 79), .bin .neq (.t 78) (.c (.int .i64 (0)))⟩,
           ⟨none, (some 80), .pick (.t 77) (.c (.bool true)) (.t 79)⟩,
           ⟨none, (some 81), .mov (.t 80)⟩,
           ⟨(some (81, false)), (some 82), .mov (.t 14)⟩,
           ⟨(some (81, false)), (some 83), .bin .neq (.t 82) (.c (.int .i64 (0)))⟩,
           ⟨none, (some 84), .pick (.t 81) (.c (.bool true)) (.t 83)⟩,
           ⟨none, (some 85), .mov (.t 84)⟩,
           ⟨(some (85, false)), (some 86), .load (some 2) (.t 11)⟩,
           ⟨(some (85, false)), (some 87), .load (some 2) (.t 13)⟩,
           ⟨(some (85, false)), (some 88), .bslice 2 2 [.int .i64 (0), .int .i64 (0)] [(0, 2, .t 86), (2, 2, .t 87)]⟩,
           ⟨(some (85, false)), (some 89), .call 1 35 [.t 88]⟩,
           ⟨(some (85, false)), (some 90), .un .not (.t 89)⟩,
           ⟨none, (some 91), .pick (.t 85) (.c (.bool true)) (.t 90)⟩,
           ⟨none, (some 92), .mov (.t 91)⟩,
           ⟨(some (92, false)), (some 93), .mov (.t 9)⟩,
           ⟨(some (92, false)), (some 94), .bin .lss (.t 93) (.c (.int .i64 (1)))⟩,
           ⟨none, (some 95), .pick (.t 92) (.c (.bool true)) (.t 94)⟩,
           ⟨none, (some 96), .mov (.t 95)⟩,
           ⟨(some (96, false)), (some 97), .mov (.t 9)⟩,
           ⟨(some (96, false)), (some 98), .mov (.t 0)⟩,
           ⟨(some (96, false)), (some 99), .len (.t 98)⟩,
           ⟨(some (96, false)), (some 100), .bin .shl (.c (.int .i64 (1))) (.t 99)⟩,
           ⟨(some (96, false)), (some 101), .bin .geq (.t 97) (.t 100)⟩,
           ⟨none, (some 102), .pick (.t 96) (.c (.bool true)) (.t 101)⟩,
           ⟨none, (some 103), .mov (.t 102)⟩,
           ⟨(some (103, false)), (some 104), .mov (.t 7)⟩,
           ⟨(some (103, false)), (some 105), .load (some 2) (.t 4)⟩,
           ⟨(some (103, false)), (some 106), .call 1 36 [.t 105]⟩,
           ⟨(some (103, false)), (some 107), .mov (.t 9)⟩,
           ⟨(some (103, false)), (some 108), .bin .andNot (.t 106) (.t 107)⟩,
           ⟨(some (103, false)), (some 109), .bin .eql (.t 108) (.c (.int .i64 (0)))⟩,
           ⟨(some (103, false)), (some 110), .eqb true (.t 104) (.t 109)⟩,
           ⟨none, (some 111), .pick (.t 103) (.c (.bool true)) (.t 110)⟩])
         (.cond (.t 111)
          (.seq
           (.reg [⟨none, (some 6), .mov (.c (.bool false))⟩])
           (.ret (m 161 64)))
          (.skip)))
        (.seq
         (.seq
          (.reg [⟨none, (some 112), .mov (.t 7)⟩])
          (.cond (.t 112)
           (.seq
            (.reg [⟨none, (some 113), .load (some 2) (.t 13)⟩,
              ⟨none, (some 114), .load (some 2) (.t 11)⟩,
              ⟨none, (some 115), .call 1 37 [.t 113, .t 114]⟩,
              ⟨none, (some 116), .un .not (.t 115)⟩,
              ⟨none, (some 117), .mov (.t 116)⟩,
              ⟨(some (117, true)), (some 118), .call 1 16 []⟩,
              ⟨none, (some 119), .pick (.t 117) (.t 118) (.c (.bool false))⟩,
              ⟨none, (some 6), .mov (.t 119)⟩])
            (.ret (m 161 64)))
           (.skip)))
         (.seq
          (.seq
           (.reg [⟨none, (some 15), .mov (.c (.int .i64 (0)))⟩])
           (.block 0 (m 161 0)
            (F6L0)))
          F6T0))))))))
def F6 : XF := ⟨3, 161, [.tmp 6], F6B⟩
def M6 : List (List Bool) := [(m 161 64), (m 161 64), (m 161 64), (m 161 0), (m 161 35345), (m 161 0), (m 161 35345), (m 161 64), (m 161 64)]
def F7L0b : XC :=
 .seq
  (.seq
   (.reg [⟨none, (some 32), .mov (.t 5)⟩,
     ⟨none, (some 33), .bin .lss (.t 32) (.c (.int .i64 (2)))⟩])
   (.cond (.t 33)
    (.skip)
    (.exit 0 (m 167 9))))
  (.seq
   (.block 1 (m 167 41)
    (.seq
     (.reg [⟨none, (some 36), .mov (.t 5)⟩,
       ⟨none, (some 37), .bin .sub (.c (.int .i64 (1))) (.t 36)⟩,
       ⟨none, (some 6), .mov (.t 37)⟩])
     (.seq
      (.reg [⟨none, (some 38), .mov (.t 6)⟩,
        ⟨none, (some 39), .mov (.t 5)⟩,
        ⟨none, (some 40), .bslice 1 2 [.int .i64 (0)] [(0, 1, .t 38), (1, 1, .t 39)]⟩,
        ⟨none, (some 41), .build [.nils, .int .i64 (0)] [(0, 1, .t 40), (1, 1, .c (.int .i64 (1)))]⟩,
        ⟨none, (some 7), .alloc [.nils, .int .i64 (0)]⟩,
        ⟨none, none, .store 2 (.t 7) (.t 41)⟩])
      (.seq
       (.reg [⟨none, (some 43), .mov (.t 0)⟩,
         ⟨none, (some 44), .load (some 2) (.t 7)⟩,
         ⟨none, (some 45), .call 1 32 [.t 43, .t 44]⟩,
         ⟨none, (some 42), .mov (.t 45)⟩,
         ⟨none, (some 46), .ext (.t 42) 0⟩,
         ⟨none, (some 47), .ext (.t 42) 1⟩,
         ⟨none, (some 8), .mov (.t 46)⟩,
         ⟨none, (some 9), .mov (.t 47)⟩])
       (.seq
        (.reg [⟨none, (some 48), .mov (.t 0)⟩,
          ⟨none, (some 49), .mov (.t 5)⟩,
          ⟨none, (some 50), .indexA 1 (.t 48) (.t 49)⟩,
          ⟨none, (some 51), .load none (.t 50)⟩,
          ⟨none, (some 52), .mov (.t 5)⟩,
          ⟨none, (some 53), .indexA 1 (.t 51) (.t 52)⟩,
          ⟨none, (some 54), .load none (.t 53)⟩,
          ⟨none, (some 55), .mov (.t 0)⟩,
          ⟨none, (some 56), .mov (.t 6)⟩,
          ⟨none, (some 57), .indexA 1 (.t 55) (.t 56)⟩,
          ⟨none, (some 58), .load none (.t 57)⟩,
          ⟨none, (some 59), .mov (.t 5)⟩,
          ⟨none, (some 60), .indexA 1 (.t 58) (.t 59)⟩,
          ⟨none, (some 61), .load none (.t 60)⟩,
          ⟨none, (some 62), .bin .gtr (.t 54) (.t 61)⟩,
          ⟨none, (some 63), .mov (.t 62)⟩,
          ⟨(some (63, false)), (some 64), .mov (.t 0)⟩,
          ⟨(some (63, false)), (some 65), .mov (.t 5)⟩,
          ⟨(some (63, false)), (some 66), .indexA 1 (.t 64) (.t 65)⟩,
          ⟨(some (63, false)), (some 67), .load none (.t 66)⟩,
          ⟨(some (63, false)), (some 68), .mov (.t 5)⟩,
          ⟨(some (63, false)), (some 69), .indexA 1 (.t 67) (.t 68)⟩,
          ⟨(some (63, false)), (some 70), .load none (.t 69)⟩,
          ⟨(some (63, false)), (some 71), .mov (.t 0)⟩,
          ⟨(some (63, false)), (some 72), .mov (.t 6)⟩,
          ⟨(some (63, false)), (some 73), .indexA 1 (.t 71) (.t 72)⟩,
          ⟨(some (63, false)), (some 74), .load none (.t 73)⟩,
          ⟨(some (63, false)), (some 75), .mov (.t 5)⟩,
          ⟨(some (63, false)), (some 76), .indexA 1 (.t 74) (.t 75)⟩,
          ⟨(some (63, false)), (some 77), .load none (.t 76)⟩,
          ⟨(some (63, false)), (some 78), .bin .eql (.t 70) (.t 77)⟩,
          ⟨(some (63, false)), (some 79), .mov (.t 78)⟩,
          ⟨(some (79, true)), (some 80), .mov (.t 0)⟩,
          ⟨(some (79, true)), (some 81), .mov (.t 5)⟩,
          ⟨(some (79, true)), (some 82), .indexA 1 (.t 80) (.t 81)⟩,
          ⟨(some (79, true)), (some 83), .load none (.t 82)⟩,
          ⟨(some (79, true)), (some 84), .mov (.t 6)⟩,
          ⟨(some (79, true)), (some 85), .indexA 1 (.t 83) (.t 84)⟩,
          ⟨(some (79, true)), (some 86), .load none (.t 85)⟩,
          ⟨(some (79, true)), (some 87), .mov (.t 0)⟩,
          ⟨(some (79, true)), (some 88), .mov (.t 6)⟩,
          ⟨(some (79, true)), (some 89), .indexA 1 (.t 87) (.t 88)⟩,
          ⟨(some (79, true)), (some 90), .load none (.t 89)⟩,
          ⟨(some (79, true)), (some 91), .mov (.t 6)⟩,
          ⟨(some (79, true)), (some 92), .indexA 1 (.t 90) (.t 91)⟩,
          ⟨(some (79, true)), (some 93), .load none (.t 92)⟩,
          ⟨(some (79, true)), (some 94), .bin .gtr (.t 86) (.t 93)⟩,
          ⟨(some (63, false)), (some 95), .pick (.t 79) (.t 94) (.c (.bool false))⟩,
          ⟨none, (some 96), .pick (.t 63) (.c (.bool true)) (.t 95)⟩,
          ⟨none, (some 10), .mov (.t 96)⟩])
        (.seq
         (.reg [⟨none, (some 97), .mov (.t 9)⟩,
           ⟨none, (some 98), .bin .neq (.t 97) (.c (.int .i64 (0)))⟩,
           ⟨none, (some 99), .mov (.t 98)⟩,
           ⟨(some (99, false)), (some 100), .mov (.t 8)⟩,
           ⟨(some (99, false)), (some 101), .mov (.t 10)⟩,
           ⟨(some (99, false)), (some 102), .eqb true (.t 100) (.t 101)⟩,
           ⟨none, (some 103), .pick (.t 99) (.c (.bool true)) (.t 102)⟩])
         (.cond (.t 103)
          (.seq
           (.reg [⟨none, (some 4), .mov (.c (.bool false))⟩])
           (.ret (m 167 16)))
          (.skip))))))))
   (.reg [⟨none, (some 34), .mov (.t 5)⟩,
     ⟨none, (some 35), .bin .add (.t 34) (.c (.int .i64 (1)))⟩,
     ⟨none, (some 5), .mov (.t 35)⟩]))
def F7L0 : XC := .loop (m 167 41) F7L0b
def F7T0 : XC :=
 .seq
  (.seq
   (.reg [⟨none, (some 104), .load (some 2) (.t 3)⟩,
     ⟨none, (some 105), .call 1 22 [.c (.int .i64 (2)), .t 104]⟩,
     ⟨none, (some 106), .un .not (.t 105)⟩,
     ⟨none, (some 107), .mov (.t 106)⟩,
     ⟨(some (107, false)), (some 108), .load (some 2) (.t 3)⟩,
     ⟨(some (107, false)), (some 109), .call 1 36 [.t 108]⟩,
     ⟨(some (107, false)), (some 110), .bin .neq (.t 109) (.c (.int .i64 (3)))⟩,
     ⟨none, (some 111), .pick (.t 107) (.c (.bool true)) (.t 110)⟩])
   (.cond (.t 111)
    (.seq
     (.reg [⟨none, (some 112), .call 1 16 []⟩,
       ⟨none, (some 4), .mov (.t 112)⟩])
     (.ret (m 167 16)))
    (.skip)))
  (.seq
   (.reg [⟨none, (some 114), .mov (.t 0)⟩,
     ⟨none, (some 115), .call 1 30 [.t 114, .c (.int .i64 (3))]⟩,
     ⟨none, (some 113), .mov (.t 115)⟩,
     ⟨none, (some 116), .ext (.t 113) 0⟩,
     ⟨none, (some 117), .ext (.t 113) 1⟩,
     ⟨none, (some 11), .alloc [.nils, .int .i64 (0)]⟩,
     ⟨none, none, .store 2 (.t 11) (.t 116)⟩,
     ⟨none, (some 12), .mov (.t 117)⟩])
   (.seq
    (.reg [⟨none, (some 119), .mov (.t 0)⟩,
      ⟨none, (some 120), .load (some 2) (.t 3)⟩,
      ⟨none, (some 121), .call 1 32 [.t 119, .t 120]⟩,
      ⟨none, (some 118), .mov (.t 121)⟩,
      ⟨none, (some 122), .ext (.t 118) 0⟩,
      ⟨none, (some 123), .ext (.t 118) 1⟩,
      ⟨none, (some 13), .mov (.t 122)⟩,
      ⟨none, (some 14), .mov (.t 123)⟩])
    (.seq
     (.reg [⟨none, (some 124), .mov (.t 12)⟩,
       ⟨none, (some 125), .bin .eql (.t 124) (.c (.int .i64 (0)))⟩,
       ⟨none, (some 126), .mov (.t 125)⟩,
       ⟨(some (126, true)), (some 127), .load (some 2) (.t 11)⟩,
       ⟨(some (126, true)), (some 128), .load (some 2) (.t 3)⟩,
       ⟨(some (126, true)), (some 129), .call 1 19 [.t 127, .t 128]⟩,
       ⟨none, (some 130), .pick (.t 126) (.t 129) (.c (.bool false))⟩,
       ⟨none, (some 131), .mov (.t 130)⟩,
       ⟨(some (131, true)), (some 132), .mov (.t 0)⟩,
       ⟨(some (131, true)), (some 133), .indexA 1 (.t 132) (.c (.int .i64 (1)))⟩,
       ⟨(some (131, true)), (some 134), .load none (.t 133)⟩,
       ⟨(some (131, true)), (some 135), .indexA 1 (.t 134) (.c (.int .i64 (0)))⟩,
       ⟨(some (131, true)), (some 136), .load none (.t 135)⟩,
       ⟨(some (131, true)), (some 137), .mov (.t 0)⟩,
       ⟨(some (131, true)), (some 138), .indexA 1 (.t 137) (.c (.int .i64 (0)))⟩,
       ⟨(some (131, true)), (some 139), .load none (.t 138)⟩,
       ⟨(some (131, true)), (some 140), .indexA 1 (.t 139) (.c (.int .i64 (0)))⟩,
       ⟨(some (131, true)), (some 141), .load none (.t 140)⟩,
       ⟨(some (131, true)), (some 142), .bin .gtr (.t 136) (.t 141)⟩,
       ⟨none, (some 143), .pick (.t 131) (.t 142) (.c (.bool false))⟩,
       ⟨none, (some 144), .mov (.t 143)⟩,
       ⟨(some (144, true)), (some 145), .mov (.t 0)⟩,
       ⟨(some (144, true)), (some 146), .indexA 1 (.t 145) (.c (.int .i64 (0)))⟩,
       ⟨(some (144, true)), (some 147), .load none (.t 146)⟩,
       ⟨(some (144, true)), (some 148), .indexA 1 (.t 147) (.c (.int .i64 (1)))⟩,
       ⟨(some (144, true)), (some 149), .load none (.t 148)⟩,
       ⟨(some (144, true)), (some 150), .mov (.t 0)⟩,
       ⟨(some (144, true)), (some 151), .indexA 1 (.t 150) (.c (.int .i64 (1)))⟩,
       ⟨(some (144, true)), (some 152), .load none (.t 151)⟩,
       ⟨(some (144, true)), (some 153), .indexA 1 (.t 152) (.c (.int .i64 (1)))⟩,
       ⟨(some (144, true)), (some 154), .load none (.t 153)⟩,
       ⟨(some (144, true)), (some 155), .bin .gtr (.t 149) (.t 154)⟩,
       ⟨none, (some 156), .pick (.t 144) (.t 155) (.c (.bool false))⟩,
       ⟨none, (some 15), .mov (.t 156)⟩])
     (.seq
      (.reg [⟨none, (some 157), .mov (.t 14)⟩,
        ⟨none, (some 158), .bin .eql (.t 157) (.c (.int .i64 (0)))⟩,
        ⟨none, (some 159), .mov (.t 158)⟩,
        ⟨(some (159, true)), (some 160), .mov (.t 13)⟩,
        ⟨(some (159, true)), (some 161), .mov (.t 15)⟩,
        ⟨(some (159, true)), (some 162), .eqb false (.t 160) (.t 161)⟩,
        ⟨none, (some 163), .pick (.t 159) (.t 162) (.c (.bool false))⟩,
        ⟨none, (some 164), .mov (.t 163)⟩,
        ⟨(some (164, true)), (some 165), .call 1 16 []⟩,
        ⟨none, (some 166), .pick (.t 164) (.t 165) (.c (.bool false))⟩,
        ⟨none, (some 4), .mov (.t 166)⟩])
      (.ret (m 167 16))))))
def F7B : XC :=
 .seq
  (.reg [⟨none, (some 3), .box (.t 1)⟩,
    ⟨none, (some 4), .mov (.c (.bool false))⟩])
  (.seq
   (.seq
    (.reg [⟨none, (some 16), .mov (.t 0)⟩,
      ⟨none, (some 17), .load (some 2) (.t 3)⟩,
      ⟨none, (some 18), .bslice 2 1 [.nils, .int .i64 (0)] [(0, 2, .t 17)]⟩,
      ⟨none, (some 19), .call 1 15 [.t 16, .t 18]⟩,
      ⟨none, (some 20), .un .not (.t 19)⟩,
      ⟨none, (some 21), .mov (.t 20)⟩,
      ⟨(some (21, false)), (some 22), .mov (.t 0)⟩,
      ⟨(some (21, false)), (some 23), .call 1 34 [.t 22]⟩,
      ⟨(some (21, false)), (some 24), .un .not (.t 23)⟩,
      ⟨none, (some 25), .pick (.t 21) (.c (.bool true)) (.t 24)⟩,
      ⟨none, (some 26), .mov (.t 25)⟩,
      ⟨(some (26, false)), (some 27), .mov (.t 0)⟩,
      ⟨(some (26, false)), (some 28), .len (.t 27)⟩,
      ⟨(some (26, false)), (some 29), .bin .neq (.t 28) (.c (.int .i64 (2)))⟩,
      ⟨none, (some 30), .pick (.t 26) (.c (.bool true)) (.t 29)⟩])
    (.cond (.t 30)
     (.seq
      (.reg [⟨none, (some 31), .call 1 16 []⟩,
        ⟨none, (some 4), .mov (.t 31)⟩])
      (.ret (m 167 16)))
     (.skip)))
   (.seq
    (.seq
     (.reg [⟨none, (some 5), .mov (.c (.int .i64 (0)))⟩])
     (.block 0 (m 167 9)
      (F7L0)))
    F7T0))
def F7 : XF := ⟨2, 167, [.tmp 4], F7B⟩
def M7 : List (List Bool) := [(m 167 16), (m 167 9), (m 167 41), (m 167 9), (m 167 41), (m 167 16), (m 167 16), (m 167 16)]
def F8L0b : XC :=
 .seq
  (.seq
   (.reg [⟨none, (some 139), .mov (.t 17)⟩,
     ⟨none, (some 140), .mov (.t 9)⟩,
     ⟨none, (some 141), .bin .lss (.t 139) (.t 140)⟩])
   (.cond (.t 141)
    (.skip)
    (.exit 2 (m 199 937))))
  (.seq
   (.block 3 (m 199 133033)
    (.seq
     (.reg [⟨none, (some 144), .mov (.t 5)⟩,
       ⟨none, (some 145), .mov (.t 17)⟩,
       ⟨none, (some 146), .indexA 2 (.t 144) (.t 145)⟩,
       ⟨none, (some 147), .load (some 2) (.t 146)⟩,
       ⟨none, (some 148), .call 1 36 [.t 147]⟩,
       ⟨none, (some 18), .mov (.t 148)⟩])
     (.seq
      (.reg [⟨none, (some 149), .mov (.t 18)⟩,
        ⟨none, (some 150), .mov (.t 10)⟩,
        ⟨none, (some 151), .bin .geq (.t 149) (.t 150)⟩,
        ⟨none, (some 152), .mov (.t 151)⟩,
        ⟨(some (152, false)), (some 153), .mov (.t 18)⟩,
        ⟨(some (152, false)), (some 154), .mov (.t 10)⟩,
        ⟨(some (152, false)), (some 155), .bin .andNot (.t 153) (.t 154)⟩,
        ⟨(some (152, false)), (some 156), .bin .eql (.t 155) (.c (.int .i64 (0)))⟩,
        ⟨none, (some 157), .pick (.t 152) (.c (.bool true)) (.t 156)⟩])
      (.cond (.t 157)
       (.seq
        (.reg [⟨none, (some 4), .mov (.c (.bool false))⟩])
        (.ret (m 199 16)))
       (.skip)))))
   (.reg [⟨none, (some 142), .mov (.t 17)⟩,
     ⟨none, (some 143), .bin .add (.t 142) (.c (.int .i64 (1)))⟩,
     ⟨none, (some 17), .mov (.t 143)⟩]))
def F8L0 : XC := .loop (m 199 133033) F8L0b
def F8T0 : XC :=
 .reg [⟨none, (some 50), .mov (.t 9)⟩,
   ⟨none, (some 51), .bin .add (.t 50) (.c (.int .i64 (1)))⟩,
   ⟨none, (some 9), .mov (.t 51)⟩]
def F8L1b : XC :=
 .seq
  (.seq
   (.reg [⟨none, (some 46), .mov (.t 9)⟩,
     ⟨none, (some 47), .mov (.t 5)⟩,
     ⟨none, (some 48), .len (.t 47)⟩,
     ⟨none, (some 49), .bin .lss (.t 46) (.t 48)⟩])
   (.cond (.t 49)
    (.skip)
    (.exit 0 (m 199 41))))
  (.seq
   (.block 1 (m 199 937)
    (.seq
     (.seq
      (.reg [⟨none, (some 52), .mov (.t 0)⟩,
        ⟨none, (some 53), .len (.t 52)⟩,
        ⟨none, (some 54), .mov (.t 5)⟩,
        ⟨none, (some 55), .mov (.t 9)⟩,
        ⟨none, (some 56), .indexA 2 (.t 54) (.t 55)⟩,
        ⟨none, (some 57), .load (some 2) (.t 56)⟩,
        ⟨none, (some 58), .call 1 22 [.t 53, .t 57]⟩,
        ⟨none, (some 59), .un .not (.t 58)⟩])
      (.cond (.t 59)
       (.seq
        (.reg [⟨none, (some 4), .mov (.c (.bool false))⟩])
        (.ret (m 199 16)))
       (.skip)))
     (.seq
      (.reg [⟨none, (some 60), .mov (.t 5)⟩,
        ⟨none, (some 61), .mov (.t 9)⟩,
        ⟨none, (some 62), .indexA 2 (.t 60) (.t 61)⟩,
        ⟨none, (some 63), .load (some 2) (.t 62)⟩,
        ⟨none, (some 64), .call 1 36 [.t 63]⟩,
        ⟨none, (some 10), .mov (.t 64)⟩])
      (.seq
       (.reg [⟨none, (some 66), .mov (.t 0)⟩,
         ⟨none, (some 67), .mov (.t 5)⟩,
         ⟨none, (some 68), .mov (.t 9)⟩,
         ⟨none, (some 69), .indexA 2 (.t 67) (.t 68)⟩,
         ⟨none, (some 70), .load (some 2) (.t 69)⟩,
         ⟨none, (some 71), .call 1 27 [.t 66, .t 70]⟩,
         ⟨none, (some 65), .mov (.t 71)⟩,
         ⟨none, (some 72), .ext (.t 65) 0⟩,
         ⟨none, (some 73), .ext (.t 65) 1⟩,
         ⟨none, (some 11), .mov (.t 72)⟩,
         ⟨none, (some 12), .mov (.t 73)⟩])
       (.seq
        (.reg [⟨none, (some 75), .mov (.t 0)⟩,
          ⟨none, (some 76), .mov (.t 5)⟩,
          ⟨none, (some 77), .mov (.t 9)⟩,
          ⟨none, (some 78), .indexA 2 (.t 76) (.t 77)⟩,
          ⟨none, (some 79), .load (some 2) (.t 78)⟩,
          ⟨none, (some 80), .call 1 32 [.t 75, .t 79]⟩,
          ⟨none, (some 74), .mov (.t 80)⟩,
          ⟨none, (some 81), .ext (.t 74) 0⟩,
          ⟨none, (some 82), .ext (.t 74) 1⟩,
          ⟨none, (some 13), .mov (.t 81)⟩,
          ⟨none, (some 14), .mov (.t 82)⟩])
        (.seq
         (.reg [⟨none, (some 84), .mov (.t 0)⟩,
           ⟨none, (some 85), .mov (.t 10)⟩,
           ⟨none, (some 86), .call 1 30 [.t 84, .t 85]⟩,
           ⟨none, (some 83), .mov (.t 86)⟩,
           ⟨none, (some 87), .ext (.t 83) 0⟩,
           ⟨none, (some 88), .ext (.t 83) 1⟩,
           ⟨none, (some 15), .alloc [.nils, .int .i64 (0)]⟩,
           ⟨none, none, .store 2 (.t 15) (.t 87)⟩,
           ⟨none, (some 16), .mov (.t 88)⟩])
         (.seq
          (.seq
           (.reg [⟨none, (some 89), .mov (.t 12)⟩,
             ⟨none, (some 90), .bin .neq (.t 89) (.c (.int .i64 (0)))⟩,
             ⟨none, (some 91), .mov (.t 90)⟩,
             ⟨(some (91, false)), (some 92), .mov (.t 14)⟩,
             ⟨(some (91, false)), (some 93), .bin .neq (.t 92) (.c (.int .i64 (0)))⟩,
             ⟨none, (some 94), .pick (.t 91) (.c (.bool true)) (.t 93)⟩,
             ⟨none, (some 95), .mov (.t 94)⟩,
             ⟨(some (95, false)), (some 96), .mov (.t 16)⟩,
             ⟨(some (95, false)), (some 97), .bin .neq (.t 96) (.c (.int .i64 (0)))⟩,
             ⟨none, (some 98), .pick (.t 95) (.c (.bool true)) (.t 97)⟩,
             ⟨none, (some 99), .mov (.t 98)⟩,
             ⟨(some (99, false)), (some 100), .mov (.t 13)⟩,
             ⟨(some (99, false)), (some 101), .un .not (.t 100)⟩,
             ⟨none, (some 102), .pick (.t 99) (.c (.bool true)) (.t 101)⟩,
             ⟨none, (some 103), .mov (.t 102)⟩,
             ⟨(some (103, false)), (some 104), .load (some 2) (.t 15)⟩,
             ⟨(some (103, false)), (some 105), .mov (.t 5)⟩,
             ⟨(some (103, false)), (some 106), .mov (.t 9)⟩,
             ⟨(some (103, false)), (some 107), .indexA 2 (.t 105) (.t 106)⟩,
             ⟨(some (103, false)), (some 108), .load (some 2) (.t 107)⟩,
             ⟨(some (103, false)), (some 109), .call 1 19 [.t 104, .t 108]⟩,
             ⟨(some (103, false)), (some 110), .un .not (.t 109)⟩,
             ⟨none, (some 111), .pick (.t 103) (.c (.bool true)) (.t 110)⟩])
           (.cond (.t 111)
            (.seq
             (.reg [⟨none, (some 4), .mov (.c (.bool false))⟩])
             (.ret (m 199 16)))
            (.skip)))
          (.seq
           (.seq
            (.reg [⟨none, (some 112), .mov (.t 8)⟩,
              ⟨none, (some 113), .bin .eql (.t 112) (.c (.int .i64 (0)))⟩,
              ⟨none, (some 114), .mov (.t 113)⟩,
              ⟨(some (114, true)), (some 115), .mov (.t 7)⟩,
              ⟨none, (some 116), .pick (.t 114) (.t 115) (.c (.bool false))⟩,
              ⟨none, (some 117), .mov (.t 116)⟩,
              ⟨(some (117, true)), (some 118), .mov (.t 0)⟩,
              ⟨(some (117, true)), (some 119), .len (.t 118)⟩,
              ⟨(some (117, true)), (some 120), .load (some 2) (.t 3)⟩,
              ⟨(some (117, true)), (some 121), .call 1 22 [.t 119, .t 120]⟩,
              ⟨none, (some 122), .pick (.t 117) (.t 121) (.c (.bool false))⟩,
              ⟨none, (some 123), .mov (.t 122)⟩,
              ⟨(some (123, true)), (some 124), .load (some 2) (.t 3)⟩,
              ⟨(some (123, true)), (some 125), .mov (.t 5)⟩,
              ⟨(some (123, true)), (some 126), .mov (.t 9)⟩,
              ⟨(some (123, true)), (some 127), .indexA 2 (.t 125) (.t 126)⟩,
              ⟨(some (123, true)), (some 128), .load (some 2) (.t 127)⟩,
              ⟨(some (123, true)), (some 129), .call 1 19 [.t 124, .t 128]⟩,
              ⟨(some (123, true)), (some 130), .un .not (.t 129)⟩,
              ⟨none, (some 131), .pick (.t 123) (.t 130) (.c (.bool false))⟩,
              ⟨none, (some 132), .mov (.t 131)⟩,
              ⟨(some (132, true)), (some 133), .load (some 2) (.t 3)⟩,
              ⟨(some (132, true)), (some 134), .call 1 36 [.t 133]⟩,
              ⟨(some (132, true)), (some 135), .mov (.t 11)⟩,
              ⟨(some (132, true)), (some 136), .bin .andNot (.t 134) (.t 135)⟩,
              ⟨(some (132, true)), (some 137), .bin .eql (.t 136) (.c (.int .i64 (0)))⟩,
              ⟨none, (some 138), .pick (.t 132) (.t 137) (.c (.bool false))⟩])
            (.cond (.t 138)
             (.seq
              (.reg [⟨none, (some 4), .mov (.c (.bool false))⟩])
              (.ret (m 199 16)))
             (.skip)))
           (.seq
            (.reg [⟨none, (some 17), .mov (.c (.int .i64 (0)))⟩])
            (.block 2 (m 199 937)
             (F8L0)))))))))))
   F8T0)
def F8L1 : XC := .loop (m 199 937) F8L1b
def F8L2b : XC :=
 .seq
  (.seq
   (.reg [⟨none, (some 180), .mov (.t 21)⟩,
     ⟨none, (some 181), .mov (.t 5)⟩,
     ⟨none, (some 182), .len (.t 181)⟩,
     ⟨none, (some 183), .bin .lss (.t 180) (.t 182)⟩])
   (.cond (.t 183)
    (.skip)
    (.exit 4 (m 199 1048576))))
  (.seq
   (.block 5 (m 199 3145768)
    (.reg [⟨none, (some 186), .mov (.t 20)⟩,
      ⟨none, (some 187), .mov (.t 186)⟩,
      ⟨(some (187, false)), (some 188), .mov (.t 5)⟩,
      ⟨(some (187, false)), (some 189), .mov (.t 21)⟩,
      ⟨(some (187, false)), (some 190), .indexA 2 (.t 188) (.t 189)⟩,
      ⟨(some (187, false)), (some 191), .load (some 2) (.t 190)⟩,
      ⟨(some (187, false)), (some 192), .load (some 2) (.t 3)⟩,
      ⟨(some (187, false)), (some 193), .call 1 19 [.t 191, .t 192]⟩,
      ⟨none, (some 194), .pick (.t 187) (.c (.bool true)) (.t 193)⟩,
      ⟨none, (some 20), .mov (.t 194)⟩]))
   (.reg [⟨none, (some 184), .mov (.t 21)⟩,
     ⟨none, (some 185), .bin .add (.t 184) (.c (.int .i64 (1)))⟩,
     ⟨none, (some 21), .mov (.t 185)⟩]))
def F8L2 : XC := .loop (m 199 3145768) F8L2b
def F8T1 : XC :=
 .seq
  (.reg [⟨none, (some 195), .mov (.t 20)⟩,
    ⟨none, (some 196), .mov (.t 195)⟩,
    ⟨(some (196, true)), (some 197), .call 1 16 []⟩,
    ⟨none, (some 198), .pick (.t 196) (.t 197) (.c (.bool false))⟩,
    ⟨none, (some 4), .mov (.t 198)⟩])
  (.ret (m 199 16))
def F8T2 : XC :=
 .seq
  (.reg [⟨none, (some 159), .mov (.t 0)⟩,
    ⟨none, (some 160), .load (some 2) (.t 3)⟩,
    ⟨none, (some 161), .call 1 32 [.t 159, .t 160]⟩,
    ⟨none, (some 158), .mov (.t 161)⟩,
    ⟨none, (some 162), .ext (.t 158) 0⟩,
    ⟨none, (some 163), .ext (.t 158) 1⟩,
    ⟨none, (some 19), .mov (.t 162)⟩,
    ⟨none, (some 8), .mov (.t 163)⟩])
  (.seq
   (.seq
    (.reg [⟨none, (some 164), .mov (.t 8)⟩,
      ⟨none, (some 165), .bin .neq (.t 164) (.c (.int .i64 (0)))⟩,
      ⟨none, (some 166), .mov (.t 165)⟩,
      ⟨(some (166, false)), (some 167), .mov (.t 19)⟩,
      ⟨(some (166, false)), (some 168), .un .not (.t 167)⟩,
      ⟨none, (some 169), .pick (.t 166) (.c (.bool true)) (.t 168)⟩])
    (.cond (.t 169)
     (.seq
      (.reg [⟨none, (some 170), .mov (.t 8)⟩,
        ⟨none, (some 171), .bin .eql (.t 170) (.c (.int .i64 (0)))⟩,
        ⟨none, (some 172), .mov (.t 0)⟩,
        ⟨none, (some 173), .len (.t 172)⟩,
        ⟨none, (some 174), .load (some 2) (.t 3)⟩,
        ⟨none, (some 175), .call 1 22 [.t 173, .t 174]⟩,
        ⟨none, (some 176), .eqb false (.t 171) (.t 175)⟩,
        ⟨none, (some 177), .mov (.t 176)⟩,
        ⟨(some (177, true)), (some 178), .call 1 16 []⟩,
        ⟨none, (some 179), .pick (.t 177) (.t 178) (.c (.bool false))⟩,
        ⟨none, (some 4), .mov (.t 179)⟩])
      (.ret (m 199 16)))
     (.skip)))
   (.seq
    (.reg [⟨none, (some 20), .mov (.c (.bool false))⟩])
    (.seq
     (.seq
      (.reg [⟨none, (some 21), .mov (.c (.int .i64 (0)))⟩])
      (.block 4 (m 199 1048576)
       (F8L2)))
     F8T1)))
def F8B : XC :=
 .seq
  (.reg [⟨none, (some 3), .box (.t 1)⟩,
    ⟨none, (some 4), .mov (.c (.bool false))⟩])
  (.seq
   (.seq
    (.reg [⟨none, (some 22), .mov (.t 0)⟩,
      ⟨none, (some 23), .load (some 2) (.t 3)⟩,
      ⟨none, (some 24), .bslice 2 1 [.nils, .int .i64 (0)] [(0, 2, .t 23)]⟩,
      ⟨none, (some 25), .call 1 15 [.t 22, .t 24]⟩,
      ⟨none, (some 26), .un .not (.t 25)⟩,
      ⟨none, (some 27), .mov (.t 26)⟩,
      ⟨(some (27, false)), (some 28), .mov (.t 0)⟩,
      ⟨(some (27, false)), (some 29), .call 1 34 [.t 28]⟩,
      ⟨(some (27, false)), (some 30), .un .not (.t 29)⟩,
      ⟨none, (some 31), .pick (.t 27) (.c (.bool true)) (.t 30)⟩])
    (.cond (.t 31)
     (.seq
      (.reg [⟨none, (some 32), .call 1 16 []⟩,
        ⟨none, (some 4), .mov (.t 32)⟩])
      (.ret (m 199 16)))
     (.skip)))
   (.seq
    (.reg [⟨none, (some 34), .mov (.t 0)⟩,
      ⟨none, (some 35), .call 1 17 [.t 34]⟩,
      ⟨none, (some 33), .mov (.t 35)⟩,
      ⟨none, (some 36), .ext (.t 33) 0⟩,
      ⟨none, (some 37), .ext (.t 33) 1⟩,
      ⟨none, (some 5), .mov (.t 36)⟩,
      ⟨none, (some 6), .mov (.t 37)⟩])
    (.seq
     (.seq
      (.reg [⟨none, (some 38), .mov (.t 6)⟩,
        ⟨none, (some 39), .bin .neq (.t 38) (.c (.int .i64 (0)))⟩])
      (.cond (.t 39)
       (.seq
        (.reg [⟨none, (some 4), .mov (.c (.bool false))⟩])
        (.ret (m 199 16)))
       (.skip)))
     (.seq
      (.reg [⟨none, (some 41), .mov (.t 0)⟩,
        ⟨none, (some 42), .load (some 2) (.t 3)⟩,
        ⟨none, (some 43), .call 1 25 [.t 41, .t 42]⟩,
        ⟨none, (some 40), .mov (.t 43)⟩,
        ⟨none, (some 44), .ext (.t 40) 0⟩,
        ⟨none, (some 45), .ext (.t 40) 1⟩,
        ⟨none, (some 7), .mov (.t 44)⟩,
        ⟨none, (some 8), .mov (.t 45)⟩])
      (.seq
       (.seq
        (.reg [⟨none, (some 9), .mov (.c (.int .i64 (0)))⟩])
        (.block 0 (m 199 41)
         (F8L1)))
       F8T2)))))
def F8 : XF := ⟨2, 199, [.tmp 4], F8B⟩
def M8 : List (List Bool) := [(m 199 16), (m 199 16), (m 199 41), (m 199 937), (m 199 41), (m 199 937), (m 199 16), (m 199 16), (m 199 16), (m 199 937), (m 199 133033), (m 199 937), (m 199 133033), (m 199 16), (m 199 16), (m 199 1048576), (m 199 3145768), (m 199 1048576), (m 199 3145768), (m 199 16)]
def F9B : XC :=
 .seq
  (.reg [⟨none, (some 4), .mov (.c (.bool false))⟩])
  (.seq
   (.reg [⟨none, (some 15), .mov (.t 0)⟩,
     ⟨none, (some 16), .conv .i64 (.t 15)⟩,
     ⟨none, (some 17), .bin .rem (.t 16) (.c (.int .i64 (20)))⟩,
     ⟨none, (some 18), .bin .add (.c (.int .i64 (1))) (.t 17)⟩,
     ⟨none, (some 19), .mov (.t 1)⟩,
     ⟨none, (some 20), .conv .i64 (.t 19)⟩,
     ⟨none, (some 21), .bin .rem (.t 20) (.c (.int .i64 (20)))⟩,
     ⟨none, (some 22), .bin .add (.c (.int .i64 (1))) (.t 21)⟩,
     ⟨none, (some 5), .mov (.t 18)⟩,
     ⟨none, (some 6), .mov (.t 22)⟩])
   (.seq
    (.reg [⟨none, (some 23), .mov (.t 5)⟩,
      ⟨none, (some 24), .mov (.t 6)⟩,
      ⟨none, (some 25), .un .neg (.t 24)⟩,
      ⟨none, (some 26), .bslice 1 3 [.int .i64 (0)] [(0, 1, .c (.int .i64 (0))), (1, 1, .t 23), (2, 1, .t 25)]⟩,
      ⟨none, (some 27), .mov (.t 6)⟩,
      ⟨none, (some 28), .un .neg (.t 27)⟩,
      ⟨none, (some 29), .mov (.t 5)⟩,
      ⟨none, (some 30), .bslice 1 3 [.int .i64 (0)] [(0, 1, .t 28), (1, 1, .c (.int .i64 (0))), (2, 1, .t 29)]⟩,
      ⟨none, (some 31), .mov (.t 5)⟩,
      ⟨none, (some 32), .mov (.t 6)⟩,
      ⟨none, (some 33), .un .neg (.t 32)⟩,
      ⟨none, (some 34), .bslice 1 3 [.int .i64 (0)] [(0, 1, .t 31), (1, 1, .t 33), (2, 1, .c (.int .i64 (0)))]⟩,
      ⟨none, (some 35), .bslice 1 3 [.nils] [(0, 1, .t 26), (1, 1, .t 30), (2, 1, .t 34)]⟩,
      ⟨none, (some 7), .mov (.t 35)⟩])
    (.seq
     (.reg [⟨none, (some 36), .bslice 1 3 [.int .i64 (0)] [(0, 1, .c (.int .i64 (1))), (1, 1, .c (.int .i64 (1))), (2, 1, .c (.int .i64 (1)))]⟩,
       ⟨none, (some 37), .build [.nils, .int .i64 (0)] [(0, 1, .t 36), (1, 1, .c (.int .i64 (3)))]⟩,
       ⟨none, (some 8), .alloc [.nils, .int .i64 (0)]⟩,
       ⟨none, none, .store 2 (.t 8) (.t 37)⟩])
     (.seq
      (.reg [⟨none, (some 39), .mov (.t 7)⟩,
        ⟨none, (some 40), .load (some 2) (.t 8)⟩,
        ⟨none, (some 41), .call 1 25 [.t 39, .t 40]⟩,
        ⟨none, (some 38), .mov (.t 41)⟩,
        ⟨none, (some 42), .ext (.t 38) 0⟩,
        ⟨none, (some 43), .ext (.t 38) 1⟩,
        ⟨none, (some 9), .mov (.t 42)⟩,
        ⟨none, (some 10), .mov (.t 43)⟩])
      (.seq
       (.reg [⟨none, (some 45), .mov (.t 7)⟩,
         ⟨none, (some 46), .load (some 2) (.t 8)⟩,
         ⟨none, (some 47), .call 1 32 [.t 45, .t 46]⟩,
         ⟨none, (some 44), .mov (.t 47)⟩,
         ⟨none, (some 48), .ext (.t 44) 0⟩,
         ⟨none, (some 49), .ext (.t 44) 1⟩,
         ⟨none, (some 11), .mov (.t 48)⟩,
         ⟨none, (some 12), .mov (.t 49)⟩])
       (.seq
        (.reg [⟨none, (some 51), .mov (.t 7)⟩,
          ⟨none, (some 52), .call 1 17 [.t 51]⟩,
          ⟨none, (some 50), .mov (.t 52)⟩,
          ⟨none, (some 53), .ext (.t 50) 0⟩,
          ⟨none, (some 54), .ext (.t 50) 1⟩,
          ⟨none, (some 13), .mov (.t 53)⟩,
          ⟨none, (some 14), .mov (.t 54)⟩])
        (.seq
         (.seq
          (.reg [⟨none, (some 55), .mov (.t 10)⟩,
            ⟨none, (some 56), .bin .neq (.t 55) (.c (.int .i64 (0)))⟩,
            ⟨none, (some 57), .mov (.t 56)⟩,
            ⟨(some (57, false)), (some 58), .mov (.t 12)⟩,
            ⟨(some (57, false)), (some 59), .bin .neq (.t 58) (.c (.int .i64 (0)))⟩,
            ⟨none, (some 60), .pick (.t 57) (.c (.bool true)) (.t 59)⟩,
            ⟨none, (some 61), .mov (.t 60)⟩,
            ⟨(some (61, false)), (some 62), .mov (.t 14)⟩,
            ⟨(some (61, false)), (some 63), .bin .neq (.t 62) (.c (.int .i64 (0)))⟩,
            ⟨none, (some 64), .pick (.t 61) (.c (.bool true)) (.t 63)⟩,
            ⟨none, (some 65), .mov (.t 64)⟩,
            ⟨(some (65, false)), (some 66), .mov (.t 9)⟩,
            ⟨(some (65, false)), (some 67), .un .not (.t 66)⟩,
            ⟨none, (some 68), .pick (.t 65) (.c (.bool true)) (.t 67)⟩,
            ⟨none, (some 69), .mov (.t 68)⟩,
            ⟨(some (69, false)), (some 70), .mov (.t 11)⟩,
            ⟨(some (69, false)), (some 71), .mov (.t 5)⟩,
            ⟨(some (69, false)), (some 72), .mov (.t 6)⟩,
            ⟨(some (69, false)), (some 73), .bin .gtr (.t 71) (.t 72)⟩,
            ⟨(some (69, false)), (some 74), .eqb true (.t 70) (.t 73)⟩,
            ⟨none, (some 75), .pick (.t 69) (.c (.bool true)) (.t 74)⟩])
          (.cond (.t 75)
           (.seq
            (.reg [⟨none, (some 4), .mov (.c (.bool false))⟩])
            (.ret (m 93 16)))
           (.skip)))
         (.seq
          (.reg [⟨none, (some 76), .mov (.t 11)⟩,
            ⟨none, (some 77), .un .not (.t 76)⟩,
            ⟨none, (some 78), .mov (.t 77)⟩,
            ⟨(some (78, false)), (some 79), .mov (.t 13)⟩,
            ⟨(some (78, false)), (some 80), .len (.t 79)⟩,
            ⟨(some (78, false)), (some 81), .bin .eql (.t 80) (.c (.int .i64 (1)))⟩,
            ⟨(some (78, false)), (some 82), .mov (.t 81)⟩,
            ⟨(some (82, true)), (some 83), .mov (.t 13)⟩,
            ⟨(some (82, true)), (some 84), .indexA 2 (.t 83) (.c (.int .i64 (0)))⟩,
            ⟨(some (82, true)), (some 85), .load (some 2) (.t 84)⟩,
            ⟨(some (82, true)), (some 86), .load (some 2) (.t 8)⟩,
            ⟨(some (82, true)), (some 87), .call 1 19 [.t 85, .t 86]⟩,
            ⟨(some (78, false)), (some 88), .pick (.t 82) (.t 87) (.c (.bool false))⟩,
            ⟨none, (some 89), .pick (.t 78) (.c (.bool true)) (.t 88)⟩,
            ⟨none, (some 90), .mov (.t 89)⟩,
            ⟨(some (90, true)), (some 91), .call 1 16 []⟩,
            ⟨none, (some 92), .pick (.t 90) (.t 91) (.c (.bool false))⟩,
            ⟨none, (some 4), .mov (.t 92)⟩])
          (.ret (m 93 16))))))))))
def F9 : XF := ⟨2, 93, [.tmp 4], F9B⟩
def M9 : List (List Bool) := [(m 93 16), (m 93 16)]
def F10B : XC :=
 .seq
  (.reg [⟨none, (some 4), .box (.t 1)⟩,
    ⟨none, (some 5), .box (.t 2)⟩,
    ⟨none, (some 6), .mov (.c (.bool false))⟩])
  (.seq
   (.seq
    (.reg [⟨none, (some 11), .mov (.t 0)⟩,
      ⟨none, (some 12), .load (some 2) (.t 4)⟩,
      ⟨none, (some 13), .load (some 2) (.t 5)⟩,
      ⟨none, (some 14), .bslice 2 2 [.nils, .int .i64 (0)] [(0, 2, .t 12), (2, 2, .t 13)]⟩,
      ⟨none, (some 15), .call 1 15 [.t 11, .t 14]⟩,
      ⟨none, (some 16), .un .not (.t 15)⟩])
    (.cond (.t 16)
     (.seq
      (.reg [⟨none, (some 17), .call 1 16 []⟩,
        ⟨none, (some 6), .mov (.t 17)⟩])
      (.ret (m 43 64)))
     (.skip)))
   (.seq
    (.reg [⟨none, (some 19), .mov (.t 0)⟩,
      ⟨none, (some 20), .load (some 2) (.t 4)⟩,
      ⟨none, (some 21), .load (some 2) (.t 5)⟩,
      ⟨none, (some 22), .call 1 38 [.t 19, .t 20, .t 21]⟩,
      ⟨none, (some 18), .mov (.t 22)⟩,
      ⟨none, (some 23), .ext (.t 18) 0⟩,
      ⟨none, (some 24), .ext (.t 18) 1⟩,
      ⟨none, (some 7), .alloc [.int .i64 (0), .int .i64 (0)]⟩,
      ⟨none, none, .store 2 (.t 7) (.t 23)⟩,
      ⟨none, (some 8), .mov (.t 24)⟩])
    (.seq
     (.reg [⟨none, (some 26), .mov (.t 0)⟩,
       ⟨none, (some 27), .load (some 2) (.t 4)⟩,
       ⟨none, (some 28), .load (some 2) (.t 5)⟩,
       ⟨none, (some 29), .call 1 39 [.t 26, .t 27, .t 28]⟩,
       ⟨none, (some 25), .mov (.t 29)⟩,
       ⟨none, (some 30), .ext (.t 25) 0⟩,
       ⟨none, (some 31), .ext (.t 25) 1⟩,
       ⟨none, (some 9), .alloc [.int .i64 (0), .int .i64 (0)]⟩,
       ⟨none, none, .store 2 (.t 9) (.t 30)⟩,
       ⟨none, (some 10), .mov (.t 31)⟩])
     (.seq
      (.reg [⟨none, (some 32), .load (some 2) (.t 7)⟩,
        ⟨none, (some 33), .load (some 2) (.t 9)⟩,
        ⟨none, (some 34), .eqs false [true, true] (.t 32) (.t 33)⟩,
        ⟨none, (some 35), .mov (.t 34)⟩,
        ⟨(some (35, true)), (some 36), .mov (.t 8)⟩,
        ⟨(some (35, true)), (some 37), .mov (.t 10)⟩,
        ⟨(some (35, true)), (some 38), .bin .eql (.t 36) (.t 37)⟩,
        ⟨none, (some 39), .pick (.t 35) (.t 38) (.c (.bool false))⟩,
        ⟨none, (some 40), .mov (.t 39)⟩,
        ⟨(some (40, true)), (some 41), .call 1 16 []⟩,
        ⟨none, (some 42), .pick (.t 40) (.t 41) (.c (.bool false))⟩,
        ⟨none, (some 6), .mov (.t 42)⟩])
      (.ret (m 43 64))))))
def F10 : XF := ⟨3, 43, [.tmp 6], F10B⟩
def M10 : List (List Bool) := [(m 43 64), (m 43 64)]
def F11L0b : XC :=
 .seq
  (.seq
   (.reg [⟨none, (some 29), .mov (.t 5)⟩,
     ⟨none, (some 30), .mov (.t 3)⟩,
     ⟨none, (some 31), .bin .lss (.t 29) (.t 30)⟩])
   (.cond (.t 31)
    (.skip)
    (.exit 2 (m 155 25))))
  (.seq
   (.block 3 (m 155 57)
    (.seq
     (.seq
      (.reg [⟨none, (some 34), .mov (.t 4)⟩,
        ⟨none, (some 35), .mov (.t 5)⟩,
        ⟨none, (some 36), .bin .eql (.t 34) (.t 35)⟩])
      (.cond (.t 36)
       (.exit 3 (m 155 57))
       (.skip)))
     (.seq
      (.reg [⟨none, (some 37), .mov (.t 3)⟩,
        ⟨none, (some 38), .mks 1 8 [.int .i64 (0)] (.t 37) (.t 37)⟩,
        ⟨none, (some 39), .build [.nils, .int .i64 (0)] [(0, 1, .t 38), (1, 1, .c (.int .i64 (1)))]⟩,
        ⟨none, (some 40), .mov (.t 3)⟩,
        ⟨none, (some 41), .mks 1 8 [.int .i64 (0)] (.t 40) (.t 40)⟩,
        ⟨none, (some 42), .build [.nils, .int .i64 (0)] [(0, 1, .t 41), (1, 1, .c (.int .i64 (1)))]⟩,
        ⟨none, (some 6), .alloc [.nils, .int .i64 (0)]⟩,
        ⟨none, (some 7), .alloc [.nils, .int .i64 (0)]⟩,
        ⟨none, none, .store 2 (.t 6) (.t 39)⟩,
        ⟨none, none, .store 2 (.t 7) (.t 42)⟩])
      (.seq
       (.reg [⟨none, (some 43), .fieldA 0 (.t 6)⟩,
         ⟨none, (some 44), .load none (.t 43)⟩,
         ⟨none, (some 45), .mov (.t 4)⟩,
         ⟨none, (some 46), .indexA 1 (.t 44) (.t 45)⟩,
         ⟨none, none, .store 1 (.t 46) (.c (.int .i64 (1)))⟩])
       (.seq
        (.reg [⟨none, (some 47), .fieldA 0 (.t 7)⟩,
          ⟨none, (some 48), .load none (.t 47)⟩,
          ⟨none, (some 49), .mov (.t 5)⟩,
          ⟨none, (some 50), .indexA 1 (.t 48) (.t 49)⟩,
          ⟨none, none, .store 1 (.t 50) (.c (.int .i64 (1)))⟩])
        (.seq
         (.reg [⟨none, (some 52), .mov (.t 0)⟩,
           ⟨none, (some 53), .load (some 2) (.t 6)⟩,
           ⟨none, (some 54), .call 1 32 [.t 52, .t 53]⟩,
           ⟨none, (some 51), .mov (.t 54)⟩,
           ⟨none, (some 55), .ext (.t 51) 0⟩,
           ⟨none, (some 56), .ext (.t 51) 1⟩,
           ⟨none, (some 8), .mov (.t 55)⟩,
           ⟨none, (some 9), .mov (.t 56)⟩])
         (.seq
          (.reg [⟨none, (some 58), .mov (.t 0)⟩,
            ⟨none, (some 59), .load (some 2) (.t 6)⟩,
            ⟨none, (some 60), .load (some 2) (.t 7)⟩,
            ⟨none, (some 61), .call 1 38 [.t 58, .t 59, .t 60]⟩,
            ⟨none, (some 57), .mov (.t 61)⟩,
            ⟨none, (some 62), .ext (.t 57) 0⟩,
            ⟨none, (some 63), .ext (.t 57) 1⟩,
            ⟨none, (some 10), .alloc [.int .i64 (0), .int .i64 (0)]⟩,
            ⟨none, none, .store 2 (.t 10) (.t 62)⟩,
            ⟨none, (some 11), .mov (.t 63)⟩])
          (.seq
           (.seq
            (.reg [⟨none, (some 64), .mov (.t 9)⟩,
              ⟨none, (some 65), .bin .neq (.t 64) (.c (.int .i64 (0)))⟩])
            (.cond (.t 65)
             (.seq
              (.reg [⟨none, (some 2), .mov (.c (.bool false))⟩])
              (.ret (m 155 4)))
             (.skip)))
           (.seq
            (.reg [⟨none, (some 66), .mov (.t 0)⟩,
              ⟨none, (some 67), .mov (.t 4)⟩,
              ⟨none, (some 68), .indexA 1 (.t 66) (.t 67)⟩,
              ⟨none, (some 69), .load none (.t 68)⟩,
              ⟨none, (some 70), .mov (.t 4)⟩,
              ⟨none, (some 71), .indexA 1 (.t 69) (.t 70)⟩,
              ⟨none, (some 72), .load none (.t 71)⟩,
              ⟨none, (some 73), .mov (.t 0)⟩,
              ⟨none, (some 74), .mov (.t 5)⟩,
              ⟨none, (some 75), .indexA 1 (.t 73) (.t 74)⟩,
              ⟨none, (some 76), .load none (.t 75)⟩,
              ⟨none, (some 77), .mov (.t 4)⟩,
              ⟨none, (some 78), .indexA 1 (.t 76) (.t 77)⟩,
              ⟨none, (some 79), .load none (.t 78)⟩,
              ⟨none, (some 80), .bin .gtr (.t 72) (.t 79)⟩,
              ⟨none, (some 81), .mov (.t 80)⟩,
              ⟨(some (81, false)), (some 82), .mov (.t 0)⟩,
              ⟨(some (81, false)), (some 83), .mov (.t 4)⟩,
              ⟨(some (81, false)), (some 84), .indexA 1 (.t 82) (.t 83)⟩,
              ⟨(some (81, false)), (some 85), .load none (.t 84)⟩,
              ⟨(some (81, false)), (some 86), .mov (.t 4)⟩,
              ⟨(some (81, false)), (some 87), .indexA 1 (.t 85) (.t 86)⟩,
              ⟨(some (81, false)), (some 88), .load none (.t 87)⟩,
              ⟨(some (81, false)), (some 89), .mov (.t 0)⟩,
              ⟨(some (81, false)), (some 90), .mov (.t 5)⟩,
              ⟨(some (81, false)), (some 91), .indexA 1 (.t 89) (.t 90)⟩,
              ⟨(some (81, false)), (some 92), .load none (.t 91)⟩,
              ⟨(some (81, false)), (some 93), .mov (.t 4)⟩,
              ⟨(some (81, false)), (some 94), .indexA 1 (.t 92) (.t 93)⟩,
              ⟨(some (81, false)), (some 95), .load none (.t 94)⟩,
              ⟨(some (81, false)), (some 96), .bin .eql (.t 88) (.t 95)⟩,
              ⟨(some (81, false)), (some 97), .mov (.t 96)⟩,
              ⟨(some (97, true)), (some 98), .mov (.t 0)⟩,
              ⟨(some (97, true)), (some 99), .mov (.t 4)⟩,
              ⟨(some (97, true)), (some 100), .indexA 1 (.t 98) (.t 99)⟩,
              ⟨(some (97, true)), (some 101), .load none (.t 100)⟩,
              ⟨(some (97, true)), (some 102), .mov (.t 5)⟩,
              ⟨(some (97, true)), (some 103), .indexA 1 (.t 101) (.t 102)⟩,
              ⟨(some (97, true)), (some 104), .load none (.t 103)⟩,
              ⟨(some (97, true)), (some 105), .mov (.t 0)⟩,
              ⟨(some (97, true)), (some 106), .mov (.t 5)⟩,
              ⟨(some (97, true)), (some 107), .indexA 1 (.t 105) (.t 106)⟩,
              ⟨(some (97, true)), (some 108), .load none (.t 107)⟩,
              ⟨(some (97, true)), (some 109), .mov (.t 5)⟩,
              ⟨(some (97, true)), (some 110), .indexA 1 (.t 108) (.t 109)⟩,
              ⟨(some (97, true)), (some 111), .load none (.t 110)⟩,
              ⟨(some (97, true)), (some 112), .bin .gtr (.t 104) (.t 111)⟩,
              ⟨(some (81, false)), (some 113), .pick (.t 97) (.t 112) (.c (.bool false))⟩,
              ⟨none, (some 114), .pick (.t 81) (.c (.bool true)) (.t 113)⟩,
              ⟨none, (some 12), .mov (.t 114)⟩])
            (.seq
             (.seq
              (.reg [⟨none, (some 115), .mov (.t 12)⟩,
                ⟨none, (some 116), .mov (.t 11)⟩,
                ⟨none, (some 117), .bin .eql (.t 116) (.c (.int .i64 (0)))⟩,
                ⟨none, (some 118), .eqb true (.t 115) (.t 117)⟩,
                ⟨none, (some 119), .mov (.t 118)⟩,
                ⟨(some (119, false)), (some 120), .mov (.t 8)⟩,
                ⟨(some (119, false)), (some 121), .mov (.t 120)⟩,
                ⟨(some (121, true)), (some 122), .mov (.t 12)⟩,
                ⟨(some (121, true)), (some 123), .un .not (.t 122)⟩,
                ⟨(some (119, false)), (some 124), .pick (.t 121) (.t 123) (.c (.bool false))⟩,
                ⟨none, (some 125), .pick (.t 119) (.c (.bool true)) (.t 124)⟩,
                ⟨none, (some 126), .mov (.t 125)⟩,
                ⟨(some (126, false)), (some 127), .mov (.t 11)⟩,
                ⟨(some (126, false)), (some 128), .bin .neq (.t 127) (.c (.int .i64 (0)))⟩,
                ⟨(some (126, false)), (some 129), .mov (.t 128)⟩,
                ⟨(some (129, true)), (some 130), .mov (.t 11)⟩,
                ⟨(some (129, true)), (some 131), .bin .neq (.t 130) (.c (.int .i64 (9)))⟩,
                ⟨(some (126, false)), (some 132), .pick (.t 129) (.t 131) (.c (.bool false))⟩,
                ⟨none, (some 133), .pick (.t 126) (.c (.bool true)) (.t 132)⟩,
                ⟨none, (some 134), .mov (.t 133)⟩,
                ⟨(some (134, false)), (some 135), .mov (.t 3)⟩,
                ⟨(some (134, false)), (some 136), .bin .eql (.t 135) (.c (.int .i64 (2)))⟩,
                ⟨(some (134, false)), (some 137), .mov (.t 136)⟩,
                ⟨(some (137, true)), (some 138), .mov (.t 8)⟩,
                ⟨(some (137, true)), (some 139), .mov (.t 12)⟩,
                ⟨(some (137, true)), (some 140), .eqb true (.t 138) (.t 139)⟩,
                ⟨(some (134, false)), (some 141), .pick (.t 137) (.t 140) (.c (.bool false))⟩,
                ⟨none, (some 142), .pick (.t 134) (.c (.bool true)) (.t 141)⟩])
              (.cond (.t 142)
               (.seq
                (.reg [⟨none, (some 2), .mov (.c (.bool false))⟩])
                (.ret (m 155 4)))
               (.skip)))
             (.seq
              (.reg [⟨none, (some 143), .mov (.t 12)⟩,
                ⟨none, (some 144), .mov (.t 143)⟩,
                ⟨(some (144, true)), (some 145), .fieldA 1 (.t 10)⟩,
                ⟨(some (144, true)), (some 146), .load none (.t 145)⟩,
                ⟨(some (144, true)), (some 147), .bin .lss (.t 146) (.c (.int .i64 (1)))⟩,
                ⟨(some (144, true)), (some 148), .mov (.t 147)⟩,
                ⟨(some (148, false)), (some 149), .fieldA 0 (.t 10)⟩,
                ⟨(some (148, false)), (some 150), .load none (.t 149)⟩,
                ⟨(some (148, false)), (some 151), .bin .lss (.t 150) (.c (.int .i64 (1)))⟩,
                ⟨(some (144, true)), (some 152), .pick (.t 148) (.c (.bool true)) (.t 151)⟩,
                ⟨none, (some 153), .pick (.t 144) (.t 152) (.c (.bool false))⟩])
              (.cond (.t 153)
               (.seq
                (.reg [⟨none, (some 2), .mov (.c (.bool false))⟩])
                (.ret (m 155 4)))
               (.skip)))))))))))))
   (.reg [⟨none, (some 32), .mov (.t 5)⟩,
     ⟨none, (some 33), .bin .add (.t 32) (.c (.int .i64 (1)))⟩,
     ⟨none, (some 5), .mov (.t 33)⟩]))
def F11L0 : XC := .loop (m 155 57) F11L0b
def F11T0 : XC :=
 .reg [⟨none, (some 27), .mov (.t 4)⟩,
   ⟨none, (some 28), .bin .add (.t 27) (.c (.int .i64 (1)))⟩,
   ⟨none, (some 4), .mov (.t 28)⟩]
def F11L1b : XC :=
 .seq
  (.seq
   (.reg [⟨none, (some 24), .mov (.t 4)⟩,
     ⟨none, (some 25), .mov (.t 3)⟩,
     ⟨none, (some 26), .bin .lss (.t 24) (.t 25)⟩])
   (.cond (.t 26)
    (.skip)
    (.exit 0 (m 155 0))))
  (.seq
   (.block 1 (m 155 25)
    (.seq
     (.reg [⟨none, (some 5), .mov (.c (.int .i64 (0)))⟩])
     (.block 2 (m 155 25)
      (F11L0))))
   F11T0)
def F11L1 : XC := .loop (m 155 25) F11L1b
def F11T1 : XC :=
 .seq
  (.reg [⟨none, (some 154), .call 1 16 []⟩,
    ⟨none, (some 2), .mov (.t 154)⟩])
  (.ret (m 155 4))
def F11B : XC :=
 .seq
  (.reg [⟨none, (some 2), .mov (.c (.bool false))⟩])
  (.seq
   (.seq
    (.reg [⟨none, (some 13), .mov (.t 0)⟩,
      ⟨none, (some 14), .call 1 15 [.t 13, .c (.nils)]⟩,
      ⟨none, (some 15), .un .not (.t 14)⟩,
      ⟨none, (some 16), .mov (.t 15)⟩,
      ⟨(some (16, false)), (some 17), .mov (.t 0)⟩,
      ⟨(some (16, false)), (some 18), .call 1 34 [.t 17]⟩,
      ⟨(some (16, false)), (some 19), .un .not (.t 18)⟩,
      ⟨none, (some 20), .pick (.t 16) (.c (.bool true)) (.t 19)⟩])
    (.cond (.t 20)
     (.seq
      (.reg [⟨none, (some 21), .call 1 16 []⟩,
        ⟨none, (some 2), .mov (.t 21)⟩])
      (.ret (m 155 4)))
     (.skip)))
   (.seq
    (.reg [⟨none, (some 22), .mov (.t 0)⟩,
      ⟨none, (some 23), .len (.t 22)⟩,
      ⟨none, (some 3), .mov (.t 23)⟩])
    (.seq
     (.seq
      (.reg [⟨none, (some 4), .mov (.c (.int .i64 (0)))⟩])
      (.block 0 (m 155 0)
       (F11L1)))
     F11T1)))
def F11 : XF := ⟨1, 155, [.tmp 2], F11B⟩
def M11 : List (List Bool) := [(m 155 4), (m 155 0), (m 155 25), (m 155 0), (m 155 25), (m 155 25), (m 155 57), (m 155 25), (m 155 57), (m 155 57), (m 155 4), (m 155 4), (m 155 4), (m 155 4)]
def F12B : XC :=
 .seq
  (.reg [⟨none, (some 8), .mov (.c (.bool false))⟩])
  (.seq
   (.seq
    (.reg [⟨none, (some 14), .mov (.t 0)⟩,
      ⟨none, (some 15), .call 1 15 [.t 14, .c (.nils)]⟩,
      ⟨none, (some 16), .un .not (.t 15)⟩,
      ⟨none, (some 17), .mov (.t 16)⟩,
      ⟨(some (17, false)), (some 18), .mov (.t 3)⟩,
      ⟨(some (17, false)), (some 19), .len (.t 18)⟩,
      ⟨(some (17, false)), (some 20), .bin .gtr (.t 19) (.c (.int .i64 (20)))⟩,
      ⟨none, (some 21), .pick (.t 17) (.c (.bool true)) (.t 20)⟩])
    (.cond (.t 21)
     (.seq
      (.reg [⟨none, (some 22), .call 1 16 []⟩,
        ⟨none, (some 8), .mov (.t 22)⟩])
      (.ret (m 76 256)))
     (.skip)))
   (.seq
    (.reg [⟨none, (some 23), .mov (.t 0)⟩,
      ⟨none, (some 24), .call 1 20 [.t 23]⟩,
      ⟨none, (some 9), .mov (.t 24)⟩])
    (.seq
     (.reg [⟨none, (some 26), .mov (.t 9)⟩,
       ⟨none, (some 27), .mov (.t 1)⟩,
       ⟨none, (some 28), .mov (.t 2)⟩,
       ⟨none, (some 29), .call 1 40 [.t 26, .t 27, .t 28]⟩,
       ⟨none, (some 25), .mov (.t 29)⟩,
       ⟨none, (some 30), .ext (.t 25) 0⟩,
       ⟨none, (some 31), .ext (.t 25) 1⟩,
       ⟨none, (some 10), .mov (.t 30)⟩,
       ⟨none, (some 11), .mov (.t 31)⟩])
     (.seq
      (.reg [⟨none, (some 33), .mov (.t 0)⟩,
        ⟨none, (some 34), .mov (.t 1)⟩,
        ⟨none, (some 35), .mov (.t 2)⟩,
        ⟨none, (some 36), .call 1 41 [.t 33, .t 34, .t 35]⟩,
        ⟨none, (some 32), .mov (.t 36)⟩,
        ⟨none, (some 37), .ext (.t 32) 0⟩,
        ⟨none, (some 38), .ext (.t 32) 1⟩,
        ⟨none, (some 12), .mov (.t 37)⟩,
        ⟨none, (some 13), .mov (.t 38)⟩])
      (.seq
       (.seq
        (.reg [⟨none, (some 39), .mov (.t 10)⟩,
          ⟨none, (some 40), .mov (.t 12)⟩,
          ⟨none, (some 41), .call 1 29 [.t 39, .t 40]⟩,
          ⟨none, (some 42), .un .not (.t 41)⟩,
          ⟨none, (some 43), .mov (.t 42)⟩,
          ⟨(some (43, false)), (some 44), .mov (.t 11)⟩,
          ⟨(some (43, false)), (some 45), .mov (.t 13)⟩,
          ⟨(some (43, false)), (some 46), .bin .neq (.t 44) (.t 45)⟩,
          ⟨none, (some 47), .pick (.t 43) (.c (.bool true)) (.t 46)⟩])
        (.cond (.t 47)
         (.seq
          (.reg [⟨none, (some 8), .mov (.c (.bool false))⟩])
          (.ret (m 76 256)))
         (.skip)))
       (.seq
        (.reg [⟨none, (some 49), .mov (.t 9)⟩,
          ⟨none, (some 50), .mov (.t 3)⟩,
          ⟨none, (some 51), .call 1 42 [.t 49, .t 50]⟩,
          ⟨none, (some 48), .mov (.t 51)⟩,
          ⟨none, (some 52), .ext (.t 48) 0⟩,
          ⟨none, (some 53), .ext (.t 48) 1⟩,
          ⟨none, (some 10), .mov (.t 52)⟩,
          ⟨none, (some 11), .mov (.t 53)⟩])
        (.seq
         (.reg [⟨none, (some 55), .mov (.t 0)⟩,
           ⟨none, (some 56), .mov (.t 3)⟩,
           ⟨none, (some 57), .call 1 43 [.t 55, .t 56]⟩,
           ⟨none, (some 54), .mov (.t 57)⟩,
           ⟨none, (some 58), .ext (.t 54) 0⟩,
           ⟨none, (some 59), .ext (.t 54) 1⟩,
           ⟨none, (some 12), .mov (.t 58)⟩,
           ⟨none, (some 13), .mov (.t 59)⟩])
         (.seq
          (.reg [⟨none, (some 60), .mov (.t 10)⟩,
            ⟨none, (some 61), .mov (.t 12)⟩,
            ⟨none, (some 62), .call 1 29 [.t 60, .t 61]⟩,
            ⟨none, (some 63), .mov (.t 62)⟩,
            ⟨(some (63, true)), (some 64), .mov (.t 11)⟩,
            ⟨(some (63, true)), (some 65), .mov (.t 13)⟩,
            ⟨(some (63, true)), (some 66), .bin .eql (.t 64) (.t 65)⟩,
            ⟨none, (some 67), .pick (.t 63) (.t 66) (.c (.bool false))⟩,
            ⟨none, (some 68), .mov (.t 67)⟩,
            ⟨(some (68, true)), (some 69), .mov (.t 9)⟩,
            ⟨(some (68, true)), (some 70), .mov (.t 0)⟩,
            ⟨(some (68, true)), (some 71), .call 1 29 [.t 69, .t 70]⟩,
            ⟨none, (some 72), .pick (.t 68) (.t 71) (.c (.bool false))⟩,
            ⟨none, (some 73), .mov (.t 72)⟩,
            ⟨(some (73, true)), (some 74), .call 1 16 []⟩,
            ⟨none, (some 75), .pick (.t 73) (.t 74) (.c (.bool false))⟩,
            ⟨none, (some 8), .mov (.t 75)⟩])
          (.ret (m 76 256))))))))))
def F12 : XF := ⟨4, 76, [.tmp 8], F12B⟩
def M12 : List (List Bool) := [(m 76 256), (m 76 256), (m 76 256)]
def F13B : XC :=
 .seq
  (.reg [⟨none, (some 4), .box (.t 1)⟩,
    ⟨none, (some 5), .box (.t 2)⟩,
    ⟨none, (some 6), .mov (.c (.bool false))⟩])
  (.seq
   (.seq
    (.reg [⟨none, (some 20), .mov (.t 0)⟩,
      ⟨none, (some 21), .load (some 2) (.t 4)⟩,
      ⟨none, (some 22), .load (some 2) (.t 5)⟩,
      ⟨none, (some 23), .bslice 2 2 [.nils, .int .i64 (0)] [(0, 2, .t 21), (2, 2, .t 22)]⟩,
      ⟨none, (some 24), .call 1 15 [.t 20, .t 23]⟩,
      ⟨none, (some 25), .un .not (.t 24)⟩,
      ⟨none, (some 26), .mov (.t 25)⟩,
      ⟨(some (26, false)), (some 27), .mov (.t 0)⟩,
      ⟨(some (26, false)), (some 28), .call 1 34 [.t 27]⟩,
      ⟨(some (26, false)), (some 29), .un .not (.t 28)⟩,
      ⟨none, (some 30), .pick (.t 26) (.c (.bool true)) (.t 29)⟩,
      ⟨none, (some 31), .mov (.t 30)⟩,
      ⟨(some (31, false)), (some 32), .mov (.t 0)⟩,
      ⟨(some (31, false)), (some 33), .len (.t 32)⟩,
      ⟨(some (31, false)), (some 34), .load (some 2) (.t 4)⟩,
      ⟨(some (31, false)), (some 35), .call 1 22 [.t 33, .t 34]⟩,
      ⟨(some (31, false)), (some 36), .un .not (.t 35)⟩,
      ⟨none, (some 37), .pick (.t 31) (.c (.bool true)) (.t 36)⟩,
      ⟨none, (some 38), .mov (.t 37)⟩,
      ⟨(some (38, false)), (some 39), .mov (.t 0)⟩,
      ⟨(some (38, false)), (some 40), .len (.t 39)⟩,
      ⟨(some (38, false)), (some 41), .load (some 2) (.t 5)⟩,
      ⟨(some (38, false)), (some 42), .call 1 22 [.t 40, .t 41]⟩,
      ⟨(some (38, false)), (some 43), .un .not (.t 42)⟩,
      ⟨none, (some 44), .pick (.t 38) (.c (.bool true)) (.t 43)⟩])
    (.cond (.t 44)
     (.seq
      (.reg [⟨none, (some 45), .call 1 16 []⟩,
        ⟨none, (some 6), .mov (.t 45)⟩])
      (.ret (m 216 64)))
     (.skip)))
   (.seq
    (.reg [⟨none, (some 47), .mov (.t 0)⟩,
      ⟨none, (some 48), .load (some 2) (.t 4)⟩,
      ⟨none, (some 49), .call 1 32 [.t 47, .t 48]⟩,
      ⟨none, (some 46), .mov (.t 49)⟩,
      ⟨none, (some 50), .ext (.t 46) 0⟩,
      ⟨none, (some 51), .ext (.t 46) 1⟩,
      ⟨none, (some 7), .mov (.t 50)⟩,
      ⟨none, (some 8), .mov (.t 51)⟩])
    (.seq
     (.reg [⟨none, (some 53), .mov (.t 0)⟩,
       ⟨none, (some 54), .load (some 2) (.t 4)⟩,
       ⟨none, (some 55), .load (some 2) (.t 5)⟩,
       ⟨none, (some 56), .call 1 38 [.t 53, .t 54, .t 55]⟩,
       ⟨none, (some 52), .mov (.t 56)⟩,
       ⟨none, (some 57), .ext (.t 52) 0⟩,
       ⟨none, (some 58), .ext (.t 52) 1⟩,
       ⟨none, (some 9), .alloc [.int .i64 (0), .int .i64 (0)]⟩,
       ⟨none, none, .store 2 (.t 9) (.t 57)⟩,
       ⟨none, (some 10), .mov (.t 58)⟩])
     (.seq
      (.reg [⟨none, (some 60), .mov (.t 0)⟩,
        ⟨none, (some 61), .load (some 2) (.t 4)⟩,
        ⟨none, (some 62), .call 1 25 [.t 60, .t 61]⟩,
        ⟨none, (some 59), .mov (.t 62)⟩,
        ⟨none, (some 63), .ext (.t 59) 0⟩,
        ⟨none, (some 64), .ext (.t 59) 1⟩,
        ⟨none, (some 11), .mov (.t 63)⟩,
        ⟨none, (some 12), .mov (.t 64)⟩])
      (.seq
       (.seq
        (.reg [⟨none, (some 65), .mov (.t 8)⟩,
          ⟨none, (some 66), .bin .neq (.t 65) (.c (.int .i64 (0)))⟩,
          ⟨none, (some 67), .mov (.t 66)⟩,
          ⟨(some (67, false)), (some 68), .mov (.t 12)⟩,
          ⟨(some (67, false)), (some 69), .bin .neq (.t 68) (.c (.int .i64 (0)))⟩,
          ⟨none, (some 70), .pick (.t 67) (.c (.bool true)) (.t 69)⟩,
          ⟨none, (some 71), .mov (.t 70)⟩,
          ⟨(some (71, false)), (some 72), .mov (.t 7)⟩,
          ⟨(some (71, false)), (some 73), .mov (.t 72)⟩,
          ⟨(some (73, true)), (some 74), .mov (.t 11)⟩,
          ⟨(some (73, true)), (some 75), .un .not (.t 74)⟩,
          ⟨(some (71, false)), (some 76), .pick (.t 73) (.t 75) (.c (.bool false))⟩,
          ⟨none, (some 77), .pick (.t 71) (.c (.bool true)) (.t 76)⟩,
          ⟨none, (some 78), .mov (.t 77)⟩,
          ⟨(some (78, false)), (some 79), .mov (.t 11)⟩,
          ⟨(some (78, false)), (some 80), .un .not (.t 79)⟩,
          ⟨(some (78, false)), (some 81), .mov (.t 80)⟩,
          ⟨(some (81, true)), (some 82), .mov (.t 0)⟩,
          ⟨(some (81, true)), (some 83), .load (some 2) (.t 4)⟩,
          ⟨(some (81, true)), (some 84), .call 1 44 [.t 82, .t 83]⟩,
          ⟨(some (81, true)), (some 85), .un .not (.t 84)⟩,
          ⟨(some (78, false)), (some 86), .pick (.t 81) (.t 85) (.c (.bool false))⟩,
          ⟨none, (some 87), .pick (.t 78) (.c (.bool true)) (.t 86)⟩])
        (.cond (.t 87)
         (.seq
          (.reg [⟨none, (some 6), .mov (.c (.bool false))⟩])
          (.ret (m 216 64)))
         (.skip)))
       (.seq
        (.seq
         (.reg [⟨none, (some 88), .load (some 2) (.t 4)⟩,
           ⟨none, (some 89), .load (some 2) (.t 5)⟩,
           ⟨none, (some 90), .call 1 19 [.t 88, .t 89]⟩])
         (.cond (.t 90)
          (.seq
           (.reg [⟨none, (some 91), .mov (.t 10)⟩,
             ⟨none, (some 92), .bin .eql (.t 91) (.c (.int .i64 (10)))⟩,
             ⟨none, (some 93), .mov (.t 92)⟩,
             ⟨(some (93, true)), (some 94), .load (some 2) (.t 9)⟩,
             ⟨(some (93, true)), (some 95), .build [.int .i64 (0), .int .i64 (0)] []⟩,
             ⟨(some (93, true)), (some 96), .eqs false [true, true] (.t 94) (.t 95)⟩,
             ⟨none, (some 97), .pick (.t 93) (.t 96) (.c (.bool false))⟩,
             ⟨none, (some 98), .mov (.t 97)⟩,
             ⟨(some (98, true)), (some 99), .call 1 16 []⟩,
             ⟨none, (some 100), .pick (.t 98) (.t 99) (.c (.bool false))⟩,
             ⟨none, (some 6), .mov (.t 100)⟩])
           (.ret (m 216 64)))
          (.skip)))
        (.seq
         (.seq
          (.reg [⟨none, (some 101), .mov (.t 10)⟩,
            ⟨none, (some 102), .bin .neq (.t 101) (.c (.int .i64 (0)))⟩])
          (.cond (.t 102)
           (.seq
            (.reg [⟨none, (some 103), .mov (.t 10)⟩,
              ⟨none, (some 104), .bin .eql (.t 103) (.c (.int .i64 (9)))⟩,
              ⟨none, (some 105), .mov (.t 104)⟩,
              ⟨(some (105, true)), (some 106), .mov (.t 7)⟩,
              ⟨(some (105, true)), (some 107), .un .not (.t 106)⟩,
              ⟨none, (some 108), .pick (.t 105) (.t 107) (.c (.bool false))⟩,
              ⟨none, (some 109), .mov (.t 108)⟩,
              ⟨(some (109, true)), (some 110), .load (some 2) (.t 9)⟩,
              ⟨(some (109, true)), (some 111), .build [.int .i64 (0), .int .i64 (0)] []⟩,
              ⟨(some (109, true)), (some 112), .eqs false [true, true] (.t 110) (.t 111)⟩,
              ⟨none, (some 113), .pick (.t 109) (.t 112) (.c (.bool false))⟩,
              ⟨none, (some 114), .mov (.t 113)⟩,
              ⟨(some (114, true)), (some 115), .call 1 16 []⟩,
              ⟨none, (some 116), .pick (.t 114) (.t 115) (.c (.bool false))⟩,
              ⟨none, (some 6), .mov (.t 116)⟩])
            (.ret (m 216 64)))
           (.skip)))
         (.seq
          (.seq
           (.reg [⟨none, (some 117), .fieldA 1 (.t 9)⟩,
             ⟨none, (some 118), .load none (.t 117)⟩,
             ⟨none, (some 119), .bin .lss (.t 118) (.c (.int .i64 (1)))⟩,
             ⟨none, (some 120), .mov (.t 119)⟩,
             ⟨(some (120, false)), (some 121), .fieldA 0 (.t 9)⟩,
             ⟨(some (120, false)), (some 122), .load none (.t 121)⟩,
             ⟨(some (120, false)), (some 123), .bin .lss (.t 122) (.c (.int .i64 (1)))⟩,
             ⟨none, (some 124), .pick (.t 120) (.c (.bool true)) (.t 123)⟩,
             ⟨none, (some 125), .mov (.t 124)⟩,
             ⟨(some (125, false)), (some 126), .fieldA 0 (.t 9)⟩,
             ⟨(some (125, false)), (some 127), .load none (.t 126)⟩,
             ⟨(some (125, false)), (some 128), .fieldA 1 (.t 9)⟩,
             ⟨(some (125, false)), (some 129), .load none (.t 128)⟩,
             ⟨(some (125, false)), (some 130), .bin .gtr (.t 127) (.t 129)⟩,
             ⟨none, (some 131), .pick (.t 125) (.c (.bool true)) (.t 130)⟩,
             ⟨none, (some 132), .mov (.t 131)⟩,
             ⟨(some (132, false)), (some 133), .fieldA 1 (.t 9)⟩,
             ⟨(some (132, false)), (some 134), .load none (.t 133)⟩,
             ⟨(some (132, false)), (some 135), .bin .gtr (.t 134) (.c (.int .i64 (4611686018427387904)))⟩,
             ⟨none, (some 136), .pick (.t 132) (.c (.bool true)) (.t 135)⟩])
           (.cond (.t 136)
            (.seq
             (.reg [⟨none, (some 6), .mov (.c (.bool false))⟩])
             (.ret (m 216 64)))
            (.skip)))
          (.seq
           (.reg [⟨none, (some 138), .mov (.t 0)⟩,
             ⟨none, (some 139), .load (some 2) (.t 4)⟩,
             ⟨none, (some 140), .load (some 2) (.t 4)⟩,
             ⟨none, (some 141), .call 1 23 [.t 138, .t 139, .t 140]⟩,
             ⟨none, (some 137), .mov (.t 141)⟩,
             ⟨none, (some 142), .ext (.t 137) 0⟩,
             ⟨none, (some 143), .ext (.t 137) 1⟩,
             ⟨none, (some 13), .alloc [.int .i64 (0), .int .i64 (0)]⟩,
             ⟨none, none, .store 2 (.t 13) (.t 142)⟩,
             ⟨none, (some 12), .mov (.t 143)⟩])
           (.seq
            (.reg [⟨none, (some 145), .mov (.t 0)⟩,
              ⟨none, (some 146), .load (some 2) (.t 5)⟩,
              ⟨none, (some 147), .load (some 2) (.t 4)⟩,
              ⟨none, (some 148), .call 1 23 [.t 145, .t 146, .t 147]⟩,
              ⟨none, (some 144), .mov (.t 148)⟩,
              ⟨none, (some 149), .ext (.t 144) 0⟩,
              ⟨none, (some 150), .ext (.t 144) 1⟩,
              ⟨none, (some 14), .alloc [.int .i64 (0), .int .i64 (0)]⟩,
              ⟨none, none, .store 2 (.t 14) (.t 149)⟩,
              ⟨none, (some 15), .mov (.t 150)⟩])
            (.seq
             (.reg [⟨none, (some 152), .mov (.t 0)⟩,
               ⟨none, (some 153), .load (some 2) (.t 4)⟩,
               ⟨none, (some 154), .load (some 2) (.t 5)⟩,
               ⟨none, (some 155), .call 1 23 [.t 152, .t 153, .t 154]⟩,
               ⟨none, (some 151), .mov (.t 155)⟩,
               ⟨none, (some 156), .ext (.t 151) 0⟩,
               ⟨none, (some 157), .ext (.t 151) 1⟩,
               ⟨none, (some 16), .alloc [.int .i64 (0), .int .i64 (0)]⟩,
               ⟨none, none, .store 2 (.t 16) (.t 156)⟩,
               ⟨none, (some 17), .mov (.t 157)⟩])
             (.seq
              (.reg [⟨none, (some 159), .mov (.t 0)⟩,
                ⟨none, (some 160), .load (some 2) (.t 5)⟩,
                ⟨none, (some 161), .load (some 2) (.t 5)⟩,
                ⟨none, (some 162), .call 1 23 [.t 159, .t 160, .t 161]⟩,
                ⟨none, (some 158), .mov (.t 162)⟩,
                ⟨none, (some 163), .ext (.t 158) 0⟩,
                ⟨none, (some 164), .ext (.t 158) 1⟩,
                ⟨none, (some 18), .alloc [.int .i64 (0), .int .i64 (0)]⟩,
                ⟨none, none, .store 2 (.t 18) (.t 163)⟩,
                ⟨none, (some 19), .mov (.t 164)⟩])
              (.seq
               (.seq
                (.reg [⟨none, (some 165), .mov (.t 12)⟩,
                  ⟨none, (some 166), .bin .neq (.t 165) (.c (.int .i64 (0)))⟩,
                  ⟨none, (some 167), .mov (.t 166)⟩,
                  ⟨(some (167, false)), (some 168), .mov (.t 15)⟩,
                  ⟨(some (167, false)), (some 169), .bin .neq (.t 168) (.c (.int .i64 (0)))⟩,
                  ⟨none, (some 170), .pick (.t 167) (.c (.bool true)) (.t 169)⟩,
                  ⟨none, (some 171), .mov (.t 170)⟩,
                  ⟨(some (171, false)), (some 172), .mov (.t 17)⟩,
                  ⟨(some (171, false)), (some 173), .bin .neq (.t 172) (.c (.int .i64 (0)))⟩,
                  ⟨none, (some 174), .pick (.t 171) (.c (.bool true)) (.t 173)⟩,
                  ⟨none, (some 175), .mov (.t 174)⟩,
                  ⟨(some (175, false)), (some 176), .mov (.t 19)⟩,
                  ⟨(some (175, false)), (some 177), .bin .neq (.t 176) (.c (.int .i64 (0)))⟩,
                  ⟨none, (some 178), .pick (.t 175) (.c (.bool true)) (.t 177)⟩,
                  ⟨none, (some 179), .mov (.t 178)⟩,
                  ⟨(some (179, false)), (some 180), .load (some 2) (.t 13)⟩,
                  ⟨(some (179, false)), (some 181), .load (some 2) (.t 14)⟩,
                  ⟨(some (179, false)), (some 182), .load (some 2) (.t 16)⟩,
                  ⟨(some (179, false)), (some 183), .load (some 2) (.t 18)⟩,
                  ⟨(some (179, false)), (some 184), .bslice 2 4 [.int .i64 (0), .int .i64 (0)] [(0, 2, .t 180), (2, 2, .t 181), (4, 2, .t 182), (6, 2, .t 183)]⟩,
                  ⟨(some (179, false)), (some 185), .call 1 35 [.t 184]⟩,
                  ⟨(some (179, false)), (some 186), .un .not (.t 185)⟩,
                  ⟨none, (some 187), .pick (.t 179) (.c (.bool true)) (.t 186)⟩])
                (.cond (.t 187)
                 (.seq
                  (.reg [⟨none, (some 6), .mov (.c (.bool false))⟩])
                  (.ret (m 216 64)))
                 (.skip)))
               (.seq
                (.reg [⟨none, (some 188), .load (some 2) (.t 14)⟩,
                  ⟨none, (some 189), .load (some 2) (.t 13)⟩,
                  ⟨none, (some 190), .call 1 37 [.t 188, .t 189]⟩,
                  ⟨none, (some 191), .un .not (.t 190)⟩,
                  ⟨none, (some 192), .mov (.t 191)⟩,
                  ⟨(some (192, true)), (some 193), .load (some 2) (.t 13)⟩,
                  ⟨(some (192, true)), (some 194), .load (some 2) (.t 14)⟩,
                  ⟨(some (192, true)), (some 195), .call 1 37 [.t 193, .t 194]⟩,
                  ⟨(some (192, true)), (some 196), .mov (.t 195)⟩,
                  ⟨(some (196, false)), (some 197), .load (some 2) (.t 16)⟩,
                  ⟨(some (196, false)), (some 198), .load (some 2) (.t 18)⟩,
                  ⟨(some (196, false)), (some 199), .call 1 37 [.t 197, .t 198]⟩,
                  ⟨(some (192, true)), (some 200), .pick (.t 196) (.c (.bool true)) (.t 199)⟩,
                  ⟨none, (some 201), .pick (.t 192) (.t 200) (.c (.bool false))⟩,
                  ⟨none, (some 202), .mov (.t 201)⟩,
                  ⟨(some (202, true)), (some 203), .load (some 2) (.t 18)⟩,
                  ⟨(some (202, true)), (some 204), .load (some 2) (.t 16)⟩,
                  ⟨(some (202, true)), (some 205), .call 1 37 [.t 203, .t 204]⟩,
                  ⟨(some (202, true)), (some 206), .fieldA 0 (.t 9)⟩,
                  ⟨(some (202, true)), (some 207), .load none (.t 206)⟩,
                  ⟨(some (202, true)), (some 208), .fieldA 1 (.t 9)⟩,
                  ⟨(some (202, true)), (some 209), .load none (.t 208)⟩,
                  ⟨(some (202, true)), (some 210), .bin .lss (.t 207) (.t 209)⟩,
                  ⟨(some (202, true)), (some 211), .eqb false (.t 205) (.t 210)⟩,
                  ⟨none, (some 212), .pick (.t 202) (.t 211) (.c (.bool false))⟩,
                  ⟨none, (some 213), .mov (.t 212)⟩,
                  ⟨(some (213, true)), (some 214), .call 1 16 []⟩,
                  ⟨none, (some 215), .pick (.t 213) (.t 214) (.c (.bool false))⟩,
                  ⟨none, (some 6), .mov (.t 215)⟩])
                (.ret (m 216 64))))))))))))))))
def F13 : XF := ⟨3, 216, [.tmp 6], F13B⟩
def M13 : List (List Bool) := [(m 216 64), (m 216 64), (m 216 64), (m 216 64), (m 216 64), (m 216 64), (m 216 64)]
def F14L0b : XC :=
 .seq
  (.seq
   (.reg [⟨none, (some 185), .mov (.t 31)⟩,
     ⟨none, (some 186), .mov (.t 14)⟩,
     ⟨none, (some 187), .len (.t 186)⟩,
     ⟨none, (some 188), .bin .lss (.t 185) (.t 187)⟩])
   (.cond (.t 188)
    (.skip)
    (.exit 0 (m 336 3501065))))
  (.seq
   (.block 1 (m 336 2159373321)
    (.seq
     (.reg [⟨none, (some 191), .mov (.t 14)⟩,
       ⟨none, (some 192), .mov (.t 31)⟩,
       ⟨none, (some 193), .indexA 2 (.t 191) (.t 192)⟩,
       ⟨none, (some 194), .load (some 2) (.t 193)⟩,
       ⟨none, (some 195), .mov (.t 23)⟩,
       ⟨none, (some 196), .mov (.t 31)⟩,
       ⟨none, (some 197), .indexA 2 (.t 195) (.t 196)⟩,
       ⟨none, (some 198), .load (some 2) (.t 197)⟩,
       ⟨none, (some 199), .call 1 19 [.t 194, .t 198]⟩,
       ⟨none, (some 200), .un .not (.t 199)⟩])
     (.cond (.t 200)
      (.seq
       (.reg [⟨none, (some 12), .mov (.c (.bool false))⟩])
       (.ret (m 336 4096)))
      (.skip))))
   (.reg [⟨none, (some 189), .mov (.t 31)⟩,
     ⟨none, (some 190), .bin .add (.t 189) (.c (.int .i64 (1)))⟩,
     ⟨none, (some 31), .mov (.t 190)⟩]))
def F14L0 : XC := .loop (m 336 2159373321) F14L0b
def F14L1b : XC :=
 .seq
  (.seq
   (.reg [⟨none, (some 280), .mov (.t 40)⟩,
     ⟨none, (some 281), .mov (.t 13)⟩,
     ⟨none, (some 282), .bin .lss (.t 280) (.t 281)⟩])
   (.cond (.t 282)
    (.skip)
    (.exit 2 (m 336 4294991880))))
  (.seq
   (.block 3 (m 336 1172526358536)
    (.seq
     (.reg [⟨none, (some 285), .mov (.t 36)⟩,
       ⟨none, (some 286), .mov (.t 40)⟩,
       ⟨none, (some 287), .bin .shr (.t 285) (.t 286)⟩,
       ⟨none, (some 288), .bin .rem (.t 287) (.c (.int .i64 (2)))⟩,
       ⟨none, (some 289), .mov (.t 18)⟩,
       ⟨none, (some 290), .mov (.t 3)⟩,
       ⟨none, (some 291), .mov (.t 40)⟩,
       ⟨none, (some 292), .indexA 1 (.t 290) (.t 291)⟩,
       ⟨none, (some 293), .load none (.t 292)⟩,
       ⟨none, (some 294), .bin .shr (.t 289) (.t 293)⟩,
       ⟨none, (some 295), .bin .rem (.t 294) (.c (.int .i64 (2)))⟩,
       ⟨none, (some 296), .bin .neq (.t 288) (.t 295)⟩])
     (.cond (.t 296)
      (.seq
       (.reg [⟨none, (some 12), .mov (.c (.bool false))⟩])
       (.ret (m 336 4096)))
      (.skip))))
   (.reg [⟨none, (some 283), .mov (.t 40)⟩,
     ⟨none, (some 284), .bin .add (.t 283) (.c (.int .i64 (1)))⟩,
     ⟨none, (some 40), .mov (.t 284)⟩]))
def F14L1 : XC := .loop (m 336 1172526358536) F14L1b
def F14L2b : XC :=
 .seq
  (.seq
   (.reg [⟨none, (some 303), .mov (.t 43)⟩,
     ⟨none, (some 304), .mov (.t 32)⟩,
     ⟨none, (some 305), .len (.t 304)⟩,
     ⟨none, (some 306), .bin .lss (.t 303) (.t 305)⟩])
   (.cond (.t 306)
    (.skip)
    (.exit 6 (m 336 6601364758536))))
  (.seq
   (.block 7 (m 336 15397457780744)
    (.reg [⟨none, (some 309), .mov (.t 42)⟩,
      ⟨none, (some 310), .mov (.t 309)⟩,
      ⟨(some (310, false)), (some 311), .mov (.t 14)⟩,
      ⟨(some (310, false)), (some 312), .mov (.t 41)⟩,
      ⟨(some (310, false)), (some 313), .indexA 2 (.t 311) (.t 312)⟩,
      ⟨(some (310, false)), (some 314), .fieldA 0 (.t 313)⟩,
      ⟨(some (310, false)), (some 315), .load none (.t 314)⟩,
      ⟨(some (310, false)), (some 316), .len (.t 315)⟩,
      ⟨(some (310, false)), (some 317), .mov (.t 13)⟩,
      ⟨(some (310, false)), (some 318), .bin .eql (.t 316) (.t 317)⟩,
      ⟨(some (310, false)), (some 319), .mov (.t 318)⟩,
      ⟨(some (319, true)), (some 320), .mov (.t 14)⟩,
      ⟨(some (319, true)), (some 321), .mov (.t 41)⟩,
      ⟨(some (319, true)), (some 322), .indexA 2 (.t 320) (.t 321)⟩,
      ⟨(some (319, true)), (some 323), .load (some 2) (.t 322)⟩,
      ⟨(some (319, true)), (some 324), .mov (.t 3)⟩,
      ⟨(some (319, true)), (some 325), .call 1 46 [.t 323, .t 324]⟩,
      ⟨(some (319, true)), (some 326), .mov (.t 32)⟩,
      ⟨(some (319, true)), (some 327), .mov (.t 43)⟩,
      ⟨(some (319, true)), (some 328), .indexA 2 (.t 326) (.t 327)⟩,
      ⟨(some (319, true)), (some 329), .load (some 2) (.t 328)⟩,
      ⟨(some (319, true)), (some 330), .call 1 19 [.t 325, .t 329]⟩,
      ⟨(some (310, false)), (some 331), .pick (.t 319) (.t 330) (.c (.bool false))⟩,
      ⟨none, (some 332), .pick (.t 310) (.c (.bool true)) (.t 331)⟩,
      ⟨none, (some 42), .mov (.t 332)⟩]))
   (.reg [⟨none, (some 307), .mov (.t 43)⟩,
     ⟨none, (some 308), .bin .add (.t 307) (.c (.int .i64 (1)))⟩,
     ⟨none, (some 43), .mov (.t 308)⟩]))
def F14L2 : XC := .loop (m 336 15397457780744) F14L2b
def F14T0 : XC :=
 .seq
  (.reg [⟨none, (some 333), .mov (.t 42)⟩,
    ⟨none, (some 334), .un .not (.t 333)⟩])
  (.cond (.t 334)
   (.seq
    (.reg [⟨none, (some 12), .mov (.c (.bool false))⟩])
    (.ret (m 336 4096)))
   (.skip))
def F14T1 : XC :=
 .reg [⟨none, (some 301), .mov (.t 41)⟩,
   ⟨none, (some 302), .bin .add (.t 301) (.c (.int .i64 (1)))⟩,
   ⟨none, (some 41), .mov (.t 302)⟩]
def F14L3b : XC :=
 .seq
  (.seq
   (.reg [⟨none, (some 297), .mov (.t 41)⟩,
     ⟨none, (some 298), .mov (.t 14)⟩,
     ⟨none, (some 299), .len (.t 298)⟩,
     ⟨none, (some 300), .bin .lss (.t 297) (.t 299)⟩])
   (.cond (.t 300)
    (.skip)
    (.exit 4 (m 336 0))))
  (.seq
   (.block 5 (m 336 2203318247432)
    (.seq
     (.reg [⟨none, (some 42), .mov (.c (.bool false))⟩])
     (.seq
      (.seq
       (.reg [⟨none, (some 43), .mov (.c (.int .i64 (0)))⟩])
       (.block 6 (m 336 6601364758536)
        (F14L2)))
      F14T0)))
   F14T1)
def F14L3 : XC := .loop (m 336 2203318247432) F14L3b
def F14T2 : XC :=
 .seq
  (.reg [⟨none, (some 335), .call 1 16 []⟩,
    ⟨none, (some 12), .mov (.t 335)⟩])
  (.ret (m 336 4096))
def F14T3 : XC :=
 .seq
  (.seq
   (.reg [⟨none, (some 41), .mov (.c (.int .i64 (0)))⟩])
   (.block 4 (m 336 0)
    (F14L3)))
  F14T2
def F14T4 : XC :=
 .seq
  (.seq
   (.reg [⟨none, (some 201), .mov (.t 13)⟩,
     ⟨none, (some 202), .mov (.t 3)⟩,
     ⟨none, (some 203), .call 1 45 [.t 201, .t 202]⟩,
     ⟨none, (some 204), .un .not (.t 203)⟩])
   (.cond (.t 204)
    (.seq
     (.reg [⟨none, (some 205), .call 1 16 []⟩,
       ⟨none, (some 12), .mov (.t 205)⟩])
     (.ret (m 336 4096)))
    (.skip)))
  (.seq
   (.reg [⟨none, (some 207), .mov (.t 0)⟩,
     ⟨none, (some 208), .mov (.t 3)⟩,
     ⟨none, (some 209), .call 1 42 [.t 207, .t 208]⟩,
     ⟨none, (some 206), .mov (.t 209)⟩,
     ⟨none, (some 210), .ext (.t 206) 0⟩,
     ⟨none, (some 211), .ext (.t 206) 1⟩,
     ⟨none, (some 22), .mov (.t 210)⟩,
     ⟨none, (some 15), .mov (.t 211)⟩])
   (.seq
    (.reg [⟨none, (some 213), .mov (.t 22)⟩,
      ⟨none, (some 214), .call 1 17 [.t 213]⟩,
      ⟨none, (some 212), .mov (.t 214)⟩,
      ⟨none, (some 215), .ext (.t 212) 0⟩,
      ⟨none, (some 216), .ext (.t 212) 1⟩,
      ⟨none, (some 32), .mov (.t 215)⟩,
      ⟨none, (some 33), .mov (.t 216)⟩])
    (.seq
     (.reg [⟨none, (some 218), .mov (.t 22)⟩,
       ⟨none, (some 219), .load (some 2) (.t 10)⟩,
       ⟨none, (some 220), .mov (.t 3)⟩,
       ⟨none, (some 221), .call 1 46 [.t 219, .t 220]⟩,
       ⟨none, (some 222), .call 1 25 [.t 218, .t 221]⟩,
       ⟨none, (some 217), .mov (.t 222)⟩,
       ⟨none, (some 223), .ext (.t 217) 0⟩,
       ⟨none, (some 224), .ext (.t 217) 1⟩,
       ⟨none, (some 34), .mov (.t 223)⟩,
       ⟨none, (some 35), .mov (.t 224)⟩])
     (.seq
      (.reg [⟨none, (some 226), .mov (.t 22)⟩,
        ⟨none, (some 227), .load (some 2) (.t 10)⟩,
        ⟨none, (some 228), .mov (.t 3)⟩,
        ⟨none, (some 229), .call 1 46 [.t 227, .t 228]⟩,
        ⟨none, (some 230), .call 1 27 [.t 226, .t 229]⟩,
        ⟨none, (some 225), .mov (.t 230)⟩,
        ⟨none, (some 231), .ext (.t 225) 0⟩,
        ⟨none, (some 232), .ext (.t 225) 1⟩,
        ⟨none, (some 36), .mov (.t 231)⟩,
        ⟨none, (some 37), .mov (.t 232)⟩])
      (.seq
       (.reg [⟨none, (some 234), .mov (.t 22)⟩,
         ⟨none, (some 235), .load (some 2) (.t 10)⟩,
         ⟨none, (some 236), .mov (.t 3)⟩,
         ⟨none, (some 237), .call 1 46 [.t 235, .t 236]⟩,
         ⟨none, (some 238), .load (some 2) (.t 11)⟩,
         ⟨none, (some 239), .mov (.t 3)⟩,
         ⟨none, (some 240), .call 1 46 [.t 238, .t 239]⟩,
         ⟨none, (some 241), .call 1 38 [.t 234, .t 237, .t 240]⟩,
         ⟨none, (some 233), .mov (.t 241)⟩,
         ⟨none, (some 242), .ext (.t 233) 0⟩,
         ⟨none, (some 243), .ext (.t 233) 1⟩,
         ⟨none, (some 38), .alloc [.int .i64 (0), .int .i64 (0)]⟩,
         ⟨none, none, .store 2 (.t 38) (.t 242)⟩,
         ⟨none, (some 39), .mov (.t 243)⟩])
       (.seq
        (.seq
         (.reg [⟨none, (some 244), .mov (.t 15)⟩,
           ⟨none, (some 245), .bin .neq (.t 244) (.c (.int .i64 (0)))⟩,
           ⟨none, (some 246), .mov (.t 245)⟩,
           ⟨(some (246, false)), (some 247), .mov (.t 33)⟩,
           ⟨(some (246, false)), (some 248), .bin .neq (.t 247) (.c (.int .i64 (0)))⟩,
           ⟨none, (some 249), .pick (.t 246) (.c (.bool true)) (.t 248)⟩,
           ⟨none, (some 250), .mov (.t 249)⟩,
           ⟨(some (250, false)), (some 251), .mov (.t 35)⟩,
           ⟨(some (250, false)), (some 252), .bin .neq (.t 251) (.c (.int .i64 (0)))⟩,
           ⟨none, (some 253), .pick (.t 250) (.c (.bool true)) (.t 252)⟩,
           ⟨none, (some 254), .mov (.t 253)⟩,
           ⟨(some (254, false)), (some 255), .mov (.t 37)⟩,
           ⟨(some (254, false)), (some 256), .bin .neq (.t 255) (.c (.int .i64 (0)))⟩,
           ⟨none, (some 257), .pick (.t 254) (.c (.bool true)) (.t 256)⟩,
           ⟨none, (some 258), .mov (.t 257)⟩,
           ⟨(some (258, false)), (some 259), .mov (.t 39)⟩,
           ⟨(some (258, false)), (some 260), .mov (.t 21)⟩,
           ⟨(some (258, false)), (some 261), .bin .neq (.t 259) (.t 260)⟩,
           ⟨none, (some 262), .pick (.t 258) (.c (.bool true)) (.t 261)⟩,
           ⟨none, (some 263), .mov (.t 262)⟩,
           ⟨(some (263, false)), (some 264), .mov (.t 16)⟩,
           ⟨(some (263, false)), (some 265), .mov (.t 34)⟩,
           ⟨(some (263, false)), (some 266), .eqb true (.t 264) (.t 265)⟩,
           ⟨none, (some 267), .pick (.t 263) (.c (.bool true)) (.t 266)⟩,
           ⟨none, (some 268), .mov (.t 267)⟩,
           ⟨(some (268, false)), (some 269), .load (some 2) (.t 20)⟩,
           ⟨(some (268, false)), (some 270), .load (some 2) (.t 38)⟩,
           ⟨(some (268, false)), (some 271), .eqs true [true, true] (.t 269) (.t 270)⟩,
           ⟨none, (some 272), .pick (.t 268) (.c (.bool true)) (.t 271)⟩,
           ⟨none, (some 273), .mov (.t 272)⟩,
           ⟨(some (273, false)), (some 274), .mov (.t 14)⟩,
           ⟨(some (273, false)), (some 275), .len (.t 274)⟩,
           ⟨(some (273, false)), (some 276), .mov (.t 32)⟩,
           ⟨(some (273, false)), (some 277), .len (.t 276)⟩,
           ⟨(some (273, false)), (some 278), .bin .neq (.t 275) (.t 277)⟩,
           ⟨none, (some 279), .pick (.t 273) (.c (.bool true)) (.t 278)⟩])
         (.cond (.t 279)
          (.seq
           (.reg [⟨none, (some 12), .mov (.c (.bool false))⟩])
           (.ret (m 336 4096)))
          (.skip)))
        (.seq
         (.seq
          (.reg [⟨none, (some 40), .mov (.c (.int .i64 (0)))⟩])
          (.block 2 (m 336 4294991880)
           (F14L1)))
         F14T3)))))))
def F14B : XC :=
 .seq
  (.reg [⟨none, (some 10), .box (.t 4)⟩,
    ⟨none, (some 11), .box (.t 5)⟩,
    ⟨none, (some 12), .mov (.c (.bool false))⟩])
  (.seq
   (.seq
    (.reg [⟨none, (some 44), .mov (.t 0)⟩,
      ⟨none, (some 45), .load (some 2) (.t 10)⟩,
      ⟨none, (some 46), .load (some 2) (.t 11)⟩,
      ⟨none, (some 47), .bslice 2 2 [.nils, .int .i64 (0)] [(0, 2, .t 45), (2, 2, .t 46)]⟩,
      ⟨none, (some 48), .call 1 15 [.t 44, .t 47]⟩,
      ⟨none, (some 49), .un .not (.t 48)⟩,
      ⟨none, (some 50), .mov (.t 49)⟩,
      ⟨(some (50, false)), (some 51), .mov (.t 3)⟩,
      ⟨(some (50, false)), (some 52), .len (.t 51)⟩,
      ⟨(some (50, false)), (some 53), .bin .gtr (.t 52) (.c (.int .i64 (20)))⟩,
      ⟨none, (some 54), .pick (.t 50) (.c (.bool true)) (.t 53)⟩,
      ⟨none, (some 55), .mov (.t 54)⟩,
      ⟨(some (55, false)), (some 56), .mov (.t 0)⟩,
      ⟨(some (55, false)), (some 57), .call 1 34 [.t 56]⟩,
      ⟨(some (55, false)), (some 58), .un .not (.t 57)⟩,
      ⟨none, (some 59), .pick (.t 55) (.c (.bool true)) (.t 58)⟩,
      ⟨none, (some 60), .mov (.t 59)⟩,
      ⟨(some (60, false)), (some 61), .mov (.t 0)⟩,
      ⟨(some (60, false)), (some 62), .len (.t 61)⟩,
      ⟨(some (60, false)), (some 63), .load (some 2) (.t 10)⟩,
      ⟨(some (60, false)), (some 64), .call 1 22 [.t 62, .t 63]⟩,
      ⟨(some (60, false)), (some 65), .un .not (.t 64)⟩,
      ⟨none, (some 66), .pick (.t 60) (.c (.bool true)) (.t 65)⟩,
      ⟨none, (some 67), .mov (.t 66)⟩,
      ⟨(some (67, false)), (some 68), .mov (.t 0)⟩,
      ⟨(some (67, false)), (some 69), .len (.t 68)⟩,
      ⟨(some (67, false)), (some 70), .load (some 2) (.t 11)⟩,
      ⟨(some (67, false)), (some 71), .call 1 22 [.t 69, .t 70]⟩,
      ⟨(some (67, false)), (some 72), .un .not (.t 71)⟩,
      ⟨none, (some 73), .pick (.t 67) (.c (.bool true)) (.t 72)⟩])
    (.cond (.t 73)
     (.seq
      (.reg [⟨none, (some 74), .call 1 16 []⟩,
        ⟨none, (some 12), .mov (.t 74)⟩])
      (.ret (m 336 4096)))
     (.skip)))
   (.seq
    (.reg [⟨none, (some 75), .mov (.t 0)⟩,
      ⟨none, (some 76), .len (.t 75)⟩,
      ⟨none, (some 13), .mov (.t 76)⟩])
    (.seq
     (.reg [⟨none, (some 78), .mov (.t 0)⟩,
       ⟨none, (some 79), .call 1 17 [.t 78]⟩,
       ⟨none, (some 77), .mov (.t 79)⟩,
       ⟨none, (some 80), .ext (.t 77) 0⟩,
       ⟨none, (some 81), .ext (.t 77) 1⟩,
       ⟨none, (some 14), .mov (.t 80)⟩,
       ⟨none, (some 15), .mov (.t 81)⟩])
     (.seq
      (.reg [⟨none, (some 83), .mov (.t 0)⟩,
        ⟨none, (some 84), .load (some 2) (.t 10)⟩,
        ⟨none, (some 85), .call 1 25 [.t 83, .t 84]⟩,
        ⟨none, (some 82), .mov (.t 85)⟩,
        ⟨none, (some 86), .ext (.t 82) 0⟩,
        ⟨none, (some 87), .ext (.t 82) 1⟩,
        ⟨none, (some 16), .mov (.t 86)⟩,
        ⟨none, (some 17), .mov (.t 87)⟩])
      (.seq
       (.reg [⟨none, (some 89), .mov (.t 0)⟩,
         ⟨none, (some 90), .load (some 2) (.t 10)⟩,
         ⟨none, (some 91), .call 1 27 [.t 89, .t 90]⟩,
         ⟨none, (some 88), .mov (.t 91)⟩,
         ⟨none, (some 92), .ext (.t 88) 0⟩,
         ⟨none, (some 93), .ext (.t 88) 1⟩,
         ⟨none, (some 18), .mov (.t 92)⟩,
         ⟨none, (some 19), .mov (.t 93)⟩])
       (.seq
        (.reg [⟨none, (some 95), .mov (.t 0)⟩,
          ⟨none, (some 96), .load (some 2) (.t 10)⟩,
          ⟨none, (some 97), .load (some 2) (.t 11)⟩,
          ⟨none, (some 98), .call 1 38 [.t 95, .t 96, .t 97]⟩,
          ⟨none, (some 94), .mov (.t 98)⟩,
          ⟨none, (some 99), .ext (.t 94) 0⟩,
          ⟨none, (some 100), .ext (.t 94) 1⟩,
          ⟨none, (some 20), .alloc [.int .i64 (0), .int .i64 (0)]⟩,
          ⟨none, none, .store 2 (.t 20) (.t 99)⟩,
          ⟨none, (some 21), .mov (.t 100)⟩])
        (.seq
         (.seq
          (.reg [⟨none, (some 101), .mov (.t 15)⟩,
            ⟨none, (some 102), .bin .neq (.t 101) (.c (.int .i64 (0)))⟩,
            ⟨none, (some 103), .mov (.t 102)⟩,
            ⟨(some (103, false)), (some 104), .mov (.t 17)⟩,
            ⟨(some (103, false)), (some 105), .bin .neq (.t 104) (.c (.int .i64 (0)))⟩,
            ⟨none, (some 106), .pick (.t 103) (.c (.bool true)) (.t 105)⟩,
            ⟨none, (some 107), .mov (.t 106)⟩,
            ⟨(some (107, false)), (some 108), .mov (.t 19)⟩,
            ⟨(some (107, false)), (some 109), .bin .neq (.t 108) (.c (.int .i64 (0)))⟩,
            ⟨none, (some 110), .pick (.t 107) (.c (.bool true)) (.t 109)⟩])
          (.cond (.t 110)
           (.seq
            (.reg [⟨none, (some 12), .mov (.c (.bool false))⟩])
            (.ret (m 336 4096)))
           (.skip)))
         (.seq
          (.reg [⟨none, (some 112), .mov (.t 0)⟩,
            ⟨none, (some 113), .mov (.t 1)⟩,
            ⟨none, (some 114), .conv .i64 (.t 113)⟩,
            ⟨none, (some 115), .mov (.t 13)⟩,
            ⟨none, (some 116), .bin .rem (.t 114) (.t 115)⟩,
            ⟨none, (some 117), .mov (.t 2)⟩,
            ⟨none, (some 118), .conv .i64 (.t 117)⟩,
            ⟨none, (some 119), .call 1 40 [.t 112, .t 116, .t 118]⟩,
            ⟨none, (some 111), .mov (.t 119)⟩,
            ⟨none, (some 120), .ext (.t 111) 0⟩,
            ⟨none, (some 121), .ext (.t 111) 1⟩,
            ⟨none, (some 22), .mov (.t 120)⟩,
            ⟨none, (some 15), .mov (.t 121)⟩])
          (.seq
           (.seq
            (.reg [⟨none, (some 122), .mov (.t 15)⟩,
              ⟨none, (some 123), .bin .eql (.t 122) (.c (.int .i64 (0)))⟩])
            (.cond (.t 123)
             (.seq
              (.reg [⟨none, (some 125), .mov (.t 22)⟩,
                ⟨none, (some 126), .call 1 17 [.t 125]⟩,
                ⟨none, (some 124), .mov (.t 126)⟩,
                ⟨none, (some 127), .ext (.t 124) 0⟩,
                ⟨none, (some 128), .ext (.t 124) 1⟩,
                ⟨none, (some 23), .mov (.t 127)⟩,
                ⟨none, (some 24), .mov (.t 128)⟩])
              (.seq
               (.reg [⟨none, (some 130), .mov (.t 22)⟩,
                 ⟨none, (some 131), .load (some 2) (.t 10)⟩,
                 ⟨none, (some 132), .call 1 25 [.t 130, .t 131]⟩,
                 ⟨none, (some 129), .mov (.t 132)⟩,
                 ⟨none, (some 133), .ext (.t 129) 0⟩,
                 ⟨none, (some 134), .ext (.t 129) 1⟩,
                 ⟨none, (some 25), .mov (.t 133)⟩,
                 ⟨none, (some 26), .mov (.t 134)⟩])
               (.seq
                (.reg [⟨none, (some 136), .mov (.t 22)⟩,
                  ⟨none, (some 137), .load (some 2) (.t 10)⟩,
                  ⟨none, (some 138), .call 1 27 [.t 136, .t 137]⟩,
                  ⟨none, (some 135), .mov (.t 138)⟩,
                  ⟨none, (some 139), .ext (.t 135) 0⟩,
                  ⟨none, (some 140), .ext (.t 135) 1⟩,
                  ⟨none, (some 27), .mov (.t 139)⟩,
                  ⟨none, (some 28), .mov (.t 140)⟩])
                (.seq
                 (.reg [⟨none, (some 142), .mov (.t 22)⟩,
                   ⟨none, (some 143), .load (some 2) (.t 10)⟩,
                   ⟨none, (some 144), .load (some 2) (.t 11)⟩,
                   ⟨none, (some 145), .call 1 38 [.t 142, .t 143, .t 144]⟩,
                   ⟨none, (some 141), .mov (.t 145)⟩,
                   ⟨none, (some 146), .ext (.t 141) 0⟩,
                   ⟨none, (some 147), .ext (.t 141) 1⟩,
                   ⟨none, (some 29), .alloc [.int .i64 (0), .int .i64 (0)]⟩,
                   ⟨none, none, .store 2 (.t 29) (.t 146)⟩,
                   ⟨none, (some 30), .mov (.t 147)⟩])
                 (.seq
                  (.seq
                   (.reg [⟨none, (some 148), .mov (.t 24)⟩,
                     ⟨none, (some 149), .bin .neq (.t 148) (.c (.int .i64 (0)))⟩,
                     ⟨none, (some 150), .mov (.t 149)⟩,
                     ⟨(some (150, false)), (some 151), .mov (.t 26)⟩,
                     ⟨(some (150, false)), (some 152), .bin .neq (.t 151) (.c (.int .i64 (0)))⟩,
                     ⟨none, (some 153), .pick (.t 150) (.c (.bool true)) (.t 152)⟩,
                     ⟨none, (some 154), .mov (.t 153)⟩,
                     ⟨(some (154, false)), (some 155), .mov (.t 28)⟩,
                     ⟨(some (154, false)), (some 156), .bin .neq (.t 155) (.c (.int .i64 (0)))⟩,
                     ⟨none, (some 157), .pick (.t 154) (.c (.bool true)) (.t 156)⟩,
                     ⟨none, (some 158), .mov (.t 157)⟩,
                     ⟨(some (158, false)), (some 159), .mov (.t 30)⟩,
                     ⟨(some (158, false)), (some 160), .mov (.t 21)⟩,
                     ⟨(some (158, false)), (some 161), .bin .neq (.t 159) (.t 160)⟩,
                     ⟨none, (some 162), .pick (.t 158) (.c (.bool true)) (.t 161)⟩,
                     ⟨none, (some 163), .mov (.t 162)⟩,
                     ⟨(some (163, false)), (some 164), .mov (.t 16)⟩,
                     ⟨(some (163, false)), (some 165), .mov (.t 25)⟩,
                     ⟨(some (163, false)), (some 166), .eqb true (.t 164) (.t 165)⟩,
                     ⟨none, (some 167), .pick (.t 163) (.c (.bool true)) (.t 166)⟩,
                     ⟨none, (some 168), .mov (.t 167)⟩,
                     ⟨(some (168, false)), (some 169), .mov (.t 18)⟩,
                     ⟨(some (168, false)), (some 170), .mov (.t 27)⟩,
                     ⟨(some (168, false)), (some 171), .bin .neq (.t 169) (.t 170)⟩,
                     ⟨none, (some 172), .pick (.t 168) (.c (.bool true)) (.t 171)⟩,
                     ⟨none, (some 173), .mov (.t 172)⟩,
                     ⟨(some (173, false)), (some 174), .load (some 2) (.t 20)⟩,
                     ⟨(some (173, false)), (some 175), .load (some 2) (.t 29)⟩,
                     ⟨(some (173, false)), (some 176), .eqs true [true, true] (.t 174) (.t 175)⟩,
                     ⟨none, (some 177), .pick (.t 173) (.c (.bool true)) (.t 176)⟩,
                     ⟨none, (some 178), .mov (.t 177)⟩,
                     ⟨(some (178, false)), (some 179), .mov (.t 14)⟩,
                     ⟨(some (178, false)), (some 180), .len (.t 179)⟩,
                     ⟨(some (178, false)), (some 181), .mov (.t 23)⟩,
                     ⟨(some (178, false)), (some 182), .len (.t 181)⟩,
                     ⟨(some (178, false)), (some 183), .bin .neq (.t 180) (.t 182)⟩,
                     ⟨none, (some 184), .pick (.t 178) (.c (.bool true)) (.t 183)⟩])
                   (.cond (.t 184)
                    (.seq
                     (.reg [⟨none, (some 12), .mov (.c (.bool false))⟩])
                     (.ret (m 336 4096)))
                    (.skip)))
                  (.seq
                   (.reg [⟨none, (some 31), .mov (.c (.int .i64 (0)))⟩])
                   (.block 0 (m 336 3501065)
                    (F14L0))))))))
             (.skip)))
           F14T4)))))))))
def F14 : XF := ⟨6, 336, [.tmp 12], F14B⟩
def M14 : List (List Bool) := [(m 336 4096), (m 336 4096), (m 336 4096), (m 336 3501065), (m 336 2159373321), (m 336 3501065), (m 336 2159373321), (m 336 4096), (m 336 4096), (m 336 4096), (m 336 4294991880), (m 336 1172526358536), (m 336 4294991880), (m 336 1172526358536), (m 336 4096), (m 336 0), (m 336 2203318247432), (m 336 0), (m 336 2203318247432), (m 336 6601364758536), (m 336 15397457780744), (m 336 6601364758536), (m 336 15397457780744), (m 336 4096), (m 336 4096)]
def F35L0b : XC :=
 .seq
  (.seq
   (.reg [⟨none, (some 4), .mov (.t 3)⟩,
     ⟨none, (some 5), .mov (.t 0)⟩,
     ⟨none, (some 6), .len (.t 5)⟩,
     ⟨none, (some 7), .bin .lss (.t 4) (.t 6)⟩])
   (.cond (.t 7)
    (.skip)
    (.exit 0 (m 40 0))))
  (.seq
   (.block 1 (m 40 9)
    (.seq
     (.reg [⟨none, (some 10), .mov (.t 0)⟩,
       ⟨none, (some 11), .mov (.t 3)⟩,
       ⟨none, (some 12), .indexA 2 (.t 10) (.t 11)⟩,
       ⟨none, (some 13), .fieldA 1 (.t 12)⟩,
       ⟨none, (some 14), .load none (.t 13)⟩,
       ⟨none, (some 15), .bin .lss (.t 14) (.c (.int .i64 (1)))⟩,
       ⟨none, (some 16), .mov (.t 15)⟩,
       ⟨(some (16, false)), (some 17), .mov (.t 0)⟩,
       ⟨(some (16, false)), (some 18), .mov (.t 3)⟩,
       ⟨(some (16, false)), (some 19), .indexA 2 (.t 17) (.t 18)⟩,
       ⟨(some (16, false)), (some 20), .fieldA 1 (.t 19)⟩,
       ⟨(some (16, false)), (some 21), .load none (.t 20)⟩,
       ⟨(some (16, false)), (some 22), .bin .gtr (.t 21) (.c (.int .i64 (100000000)))⟩,
       ⟨none, (some 23), .pick (.t 16) (.c (.bool true)) (.t 22)⟩,
       ⟨none, (some 24), .mov (.t 23)⟩,
       ⟨(some (24, false)), (some 25), .mov (.t 0)⟩,
       ⟨(some (24, false)), (some 26), .mov (.t 3)⟩,
       ⟨(some (24, false)), (some 27), .indexA 2 (.t 25) (.t 26)⟩,
       ⟨(some (24, false)), (some 28), .fieldA 0 (.t 27)⟩,
       ⟨(some (24, false)), (some 29), .load none (.t 28)⟩,
       ⟨(some (24, false)), (some 30), .bin .lss (.t 29) (.c (.int .i64 (-2000000000)))⟩,
       ⟨none, (some 31), .pick (.t 24) (.c (.bool true)) (.t 30)⟩,
       ⟨none, (some 32), .mov (.t 31)⟩,
       ⟨(some (32, false)), (some 33), .mov (.t 0)⟩,
       ⟨(some (32, false)), (some 34), .mov (.t 3)⟩,
       ⟨(some (32, false)), (some 35), .indexA 2 (.t 33) (.t 34)⟩,
       ⟨(some (32, false)), (some 36), .fieldA 0 (.t 35)⟩,
       ⟨(some (32, false)), (some 37), .load none (.t 36)⟩,
       ⟨(some (32, false)), (some 38), .bin .gtr (.t 37) (.c (.int .i64 (2000000000)))⟩,
       ⟨none, (some 39), .pick (.t 32) (.c (.bool true)) (.t 38)⟩])
     (.cond (.t 39)
      (.seq
       (.reg [⟨none, (some 2), .mov (.c (.bool false))⟩])
       (.ret (m 40 4)))
      (.skip))))
   (.reg [⟨none, (some 8), .mov (.t 3)⟩,
     ⟨none, (some 9), .bin .add (.t 8) (.c (.int .i64 (1)))⟩,
     ⟨none, (some 3), .mov (.t 9)⟩]))
def F35L0 : XC := .loop (m 40 9) F35L0b
def F35T0 : XC :=
 .seq
  (.reg [⟨none, (some 2), .mov (.c (.bool true))⟩])
  (.ret (m 40 4))
def F35B : XC :=
 .seq
  (.reg [⟨none, (some 2), .mov (.c (.bool false))⟩])
  (.seq
   (.seq
    (.reg [⟨none, (some 3), .mov (.c (.int .i64 (0)))⟩])
    (.block 0 (m 40 0)
     (F35L0)))
   F35T0)
def F35 : XF := ⟨1, 40, [.tmp 2], F35B⟩
def M35 : List (List Bool) := [(m 40 0), (m 40 9), (m 40 0), (m 40 9), (m 40 4), (m 40 4)]
def F37B : XC :=
 .seq
  (.reg [⟨none, (some 2), .box (.t 0)⟩,
    ⟨none, (some 3), .box (.t 1)⟩,
    ⟨none, (some 4), .mov (.c (.bool false))⟩])
  (.seq
   (.reg [⟨none, (some 5), .fieldA 0 (.t 2)⟩,
     ⟨none, (some 6), .load none (.t 5)⟩,
     ⟨none, (some 7), .fieldA 1 (.t 3)⟩,
     ⟨none, (some 8), .load none (.t 7)⟩,
     ⟨none, (some 9), .bin .mul (.t 6) (.t 8)⟩,
     ⟨none, (some 10), .fieldA 0 (.t 3)⟩,
     ⟨none, (some 11), .load none (.t 10)⟩,
     ⟨none, (some 12), .fieldA 1 (.t 2)⟩,
     ⟨none, (some 13), .load none (.t 12)⟩,
     ⟨none, (some 14), .bin .mul (.t 11) (.t 13)⟩,
     ⟨none, (some 15), .bin .gtr (.t 9) (.t 14)⟩,
     ⟨none, (some 4), .mov (.t 15)⟩])
   (.ret (m 16 16)))
def F37 : XF := ⟨2, 16, [.tmp 4], F37B⟩
def M37 : List (List Bool) := [(m 16 16)]
def F38B : XC :=
 .seq
  (.reg [⟨none, (some 4), .box (.t 1)⟩,
    ⟨none, (some 5), .box (.t 2)⟩,
    ⟨none, (some 6), .alloc [.int .i64 (0), .int .i64 (0)]⟩,
    ⟨none, (some 7), .mov (.c (.int .i64 (0)))⟩])
  (.seq
   (.reg [⟨none, (some 14), .mov (.t 0)⟩,
     ⟨none, (some 15), .load (some 2) (.t 4)⟩,
     ⟨none, (some 16), .load (some 2) (.t 5)⟩,
     ⟨none, (some 17), .bslice 2 2 [.nils, .int .i64 (0)] [(0, 2, .t 15), (2, 2, .t 16)]⟩,
     ⟨none, (some 18), .call 0 54 [.t 14, .t 17]⟩,
     ⟨none, (some 13), .mov (.t 18)⟩,
     ⟨none, (some 19), .ext (.t 13) 0⟩,
     ⟨none, (some 20), .ext (.t 13) 1⟩,
     ⟨none, (some 8), .mov (.t 19)⟩,
     ⟨none, (some 9), .mov (.t 20)⟩])
   (.seq
    (.block 0 (m 106 368)
     (.seq
      (.reg [⟨none, (some 22), .mov (.t 9)⟩,
        ⟨none, (some 23), .un .not (.t 22)⟩,
        ⟨none, (some 21), .mov (.t 23)⟩])
      (.cond (.t 21)
       (.seq
        (.reg [⟨none, (some 24), .build [.int .i64 (0), .int .i64 (0)] []⟩,
          ⟨none, none, .store 2 (.t 6) (.t 24)⟩,
          ⟨none, (some 7), .mov (.c (.int .i64 (2)))⟩])
        (.ret (m 106 192)))
       (.seq
        (.reg [⟨none, (some 26), .fieldA 1 (.t 4)⟩,
          ⟨none, (some 27), .load none (.t 26)⟩,
          ⟨none, (some 28), .fieldA 1 (.t 5)⟩,
          ⟨none, (some 29), .load none (.t 28)⟩,
          ⟨none, (some 30), .bin .eql (.t 27) (.t 29)⟩,
          ⟨none, (some 31), .mov (.t 30)⟩,
          ⟨(some (31, true)), (some 32), .fieldA 0 (.t 4)⟩,
          ⟨(some (31, true)), (some 33), .load none (.t 32)⟩,
          ⟨(some (31, true)), (some 34), .fieldA 0 (.t 5)⟩,
          ⟨(some (31, true)), (some 35), .load none (.t 34)⟩,
          ⟨(some (31, true)), (some 36), .call 1 63 [.t 33, .t 35]⟩,
          ⟨none, (some 37), .pick (.t 31) (.t 36) (.c (.bool false))⟩,
          ⟨none, (some 25), .mov (.t 37)⟩])
        (.cond (.t 25)
         (.seq
          (.reg [⟨none, (some 38), .build [.int .i64 (0), .int .i64 (0)] []⟩,
            ⟨none, none, .store 2 (.t 6) (.t 38)⟩,
            ⟨none, (some 7), .mov (.c (.int .i64 (10)))⟩])
          (.ret (m 106 192)))
         (.skip))))))
    (.seq
     (.reg [⟨none, (some 39), .mov (.t 8)⟩,
       ⟨none, (some 40), .load (some 2) (.t 4)⟩,
       ⟨none, (some 41), .load (some 2) (.t 4)⟩,
       ⟨none, (some 42), .call 1 56 [.t 39, .t 40, .t 41]⟩,
       ⟨none, (some 43), .fieldA 1 (.t 5)⟩,
       ⟨none, (some 44), .load none (.t 43)⟩,
       ⟨none, (some 45), .bin .mul (.t 42) (.t 44)⟩,
       ⟨none, (some 46), .mov (.t 8)⟩,
       ⟨none, (some 47), .load (some 2) (.t 5)⟩,
       ⟨none, (some 48), .load (some 2) (.t 4)⟩,
       ⟨none, (some 49), .call 1 56 [.t 46, .t 47, .t 48]⟩,
       ⟨none, (some 50), .fieldA 1 (.t 4)⟩,
       ⟨none, (some 51), .load none (.t 50)⟩,
       ⟨none, (some 52), .bin .mul (.t 49) (.t 51)⟩,
       ⟨none, (some 53), .bin .sub (.t 45) (.t 52)⟩,
       ⟨none, (some 54), .fieldA 1 (.t 5)⟩,
       ⟨none, (some 55), .load none (.t 54)⟩,
       ⟨none, (some 56), .bin .mul (.t 53) (.t 55)⟩,
       ⟨none, (some 10), .mov (.t 56)⟩])
     (.seq
      (.reg [⟨none, (some 57), .mov (.t 8)⟩,
        ⟨none, (some 58), .load (some 2) (.t 4)⟩,
        ⟨none, (some 59), .load (some 2) (.t 5)⟩,
        ⟨none, (some 60), .call 1 56 [.t 57, .t 58, .t 59]⟩,
        ⟨none, (some 61), .fieldA 1 (.t 5)⟩,
        ⟨none, (some 62), .load none (.t 61)⟩,
        ⟨none, (some 63), .bin .mul (.t 60) (.t 62)⟩,
        ⟨none, (some 64), .mov (.t 8)⟩,
        ⟨none, (some 65), .load (some 2) (.t 5)⟩,
        ⟨none, (some 66), .load (some 2) (.t 5)⟩,
        ⟨none, (some 67), .call 1 56 [.t 64, .t 65, .t 66]⟩,
        ⟨none, (some 68), .fieldA 1 (.t 4)⟩,
        ⟨none, (some 69), .load none (.t 68)⟩,
        ⟨none, (some 70), .bin .mul (.t 67) (.t 69)⟩,
        ⟨none, (some 71), .bin .sub (.t 63) (.t 70)⟩,
        ⟨none, (some 72), .fieldA 1 (.t 4)⟩,
        ⟨none, (some 73), .load none (.t 72)⟩,
        ⟨none, (some 74), .bin .mul (.t 71) (.t 73)⟩,
        ⟨none, (some 11), .mov (.t 74)⟩])
      (.seq
       (.reg [⟨none, (some 75), .build [.int .i64 (0), .int .i64 (0)] [(0, 1, .c (.int .i64 (1))), (1, 1, .c (.int .i64 (1)))]⟩,
         ⟨none, (some 12), .alloc [.int .i64 (0), .int .i64 (0)]⟩,
         ⟨none, none, .store 2 (.t 12) (.t 75)⟩])
       (.block 1 (m 106 192)
        (.seq
         (.reg [⟨none, (some 78), .mov (.t 10)⟩,
           ⟨none, (some 79), .bin .lss (.t 78) (.c (.int .i64 (0)))⟩,
           ⟨none, (some 80), .mov (.t 79)⟩,
           ⟨(some (80, false)), (some 81), .mov (.t 10)⟩,
           ⟨(some (80, false)), (some 82), .bin .eql (.t 81) (.c (.int .i64 (0)))⟩,
           ⟨(some (80, false)), (some 83), .mov (.t 82)⟩,
           ⟨(some (83, true)), (some 84), .mov (.t 11)⟩,
           ⟨(some (83, true)), (some 85), .bin .leq (.t 84) (.c (.int .i64 (0)))⟩,
           ⟨(some (80, false)), (some 86), .pick (.t 83) (.t 85) (.c (.bool false))⟩,
           ⟨none, (some 87), .pick (.t 80) (.c (.bool true)) (.t 86)⟩,
           ⟨none, (some 77), .mov (.t 87)⟩])
         (.cond (.t 77)
          (.seq
           (.reg [⟨none, (some 88), .build [.int .i64 (0), .int .i64 (0)] []⟩,
             ⟨none, none, .store 2 (.t 6) (.t 88)⟩,
             ⟨none, (some 7), .mov (.c (.int .i64 (9)))⟩])
           (.ret (m 106 192)))
          (.seq
           (.reg [⟨none, (some 90), .mov (.t 11)⟩,
             ⟨none, (some 91), .bin .lss (.t 90) (.c (.int .i64 (0)))⟩,
             ⟨none, (some 92), .mov (.t 91)⟩,
             ⟨(some (92, true)), (some 93), .mov (.t 10)⟩,
             ⟨(some (92, true)), (some 94), .mov (.t 10)⟩,
             ⟨(some (92, true)), (some 95), .mov (.t 11)⟩,
             ⟨(some (92, true)), (some 96), .bin .sub (.t 94) (.t 95)⟩,
             ⟨(some (92, true)), (some 97), .call 1 55 [.t 93, .t 96]⟩,
             ⟨(some (92, true)), (some 98), .load (some 2) (.t 12)⟩,
             ⟨(some (92, true)), (some 99), .eqs true [true, true] (.t 97) (.t 98)⟩,
             ⟨none, (some 100), .pick (.t 92) (.t 99) (.c (.bool false))⟩,
             ⟨none, (some 89), .mov (.t 100)⟩])
           (.cond (.t 89)
            (.seq
             (.reg [⟨none, (some 101), .mov (.t 10)⟩,
               ⟨none, (some 102), .mov (.t 10)⟩,
               ⟨none, (some 103), .mov (.t 11)⟩,
               ⟨none, (some 104), .bin .sub (.t 102) (.t 103)⟩,
               ⟨none, (some 105), .call 1 55 [.t 101, .t 104]⟩,
               ⟨none, none, .store 2 (.t 6) (.t 105)⟩,
               ⟨none, (some 7), .mov (.c (.int .i64 (0)))⟩])
             (.ret (m 106 192)))
            (.seq
             (.reg [⟨none, (some 76), .load (some 2) (.t 12)⟩,
               ⟨none, none, .store 2 (.t 6) (.t 76)⟩,
               ⟨none, (some 7), .mov (.c (.int .i64 (0)))⟩])
             (.ret (m 106 192)))))))))))))
def F38 : XF := ⟨3, 106, [.cell 6 (some 2), .tmp 7], F38B⟩
def M38 : List (List Bool) := [(m 106 368), (m 106 192), (m 106 192), (m 106 192), (m 106 192), (m 106 192), (m 106 192)]
def F39L0b : XC :=
 .seq
  (.seq
   (.reg [⟨none, (some 28), .mov (.t 12)⟩,
     ⟨none, (some 29), .mov (.t 0)⟩,
     ⟨none, (some 30), .len (.t 29)⟩,
     ⟨none, (some 31), .bin .lss (.t 28) (.t 30)⟩])
   (.cond (.t 31)
    (.skip)
    (.exit 0 (m 95 3649))))
  (.seq
   (.block 1 (m 95 7793)
    (.seq
     (.reg [⟨none, (some 34), .mov (.t 9)⟩,
       ⟨none, (some 35), .fieldA 0 (.t 4)⟩,
       ⟨none, (some 36), .load none (.t 35)⟩,
       ⟨none, (some 37), .mov (.t 12)⟩,
       ⟨none, (some 38), .indexA 1 (.t 36) (.t 37)⟩,
       ⟨none, (some 39), .load none (.t 38)⟩,
       ⟨none, (some 40), .fieldA 1 (.t 5)⟩,
       ⟨none, (some 41), .load none (.t 40)⟩,
       ⟨none, (some 42), .bin .mul (.t 39) (.t 41)⟩,
       ⟨none, (some 43), .bslice 1 1 [.int .i64 (0)] [(0, 1, .t 42)]⟩,
       ⟨none, (some 44), .app 1 8 (.t 34) (.t 43)⟩,
       ⟨none, (some 9), .mov (.t 44)⟩])
     (.seq
      (.reg [⟨none, (some 45), .mov (.t 10)⟩,
        ⟨none, (some 46), .fieldA 0 (.t 5)⟩,
        ⟨none, (some 47), .load none (.t 46)⟩,
        ⟨none, (some 48), .mov (.t 12)⟩,
        ⟨none, (some 49), .indexA 1 (.t 47) (.t 48)⟩,
        ⟨none, (some 50), .load none (.t 49)⟩,
        ⟨none, (some 51), .fieldA 1 (.t 4)⟩,
        ⟨none, (some 52), .load none (.t 51)⟩,
        ⟨none, (some 53), .bin .mul (.t 50) (.t 52)⟩,
        ⟨none, (some 54), .bslice 1 1 [.int .i64 (0)] [(0, 1, .t 53)]⟩,
        ⟨none, (some 55), .app 1 8 (.t 45) (.t 54)⟩,
        ⟨none, (some 10), .mov (.t 55)⟩])
      (.reg [⟨none, (some 56), .mov (.t 11)⟩,
        ⟨none, (some 57), .mov (.t 9)⟩,
        ⟨none, (some 58), .mov (.t 12)⟩,
        ⟨none, (some 59), .indexA 1 (.t 57) (.t 58)⟩,
        ⟨none, (some 60), .load none (.t 59)⟩,
        ⟨none, (some 61), .mov (.t 10)⟩,
        ⟨none, (some 62), .mov (.t 12)⟩,
        ⟨none, (some 63), .indexA 1 (.t 61) (.t 62)⟩,
        ⟨none, (some 64), .load none (.t 63)⟩,
        ⟨none, (some 65), .bin .sub (.t 60) (.t 64)⟩,
        ⟨none, (some 66), .bslice 1 1 [.int .i64 (0)] [(0, 1, .t 65)]⟩,
        ⟨none, (some 67), .app 1 8 (.t 56) (.t 66)⟩,
        ⟨none, (some 11), .mov (.t 67)⟩]))))
   (.reg [⟨none, (some 32), .mov (.t 12)⟩,
     ⟨none, (some 33), .bin .add (.t 32) (.c (.int .i64 (1)))⟩,
     ⟨none, (some 12), .mov (.t 33)⟩]))
def F39L0 : XC := .loop (m 95 7793) F39L0b
def F39T0 : XC :=
 .seq
  (.reg [⟨none, (some 68), .mov (.t 0)⟩,
    ⟨none, (some 69), .mov (.t 11)⟩,
    ⟨none, (some 70), .mov (.t 9)⟩,
    ⟨none, (some 71), .call 1 59 [.t 68, .t 69, .t 70]⟩,
    ⟨none, (some 72), .mov (.t 0)⟩,
    ⟨none, (some 73), .mov (.t 11)⟩,
    ⟨none, (some 74), .mov (.t 10)⟩,
    ⟨none, (some 75), .call 1 59 [.t 72, .t 73, .t 74]⟩,
    ⟨none, (some 13), .mov (.t 71)⟩,
    ⟨none, (some 14), .mov (.t 75)⟩])
  (.seq
   (.seq
    (.reg [⟨none, (some 76), .mov (.t 13)⟩,
      ⟨none, (some 77), .bin .lss (.t 76) (.c (.int .i64 (0)))⟩,
      ⟨none, (some 78), .mov (.t 77)⟩,
      ⟨(some (78, false)), (some 79), .mov (.t 13)⟩,
      ⟨(some (78, false)), (some 80), .bin .eql (.t 79) (.c (.int .i64 (0)))⟩,
      ⟨(some (78, false)), (some 81), .mov (.t 80)⟩,
      ⟨(some (81, true)), (some 82), .mov (.t 14)⟩,
      ⟨(some (81, true)), (some 83), .bin .leq (.t 82) (.c (.int .i64 (0)))⟩,
      ⟨(some (78, false)), (some 84), .pick (.t 81) (.t 83) (.c (.bool false))⟩,
      ⟨none, (some 85), .pick (.t 78) (.c (.bool true)) (.t 84)⟩])
    (.cond (.t 85)
     (.seq
      (.reg [⟨none, (some 86), .build [.int .i64 (0), .int .i64 (0)] []⟩,
        ⟨none, none, .store 2 (.t 6) (.t 86)⟩,
        ⟨none, (some 7), .mov (.c (.int .i64 (9)))⟩])
      (.ret (m 95 192)))
     (.skip)))
   (.seq
    (.seq
     (.reg [⟨none, (some 87), .mov (.t 14)⟩,
       ⟨none, (some 88), .bin .geq (.t 87) (.c (.int .i64 (0)))⟩])
     (.cond (.t 88)
      (.seq
       (.reg [⟨none, (some 89), .build [.int .i64 (0), .int .i64 (0)] [(0, 1, .c (.int .i64 (1))), (1, 1, .c (.int .i64 (1)))]⟩,
         ⟨none, none, .store 2 (.t 6) (.t 89)⟩,
         ⟨none, (some 7), .mov (.c (.int .i64 (0)))⟩])
       (.ret (m 95 192)))
      (.skip)))
    (.seq
     (.reg [⟨none, (some 90), .mov (.t 13)⟩,
       ⟨none, (some 91), .mov (.t 13)⟩,
       ⟨none, (some 92), .mov (.t 14)⟩,
       ⟨none, (some 93), .bin .sub (.t 91) (.t 92)⟩,
       ⟨none, (some 94), .call 1 58 [.t 90, .t 93]⟩,
       ⟨none, none, .store 2 (.t 6) (.t 94)⟩,
       ⟨none, (some 7), .mov (.c (.int .i64 (0)))⟩])
     (.ret (m 95 192)))))
def F39B : XC :=
 .seq
  (.reg [⟨none, (some 4), .box (.t 1)⟩,
    ⟨none, (some 5), .box (.t 2)⟩,
    ⟨none, (some 6), .alloc [.int .i64 (0), .int .i64 (0)]⟩,
    ⟨none, (some 7), .mov (.c (.int .i64 (0)))⟩])
  (.seq
   (.reg [⟨none, (some 15), .mov (.t 0)⟩,
     ⟨none, (some 16), .load (some 2) (.t 4)⟩,
     ⟨none, (some 17), .load (some 2) (.t 5)⟩,
     ⟨none, (some 18), .bslice 2 2 [.nils, .int .i64 (0)] [(0, 2, .t 16), (2, 2, .t 17)]⟩,
     ⟨none, (some 19), .call 1 57 [.t 15, .t 18]⟩,
     ⟨none, (some 8), .mov (.t 19)⟩])
   (.seq
    (.seq
     (.reg [⟨none, (some 20), .mov (.t 8)⟩,
       ⟨none, (some 21), .bin .neq (.t 20) (.c (.int .i64 (0)))⟩])
     (.cond (.t 21)
      (.seq
       (.reg [⟨none, (some 22), .build [.int .i64 (0), .int .i64 (0)] []⟩,
         ⟨none, (some 23), .mov (.t 8)⟩,
         ⟨none, none, .store 2 (.t 6) (.t 22)⟩,
         ⟨none, (some 7), .mov (.t 23)⟩])
       (.ret (m 95 192)))
      (.skip)))
    (.seq
     (.seq
      (.reg [⟨none, (some 24), .load (some 2) (.t 4)⟩,
        ⟨none, (some 25), .load (some 2) (.t 5)⟩,
        ⟨none, (some 26), .call 1 19 [.t 24, .t 25]⟩])
      (.cond (.t 26)
       (.seq
        (.reg [⟨none, (some 27), .build [.int .i64 (0), .int .i64 (0)] []⟩,
          ⟨none, none, .store 2 (.t 6) (.t 27)⟩,
          ⟨none, (some 7), .mov (.c (.int .i64 (10)))⟩])
        (.ret (m 95 192)))
       (.skip)))
     (.seq
      (.reg [⟨none, (some 9), .mov (.c (.nils))⟩,
        ⟨none, (some 10), .mov (.c (.nils))⟩,
        ⟨none, (some 11), .mov (.c (.nils))⟩])
      (.seq
       (.seq
        (.reg [⟨none, (some 12), .mov (.c (.int .i64 (0)))⟩])
        (.block 0 (m 95 3649)
         (F39L0)))
       F39T0)))))
def F39 : XF := ⟨3, 95, [.cell 6 (some 2), .tmp 7], F39B⟩
def M39 : List (List Bool) := [(m 95 192), (m 95 192), (m 95 3649), (m 95 7793), (m 95 3649), (m 95 7793), (m 95 192), (m 95 192), (m 95 192)]
def F40L0b : XC :=
 .seq
  (.reg [⟨none, (some 41), .bin .lss (.t 40) (.t 39)⟩])
  (.seq
   (.cond (.t 41)
    (.skip)
    (.exit 0 (m 71 1024)))
   (.seq
    (.block 1 (m 71 1924145349638)
     (.seq
      (.reg [⟨none, (some 42), .indexA 1 (.t 38) (.t 40)⟩,
        ⟨none, (some 43), .load none (.t 42)⟩,
        ⟨none, (some 12), .mov (.t 43)⟩])
      (.seq
       (.reg [⟨none, (some 44), .mov (.t 12)⟩,
         ⟨none, (some 45), .call 2 64 [.t 44]⟩,
         ⟨none, (some 12), .mov (.t 45)⟩])
       (.seq
        (.seq
         (.reg [⟨none, (some 46), .mov (.t 12)⟩,
           ⟨none, (some 47), .mov (.t 1)⟩,
           ⟨none, (some 48), .indexA 1 (.t 46) (.t 47)⟩,
           ⟨none, (some 49), .load none (.t 48)⟩,
           ⟨none, (some 50), .mov (.t 2)⟩,
           ⟨none, (some 51), .bin .add (.t 49) (.t 50)⟩,
           ⟨none, (some 52), .indexA 1 (.t 46) (.t 47)⟩,
           ⟨none, none, .store 1 (.t 52) (.t 51)⟩])
         (.seq
          (.reg [⟨none, (some 53), .mov (.t 12)⟩,
            ⟨none, (some 54), .mov (.t 1)⟩,
            ⟨none, (some 55), .indexA 1 (.t 53) (.t 54)⟩,
            ⟨none, (some 56), .load none (.t 55)⟩,
            ⟨none, (some 57), .bin .lss (.t 56) (.c (.int .i64 (-20)))⟩,
            ⟨none, (some 58), .mov (.t 57)⟩,
            ⟨(some (58, false)), (some 59), .mov (.t 12)⟩,
            ⟨(some (58, false)), (some 60), .mov (.t 1)⟩,
            ⟨(some (58, false)), (some 61), .indexA 1 (.t 59) (.t 60)⟩,
            ⟨(some (58, false)), (some 62), .load none (.t 61)⟩,
            ⟨(some (58, false)), (some 63), .bin .gtr (.t 62) (.c (.int .i64 (20)))⟩,
            ⟨none, (some 64), .pick (.t 58) (.c (.bool true)) (.t 63)⟩])
          (.cond (.t 64)
           (.seq
            (.reg [⟨none, (some 6), .mov (.c (.nils))⟩,
              ⟨none, (some 7), .mov (.c (.int .i64 (2)))⟩])
            (.ret (m 71 192)))
           (.skip))))
        (.reg [⟨none, (some 65), .mov (.t 10)⟩,
          ⟨none, (some 66), .mov (.t 12)⟩,
          ⟨none, (some 67), .bslice 1 1 [.nils] [(0, 1, .t 66)]⟩,
          ⟨none, (some 68), .app 1 24 (.t 65) (.t 67)⟩,
          ⟨none, (some 10), .mov (.t 68)⟩])))))
    (.reg [⟨none, (some 69), .bin .add (.t 40) (.c (.int .i64 (1)))⟩,
      ⟨none, (some 40), .mov (.t 69)⟩])))
def F40L0 : XC := .loop (m 71 1924145349638) F40L0b
def F40T0 : XC :=
 .seq
  (.reg [⟨none, (some 70), .mov (.t 10)⟩,
    ⟨none, (some 6), .mov (.t 70)⟩,
    ⟨none, (some 7), .mov (.c (.int .i64 (0)))⟩])
  (.ret (m 71 192))
def F40B : XC :=
 .seq
  (.reg [⟨none, (some 6), .mov (.c (.nils))⟩,
    ⟨none, (some 7), .mov (.c (.int .i64 (0)))⟩])
  (.seq
   (.seq
    (.reg [⟨none, (some 14), .mov (.t 0)⟩,
      ⟨none, (some 15), .call 0 47 [.t 14]⟩,
      ⟨none, (some 13), .mov (.t 15)⟩,
      ⟨none, (some 16), .ext (.t 13) 0⟩,
      ⟨none, (some 17), .ext (.t 13) 1⟩,
      ⟨none, (some 8), .mov (.t 16)⟩,
      ⟨none, (some 9), .mov (.t 17)⟩])
    (.seq
     (.reg [⟨none, (some 18), .mov (.t 9)⟩,
       ⟨none, (some 19), .un .not (.t 18)⟩,
       ⟨none, (some 20), .mov (.t 19)⟩,
       ⟨(some (20, false)), (some 21), .mov (.t 1)⟩,
       ⟨(some (20, false)), (some 22), .bin .lss (.t 21) (.c (.int .i64 (0)))⟩,
       ⟨none, (some 23), .pick (.t 20) (.c (.bool true)) (.t 22)⟩,
       ⟨none, (some 24), .mov (.t 23)⟩,
       ⟨(some (24, false)), (some 25), .mov (.t 1)⟩,
       ⟨(some (24, false)), (some 26), .mov (.t 0)⟩,
       ⟨(some (24, false)), (some 27), .len (.t 26)⟩,
       ⟨(some (24, false)), (some 28), .bin .geq (.t 25) (.t 27)⟩,
       ⟨none, (some 29), .pick (.t 24) (.c (.bool true)) (.t 28)⟩,
       ⟨none, (some 30), .mov (.t 29)⟩,
       ⟨(some (30, false)), (some 31), .mov (.t 2)⟩,
       ⟨(some (30, false)), (some 32), .bin .lss (.t 31) (.c (.int .i64 (-40)))⟩,
       ⟨none, (some 33), .pick (.t 30) (.c (.bool true)) (.t 32)⟩,
       ⟨none, (some 34), .mov (.t 33)⟩,
       ⟨(some (34, false)), (some 35), .mov (.t 2)⟩,
       ⟨(some (34, false)), (some 36), .bin .gtr (.t 35) (.c (.int .i64 (40)))⟩,
       ⟨none, (some 37), .pick (.t 34) (.c (.bool true)) (.t 36)⟩])
     (.cond (.t 37)
      (.seq
       (.reg [⟨none, (some 6), .mov (.c (.nils))⟩,
         ⟨none, (some 7), .mov (.c (.int .i64 (2)))⟩])
       (.ret (m 71 192)))
      (.skip))))
   (.seq
    (.reg [⟨none, (some 10), .mov (.c (.nils))⟩])
    (.seq
     (.seq
      (.reg [⟨none, (some 38), .mov (.t 0)⟩,
        ⟨none, (some 39), .len (.t 38)⟩,
        ⟨none, (some 40), .mov (.c (.int .i64 (0)))⟩])
      (.block 0 (m 71 1024)
       (F40L0)))
     F40T0)))
def F40 : XF := ⟨3, 71, [.tmp 6, .tmp 7], F40B⟩
def M40 : List (List Bool) := [(m 71 192), (m 71 1024), (m 71 1924145349638), (m 71 1024), (m 71 1924145349638), (m 71 192), (m 71 192)]
def F41L0b : XC :=
 .seq
  (.seq
   (.reg [⟨none, (some 32), .mov (.t 9)⟩,
     ⟨none, (some 33), .mov (.t 0)⟩,
     ⟨none, (some 34), .len (.t 33)⟩,
     ⟨none, (some 35), .bin .lss (.t 32) (.t 34)⟩])
   (.cond (.t 35)
    (.skip)
    (.exit 0 (m 59 256))))
  (.seq
   (.block 1 (m 59 775)
    (.seq
     (.reg [⟨none, (some 10), .mov (.c (.nils))⟩])
     (.seq
      (.reg [⟨none, (some 38), .mov (.t 10)⟩,
        ⟨none, (some 39), .mov (.t 0)⟩,
        ⟨none, (some 40), .mov (.t 9)⟩,
        ⟨none, (some 41), .indexA 1 (.t 39) (.t 40)⟩,
        ⟨none, (some 42), .load none (.t 41)⟩,
        ⟨none, (some 43), .app 1 8 (.t 38) (.t 42)⟩,
        ⟨none, (some 10), .mov (.t 43)⟩])
      (.seq
       (.reg [⟨none, (some 44), .mov (.t 10)⟩,
         ⟨none, (some 45), .mov (.t 1)⟩,
         ⟨none, (some 46), .indexA 1 (.t 44) (.t 45)⟩,
         ⟨none, (some 47), .load none (.t 46)⟩,
         ⟨none, (some 48), .mov (.t 2)⟩,
         ⟨none, (some 49), .bin .add (.t 47) (.t 48)⟩,
         ⟨none, (some 50), .indexA 1 (.t 44) (.t 45)⟩,
         ⟨none, none, .store 1 (.t 50) (.t 49)⟩])
       (.reg [⟨none, (some 51), .mov (.t 8)⟩,
         ⟨none, (some 52), .mov (.t 10)⟩,
         ⟨none, (some 53), .bslice 1 1 [.nils] [(0, 1, .t 52)]⟩,
         ⟨none, (some 54), .app 1 24 (.t 51) (.t 53)⟩,
         ⟨none, (some 8), .mov (.t 54)⟩])))))
   (.reg [⟨none, (some 36), .mov (.t 9)⟩,
     ⟨none, (some 37), .bin .add (.t 36) (.c (.int .i64 (1)))⟩,
     ⟨none, (some 9), .mov (.t 37)⟩]))
def F41L0 : XC := .loop (m 59 775) F41L0b
def F41T0 : XC :=
 .seq
  (.seq
   (.reg [⟨none, (some 55), .mov (.t 8)⟩,
     ⟨none, (some 56), .call 1 34 [.t 55]⟩,
     ⟨none, (some 57), .un .not (.t 56)⟩])
   (.cond (.t 57)
    (.seq
     (.reg [⟨none, (some 6), .mov (.c (.nils))⟩,
       ⟨none, (some 7), .mov (.c (.int .i64 (2)))⟩])
     (.ret (m 59 192)))
    (.skip)))
  (.seq
   (.reg [⟨none, (some 58), .mov (.t 8)⟩,
     ⟨none, (some 6), .mov (.t 58)⟩,
     ⟨none, (some 7), .mov (.c (.int .i64 (0)))⟩])
   (.ret (m 59 192)))
def F41B : XC :=
 .seq
  (.reg [⟨none, (some 6), .mov (.c (.nils))⟩,
    ⟨none, (some 7), .mov (.c (.int .i64 (0)))⟩])
  (.seq
   (.seq
    (.reg [⟨none, (some 11), .mov (.t 0)⟩,
      ⟨none, (some 12), .call 1 34 [.t 11]⟩,
      ⟨none, (some 13), .un .not (.t 12)⟩,
      ⟨none, (some 14), .mov (.t 13)⟩,
      ⟨(some (14, false)), (some 15), .mov (.t 1)⟩,
      ⟨(some (14, false)), (some 16), .bin .lss (.t 15) (.c (.int .i64 (0)))⟩,
      ⟨none, (some 17), .pick (.t 14) (.c (.bool true)) (.t 16)⟩,
      ⟨none, (some 18), .mov (.t 17)⟩,
      ⟨(some (18, false)), (some 19), .mov (.t 1)⟩,
      ⟨(some (18, false)), (some 20), .mov (.t 0)⟩,
      ⟨(some (18, false)), (some 21), .len (.t 20)⟩,
      ⟨(some (18, false)), (some 22), .bin .geq (.t 19) (.t 21)⟩,
      ⟨none, (some 23), .pick (.t 18) (.c (.bool true)) (.t 22)⟩,
      ⟨none, (some 24), .mov (.t 23)⟩,
      ⟨(some (24, false)), (some 25), .mov (.t 2)⟩,
      ⟨(some (24, false)), (some 26), .bin .lss (.t 25) (.c (.int .i64 (-40)))⟩,
      ⟨none, (some 27), .pick (.t 24) (.c (.bool true)) (.t 26)⟩,
      ⟨none, (some 28), .mov (.t 27)⟩,
      ⟨(some (28, false)), (some 29), .mov (.t 2)⟩,
      ⟨(some (28, false)), (some 30), .bin .gtr (.t 29) (.c (.int .i64 (40)))⟩,
      ⟨none, (some 31), .pick (.t 28) (.c (.bool true)) (.t 30)⟩])
    (.cond (.t 31)
     (.seq
      (.reg [⟨none, (some 6), .mov (.c (.nils))⟩,
        ⟨none, (some 7), .mov (.c (.int .i64 (2)))⟩])
      (.ret (m 59 192)))
     (.skip)))
   (.seq
    (.reg [⟨none, (some 8), .mov (.c (.nils))⟩])
    (.seq
     (.seq
      (.reg [⟨none, (some 9), .mov (.c (.int .i64 (0)))⟩])
      (.block 0 (m 59 256)
       (F41L0)))
     F41T0)))
def F41 : XF := ⟨3, 59, [.tmp 6, .tmp 7], F41B⟩
def M41 : List (List Bool) := [(m 59 192), (m 59 256), (m 59 775), (m 59 256), (m 59 775), (m 59 192), (m 59 192)]
def F42L0b : XC :=
 .seq
  (.reg [⟨none, (some 34), .bin .lss (.t 33) (.t 32)⟩])
  (.seq
   (.cond (.t 34)
    (.skip)
    (.exit 0 (m 86 3)))
   (.seq
    (.block 1 (m 86 15032385795)
     (.seq
      (.reg [⟨none, (some 35), .indexA 1 (.t 31) (.t 33)⟩,
        ⟨none, (some 36), .load none (.t 35)⟩,
        ⟨none, (some 10), .mov (.t 36)⟩])
      (.seq
       (.seq
        (.reg [⟨none, (some 37), .mov (.t 10)⟩,
          ⟨none, (some 38), .bin .lss (.t 37) (.c (.int .i64 (0)))⟩,
          ⟨none, (some 39), .mov (.t 38)⟩,
          ⟨(some (39, false)), (some 40), .mov (.t 10)⟩,
          ⟨(some (39, false)), (some 41), .mov (.t 0)⟩,
          ⟨(some (39, false)), (some 42), .len (.t 41)⟩,
          ⟨(some (39, false)), (some 43), .bin .geq (.t 40) (.t 42)⟩,
          ⟨none, (some 44), .pick (.t 39) (.c (.bool true)) (.t 43)⟩,
          ⟨none, (some 45), .mov (.t 44)⟩,
          ⟨(some (45, false)), (some 46), .mov (.t 8)⟩,
          ⟨(some (45, false)), (some 47), .mov (.t 10)⟩,
          ⟨(some (45, false)), (some 48), .bin .shr (.t 46) (.t 47)⟩,
          ⟨(some (45, false)), (some 49), .bin .and (.t 48) (.c (.int .i64 (1)))⟩,
          ⟨(some (45, false)), (some 50), .bin .eql (.t 49) (.c (.int .i64 (1)))⟩,
          ⟨none, (some 51), .pick (.t 45) (.c (.bool true)) (.t 50)⟩])
        (.cond (.t 51)
         (.seq
          (.reg [⟨none, (some 4), .mov (.c (.nils))⟩,
            ⟨none, (some 5), .mov (.c (.int .i64 (2)))⟩])
          (.ret (m 86 48)))
         (.skip)))
       (.reg [⟨none, (some 52), .mov (.t 8)⟩,
         ⟨none, (some 53), .mov (.t 10)⟩,
         ⟨none, (some 54), .bin .shl (.c (.int .i64 (1))) (.t 53)⟩,
         ⟨none, (some 55), .bin .or (.t 52) (.t 54)⟩,
         ⟨none, (some 8), .mov (.t 55)⟩]))))
    (.reg [⟨none, (some 56), .bin .add (.t 33) (.c (.int .i64 (1)))⟩,
      ⟨none, (some 33), .mov (.t 56)⟩])))
def F42L0 : XC := .loop (m 86 15032385795) F42L0b
def F42L1b : XC :=
 .seq
  (.reg [⟨none, (some 66), .bin .lss (.t 65) (.t 64)⟩])
  (.seq
   (.cond (.t 66)
    (.skip)
    (.exit 4 (m 86 1008806316531009539)))
   (.seq
    (.block 5 (m 86 65572410574514448387)
     (.seq
      (.reg [⟨none, (some 67), .indexA 1 (.t 63) (.t 65)⟩,
        ⟨none, (some 68), .load none (.t 67)⟩,
        ⟨none, (some 16), .mov (.t 68)⟩])
      (.reg [⟨none, (some 69), .mov (.t 14)⟩,
        ⟨none, (some 70), .mov (.t 0)⟩,
        ⟨none, (some 71), .mov (.t 13)⟩,
        ⟨none, (some 72), .indexA 1 (.t 70) (.t 71)⟩,
        ⟨none, (some 73), .load none (.t 72)⟩,
        ⟨none, (some 74), .mov (.t 16)⟩,
        ⟨none, (some 75), .indexA 1 (.t 73) (.t 74)⟩,
        ⟨none, (some 76), .load none (.t 75)⟩,
        ⟨none, (some 77), .bslice 1 1 [.int .i64 (0)] [(0, 1, .t 76)]⟩,
        ⟨none, (some 78), .app 1 8 (.t 69) (.t 77)⟩,
        ⟨none, (some 14), .mov (.t 78)⟩])))
    (.reg [⟨none, (some 79), .bin .add (.t 65) (.c (.int .i64 (1)))⟩,
      ⟨none, (some 65), .mov (.t 79)⟩])))
def F42L1 : XC := .loop (m 86 65572410574514448387) F42L1b
def F42T0 : XC :=
 .reg [⟨none, (some 80), .mov (.t 11)⟩,
   ⟨none, (some 81), .mov (.t 14)⟩,
   ⟨none, (some 82), .bslice 1 1 [.nils] [(0, 1, .t 81)]⟩,
   ⟨none, (some 83), .app 1 24 (.t 80) (.t 82)⟩,
   ⟨none, (some 11), .mov (.t 83)⟩]
def F42T1 : XC :=
 .reg [⟨none, (some 84), .bin .add (.t 59) (.c (.int .i64 (1)))⟩,
   ⟨none, (some 59), .mov (.t 84)⟩]
def F42L2b : XC :=
 .seq
  (.reg [⟨none, (some 60), .bin .lss (.t 59) (.t 58)⟩])
  (.seq
   (.cond (.t 60)
    (.skip)
    (.exit 2 (m 86 2048)))
   (.seq
    (.block 3 (m 86 1008806316530993155)
     (.seq
      (.reg [⟨none, (some 61), .indexA 1 (.t 57) (.t 59)⟩,
        ⟨none, (some 62), .load none (.t 61)⟩,
        ⟨none, (some 13), .mov (.t 62)⟩])
      (.seq
       (.reg [⟨none, (some 14), .mov (.c (.nils))⟩])
       (.seq
        (.seq
         (.reg [⟨none, (some 63), .mov (.t 1)⟩,
           ⟨none, (some 64), .len (.t 63)⟩,
           ⟨none, (some 65), .mov (.c (.int .i64 (0)))⟩])
         (.block 4 (m 86 1008806316531009539)
          (F42L1)))
        F42T0))))
    F42T1))
def F42L2 : XC := .loop (m 86 1008806316530993155) F42L2b
def F42T2 : XC :=
 .seq
  (.reg [⟨none, (some 85), .mov (.t 11)⟩,
    ⟨none, (some 4), .mov (.t 85)⟩,
    ⟨none, (some 5), .mov (.c (.int .i64 (0)))⟩])
  (.ret (m 86 48))
def F42T3 : XC :=
 .seq
  (.reg [⟨none, (some 11), .mov (.c (.nils))⟩])
  (.seq
   (.seq
    (.reg [⟨none, (some 57), .mov (.t 1)⟩,
      ⟨none, (some 58), .len (.t 57)⟩,
      ⟨none, (some 59), .mov (.c (.int .i64 (0)))⟩])
    (.block 2 (m 86 2048)
     (F42L2)))
   F42T2)
def F42B : XC :=
 .seq
  (.reg [⟨none, (some 4), .mov (.c (.nils))⟩,
    ⟨none, (some 5), .mov (.c (.int .i64 (0)))⟩])
  (.seq
   (.reg [⟨none, (some 18), .mov (.t 0)⟩,
     ⟨none, (some 19), .call 0 47 [.t 18]⟩,
     ⟨none, (some 17), .mov (.t 19)⟩,
     ⟨none, (some 20), .ext (.t 17) 0⟩,
     ⟨none, (some 21), .ext (.t 17) 1⟩,
     ⟨none, (some 6), .mov (.t 20)⟩,
     ⟨none, (some 7), .mov (.t 21)⟩])
   (.seq
    (.seq
     (.reg [⟨none, (some 22), .mov (.t 7)⟩,
       ⟨none, (some 23), .un .not (.t 22)⟩,
       ⟨none, (some 24), .mov (.t 23)⟩,
       ⟨(some (24, false)), (some 25), .mov (.t 1)⟩,
       ⟨(some (24, false)), (some 26), .len (.t 25)⟩,
       ⟨(some (24, false)), (some 27), .mov (.t 0)⟩,
       ⟨(some (24, false)), (some 28), .len (.t 27)⟩,
       ⟨(some (24, false)), (some 29), .bin .neq (.t 26) (.t 28)⟩,
       ⟨none, (some 30), .pick (.t 24) (.c (.bool true)) (.t 29)⟩])
     (.cond (.t 30)
      (.seq
       (.reg [⟨none, (some 4), .mov (.c (.nils))⟩,
         ⟨none, (some 5), .mov (.c (.int .i64 (2)))⟩])
       (.ret (m 86 48)))
      (.skip)))
    (.seq
     (.reg [⟨none, (some 8), .mov (.c (.int .i64 (0)))⟩])
     (.seq
      (.seq
       (.reg [⟨none, (some 31), .mov (.t 1)⟩,
         ⟨none, (some 32), .len (.t 31)⟩,
         ⟨none, (some 33), .mov (.c (.int .i64 (0)))⟩])
       (.block 0 (m 86 3)
        (F42L0)))
      F42T3))))
def F42 : XF := ⟨2, 86, [.tmp 4, .tmp 5], F42B⟩
def M42 : List (List Bool) := [(m 86 48), (m 86 3), (m 86 15032385795), (m 86 3), (m 86 15032385795), (m 86 48), (m 86 2048), (m 86 1008806316530993155), (m 86 2048), (m 86 1008806316530993155), (m 86 1008806316531009539), (m 86 65572410574514448387), (m 86 1008806316531009539), (m 86 65572410574514448387), (m 86 48)]
def F43L0b : XC :=
 .seq
  (.seq
   (.reg [⟨none, (some 26), .mov (.t 9)⟩,
     ⟨none, (some 27), .mov (.t 0)⟩,
     ⟨none, (some 28), .len (.t 27)⟩,
     ⟨none, (some 29), .bin .lss (.t 26) (.t 28)⟩])
   (.cond (.t 29)
    (.skip)
    (.exit 2 (m 53 451))))
  (.seq
   (.block 3 (m 53 963)
    (.reg [⟨none, (some 32), .mov (.t 8)⟩,
      ⟨none, (some 33), .mov (.t 0)⟩,
      ⟨none, (some 34), .mov (.t 1)⟩,
      ⟨none, (some 35), .mov (.t 7)⟩,
      ⟨none, (some 36), .indexA 1 (.t 34) (.t 35)⟩,
      ⟨none, (some 37), .load none (.t 36)⟩,
      ⟨none, (some 38), .indexA 1 (.t 33) (.t 37)⟩,
      ⟨none, (some 39), .load none (.t 38)⟩,
      ⟨none, (some 40), .mov (.t 1)⟩,
      ⟨none, (some 41), .mov (.t 9)⟩,
      ⟨none, (some 42), .indexA 1 (.t 40) (.t 41)⟩,
      ⟨none, (some 43), .load none (.t 42)⟩,
      ⟨none, (some 44), .indexA 1 (.t 39) (.t 43)⟩,
      ⟨none, (some 45), .load none (.t 44)⟩,
      ⟨none, (some 46), .bslice 1 1 [.int .i64 (0)] [(0, 1, .t 45)]⟩,
      ⟨none, (some 47), .app 1 8 (.t 32) (.t 46)⟩,
      ⟨none, (some 8), .mov (.t 47)⟩]))
   (.reg [⟨none, (some 30), .mov (.t 9)⟩,
     ⟨none, (some 31), .bin .add (.t 30) (.c (.int .i64 (1)))⟩,
     ⟨none, (some 9), .mov (.t 31)⟩]))
def F43L0 : XC := .loop (m 53 963) F43L0b
def F43T0 : XC :=
 .reg [⟨none, (some 48), .mov (.t 6)⟩,
   ⟨none, (some 49), .mov (.t 8)⟩,
   ⟨none, (some 50), .bslice 1 1 [.nils] [(0, 1, .t 49)]⟩,
   ⟨none, (some 51), .app 1 24 (.t 48) (.t 50)⟩,
   ⟨none, (some 6), .mov (.t 51)⟩]
def F43T1 : XC :=
 .reg [⟨none, (some 24), .mov (.t 7)⟩,
   ⟨none, (some 25), .bin .add (.t 24) (.c (.int .i64 (1)))⟩,
   ⟨none, (some 7), .mov (.t 25)⟩]
def F43L1b : XC :=
 .seq
  (.seq
   (.reg [⟨none, (some 20), .mov (.t 7)⟩,
     ⟨none, (some 21), .mov (.t 0)⟩,
     ⟨none, (some 22), .len (.t 21)⟩,
     ⟨none, (some 23), .bin .lss (.t 20) (.t 22)⟩])
   (.cond (.t 23)
    (.skip)
    (.exit 0 (m 53 64))))
  (.seq
   (.block 1 (m 53 195)
    (.seq
     (.reg [⟨none, (some 8), .mov (.c (.nils))⟩])
     (.seq
      (.seq
       (.reg [⟨none, (some 9), .mov (.c (.int .i64 (0)))⟩])
       (.block 2 (m 53 451)
        (F43L0)))
      F43T0)))
   F43T1)
def F43L1 : XC := .loop (m 53 195) F43L1b
def F43T2 : XC :=
 .seq
  (.reg [⟨none, (some 52), .mov (.t 6)⟩,
    ⟨none, (some 4), .mov (.t 52)⟩,
    ⟨none, (some 5), .mov (.c (.int .i64 (0)))⟩])
  (.ret (m 53 48))
def F43B : XC :=
 .seq
  (.reg [⟨none, (some 4), .mov (.c (.nils))⟩,
    ⟨none, (some 5), .mov (.c (.int .i64 (0)))⟩])
  (.seq
   (.seq
    (.reg [⟨none, (some 10), .mov (.t 0)⟩,
      ⟨none, (some 11), .call 1 34 [.t 10]⟩,
      ⟨none, (some 12), .un .not (.t 11)⟩,
      ⟨none, (some 13), .mov (.t 12)⟩,
      ⟨(some (13, false)), (some 14), .mov (.t 0)⟩,
      ⟨(some (13, false)), (some 15), .len (.t 14)⟩,
      ⟨(some (13, false)), (some 16), .mov (.t 1)⟩,
      ⟨(some (13, false)), (some 17), .call 1 45 [.t 15, .t 16]⟩,
      ⟨(some (13, false)), (some 18), .un .not (.t 17)⟩,
      ⟨none, (some 19), .pick (.t 13) (.c (.bool true)) (.t 18)⟩])
    (.cond (.t 19)
     (.seq
      (.reg [⟨none, (some 4), .mov (.c (.nils))⟩,
        ⟨none, (some 5), .mov (.c (.int .i64 (2)))⟩])
      (.ret (m 53 48)))
     (.skip)))
   (.seq
    (.reg [⟨none, (some 6), .mov (.c (.nils))⟩])
    (.seq
     (.seq
      (.reg [⟨none, (some 7), .mov (.c (.int .i64 (0)))⟩])
      (.block 0 (m 53 64)
       (F43L1)))
     F43T2)))
def F43 : XF := ⟨2, 53, [.tmp 4, .tmp 5], F43B⟩
def M43 : List (List Bool) := [(m 53 48), (m 53 64), (m 53 195), (m 53 64), (m 53 195), (m 53 451), (m 53 963), (m 53 451), (m 53 963), (m 53 48)]
def F44L0b : XC :=
 .seq
  (.seq
   (.reg [⟨none, (some 9), .mov (.t 5)⟩,
     ⟨none, (some 10), .mov (.t 0)⟩,
     ⟨none, (some 11), .len (.t 10)⟩,
     ⟨none, (some 12), .bin .lss (.t 9) (.t 11)⟩])
   (.cond (.t 12)
    (.skip)
    (.exit 0 (m 32 0))))
  (.seq
   (.block 1 (m 32 41)
    (.seq
     (.reg [⟨none, (some 15), .mov (.t 0)⟩,
       ⟨none, (some 16), .len (.t 15)⟩,
       ⟨none, (some 17), .mks 1 8 [.int .i64 (0)] (.t 16) (.t 16)⟩,
       ⟨none, (some 18), .build [.nils, .int .i64 (0)] [(0, 1, .t 17), (1, 1, .c (.int .i64 (1)))]⟩,
       ⟨none, (some 6), .alloc [.nils, .int .i64 (0)]⟩,
       ⟨none, none, .store 2 (.t 6) (.t 18)⟩])
     (.seq
      (.reg [⟨none, (some 19), .fieldA 0 (.t 6)⟩,
        ⟨none, (some 20), .load none (.t 19)⟩,
        ⟨none, (some 21), .mov (.t 5)⟩,
        ⟨none, (some 22), .indexA 1 (.t 20) (.t 21)⟩,
        ⟨none, none, .store 1 (.t 22) (.c (.int .i64 (1)))⟩])
      (.seq
       (.reg [⟨none, (some 24), .mov (.t 0)⟩,
         ⟨none, (some 25), .load (some 2) (.t 3)⟩,
         ⟨none, (some 26), .load (some 2) (.t 6)⟩,
         ⟨none, (some 27), .call 1 38 [.t 24, .t 25, .t 26]⟩,
         ⟨none, (some 23), .mov (.t 27)⟩,
         ⟨none, (some 28), .ext (.t 23) 0⟩,
         ⟨none, (some 29), .ext (.t 23) 1⟩,
         ⟨none, (some 7), .alloc [.int .i64 (0), .int .i64 (0)]⟩,
         ⟨none, none, .store 2 (.t 7) (.t 28)⟩,
         ⟨none, (some 8), .mov (.t 29)⟩])
       (.seq
        (.reg [⟨none, (some 30), .mov (.t 8)⟩,
          ⟨none, (some 31), .bin .eql (.t 30) (.c (.int .i64 (9)))⟩])
        (.cond (.t 31)
         (.seq
          (.reg [⟨none, (some 4), .mov (.c (.bool true))⟩])
          (.ret (m 32 16)))
         (.skip)))))))
   (.reg [⟨none, (some 13), .mov (.t 5)⟩,
     ⟨none, (some 14), .bin .add (.t 13) (.c (.int .i64 (1)))⟩,
     ⟨none, (some 5), .mov (.t 14)⟩]))
def F44L0 : XC := .loop (m 32 41) F44L0b
def F44T0 : XC :=
 .seq
  (.reg [⟨none, (some 4), .mov (.c (.bool false))⟩])
  (.ret (m 32 16))
def F44B : XC :=
 .seq
  (.reg [⟨none, (some 3), .box (.t 1)⟩,
    ⟨none, (some 4), .mov (.c (.bool false))⟩])
  (.seq
   (.seq
    (.reg [⟨none, (some 5), .mov (.c (.int .i64 (0)))⟩])
    (.block 0 (m 32 0)
     (F44L0)))
   F44T0)
def F44 : XF := ⟨2, 32, [.tmp 4], F44B⟩
def M44 : List (List Bool) := [(m 32 0), (m 32 41), (m 32 0), (m 32 41), (m 32 16), (m 32 16)]
def F45L0b : XC :=
 .seq
  (.seq
   (.reg [⟨none, (some 7), .mov (.t 6)⟩,
     ⟨none, (some 8), .mov (.t 1)⟩,
     ⟨none, (some 9), .len (.t 8)⟩,
     ⟨none, (some 10), .bin .lss (.t 7) (.t 9)⟩])
   (.cond (.t 10)
    (.skip)
    (.exit 0 (m 47 3))))
  (.seq
   (.block 1 (m 47 99)
    (.seq
     (.seq
      (.reg [⟨none, (some 13), .mov (.t 1)⟩,
        ⟨none, (some 14), .mov (.t 6)⟩,
        ⟨none, (some 15), .indexA 1 (.t 13) (.t 14)⟩,
        ⟨none, (some 16), .load none (.t 15)⟩,
        ⟨none, (some 17), .bin .lss (.t 16) (.c (.int .i64 (0)))⟩,
        ⟨none, (some 18), .mov (.t 17)⟩,
        ⟨(some (18, false)), (some 19), .mov (.t 1)⟩,
        ⟨(some (18, false)), (some 20), .mov (.t 6)⟩,
        ⟨(some (18, false)), (some 21), .indexA 1 (.t 19) (.t 20)⟩,
        ⟨(some (18, false)), (some 22), .load none (.t 21)⟩,
        ⟨(some (18, false)), (some 23), .mov (.t 0)⟩,
        ⟨(some (18, false)), (some 24), .bin .geq (.t 22) (.t 23)⟩,
        ⟨none, (some 25), .pick (.t 18) (.c (.bool true)) (.t 24)⟩,
        ⟨none, (some 26), .mov (.t 25)⟩,
        ⟨(some (26, false)), (some 27), .mov (.t 5)⟩,
        ⟨(some (26, false)), (some 28), .mov (.t 1)⟩,
        ⟨(some (26, false)), (some 29), .mov (.t 6)⟩,
        ⟨(some (26, false)), (some 30), .indexA 1 (.t 28) (.t 29)⟩,
        ⟨(some (26, false)), (some 31), .load none (.t 30)⟩,
        ⟨(some (26, false)), (some 32), .bin .shr (.t 27) (.t 31)⟩,
        ⟨(some (26, false)), (some 33), .bin .rem (.t 32) (.c (.int .i64 (2)))⟩,
        ⟨(some (26, false)), (some 34), .bin .eql (.t 33) (.c (.int .i64 (1)))⟩,
        ⟨none, (some 35), .pick (.t 26) (.c (.bool true)) (.t 34)⟩])
      (.cond (.t 35)
       (.seq
        (.reg [⟨none, (some 4), .mov (.c (.bool false))⟩])
        (.ret (m 47 16)))
       (.skip)))
     (.reg [⟨none, (some 36), .mov (.t 5)⟩,
       ⟨none, (some 37), .mov (.t 1)⟩,
       ⟨none, (some 38), .mov (.t 6)⟩,
       ⟨none, (some 39), .indexA 1 (.t 37) (.t 38)⟩,
       ⟨none, (some 40), .load none (.t 39)⟩,
       ⟨none, (some 41), .bin .shl (.c (.int .i64 (1))) (.t 40)⟩,
       ⟨none, (some 42), .bin .add (.t 36) (.t 41)⟩,
       ⟨none, (some 5), .mov (.t 42)⟩])))
   (.reg [⟨none, (some 11), .mov (.t 6)⟩,
     ⟨none, (some 12), .bin .add (.t 11) (.c (.int .i64 (1)))⟩,
     ⟨none, (some 6), .mov (.t 12)⟩]))
def F45L0 : XC := .loop (m 47 99) F45L0b
def F45T0 : XC :=
 .seq
  (.reg [⟨none, (some 43), .mov (.t 1)⟩,
    ⟨none, (some 44), .len (.t 43)⟩,
    ⟨none, (some 45), .mov (.t 0)⟩,
    ⟨none, (some 46), .bin .eql (.t 44) (.t 45)⟩,
    ⟨none, (some 4), .mov (.t 46)⟩])
  (.ret (m 47 16))
def F45B : XC :=
 .seq
  (.reg [⟨none, (some 4), .mov (.c (.bool false))⟩])
  (.seq
   (.reg [⟨none, (some 5), .mov (.c (.int .i64 (0)))⟩])
   (.seq
    (.seq
     (.reg [⟨none, (some 6), .mov (.c (.int .i64 (0)))⟩])
     (.block 0 (m 47 3)
      (F45L0)))
    F45T0))
def F45 : XF := ⟨2, 47, [.tmp 4], F45B⟩
def M45 : List (List Bool) := [(m 47 3), (m 47 99), (m 47 3), (m 47 99), (m 47 16), (m 47 16)]
def F46L0b : XC :=
 .seq
  (.seq
   (.reg [⟨none, (some 10), .mov (.t 6)⟩,
     ⟨none, (some 11), .mov (.t 1)⟩,
     ⟨none, (some 12), .len (.t 11)⟩,
     ⟨none, (some 13), .bin .lss (.t 10) (.t 12)⟩])
   (.cond (.t 13)
    (.skip)
    (.exit 0 (m 30 48))))
  (.seq
   (.block 1 (m 30 118)
    (.reg [⟨none, (some 16), .fieldA 0 (.t 5)⟩,
      ⟨none, (some 17), .load none (.t 16)⟩,
      ⟨none, (some 18), .fieldA 0 (.t 2)⟩,
      ⟨none, (some 19), .load none (.t 18)⟩,
      ⟨none, (some 20), .mov (.t 1)⟩,
      ⟨none, (some 21), .mov (.t 6)⟩,
      ⟨none, (some 22), .indexA 1 (.t 20) (.t 21)⟩,
      ⟨none, (some 23), .load none (.t 22)⟩,
      ⟨none, (some 24), .indexA 1 (.t 19) (.t 23)⟩,
      ⟨none, (some 25), .load none (.t 24)⟩,
      ⟨none, (some 26), .bslice 1 1 [.int .i64 (0)] [(0, 1, .t 25)]⟩,
      ⟨none, (some 27), .app 1 8 (.t 17) (.t 26)⟩,
      ⟨none, (some 28), .fieldA 0 (.t 5)⟩,
      ⟨none, none, .store 1 (.t 28) (.t 27)⟩]))
   (.reg [⟨none, (some 14), .mov (.t 6)⟩,
     ⟨none, (some 15), .bin .add (.t 14) (.c (.int .i64 (1)))⟩,
     ⟨none, (some 6), .mov (.t 15)⟩]))
def F46L0 : XC := .loop (m 30 118) F46L0b
def F46T0 : XC :=
 .seq
  (.reg [⟨none, (some 29), .load (some 2) (.t 5)⟩,
    ⟨none, none, .store 2 (.t 4) (.t 29)⟩])
  (.ret (m 30 16))
def F46B : XC :=
 .seq
  (.reg [⟨none, (some 2), .box (.t 0)⟩,
    ⟨none, (some 4), .alloc [.nils, .int .i64 (0)]⟩])
  (.seq
   (.reg [⟨none, (some 7), .fieldA 1 (.t 2)⟩,
     ⟨none, (some 8), .load none (.t 7)⟩,
     ⟨none, (some 9), .build [.nils, .int .i64 (0)] [(1, 1, .t 8)]⟩,
     ⟨none, (some 5), .alloc [.nils, .int .i64 (0)]⟩,
     ⟨none, none, .store 2 (.t 5) (.t 9)⟩])
   (.seq
    (.seq
     (.reg [⟨none, (some 6), .mov (.c (.int .i64 (0)))⟩])
     (.block 0 (m 30 48)
      (F46L0)))
    F46T0))
def F46 : XF := ⟨2, 30, [.cell 4 (some 2)], F46B⟩
def M46 : List (List Bool) := [(m 30 48), (m 30 118), (m 30 48), (m 30 118), (m 30 16)]
def F63L0b : XC :=
 .seq
  (.reg [⟨none, (some 14), .bin .lss (.t 13) (.t 12)⟩])
  (.seq
   (.cond (.t 14)
    (.skip)
    (.exit 0 (m 26 0)))
   (.seq
    (.block 1 (m 26 12291)
     (.seq
      (.reg [⟨none, (some 15), .mov (.t 13)⟩,
        ⟨none, (some 5), .mov (.t 15)⟩])
      (.seq
       (.reg [⟨none, (some 16), .mov (.t 0)⟩,
         ⟨none, (some 17), .mov (.t 5)⟩,
         ⟨none, (some 18), .indexA 1 (.t 16) (.t 17)⟩,
         ⟨none, (some 19), .load none (.t 18)⟩,
         ⟨none, (some 20), .mov (.t 1)⟩,
         ⟨none, (some 21), .mov (.t 5)⟩,
         ⟨none, (some 22), .indexA 1 (.t 20) (.t 21)⟩,
         ⟨none, (some 23), .load none (.t 22)⟩,
         ⟨none, (some 24), .bin .neq (.t 19) (.t 23)⟩])
       (.cond (.t 24)
        (.seq
         (.reg [⟨none, (some 4), .mov (.c (.bool false))⟩])
         (.ret (m 26 16)))
        (.skip)))))
    (.reg [⟨none, (some 25), .bin .add (.t 13) (.c (.int .i64 (1)))⟩,
      ⟨none, (some 13), .mov (.t 25)⟩])))
def F63L0 : XC := .loop (m 26 12291) F63L0b
def F63T0 : XC :=
 .seq
  (.reg [⟨none, (some 4), .mov (.c (.bool true))⟩])
  (.ret (m 26 16))
def F63B : XC :=
 .seq
  (.reg [⟨none, (some 4), .mov (.c (.bool false))⟩])
  (.seq
   (.seq
    (.reg [⟨none, (some 6), .mov (.t 0)⟩,
      ⟨none, (some 7), .len (.t 6)⟩,
      ⟨none, (some 8), .mov (.t 1)⟩,
      ⟨none, (some 9), .len (.t 8)⟩,
      ⟨none, (some 10), .bin .neq (.t 7) (.t 9)⟩])
    (.cond (.t 10)
     (.seq
      (.reg [⟨none, (some 4), .mov (.c (.bool false))⟩])
      (.ret (m 26 16)))
     (.skip)))
   (.seq
    (.seq
     (.reg [⟨none, (some 11), .mov (.t 0)⟩,
       ⟨none, (some 12), .len (.t 11)⟩,
       ⟨none, (some 13), .mov (.c (.int .i64 (0)))⟩])
     (.block 0 (m 26 0)
      (F63L0)))
    F63T0))
def F63 : XF := ⟨2, 26, [.tmp 4], F63B⟩
def M63 : List (List Bool) := [(m 26 16), (m 26 0), (m 26 12291), (m 26 0), (m 26 12291), (m 26 16), (m 26 16)]
def F64B : XC :=
 .seq
  (.reg [⟨none, (some 2), .mov (.c (.nils))⟩])
  (.seq
   (.seq
    (.reg [⟨none, (some 3), .mov (.t 0)⟩,
      ⟨none, (some 4), .eqn false (.t 3)⟩])
    (.cond (.t 4)
     (.seq
      (.reg [⟨none, (some 2), .mov (.c (.nils))⟩])
      (.ret (m 8 4)))
     (.skip)))
   (.seq
    (.reg [⟨none, (some 5), .bslice 1 0 [.int .i64 (0)] []⟩,
      ⟨none, (some 6), .mov (.t 0)⟩,
      ⟨none, (some 7), .app 1 8 (.t 5) (.t 6)⟩,
      ⟨none, (some 2), .mov (.t 7)⟩])
    (.ret (m 8 4))))
def F64 : XF := ⟨1, 8, [.tmp 2], F64B⟩
def M64 : List (List Bool) := [(m 8 4), (m 8 4)]
theorem ok6 : compF Go.Proofs.Try.prog md0 true M6 Go.Proofs.Try.f6 = some F6 := by kernel_rfl
theorem ok7 : compF Go.Proofs.Try.prog md0 true M7 Go.Proofs.Try.f7 = some F7 := by kernel_rfl
theorem ok8 : compF Go.Proofs.Try.prog md0 true M8 Go.Proofs.Try.f8 = some F8 := by kernel_rfl
theorem ok9 : compF Go.Proofs.Try.prog md0 true M9 Go.Proofs.Try.f9 = some F9 := by kernel_rfl
theorem ok10 : compF Go.Proofs.Try.prog md0 true M10 Go.Proofs.Try.f10 = some F10 := by kernel_rfl
theorem ok11 : compF Go.Proofs.Try.prog md0 true M11 Go.Proofs.Try.f11 = some F11 := by kernel_rfl
theorem ok12 : compF Go.Proofs.Try.prog md0 true M12 Go.Proofs.Try.f12 = some F12 := by kernel_rfl
theorem ok13 : compF Go.Proofs.Try.prog md0 true M13 Go.Proofs.Try.f13 = some F13 := by kernel_rfl
theorem ok14 : compF Go.Proofs.Try.prog md0 true M14 Go.Proofs.Try.f14 = some F14 := by kernel_rfl
theorem ok35 : compF Go.Proofs.Try.prog md0 true M35 Go.Proofs.Try.f35 = some F35 := by kernel_rfl
theorem ok37 : compF Go.Proofs.Try.prog md0 true M37 Go.Proofs.Try.f37 = some F37 := by kernel_rfl
theorem ok38 : compF Go.Proofs.Try.prog md0 true M38 Go.Proofs.Try.f38 = some F38 := by kernel_rfl
theorem ok39 : compF Go.Proofs.Try.prog md0 true M39 Go.Proofs.Try.f39 = some F39 := by kernel_rfl
theorem ok40 : compF Go.Proofs.Try.prog md0 true M40 Go.Proofs.Try.f40 = some F40 := by kernel_rfl
theorem ok41 : compF Go.Proofs.Try.prog md0 true M41 Go.Proofs.Try.f41 = some F41 := by kernel_rfl
theorem ok42 : compF Go.Proofs.Try.prog md0 true M42 Go.Proofs.Try.f42 = some F42 := by kernel_rfl
theorem ok43 : compF Go.Proofs.Try.prog md0 true M43 Go.Proofs.Try.f43 = some F43 := by kernel_rfl
theorem ok44 : compF Go.Proofs.Try.prog md0 true M44 Go.Proofs.Try.f44 = some F44 := by kernel_rfl
theorem ok45 : compF Go.Proofs.Try.prog md0 true M45 Go.Proofs.Try.f45 = some F45 := by kernel_rfl
theorem ok46 : compF Go.Proofs.Try.prog md0 true M46 Go.Proofs.Try.f46 = some F46 := by kernel_rfl
theorem ok63 : compF Go.Proofs.Try.prog md0 true M63 Go.Proofs.Try.f63 = some F63 := by kernel_rfl
theorem ok64 : compF Go.Proofs.Try.prog md0 true M64 Go.Proofs.Try.f64 = some F64 := by kernel_rfl
def E2 (f : Nat) : Option XF := match f with
  | 6 => some F6
  | 7 => some F7
  | 8 => some F8
  | 9 => some F9
  | 10 => some F10
  | 11 => some F11
  | 12 => some F12
  | 13 => some F13
  | 14 => some F14
  | 35 => some F35
  | 37 => some F37
  | 38 => some F38
  | 39 => some F39
  | 40 => some F40
  | 41 => some F41
  | 42 => some F42
  | 43 => some F43
  | 44 => some F44
  | 45 => some F45
  | 46 => some F46
  | 63 => some F63
  | 64 => some F64
  | _ => E f
section
variable {Y : Run} {fr : List AV} {H : Heap}
theorem in6_0 : codeL E2 Y F6L0 fr H = lp E2 Y F6L0 (keepA (m 161 35345) fr) H := codeL_in rfl
theorem un6_0 : lp E2 Y F6L0 fr H = thenX (codeL E2 Y F6L0b (keepA (m 161 35345) fr) H) (again E2 Y F6L0 (m 161 35345)) := lp_un rfl
theorem call6 {x0 x1 x2 : AV} (_h : 0 = 0) : callL E2 Y 6 [x0, x1, x2] H = endX [.tmp 6] (codeL E2 Y F6B (sp 161 [(2, x2), (1, x1), (0, x0)]) H) := by
  rw [callL_eq (F := F6) rfl rfl, st_in3]; rfl
theorem in7_0 : codeL E2 Y F7L0 fr H = lp E2 Y F7L0 (keepA (m 167 41) fr) H := codeL_in rfl
theorem un7_0 : lp E2 Y F7L0 fr H = thenX (codeL E2 Y F7L0b (keepA (m 167 41) fr) H) (again E2 Y F7L0 (m 167 41)) := lp_un rfl
theorem call7 {x0 x1 : AV} (_h : 0 = 0) : callL E2 Y 7 [x0, x1] H = endX [.tmp 4] (codeL E2 Y F7B (sp 167 [(1, x1), (0, x0)]) H) := by
  rw [callL_eq (F := F7) rfl rfl, st_in2]; rfl
theorem in8_0 : codeL E2 Y F8L0 fr H = lp E2 Y F8L0 (keepA (m 199 133033) fr) H := codeL_in rfl
theorem un8_0 : lp E2 Y F8L0 fr H = thenX (codeL E2 Y F8L0b (keepA (m 199 133033) fr) H) (again E2 Y F8L0 (m 199 133033)) := lp_un rfl
theorem in8_1 : codeL E2 Y F8L1 fr H = lp E2 Y F8L1 (keepA (m 199 937) fr) H := codeL_in rfl
theorem un8_1 : lp E2 Y F8L1 fr H = thenX (codeL E2 Y F8L1b (keepA (m 199 937) fr) H) (again E2 Y F8L1 (m 199 937)) := lp_un rfl
theorem in8_2 : codeL E2 Y F8L2 fr H = lp E2 Y F8L2 (keepA (m 199 3145768) fr) H := codeL_in rfl
theorem un8_2 : lp E2 Y F8L2 fr H = thenX (codeL E2 Y F8L2b (keepA (m 199 3145768) fr) H) (again E2 Y F8L2 (m 199 3145768)) := lp_un rfl
theorem call8 {x0 x1 : AV} (_h : 0 = 0) : callL E2 Y 8 [x0, x1] H = endX [.tmp 4] (codeL E2 Y F8B (sp 199 [(1, x1), (0, x0)]) H) := by
  rw [callL_eq (F := F8) rfl rfl, st_in2]; rfl
theorem call9 {x0 x1 : AV} (_h : 0 = 0) : callL E2 Y 9 [x0, x1] H = endX [.tmp 4] (codeL E2 Y F9B (sp 93 [(1, x1), (0, x0)]) H) := by
  rw [callL_eq (F := F9) rfl rfl, st_in2]; rfl
theorem call10 {x0 x1 x2 : AV} (_h : 0 = 0) : callL E2 Y 10 [x0, x1, x2] H = endX [.tmp 6] (codeL E2 Y F10B (sp 43 [(2, x2), (1, x1), (0, x0)]) H) := by
  rw [callL_eq (F := F10) rfl rfl, st_in3]; rfl
theorem in11_0 : codeL E2 Y F11L0 fr H = lp E2 Y F11L0 (keepA (m 155 57) fr) H := codeL_in rfl
theorem un11_0 : lp E2 Y F11L0 fr H = thenX (codeL E2 Y F11L0b (keepA (m 155 57) fr) H) (again E2 Y F11L0 (m 155 57)) := lp_un rfl
theorem in11_1 : codeL E2 Y F11L1 fr H = lp E2 Y F11L1 (keepA (m 155 25) fr) H := codeL_in rfl
theorem un11_1 : lp E2 Y F11L1 fr H = thenX (codeL E2 Y F11L1b (keepA (m 155 25) fr) H) (again E2 Y F11L1 (m 155 25)) := lp_un rfl
theorem call11 {x0 : AV} (_h : 0 = 0) : callL E2 Y 11 [x0] H = endX [.tmp 2] (codeL E2 Y F11B (sp 155 [(0, x0)]) H) := by
  rw [callL_eq (F := F11) rfl rfl, st_in1]; rfl
theorem call12 {x0 x1 x2 x3 : AV} (_h : 0 = 0) : callL E2 Y 12 [x0, x1, x2, x3] H = endX [.tmp 8] (codeL E2 Y F12B (sp 76 [(3, x3), (2, x2), (1, x1), (0, x0)]) H) := by
  rw [callL_eq (F := F12) rfl rfl, st_in4]; rfl
theorem call13 {x0 x1 x2 : AV} (_h : 0 = 0) : callL E2 Y 13 [x0, x1, x2] H = endX [.tmp 6] (codeL E2 Y F13B (sp 216 [(2, x2), (1, x1), (0, x0)]) H) := by
  rw [callL_eq (F := F13) rfl rfl, st_in3]; rfl
theorem in14_0 : codeL E2 Y F14L0 fr H = lp E2 Y F14L0 (keepA (m 336 2159373321) fr) H := codeL_in rfl
theorem un14_0 : lp E2 Y F14L0 fr H = thenX (codeL E2 Y F14L0b (keepA (m 336 2159373321) fr) H) (again E2 Y F14L0 (m 336 2159373321)) := lp_un rfl
theorem in14_1 : codeL E2 Y F14L1 fr H = lp E2 Y F14L1 (keepA (m 336 1172526358536) fr) H := codeL_in rfl
theorem un14_1 : lp E2 Y F14L1 fr H = thenX (codeL E2 Y F14L1b (keepA (m 336 1172526358536) fr) H) (again E2 Y F14L1 (m 336 1172526358536)) := lp_un rfl
theorem in14_2 : codeL E2 Y F14L2 fr H = lp E2 Y F14L2 (keepA (m 336 15397457780744) fr) H := codeL_in rfl
theorem un14_2 : lp E2 Y F14L2 fr H = thenX (codeL E2 Y F14L2b (keepA (m 336 15397457780744) fr) H) (again E2 Y F14L2 (m 336 15397457780744)) := lp_un rfl
theorem in14_3 : codeL E2 Y F14L3 fr H = lp E2 Y F14L3 (keepA (m 336 2203318247432) fr) H := codeL_in rfl
theorem un14_3 : lp E2 Y F14L3 fr H = thenX (codeL E2 Y F14L3b (keepA (m 336 2203318247432) fr) H) (again E2 Y F14L3 (m 336 2203318247432)) := lp_un rfl
theorem call14 {x0 x1 x2 x3 x4 x5 : AV} (_h : 0 = 0) : callL E2 Y 14 [x0, x1, x2, x3, x4, x5] H = endX [.tmp 12] (codeL E2 Y F14B (sp 336 [(5, x5), (4, x4), (3, x3), (2, x2), (1, x1), (0, x0)]) H) := by
  rw [callL_eq (F := F14) rfl rfl, st_in6]; rfl
theorem in35_0 : codeL E2 Y F35L0 fr H = lp E2 Y F35L0 (keepA (m 40 9) fr) H := codeL_in rfl
theorem un35_0 : lp E2 Y F35L0 fr H = thenX (codeL E2 Y F35L0b (keepA (m 40 9) fr) H) (again E2 Y F35L0 (m 40 9)) := lp_un rfl
theorem call35 {x0 : AV} (_h : 0 = 0) : callL E2 Y 35 [x0] H = endX [.tmp 2] (codeL E2 Y F35B (sp 40 [(0, x0)]) H) := by
  rw [callL_eq (F := F35) rfl rfl, st_in1]; rfl
theorem call37 {x0 x1 : AV} (_h : 0 = 0) : callL E2 Y 37 [x0, x1] H = endX [.tmp 4] (codeL E2 Y F37B (sp 16 [(1, x1), (0, x0)]) H) := by
  rw [callL_eq (F := F37) rfl rfl, st_in2]; rfl
theorem call38 {x0 x1 x2 : AV} (_h : 0 = 0) : callL E2 Y 38 [x0, x1, x2] H = endX [.cell 6 (some 2), .tmp 7] (codeL E2 Y F38B (sp 106 [(2, x2), (1, x1), (0, x0)]) H) := by
  rw [callL_eq (F := F38) rfl rfl, st_in3]; rfl
theorem in39_0 : codeL E2 Y F39L0 fr H = lp E2 Y F39L0 (keepA (m 95 7793) fr) H := codeL_in rfl
theorem un39_0 : lp E2 Y F39L0 fr H = thenX (codeL E2 Y F39L0b (keepA (m 95 7793) fr) H) (again E2 Y F39L0 (m 95 7793)) := lp_un rfl
theorem call39 {x0 x1 x2 : AV} (_h : 0 = 0) : callL E2 Y 39 [x0, x1, x2] H = endX [.cell 6 (some 2), .tmp 7] (codeL E2 Y F39B (sp 95 [(2, x2), (1, x1), (0, x0)]) H) := by
  rw [callL_eq (F := F39) rfl rfl, st_in3]; rfl
theorem in40_0 : codeL E2 Y F40L0 fr H = lp E2 Y F40L0 (keepA (m 71 1924145349638) fr) H := codeL_in rfl
theorem un40_0 : lp E2 Y F40L0 fr H = thenX (codeL E2 Y F40L0b (keepA (m 71 1924145349638) fr) H) (again E2 Y F40L0 (m 71 1924145349638)) := lp_un rfl
theorem call40 {x0 x1 x2 : AV} (_h : 0 = 0) : callL E2 Y 40 [x0, x1, x2] H = endX [.tmp 6, .tmp 7] (codeL E2 Y F40B (sp 71 [(2, x2), (1, x1), (0, x0)]) H) := by
  rw [callL_eq (F := F40) rfl rfl, st_in3]; rfl
theorem in41_0 : codeL E2 Y F41L0 fr H = lp E2 Y F41L0 (keepA (m 59 775) fr) H := codeL_in rfl
theorem un41_0 : lp E2 Y F41L0 fr H = thenX (codeL E2 Y F41L0b (keepA (m 59 775) fr) H) (again E2 Y F41L0 (m 59 775)) := lp_un rfl
theorem call41 {x0 x1 x2 : AV} (_h : 0 = 0) : callL E2 Y 41 [x0, x1, x2] H = endX [.tmp 6, .tmp 7] (codeL E2 Y F41B (sp 59 [(2, x2), (1, x1), (0, x0)]) H) := by
  rw [callL_eq (F := F41) rfl rfl, st_in3]; rfl
theorem in42_0 : codeL E2 Y F42L0 fr H = lp E2 Y F42L0 (keepA (m 86 15032385795) fr) H := codeL_in rfl
theorem un42_0 : lp E2 Y F42L0 fr H = thenX (codeL E2 Y F42L0b (keepA (m 86 15032385795) fr) H) (again E2 Y F42L0 (m 86 15032385795)) := lp_un rfl
theorem in42_1 : codeL E2 Y F42L1 fr H = lp E2 Y F42L1 (keepA (m 86 65572410574514448387) fr) H := codeL_in rfl
theorem un42_1 : lp E2 Y F42L1 fr H = thenX (codeL E2 Y F42L1b (keepA (m 86 65572410574514448387) fr) H) (again E2 Y F42L1 (m 86 65572410574514448387)) := lp_un rfl
theorem in42_2 : codeL E2 Y F42L2 fr H = lp E2 Y F42L2 (keepA (m 86 1008806316530993155) fr) H := codeL_in rfl
theorem un42_2 : lp E2 Y F42L2 fr H = thenX (codeL E2 Y F42L2b (keepA (m 86 1008806316530993155) fr) H) (again E2 Y F42L2 (m 86 1008806316530993155)) := lp_un rfl
theorem call42 {x0 x1 : AV} (_h : 0 = 0) : callL E2 Y 42 [x0, x1] H = endX [.tmp 4, .tmp 5] (codeL E2 Y F42B (sp 86 [(1, x1), (0, x0)]) H) := by
  rw [callL_eq (F := F42) rfl rfl, st_in2]; rfl
theorem in43_0 : codeL E2 Y F43L0 fr H = lp E2 Y F43L0 (keepA (m 53 963) fr) H := codeL_in rfl
theorem un43_0 : lp E2 Y F43L0 fr H = thenX (codeL E2 Y F43L0b (keepA (m 53 963) fr) H) (again E2 Y F43L0 (m 53 963)) := lp_un rfl
theorem in43_1 : codeL E2 Y F43L1 fr H = lp E2 Y F43L1 (keepA (m 53 195) fr) H := codeL_in rfl
theorem un43_1 : lp E2 Y F43L1 fr H = thenX (codeL E2 Y F43L1b (keepA (m 53 195) fr) H) (again E2 Y F43L1 (m 53 195)) := lp_un rfl
theorem call43 {x0 x1 : AV} (_h : 0 = 0) : callL E2 Y 43 [x0, x1] H = endX [.tmp 4, .tmp 5] (codeL E2 Y F43B (sp 53 [(1, x1), (0, x0)]) H) := by
  rw [callL_eq (F := F43) rfl rfl, st_in2]; rfl
theorem in44_0 : codeL E2 Y F44L0 fr H = lp E2 Y F44L0 (keepA (m 32 41) fr) H := codeL_in rfl
theorem un44_0 : lp E2 Y F44L0 fr H = thenX (codeL E2 Y F44L0b (keepA (m 32 41) fr) H) (again E2 Y F44L0 (m 32 41)) := lp_un rfl
theorem call44 {x0 x1 : AV} (_h : 0 = 0) : callL E2 Y 44 [x0, x1] H = endX [.tmp 4] (codeL E2 Y F44B (sp 32 [(1, x1), (0, x0)]) H) := by
  rw [callL_eq (F := F44) rfl rfl, st_in2]; rfl
theorem in45_0 : codeL E2 Y F45L0 fr H = lp E2 Y F45L0 (keepA (m 47 99) fr) H := codeL_in rfl
theorem un45_0 : lp E2 Y F45L0 fr H = thenX (codeL E2 Y F45L0b (keepA (m 47 99) fr) H) (again E2 Y F45L0 (m 47 99)) := lp_un rfl
theorem call45 {x0 x1 : AV} (_h : 0 = 0) : callL E2 Y 45 [x0, x1] H = endX [.tmp 4] (codeL E2 Y F45B (sp 47 [(1, x1), (0, x0)]) H) := by
  rw [callL_eq (F := F45) rfl rfl, st_in2]; rfl
theorem in46_0 : codeL E2 Y F46L0 fr H = lp E2 Y F46L0 (keepA (m 30 118) fr) H := codeL_in rfl
theorem un46_0 : lp E2 Y F46L0 fr H = thenX (codeL E2 Y F46L0b (keepA (m 30 118) fr) H) (again E2 Y F46L0 (m 30 118)) := lp_un rfl
theorem call46 {x0 x1 : AV} (_h : 0 = 0) : callL E2 Y 46 [x0, x1] H = endX [.cell 4 (some 2)] (codeL E2 Y F46B (sp 30 [(1, x1), (0, x0)]) H) := by
  rw [callL_eq (F := F46) rfl rfl, st_in2]; rfl
theorem in63_0 : codeL E2 Y F63L0 fr H = lp E2 Y F63L0 (keepA (m 26 12291) fr) H := codeL_in rfl
theorem un63_0 : lp E2 Y F63L0 fr H = thenX (codeL E2 Y F63L0b (keepA (m 26 12291) fr) H) (again E2 Y F63L0 (m 26 12291)) := lp_un rfl
theorem call63 {x0 x1 : AV} (_h : 0 = 0) : callL E2 Y 63 [x0, x1] H = endX [.tmp 4] (codeL E2 Y F63B (sp 26 [(1, x1), (0, x0)]) H) := by
  rw [callL_eq (F := F63) rfl rfl, st_in2]; rfl
theorem call64 {x0 : AV} (_h : 0 = 0) : callL E2 Y 64 [x0] H = endX [.tmp 2] (codeL E2 Y F64B (sp 8 [(0, x0)]) H) := by
  rw [callL_eq (F := F64) rfl rfl, st_in1]; rfl
end
theorem E2_known : Known Go.Proofs.Try.prog E2 := by
  intro f F h
  unfold E2 at h
  split at h
  · cases h; exact known_one (by kernel_rfl) Go.Proofs.Try.func6 (by decide) ok6
  · cases h; exact known_one (by kernel_rfl) Go.Proofs.Try.func7 (by decide) ok7
  · cases h; exact known_one (by kernel_rfl) Go.Proofs.Try.func8 (by decide) ok8
  · cases h; exact known_one (by kernel_rfl) Go.Proofs.Try.func9 (by decide) ok9
  · cases h; exact known_one (by kernel_rfl) Go.Proofs.Try.func10 (by decide) ok10
  · cases h; exact known_one (by kernel_rfl) Go.Proofs.Try.func11 (by decide) ok11
  · cases h; exact known_one (by kernel_rfl) Go.Proofs.Try.func12 (by decide) ok12
  · cases h; exact known_one (by kernel_rfl) Go.Proofs.Try.func13 (by decide) ok13
  · cases h; exact known_one (by kernel_rfl) Go.Proofs.Try.func14 (by decide) ok14
  · cases h; exact known_one (by kernel_rfl) Go.Proofs.Try.func35 (by decide) ok35
  · cases h; exact known_one (by kernel_rfl) Go.Proofs.Try.func37 (by decide) ok37
  · cases h; exact known_one (by kernel_rfl) Go.Proofs.Try.func38 (by decide) ok38
  · cases h; exact known_one (by kernel_rfl) Go.Proofs.Try.func39 (by decide) ok39
  · cases h; exact known_one (by kernel_rfl) Go.Proofs.Try.func40 (by decide) ok40
  · cases h; exact known_one (by kernel_rfl) Go.Proofs.Try.func41 (by decide) ok41
  · cases h; exact known_one (by kernel_rfl) Go.Proofs.Try.func42 (by decide) ok42
  · cases h; exact known_one (by kernel_rfl) Go.Proofs.Try.func43 (by decide) ok43
  · cases h; exact known_one (by kernel_rfl) Go.Proofs.Try.func44 (by decide) ok44
  · cases h; exact known_one (by kernel_rfl) Go.Proofs.Try.func45 (by decide) ok45
  · cases h; exact known_one (by kernel_rfl) Go.Proofs.Try.func46 (by decide) ok46
  · cases h; exact known_one (by kernel_rfl) Go.Proofs.Try.func63 (by decide) ok63
  · cases h; exact known_one (by kernel_rfl) Go.Proofs.Try.func64 (by decide) ok64
  · exact E_known f F h

/-- The first table lies within the second one. -/
theorem E2_up : ∀ f F, E f = some F → E2 f = some F := by
  intro f F h
  unfold E at h
  split at h
  all_goals first | exact h | cases h
end Go.X
