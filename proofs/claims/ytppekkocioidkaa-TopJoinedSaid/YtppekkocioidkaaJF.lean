import Derived.Test.YtppekkocioidkaaXE
import Derived.Test.YtppekkocioidkaaProg
import Derived.KernelRfl
/-! The functions of the program that are met, as the small machine has them. Printed by a program of our own. -/
namespace Go.X
theorem st_in7 {a0 a1 a2 a3 a4 a5 a6 : AV} {n : Nat} : [a0, a1, a2, a3, a4, a5, a6] ++ List.replicate n .undef = sp (7 + n) [(6, a6), (5, a5), (4, a4), (3, a3), (2, a2), (1, a1), (0, a0)] := by
  apply List.ext_getElem
  · simp [sp]; try omega
  · intro t h1 h2
    rw [st_get]
    match t with
    | 0 => rfl
    | 1 => rfl
    | 2 => rfl
    | 3 => rfl
    | 4 => rfl
    | 5 => rfl
    | 6 => rfl
    | t + 7 => simp [fget]
theorem st_in9 {a0 a1 a2 a3 a4 a5 a6 a7 a8 : AV} {n : Nat} : [a0, a1, a2, a3, a4, a5, a6, a7, a8] ++ List.replicate n .undef = sp (9 + n) [(8, a8), (7, a7), (6, a6), (5, a5), (4, a4), (3, a3), (2, a2), (1, a1), (0, a0)] := by
  apply List.ext_getElem
  · simp [sp]; try omega
  · intro t h1 h2
    rw [st_get]
    match t with
    | 0 => rfl
    | 1 => rfl
    | 2 => rfl
    | 3 => rfl
    | 4 => rfl
    | 5 => rfl
    | 6 => rfl
    | 7 => rfl
    | 8 => rfl
    | t + 9 => simp [fget]
def F3L0b : XC :=
 .seq (.seq (.reg [⟨none, (some 111), .mov (.t 22)⟩,⟨none, (some 112), .mov (.t 14)⟩,⟨none, (some 113), .len (.t 112)⟩,⟨none, (some 114), .bin .lss (.t 111) (.t 113)⟩]) (.cond (.t 114) (.skip) (.exit 0 (m 203 4011521)))) (.seq (.block 1 (m 203 8222209) (.reg [⟨none, (some 117), .mov (.t 21)⟩,⟨none, (some 118), .mov (.t 117)⟩,⟨(some (118, false)), (some 119), .mov (.t 14)⟩,⟨(some (118, false)), (some 120), .mov (.t 22)⟩,⟨(some (118, false)), (some 121), .indexA 1 (.t 119) (.t 120)⟩,⟨(some (118, false)), (some 122), .load none (.t 121)⟩,⟨(some (118, false)), (some 123), .mov (.t 12)⟩,⟨(some (118, false)), (some 124), .bin .shr (.t 122) (.t 123)⟩,⟨(some (118, false)), (some 125), .bin .rem (.t 124) (.c (.int .i64 (2)))⟩,⟨(some (118, false)), (some 126), .bin .eql (.t 125) (.c (.int .i64 (1)))⟩,⟨(some (118, false)), (some 127), .mov (.t 126)⟩,⟨(some (127, true)), (some 128), .mov (.t 14)⟩,⟨(some (127, true)), (some 129), .mov (.t 22)⟩,⟨(some (127, true)), (some 130), .indexA 1 (.t 128) (.t 129)⟩,⟨(some (127, true)), (some 131), .load none (.t 130)⟩,⟨(some (127, true)), (some 132), .mov (.t 13)⟩,⟨(some (127, true)), (some 133), .bin .shr (.t 131) (.t 132)⟩,⟨(some (127, true)), (some 134), .bin .rem (.t 133) (.c (.int .i64 (2)))⟩,⟨(some (127, true)), (some 135), .bin .eql (.t 134) (.c (.int .i64 (1)))⟩,⟨(some (118, false)), (some 136), .pick (.t 127) (.t 135) (.c (.bool false))⟩,⟨none, (some 137), .pick (.t 118) (.c (.bool true)) (.t 136)⟩,⟨none, (some 21), .mov (.t 137)⟩])) (.reg [⟨none, (some 115), .mov (.t 22)⟩,⟨none, (some 116), .bin .add (.t 115) (.c (.int .i64 (1)))⟩,⟨none, (some 22), .mov (.t 116)⟩]))
def F3L0 : XC := .loop (m 203 8222209) F3L0b
def F3T0 : XC :=
 .seq (.seq (.reg [⟨none, (some 138), .mov (.t 16)⟩,⟨none, (some 139), .mov (.t 21)⟩,⟨none, (some 140), .eqb true (.t 138) (.t 139)⟩]) (.cond (.t 140) (.seq (.reg [⟨none, (some 8), .mov (.c (.bool false))⟩]) (.ret (m 203 256))) (.skip))) (.seq (.seq (.reg [⟨none, (some 141), .mov (.t 12)⟩,⟨none, (some 142), .mov (.t 13)⟩,⟨none, (some 143), .bin .eql (.t 141) (.t 142)⟩,⟨none, (some 144), .mov (.t 143)⟩,⟨(some (144, false)), (some 145), .mov (.t 16)⟩,⟨(some (144, false)), (some 146), .un .not (.t 145)⟩,⟨none, (some 147), .pick (.t 144) (.c (.bool true)) (.t 146)⟩]) (.cond (.t 147) (.seq (.reg [⟨none, (some 148), .mov (.t 20)⟩,⟨none, (some 149), .bin .eql (.t 148) (.c (.int .i64 (10)))⟩,⟨none, (some 150), .mov (.t 149)⟩,⟨(some (150, true)), (some 151), .call 1 5 []⟩,⟨none, (some 152), .pick (.t 150) (.t 151) (.c (.bool false))⟩,⟨none, (some 8), .mov (.t 152)⟩]) (.ret (m 203 256))) (.skip))) (.seq (.reg [⟨none, (some 153), .mov (.t 20)⟩,⟨none, (some 154), .bin .eql (.t 153) (.c (.int .i64 (0)))⟩,⟨none, (some 155), .mov (.t 154)⟩,⟨(some (155, true)), (some 156), .mov (.t 18)⟩,⟨(some (155, true)), (some 157), .bin .geq (.t 156) (.c (.int .i64 (1)))⟩,⟨none, (some 158), .pick (.t 155) (.t 157) (.c (.bool false))⟩,⟨none, (some 159), .mov (.t 158)⟩,⟨(some (159, true)), (some 160), .mov (.t 18)⟩,⟨(some (159, true)), (some 161), .mov (.t 9)⟩,⟨(some (159, true)), (some 162), .bin .lss (.t 160) (.t 161)⟩,⟨none, (some 163), .pick (.t 159) (.t 162) (.c (.bool false))⟩,⟨none, (some 164), .mov (.t 163)⟩,⟨(some (164, true)), (some 165), .mov (.t 19)⟩,⟨(some (164, true)), (some 166), .bin .geq (.t 165) (.c (.int .i64 (1)))⟩,⟨none, (some 167), .pick (.t 164) (.t 166) (.c (.bool false))⟩,⟨none, (some 168), .mov (.t 167)⟩,⟨(some (168, true)), (some 169), .mov (.t 19)⟩,⟨(some (168, true)), (some 170), .mov (.t 0)⟩,⟨(some (168, true)), (some 171), .mov (.t 12)⟩,⟨(some (168, true)), (some 172), .indexA 1 (.t 170) (.t 171)⟩,⟨(some (168, true)), (some 173), .load none (.t 172)⟩,⟨(some (168, true)), (some 174), .mov (.t 10)⟩,⟨(some (168, true)), (some 175), .bin .andNot (.t 173) (.t 174)⟩,⟨(some (168, true)), (some 176), .call 1 10 [.t 175]⟩,⟨(some (168, true)), (some 177), .mov (.t 0)⟩,⟨(some (168, true)), (some 178), .mov (.t 13)⟩,⟨(some (168, true)), (some 179), .indexA 1 (.t 177) (.t 178)⟩,⟨(some (168, true)), (some 180), .load none (.t 179)⟩,⟨(some (168, true)), (some 181), .mov (.t 10)⟩,⟨(some (168, true)), (some 182), .bin .andNot (.t 180) (.t 181)⟩,⟨(some (168, true)), (some 183), .call 1 10 [.t 182]⟩,⟨(some (168, true)), (some 184), .mnx false [.t 176, .t 183]⟩,⟨(some (168, true)), (some 185), .bin .leq (.t 169) (.t 184)⟩,⟨none, (some 186), .pick (.t 168) (.t 185) (.c (.bool false))⟩,⟨none, (some 187), .mov (.t 186)⟩,⟨(some (187, true)), (some 188), .mov (.t 18)⟩,⟨(some (187, true)), (some 189), .bin .eql (.t 188) (.c (.int .i64 (1)))⟩,⟨(some (187, true)), (some 190), .mov (.t 0)⟩,⟨(some (187, true)), (some 191), .mov (.t 12)⟩,⟨(some (187, true)), (some 192), .indexA 1 (.t 190) (.t 191)⟩,⟨(some (187, true)), (some 193), .load none (.t 192)⟩,⟨(some (187, true)), (some 194), .mov (.t 13)⟩,⟨(some (187, true)), (some 195), .bin .shr (.t 193) (.t 194)⟩,⟨(some (187, true)), (some 196), .bin .rem (.t 195) (.c (.int .i64 (2)))⟩,⟨(some (187, true)), (some 197), .bin .eql (.t 196) (.c (.int .i64 (1)))⟩,⟨(some (187, true)), (some 198), .eqb false (.t 189) (.t 197)⟩,⟨none, (some 199), .pick (.t 187) (.t 198) (.c (.bool false))⟩,⟨none, (some 200), .mov (.t 199)⟩,⟨(some (200, true)), (some 201), .call 1 5 []⟩,⟨none, (some 202), .pick (.t 200) (.t 201) (.c (.bool false))⟩,⟨none, (some 8), .mov (.t 202)⟩]) (.ret (m 203 256))))
def F3B : XC :=
 .seq (.reg [⟨none, (some 8), .mov (.c (.bool false))⟩]) (.seq (.seq (.reg [⟨none, (some 23), .mov (.t 0)⟩,⟨none, (some 24), .len (.t 23)⟩,⟨none, (some 25), .bin .gtr (.t 24) (.c (.int .i64 (40)))⟩,⟨none, (some 26), .mov (.t 25)⟩,⟨(some (26, false)), (some 27), .mov (.t 0)⟩,⟨(some (26, false)), (some 28), .call 1 4 [.t 27]⟩,⟨(some (26, false)), (some 29), .un .not (.t 28)⟩,⟨none, (some 30), .pick (.t 26) (.c (.bool true)) (.t 29)⟩,⟨none, (some 31), .mov (.t 30)⟩,⟨(some (31, false)), (some 32), .mov (.t 0)⟩,⟨(some (31, false)), (some 33), .len (.t 32)⟩,⟨(some (31, false)), (some 34), .bin .lss (.t 33) (.c (.int .i64 (2)))⟩,⟨none, (some 35), .pick (.t 31) (.c (.bool true)) (.t 34)⟩,⟨none, (some 36), .mov (.t 35)⟩,⟨(some (36, false)), (some 37), .mov (.t 0)⟩,⟨(some (36, false)), (some 38), .len (.t 37)⟩,⟨(some (36, false)), (some 39), .bin .gtr (.t 38) (.c (.int .i64 (8)))⟩,⟨none, (some 40), .pick (.t 36) (.c (.bool true)) (.t 39)⟩]) (.cond (.t 40) (.seq (.reg [⟨none, (some 41), .call 1 5 []⟩,⟨none, (some 8), .mov (.t 41)⟩]) (.ret (m 203 256))) (.skip))) (.seq (.reg [⟨none, (some 42), .mov (.t 0)⟩,⟨none, (some 43), .len (.t 42)⟩,⟨none, (some 9), .mov (.t 43)⟩]) (.seq (.reg [⟨none, (some 44), .mov (.t 1)⟩,⟨none, (some 45), .conv .i64 (.t 44)⟩,⟨none, (some 46), .mov (.t 9)⟩,⟨none, (some 47), .bin .shl (.c (.int .i64 (1))) (.t 46)⟩,⟨none, (some 48), .bin .rem (.t 45) (.t 47)⟩,⟨none, (some 10), .mov (.t 48)⟩]) (.seq (.reg [⟨none, (some 49), .mov (.t 0)⟩,⟨none, (some 50), .mov (.t 10)⟩,⟨none, (some 51), .call 1 6 [.t 49, .t 50]⟩,⟨none, (some 11), .mov (.t 51)⟩]) (.seq (.reg [⟨none, (some 52), .mov (.t 2)⟩,⟨none, (some 53), .conv .i64 (.t 52)⟩,⟨none, (some 54), .mov (.t 9)⟩,⟨none, (some 55), .bin .rem (.t 53) (.t 54)⟩,⟨none, (some 56), .mov (.t 3)⟩,⟨none, (some 57), .conv .i64 (.t 56)⟩,⟨none, (some 58), .mov (.t 9)⟩,⟨none, (some 59), .bin .rem (.t 57) (.t 58)⟩,⟨none, (some 12), .mov (.t 55)⟩,⟨none, (some 13), .mov (.t 59)⟩]) (.seq (.seq (.reg [⟨none, (some 60), .mov (.t 11)⟩,⟨none, (some 61), .len (.t 60)⟩,⟨none, (some 62), .bin .gtr (.t 61) (.c (.int .i64 (13)))⟩,⟨none, (some 63), .mov (.t 62)⟩,⟨(some (63, false)), (some 64), .mov (.t 10)⟩,⟨(some (63, false)), (some 65), .mov (.t 12)⟩,⟨(some (63, false)), (some 66), .bin .shr (.t 64) (.t 65)⟩,⟨(some (63, false)), (some 67), .bin .rem (.t 66) (.c (.int .i64 (2)))⟩,⟨(some (63, false)), (some 68), .bin .eql (.t 67) (.c (.int .i64 (1)))⟩,⟨none, (some 69), .pick (.t 63) (.c (.bool true)) (.t 68)⟩,⟨none, (some 70), .mov (.t 69)⟩,⟨(some (70, false)), (some 71), .mov (.t 10)⟩,⟨(some (70, false)), (some 72), .mov (.t 13)⟩,⟨(some (70, false)), (some 73), .bin .shr (.t 71) (.t 72)⟩,⟨(some (70, false)), (some 74), .bin .rem (.t 73) (.c (.int .i64 (2)))⟩,⟨(some (70, false)), (some 75), .bin .eql (.t 74) (.c (.int .i64 (1)))⟩,⟨none, (some 76), .pick (.t 70) (.c (.bool true)) (.t 75)⟩]) (.cond (.t 76) (.seq (.reg [⟨none, (some 77), .call 1 5 []⟩,⟨none, (some 8), .mov (.t 77)⟩]) (.ret (m 203 256))) (.skip))) (.seq (.reg [⟨none, (some 79), .mov (.t 0)⟩,⟨none, (some 80), .mov (.t 10)⟩,⟨none, (some 81), .call 1 7 [.t 79, .t 80]⟩,⟨none, (some 78), .mov (.t 81)⟩,⟨none, (some 82), .ext (.t 78) 0⟩,⟨none, (some 83), .ext (.t 78) 1⟩,⟨none, (some 14), .mov (.t 82)⟩,⟨none, (some 15), .mov (.t 83)⟩]) (.seq (.reg [⟨none, (some 85), .mov (.t 9)⟩,⟨none, (some 86), .mov (.t 11)⟩,⟨none, (some 87), .mov (.t 11)⟩,⟨none, (some 88), .len (.t 87)⟩,⟨none, (some 89), .bin .shl (.c (.int .i64 (1))) (.t 88)⟩,⟨none, (some 90), .bin .sub (.t 89) (.c (.int .i64 (1)))⟩,⟨none, (some 91), .mov (.t 12)⟩,⟨none, (some 92), .mov (.t 13)⟩,⟨none, (some 93), .call 1 8 [.t 85, .t 86, .t 90, .t 91, .t 92]⟩,⟨none, (some 84), .mov (.t 93)⟩,⟨none, (some 94), .ext (.t 84) 0⟩,⟨none, (some 95), .ext (.t 84) 1⟩,⟨none, (some 16), .mov (.t 94)⟩,⟨none, (some 17), .mov (.t 95)⟩]) (.seq (.reg [⟨none, (some 97), .mov (.t 9)⟩,⟨none, (some 98), .mov (.t 11)⟩,⟨none, (some 99), .mov (.t 12)⟩,⟨none, (some 100), .mov (.t 13)⟩,⟨none, (some 101), .call 1 9 [.t 97, .t 98, .t 99, .t 100]⟩,⟨none, (some 96), .mov (.t 101)⟩,⟨none, (some 102), .ext (.t 96) 0⟩,⟨none, (some 103), .ext (.t 96) 1⟩,⟨none, (some 104), .ext (.t 96) 2⟩,⟨none, (some 18), .mov (.t 102)⟩,⟨none, (some 19), .mov (.t 103)⟩,⟨none, (some 20), .mov (.t 104)⟩]) (.seq (.seq (.reg [⟨none, (some 105), .mov (.t 15)⟩,⟨none, (some 106), .bin .neq (.t 105) (.c (.int .i64 (0)))⟩,⟨none, (some 107), .mov (.t 106)⟩,⟨(some (107, false)), (some 108), .mov (.t 17)⟩,⟨(some (107, false)), (some 109), .bin .neq (.t 108) (.c (.int .i64 (0)))⟩,⟨none, (some 110), .pick (.t 107) (.c (.bool true)) (.t 109)⟩]) (.cond (.t 110) (.seq (.reg [⟨none, (some 8), .mov (.c (.bool false))⟩]) (.ret (m 203 256))) (.skip))) (.seq (.reg [⟨none, (some 21), .mov (.c (.bool false))⟩]) (.seq (.seq (.reg [⟨none, (some 22), .mov (.c (.int .i64 (0)))⟩]) (.block 0 (m 203 4011521) (F3L0)))
 F3T0))))))))))))
def F3 : XF := ⟨4, 203, [.tmp 8], F3B⟩
def M3 : List (List Bool) := [(m 203 256), (m 203 256), (m 203 256), (m 203 4011521), (m 203 8222209), (m 203 4011521), (m 203 8222209), (m 203 256), (m 203 256), (m 203 256)]
def F4L0b : XC :=
 .seq (.seq (.reg [⟨none, (some 15), .mov (.t 4)⟩,⟨none, (some 16), .mov (.t 3)⟩,⟨none, (some 17), .bin .lss (.t 15) (.t 16)⟩]) (.cond (.t 17) (.skip) (.exit 0 (m 69 9)))) (.seq (.block 1 (m 69 25) (.seq (.reg [⟨none, (some 20), .mov (.t 0)⟩,⟨none, (some 21), .mov (.t 4)⟩,⟨none, (some 22), .indexA 1 (.t 20) (.t 21)⟩,⟨none, (some 23), .load none (.t 22)⟩,⟨none, (some 24), .bin .lss (.t 23) (.c (.int .i64 (0)))⟩,⟨none, (some 25), .mov (.t 24)⟩,⟨(some (25, false)), (some 26), .mov (.t 0)⟩,⟨(some (25, false)), (some 27), .mov (.t 4)⟩,⟨(some (25, false)), (some 28), .indexA 1 (.t 26) (.t 27)⟩,⟨(some (25, false)), (some 29), .load none (.t 28)⟩,⟨(some (25, false)), (some 30), .mov (.t 3)⟩,⟨(some (25, false)), (some 31), .bin .shl (.c (.int .i64 (1))) (.t 30)⟩,⟨(some (25, false)), (some 32), .bin .geq (.t 29) (.t 31)⟩,⟨none, (some 33), .pick (.t 25) (.c (.bool true)) (.t 32)⟩,⟨none, (some 34), .mov (.t 33)⟩,⟨(some (34, false)), (some 35), .mov (.t 0)⟩,⟨(some (34, false)), (some 36), .mov (.t 4)⟩,⟨(some (34, false)), (some 37), .indexA 1 (.t 35) (.t 36)⟩,⟨(some (34, false)), (some 38), .load none (.t 37)⟩,⟨(some (34, false)), (some 39), .mov (.t 4)⟩,⟨(some (34, false)), (some 40), .bin .shr (.t 38) (.t 39)⟩,⟨(some (34, false)), (some 41), .bin .rem (.t 40) (.c (.int .i64 (2)))⟩,⟨(some (34, false)), (some 42), .bin .eql (.t 41) (.c (.int .i64 (1)))⟩,⟨none, (some 43), .pick (.t 34) (.c (.bool true)) (.t 42)⟩]) (.cond (.t 43) (.seq (.reg [⟨none, (some 2), .mov (.c (.bool false))⟩]) (.ret (m 69 4))) (.skip)))) (.reg [⟨none, (some 18), .mov (.t 4)⟩,⟨none, (some 19), .bin .add (.t 18) (.c (.int .i64 (1)))⟩,⟨none, (some 4), .mov (.t 19)⟩]))
def F4L0 : XC := .loop (m 69 25) F4L0b
def F4L1b : XC :=
 .seq (.seq (.reg [⟨none, (some 49), .mov (.t 6)⟩,⟨none, (some 50), .mov (.t 3)⟩,⟨none, (some 51), .bin .lss (.t 49) (.t 50)⟩]) (.cond (.t 51) (.skip) (.exit 4 (m 69 41)))) (.seq (.block 5 (m 69 105) (.seq (.reg [⟨none, (some 54), .mov (.t 0)⟩,⟨none, (some 55), .mov (.t 5)⟩,⟨none, (some 56), .indexA 1 (.t 54) (.t 55)⟩,⟨none, (some 57), .load none (.t 56)⟩,⟨none, (some 58), .mov (.t 6)⟩,⟨none, (some 59), .bin .shr (.t 57) (.t 58)⟩,⟨none, (some 60), .bin .rem (.t 59) (.c (.int .i64 (2)))⟩,⟨none, (some 61), .mov (.t 0)⟩,⟨none, (some 62), .mov (.t 6)⟩,⟨none, (some 63), .indexA 1 (.t 61) (.t 62)⟩,⟨none, (some 64), .load none (.t 63)⟩,⟨none, (some 65), .mov (.t 5)⟩,⟨none, (some 66), .bin .shr (.t 64) (.t 65)⟩,⟨none, (some 67), .bin .rem (.t 66) (.c (.int .i64 (2)))⟩,⟨none, (some 68), .bin .neq (.t 60) (.t 67)⟩]) (.cond (.t 68) (.seq (.reg [⟨none, (some 2), .mov (.c (.bool false))⟩]) (.ret (m 69 4))) (.skip)))) (.reg [⟨none, (some 52), .mov (.t 6)⟩,⟨none, (some 53), .bin .add (.t 52) (.c (.int .i64 (1)))⟩,⟨none, (some 6), .mov (.t 53)⟩]))
def F4L1 : XC := .loop (m 69 105) F4L1b
def F4T0 : XC :=
 .reg [⟨none, (some 47), .mov (.t 5)⟩,⟨none, (some 48), .bin .add (.t 47) (.c (.int .i64 (1)))⟩,⟨none, (some 5), .mov (.t 48)⟩]
def F4L2b : XC :=
 .seq (.seq (.reg [⟨none, (some 44), .mov (.t 5)⟩,⟨none, (some 45), .mov (.t 3)⟩,⟨none, (some 46), .bin .lss (.t 44) (.t 45)⟩]) (.cond (.t 46) (.skip) (.exit 2 (m 69 0)))) (.seq (.block 3 (m 69 41) (.seq (.reg [⟨none, (some 6), .mov (.c (.int .i64 (0)))⟩]) (.block 4 (m 69 41) (F4L1))))
 F4T0)
def F4L2 : XC := .loop (m 69 41) F4L2b
def F4T1 : XC :=
 .seq (.reg [⟨none, (some 2), .mov (.c (.bool true))⟩]) (.ret (m 69 4))
def F4T2 : XC :=
 .seq (.seq (.reg [⟨none, (some 5), .mov (.c (.int .i64 (0)))⟩]) (.block 2 (m 69 0) (F4L2)))
 F4T1
def F4B : XC :=
 .seq (.reg [⟨none, (some 2), .mov (.c (.bool false))⟩]) (.seq (.reg [⟨none, (some 7), .mov (.t 0)⟩,⟨none, (some 8), .len (.t 7)⟩,⟨none, (some 3), .mov (.t 8)⟩]) (.seq (.seq (.reg [⟨none, (some 9), .mov (.t 3)⟩,⟨none, (some 10), .bin .lss (.t 9) (.c (.int .i64 (1)))⟩,⟨none, (some 11), .mov (.t 10)⟩,⟨(some (11, false)), (some 12), .mov (.t 3)⟩,⟨(some (11, false)), (some 13), .bin .gtr (.t 12) (.c (.int .i64 (10)))⟩,⟨none, (some 14), .pick (.t 11) (.c (.bool true)) (.t 13)⟩]) (.cond (.t 14) (.seq (.reg [⟨none, (some 2), .mov (.c (.bool false))⟩]) (.ret (m 69 4))) (.skip))) (.seq (.seq (.reg [⟨none, (some 4), .mov (.c (.int .i64 (0)))⟩]) (.block 0 (m 69 9) (F4L0)))
 F4T2)))
def F4 : XF := ⟨1, 69, [.tmp 2], F4B⟩
def M4 : List (List Bool) := [(m 69 4), (m 69 9), (m 69 25), (m 69 9), (m 69 25), (m 69 4), (m 69 0), (m 69 41), (m 69 0), (m 69 41), (m 69 41), (m 69 105), (m 69 41), (m 69 105), (m 69 4), (m 69 4)]
def F5B : XC :=
 .seq (.reg [⟨none, (some 0), .mov (.c (.bool false))⟩]) (.seq (.reg [⟨none, (some 6), .bslice 1 3 [.int .i64 (0)] [(0, 1, .c (.int .i64 (2))), (1, 1, .c (.int .i64 (5))), (2, 1, .c (.int .i64 (2)))]⟩,⟨none, (some 7), .call 1 7 [.t 6, .c (.int .i64 (2))]⟩,⟨none, (some 5), .mov (.t 7)⟩,⟨none, (some 8), .ext (.t 5) 0⟩,⟨none, (some 9), .ext (.t 5) 1⟩,⟨none, (some 1), .mov (.t 8)⟩,⟨none, (some 2), .mov (.t 9)⟩]) (.seq (.reg [⟨none, (some 11), .build [.int .i64 (0), .int .i64 (0)] [(0, 1, .c (.int .i64 (0))), (1, 1, .c (.int .i64 (1)))]⟩,⟨none, (some 12), .build [.int .i64 (0), .int .i64 (0)] [(0, 1, .c (.int .i64 (1))), (1, 1, .c (.int .i64 (2)))]⟩,⟨none, (some 13), .bslice 2 2 [.int .i64 (0), .int .i64 (0)] [(0, 2, .t 11), (2, 2, .t 12)]⟩,⟨none, (some 14), .call 1 8 [.c (.int .i64 (3)), .t 13, .c (.int .i64 (3)), .c (.int .i64 (0)), .c (.int .i64 (2))]⟩,⟨none, (some 10), .mov (.t 14)⟩,⟨none, (some 15), .ext (.t 10) 0⟩,⟨none, (some 16), .ext (.t 10) 1⟩,⟨none, (some 3), .mov (.t 15)⟩,⟨none, (some 4), .mov (.t 16)⟩]) (.seq (.reg [⟨none, (some 17), .mov (.t 2)⟩,⟨none, (some 18), .bin .eql (.t 17) (.c (.int .i64 (0)))⟩,⟨none, (some 19), .mov (.t 18)⟩,⟨(some (19, true)), (some 20), .mov (.t 1)⟩,⟨(some (19, true)), (some 21), .len (.t 20)⟩,⟨(some (19, true)), (some 22), .bin .eql (.t 21) (.c (.int .i64 (2)))⟩,⟨none, (some 23), .pick (.t 19) (.t 22) (.c (.bool false))⟩,⟨none, (some 24), .mov (.t 23)⟩,⟨(some (24, true)), (some 25), .mov (.t 1)⟩,⟨(some (24, true)), (some 26), .indexA 1 (.t 25) (.c (.int .i64 (0)))⟩,⟨(some (24, true)), (some 27), .load none (.t 26)⟩,⟨(some (24, true)), (some 28), .bin .eql (.t 27) (.c (.int .i64 (1)))⟩,⟨none, (some 29), .pick (.t 24) (.t 28) (.c (.bool false))⟩,⟨none, (some 30), .mov (.t 29)⟩,⟨(some (30, true)), (some 31), .mov (.t 1)⟩,⟨(some (30, true)), (some 32), .indexA 1 (.t 31) (.c (.int .i64 (1)))⟩,⟨(some (30, true)), (some 33), .load none (.t 32)⟩,⟨(some (30, true)), (some 34), .bin .eql (.t 33) (.c (.int .i64 (4)))⟩,⟨none, (some 35), .pick (.t 30) (.t 34) (.c (.bool false))⟩,⟨none, (some 36), .mov (.t 35)⟩,⟨(some (36, true)), (some 37), .mov (.t 4)⟩,⟨(some (36, true)), (some 38), .bin .eql (.t 37) (.c (.int .i64 (0)))⟩,⟨none, (some 39), .pick (.t 36) (.t 38) (.c (.bool false))⟩,⟨none, (some 40), .mov (.t 39)⟩,⟨(some (40, true)), (some 41), .mov (.t 3)⟩,⟨none, (some 42), .pick (.t 40) (.t 41) (.c (.bool false))⟩,⟨none, (some 0), .mov (.t 42)⟩]) (.ret (m 43 1)))))
def F5 : XF := ⟨0, 43, [.tmp 0], F5B⟩
def M5 : List (List Bool) := [(m 43 1)]
def F6L0b : XC :=
 .seq (.seq (.reg [⟨none, (some 14), .mov (.t 7)⟩,⟨none, (some 15), .mov (.t 6)⟩,⟨none, (some 16), .bin .lss (.t 14) (.t 15)⟩]) (.cond (.t 16) (.skip) (.exit 2 (m 48 99)))) (.seq (.block 3 (m 48 227) (.seq (.reg [⟨none, (some 19), .mov (.t 0)⟩,⟨none, (some 20), .mov (.t 6)⟩,⟨none, (some 21), .indexA 1 (.t 19) (.t 20)⟩,⟨none, (some 22), .load none (.t 21)⟩,⟨none, (some 23), .mov (.t 7)⟩,⟨none, (some 24), .bin .shr (.t 22) (.t 23)⟩,⟨none, (some 25), .bin .rem (.t 24) (.c (.int .i64 (2)))⟩,⟨none, (some 26), .bin .eql (.t 25) (.c (.int .i64 (1)))⟩,⟨none, (some 27), .mov (.t 26)⟩,⟨(some (27, true)), (some 28), .mov (.t 1)⟩,⟨(some (27, true)), (some 29), .mov (.t 6)⟩,⟨(some (27, true)), (some 30), .bin .shr (.t 28) (.t 29)⟩,⟨(some (27, true)), (some 31), .bin .rem (.t 30) (.c (.int .i64 (2)))⟩,⟨(some (27, true)), (some 32), .bin .eql (.t 31) (.c (.int .i64 (0)))⟩,⟨none, (some 33), .pick (.t 27) (.t 32) (.c (.bool false))⟩,⟨none, (some 34), .mov (.t 33)⟩,⟨(some (34, true)), (some 35), .mov (.t 1)⟩,⟨(some (34, true)), (some 36), .mov (.t 7)⟩,⟨(some (34, true)), (some 37), .bin .shr (.t 35) (.t 36)⟩,⟨(some (34, true)), (some 38), .bin .rem (.t 37) (.c (.int .i64 (2)))⟩,⟨(some (34, true)), (some 39), .bin .eql (.t 38) (.c (.int .i64 (0)))⟩,⟨none, (some 40), .pick (.t 34) (.t 39) (.c (.bool false))⟩]) (.cond (.t 40) (.reg [⟨none, (some 41), .mov (.t 5)⟩,⟨none, (some 42), .mov (.t 7)⟩,⟨none, (some 43), .mov (.t 6)⟩,⟨none, (some 44), .build [.int .i64 (0), .int .i64 (0)] [(0, 1, .t 42), (1, 1, .t 43)]⟩,⟨none, (some 45), .bslice 2 1 [.int .i64 (0), .int .i64 (0)] [(0, 2, .t 44)]⟩,⟨none, (some 46), .app 2 16 (.t 41) (.t 45)⟩,⟨none, (some 5), .mov (.t 46)⟩]) (.skip)))) (.reg [⟨none, (some 17), .mov (.t 7)⟩,⟨none, (some 18), .bin .add (.t 17) (.c (.int .i64 (1)))⟩,⟨none, (some 7), .mov (.t 18)⟩]))
def F6L0 : XC := .loop (m 48 227) F6L0b
def F6T0 : XC :=
 .reg [⟨none, (some 12), .mov (.t 6)⟩,⟨none, (some 13), .bin .add (.t 12) (.c (.int .i64 (1)))⟩,⟨none, (some 6), .mov (.t 13)⟩]
def F6L1b : XC :=
 .seq (.seq (.reg [⟨none, (some 8), .mov (.t 6)⟩,⟨none, (some 9), .mov (.t 0)⟩,⟨none, (some 10), .len (.t 9)⟩,⟨none, (some 11), .bin .lss (.t 8) (.t 10)⟩]) (.cond (.t 11) (.skip) (.exit 0 (m 48 32)))) (.seq (.block 1 (m 48 99) (.seq (.reg [⟨none, (some 7), .mov (.c (.int .i64 (0)))⟩]) (.block 2 (m 48 99) (F6L0))))
 F6T0)
def F6L1 : XC := .loop (m 48 99) F6L1b
def F6T1 : XC :=
 .seq (.reg [⟨none, (some 47), .mov (.t 5)⟩,⟨none, (some 4), .mov (.t 47)⟩]) (.ret (m 48 16))
def F6B : XC :=
 .seq (.reg [⟨none, (some 4), .mov (.c (.nils))⟩]) (.seq (.reg [⟨none, (some 5), .mov (.c (.nils))⟩]) (.seq (.seq (.reg [⟨none, (some 6), .mov (.c (.int .i64 (0)))⟩]) (.block 0 (m 48 32) (F6L1)))
 F6T1))
def F6 : XF := ⟨2, 48, [.tmp 4], F6B⟩
def M6 : List (List Bool) := [(m 48 32), (m 48 99), (m 48 32), (m 48 99), (m 48 99), (m 48 227), (m 48 99), (m 48 227), (m 48 16)]
def F7B : XC :=
 .seq (.reg [⟨none, (some 4), .mov (.c (.nils))⟩,⟨none, (some 5), .mov (.c (.int .i64 (0)))⟩]) (.seq (.reg [⟨none, (some 9), .mov (.t 0)⟩,⟨none, (some 10), .mov (.t 1)⟩,⟨none, (some 11), .call 0 11 [.t 9, .t 10]⟩,⟨none, (some 8), .mov (.t 11)⟩,⟨none, (some 12), .ext (.t 8) 0⟩,⟨none, (some 13), .ext (.t 8) 1⟩,⟨none, (some 6), .mov (.t 12)⟩,⟨none, (some 7), .mov (.t 13)⟩]) (.seq (.seq (.reg [⟨none, (some 14), .mov (.t 7)⟩,⟨none, (some 15), .un .not (.t 14)⟩]) (.cond (.t 15) (.seq (.reg [⟨none, (some 4), .mov (.c (.nils))⟩,⟨none, (some 5), .mov (.c (.int .i64 (2)))⟩]) (.ret (m 19 48))) (.skip))) (.seq (.reg [⟨none, (some 16), .mov (.t 6)⟩,⟨none, (some 17), .mov (.t 1)⟩,⟨none, (some 18), .call 1 12 [.t 16, .t 17]⟩,⟨none, (some 4), .mov (.t 18)⟩,⟨none, (some 5), .mov (.c (.int .i64 (0)))⟩]) (.ret (m 19 48)))))
def F7 : XF := ⟨2, 19, [.tmp 4, .tmp 5], F7B⟩
def M7 : List (List Bool) := [(m 19 48), (m 19 48)]
def F8B : XC :=
 .seq (.reg [⟨none, (some 10), .mov (.c (.bool false))⟩,⟨none, (some 11), .mov (.c (.int .i64 (0)))⟩]) (.seq (.reg [⟨none, (some 15), .mov (.t 0)⟩,⟨none, (some 16), .mov (.t 1)⟩,⟨none, (some 17), .mov (.t 3)⟩,⟨none, (some 18), .mov (.t 4)⟩,⟨none, (some 19), .bslice 1 2 [.int .i64 (0)] [(0, 1, .t 17), (1, 1, .t 18)]⟩,⟨none, (some 20), .call 0 13 [.t 15, .t 16, .t 19]⟩,⟨none, (some 14), .mov (.t 20)⟩,⟨none, (some 21), .ext (.t 14) 0⟩,⟨none, (some 22), .ext (.t 14) 1⟩,⟨none, (some 12), .alloc [.int .i64 (0), .nils]⟩,⟨none, none, .store 2 (.t 12) (.t 21)⟩,⟨none, (some 13), .mov (.t 22)⟩]) (.seq (.block 0 (m 42 4124) (.seq (.reg [⟨none, (some 24), .mov (.t 13)⟩,⟨none, (some 25), .bin .neq (.t 24) (.c (.int .i64 (0)))⟩,⟨none, (some 23), .mov (.t 25)⟩]) (.cond (.t 23) (.seq (.reg [⟨none, (some 26), .mov (.t 13)⟩,⟨none, (some 10), .mov (.c (.bool false))⟩,⟨none, (some 11), .mov (.t 26)⟩]) (.ret (m 42 3072))) (.seq (.reg [⟨none, (some 28), .mov (.t 2)⟩,⟨none, (some 29), .bin .lss (.t 28) (.c (.int .i64 (0)))⟩,⟨none, (some 30), .mov (.t 29)⟩,⟨(some (30, false)), (some 31), .mov (.t 2)⟩,⟨(some (30, false)), (some 32), .mov (.t 1)⟩,⟨(some (30, false)), (some 33), .len (.t 32)⟩,⟨(some (30, false)), (some 34), .bin .shl (.c (.int .i64 (1))) (.t 33)⟩,⟨(some (30, false)), (some 35), .bin .geq (.t 31) (.t 34)⟩,⟨none, (some 36), .pick (.t 30) (.c (.bool true)) (.t 35)⟩,⟨none, (some 27), .mov (.t 36)⟩]) (.cond (.t 27) (.seq (.reg [⟨none, (some 10), .mov (.c (.bool false))⟩,⟨none, (some 11), .mov (.c (.int .i64 (2)))⟩]) (.ret (m 42 3072))) (.skip)))))) (.seq (.reg [⟨none, (some 37), .load (some 2) (.t 12)⟩,⟨none, (some 38), .mov (.t 2)⟩,⟨none, (some 39), .mov (.t 3)⟩,⟨none, (some 40), .mov (.t 4)⟩,⟨none, (some 41), .call 1 14 [.t 37, .t 38, .t 39, .t 40]⟩,⟨none, (some 10), .mov (.t 41)⟩,⟨none, (some 11), .mov (.c (.int .i64 (0)))⟩]) (.ret (m 42 3072)))))
def F8 : XF := ⟨5, 42, [.tmp 10, .tmp 11], F8B⟩
def M8 : List (List Bool) := [(m 42 4124), (m 42 3072), (m 42 3072), (m 42 3072)]
def F9L0b : XC :=
 .seq (.reg [⟨none, (some 53), .bin .lss (.t 52) (.t 51)⟩]) (.seq (.cond (.t 53) (.skip) (.exit 1 (m 75 24576))) (.seq (.block 2 (m 75 6755399441082382) (.seq (.reg [⟨none, (some 54), .mov (.t 52)⟩,⟨none, (some 15), .mov (.t 54)⟩]) (.seq (.reg [⟨none, (some 55), .mov (.t 15)⟩,⟨none, (some 56), .conv .u64 (.t 55)⟩,⟨none, (some 57), .call 1 15 [.t 56]⟩,⟨none, (some 16), .mov (.t 57)⟩]) (.seq (.reg [⟨none, (some 58), .load (some 2) (.t 11)⟩,⟨none, (some 59), .mov (.t 15)⟩,⟨none, (some 60), .mov (.t 2)⟩,⟨none, (some 61), .mov (.t 3)⟩,⟨none, (some 62), .call 1 14 [.t 58, .t 59, .t 60, .t 61]⟩]) (.cond (.t 62) (.reg [⟨none, (some 63), .mov (.t 13)⟩,⟨none, (some 64), .mov (.t 16)⟩,⟨none, (some 65), .mnx false [.t 63, .t 64]⟩,⟨none, (some 13), .mov (.t 65)⟩]) (.reg [⟨none, (some 66), .mov (.t 14)⟩,⟨none, (some 67), .mov (.t 1)⟩,⟨none, (some 68), .len (.t 67)⟩,⟨none, (some 69), .mov (.t 16)⟩,⟨none, (some 70), .bin .sub (.t 68) (.t 69)⟩,⟨none, (some 71), .mnx false [.t 66, .t 70]⟩,⟨none, (some 14), .mov (.t 71)⟩])))))) (.reg [⟨none, (some 72), .bin .add (.t 52) (.c (.int .i64 (1)))⟩,⟨none, (some 52), .mov (.t 72)⟩])))
def F9L0 : XC := .loop (m 75 6755399441082382) F9L0b
def F9T0 : XC :=
 .seq (.reg [⟨none, (some 73), .mov (.t 13)⟩,⟨none, (some 74), .mov (.t 14)⟩,⟨none, (some 8), .mov (.t 73)⟩,⟨none, (some 9), .mov (.t 74)⟩,⟨none, (some 10), .mov (.c (.int .i64 (0)))⟩]) (.ret (m 75 1792))
def F9B : XC :=
 .seq (.reg [⟨none, (some 8), .mov (.c (.int .i64 (0)))⟩,⟨none, (some 9), .mov (.c (.int .i64 (0)))⟩,⟨none, (some 10), .mov (.c (.int .i64 (0)))⟩]) (.seq (.reg [⟨none, (some 18), .mov (.t 0)⟩,⟨none, (some 19), .mov (.t 1)⟩,⟨none, (some 20), .mov (.t 2)⟩,⟨none, (some 21), .mov (.t 3)⟩,⟨none, (some 22), .bslice 1 2 [.int .i64 (0)] [(0, 1, .t 20), (1, 1, .t 21)]⟩,⟨none, (some 23), .call 0 13 [.t 18, .t 19, .t 22]⟩,⟨none, (some 17), .mov (.t 23)⟩,⟨none, (some 24), .ext (.t 17) 0⟩,⟨none, (some 25), .ext (.t 17) 1⟩,⟨none, (some 11), .alloc [.int .i64 (0), .nils]⟩,⟨none, none, .store 2 (.t 11) (.t 24)⟩,⟨none, (some 12), .mov (.t 25)⟩]) (.seq (.block 0 (m 75 2062) (.seq (.reg [⟨none, (some 27), .mov (.t 12)⟩,⟨none, (some 28), .bin .neq (.t 27) (.c (.int .i64 (0)))⟩,⟨none, (some 26), .mov (.t 28)⟩]) (.cond (.t 26) (.seq (.reg [⟨none, (some 29), .mov (.t 12)⟩,⟨none, (some 8), .mov (.c (.int .i64 (0)))⟩,⟨none, (some 9), .mov (.c (.int .i64 (0)))⟩,⟨none, (some 10), .mov (.t 29)⟩]) (.ret (m 75 1792))) (.seq (.reg [⟨none, (some 31), .mov (.t 2)⟩,⟨none, (some 32), .mov (.t 3)⟩,⟨none, (some 33), .bin .eql (.t 31) (.t 32)⟩,⟨none, (some 34), .mov (.t 33)⟩,⟨(some (34, false)), (some 35), .load (some 2) (.t 11)⟩,⟨(some (34, false)), (some 36), .mov (.t 1)⟩,⟨(some (34, false)), (some 37), .len (.t 36)⟩,⟨(some (34, false)), (some 38), .bin .shl (.c (.int .i64 (1))) (.t 37)⟩,⟨(some (34, false)), (some 39), .bin .sub (.t 38) (.c (.int .i64 (1)))⟩,⟨(some (34, false)), (some 40), .mov (.t 2)⟩,⟨(some (34, false)), (some 41), .mov (.t 3)⟩,⟨(some (34, false)), (some 42), .call 1 14 [.t 35, .t 39, .t 40, .t 41]⟩,⟨(some (34, false)), (some 43), .un .not (.t 42)⟩,⟨none, (some 44), .pick (.t 34) (.c (.bool true)) (.t 43)⟩,⟨none, (some 30), .mov (.t 44)⟩]) (.cond (.t 30) (.seq (.reg [⟨none, (some 8), .mov (.c (.int .i64 (0)))⟩,⟨none, (some 9), .mov (.c (.int .i64 (0)))⟩,⟨none, (some 10), .mov (.c (.int .i64 (10)))⟩]) (.ret (m 75 1792))) (.skip)))))) (.seq (.reg [⟨none, (some 45), .mov (.t 1)⟩,⟨none, (some 46), .len (.t 45)⟩,⟨none, (some 47), .mov (.t 1)⟩,⟨none, (some 48), .len (.t 47)⟩,⟨none, (some 13), .mov (.t 46)⟩,⟨none, (some 14), .mov (.t 48)⟩]) (.seq (.seq (.reg [⟨none, (some 49), .mov (.t 1)⟩,⟨none, (some 50), .len (.t 49)⟩,⟨none, (some 51), .bin .shl (.c (.int .i64 (1))) (.t 50)⟩,⟨none, (some 52), .mov (.c (.int .i64 (0)))⟩]) (.block 1 (m 75 24576) (F9L0)))
 F9T0))))
def F9 : XF := ⟨4, 75, [.tmp 8, .tmp 9, .tmp 10], F9B⟩
def M9 : List (List Bool) := [(m 75 2062), (m 75 1792), (m 75 1792), (m 75 24576), (m 75 6755399441082382), (m 75 24576), (m 75 6755399441082382), (m 75 1792)]
def F10L0b : XC :=
 .seq (.seq (.reg [⟨none, (some 4), .mov (.t 0)⟩,⟨none, (some 5), .bin .gtr (.t 4) (.c (.int .i64 (0)))⟩]) (.cond (.t 5) (.skip) (.exit 0 (m 13 8)))) (.seq (.block 1 (m 13 9) (.reg [⟨none, (some 8), .mov (.t 3)⟩,⟨none, (some 9), .mov (.t 0)⟩,⟨none, (some 10), .bin .rem (.t 9) (.c (.int .i64 (2)))⟩,⟨none, (some 11), .bin .add (.t 8) (.t 10)⟩,⟨none, (some 3), .mov (.t 11)⟩])) (.reg [⟨none, (some 6), .mov (.t 0)⟩,⟨none, (some 7), .bin .quo (.t 6) (.c (.int .i64 (2)))⟩,⟨none, (some 0), .mov (.t 7)⟩]))
def F10L0 : XC := .loop (m 13 9) F10L0b
def F10T0 : XC :=
 .seq (.reg [⟨none, (some 12), .mov (.t 3)⟩,⟨none, (some 2), .mov (.t 12)⟩]) (.ret (m 13 4))
def F10B : XC :=
 .seq (.reg [⟨none, (some 2), .mov (.c (.int .i64 (0)))⟩]) (.seq (.reg [⟨none, (some 3), .mov (.c (.int .i64 (0)))⟩]) (.seq (.block 0 (m 13 8) (F10L0))
 F10T0))
def F10 : XF := ⟨1, 13, [.tmp 2], F10B⟩
def M10 : List (List Bool) := [(m 13 8), (m 13 9), (m 13 8), (m 13 9), (m 13 4)]
def F11B : XC :=
 .seq (.reg [⟨none, (some 4), .mov (.c (.nils))⟩,⟨none, (some 5), .mov (.c (.bool false))⟩]) (.seq (.reg [⟨none, (some 9), .mov (.t 0)⟩,⟨none, (some 10), .call 0 16 [.t 9]⟩,⟨none, (some 8), .mov (.t 10)⟩,⟨none, (some 11), .ext (.t 8) 0⟩,⟨none, (some 12), .ext (.t 8) 1⟩,⟨none, (some 6), .mov (.t 11)⟩,⟨none, (some 7), .mov (.t 12)⟩]) (.seq (.reg [⟨none, (some 13), .mov (.t 6)⟩,⟨none, (some 14), .mov (.t 7)⟩,⟨none, (some 15), .mov (.t 14)⟩,⟨(some (15, true)), (some 16), .mov (.t 1)⟩,⟨(some (15, true)), (some 17), .bin .geq (.t 16) (.c (.int .i64 (0)))⟩,⟨none, (some 18), .pick (.t 15) (.t 17) (.c (.bool false))⟩,⟨none, (some 19), .mov (.t 18)⟩,⟨(some (19, true)), (some 20), .mov (.t 1)⟩,⟨(some (19, true)), (some 21), .mov (.t 6)⟩,⟨(some (19, true)), (some 22), .call 1 17 [.t 21]⟩,⟨(some (19, true)), (some 23), .bin .leq (.t 20) (.t 22)⟩,⟨none, (some 24), .pick (.t 19) (.t 23) (.c (.bool false))⟩,⟨none, (some 4), .mov (.t 13)⟩,⟨none, (some 5), .mov (.t 24)⟩]) (.ret (m 25 48))))
def F11 : XF := ⟨2, 25, [.tmp 4, .tmp 5], F11B⟩
def M11 : List (List Bool) := [(m 25 48)]
def F12L0b : XC :=
 .seq (.reg [⟨none, (some 26), .bin .lss (.t 25) (.t 24)⟩]) (.seq (.cond (.t 26) (.skip) (.exit 4 (m 53 3145953))) (.seq (.block 5 (m 53 53477601) (.seq (.reg [⟨none, (some 27), .mov (.t 25)⟩,⟨none, (some 8), .mov (.t 27)⟩]) (.seq (.reg [⟨none, (some 28), .mov (.t 7)⟩,⟨none, (some 29), .mov (.t 8)⟩,⟨none, (some 30), .bin .shr (.t 28) (.t 29)⟩,⟨none, (some 31), .bin .and (.t 30) (.c (.int .i64 (1)))⟩,⟨none, (some 32), .bin .eql (.t 31) (.c (.int .i64 (1)))⟩]) (.cond (.t 32) (.reg [⟨none, (some 33), .mov (.t 7)⟩,⟨none, (some 34), .mov (.t 0)⟩,⟨none, (some 35), .mov (.t 8)⟩,⟨none, (some 36), .indexA 1 (.t 34) (.t 35)⟩,⟨none, (some 37), .load none (.t 36)⟩,⟨none, (some 38), .mov (.t 6)⟩,⟨none, (some 39), .bin .and (.t 37) (.t 38)⟩,⟨none, (some 40), .bin .or (.t 33) (.t 39)⟩,⟨none, (some 7), .mov (.t 40)⟩]) (.skip))))) (.reg [⟨none, (some 41), .bin .add (.t 25) (.c (.int .i64 (1)))⟩,⟨none, (some 25), .mov (.t 41)⟩])))
def F12L0 : XC := .loop (m 53 53477601) F12L0b
def F12T0 : XC :=
 .reg [⟨none, (some 42), .bin .add (.t 21) (.c (.int .i64 (1)))⟩,⟨none, (some 21), .mov (.t 42)⟩]
def F12L1b : XC :=
 .seq (.reg [⟨none, (some 22), .bin .lss (.t 21) (.t 20)⟩]) (.seq (.cond (.t 22) (.skip) (.exit 2 (m 53 225))) (.seq (.block 3 (m 53 3145953) (.seq (.reg [⟨none, (some 23), .mov (.t 0)⟩,⟨none, (some 24), .len (.t 23)⟩,⟨none, (some 25), .mov (.c (.int .i64 (0)))⟩]) (.block 4 (m 53 3145953) (F12L0))))
 F12T0))
def F12L1 : XC := .loop (m 53 3145953) F12L1b
def F12T1 : XC :=
 .seq (.reg [⟨none, (some 43), .mov (.t 5)⟩,⟨none, (some 44), .mov (.t 7)⟩,⟨none, (some 45), .bslice 1 1 [.int .i64 (0)] [(0, 1, .t 44)]⟩,⟨none, (some 46), .app 1 8 (.t 43) (.t 45)⟩,⟨none, (some 5), .mov (.t 46)⟩]) (.reg [⟨none, (some 47), .mov (.t 6)⟩,⟨none, (some 48), .mov (.t 7)⟩,⟨none, (some 49), .bin .andNot (.t 47) (.t 48)⟩,⟨none, (some 6), .mov (.t 49)⟩])
def F12L2b : XC :=
 .seq (.seq (.reg [⟨none, (some 13), .mov (.t 6)⟩,⟨none, (some 14), .bin .gtr (.t 13) (.c (.int .i64 (0)))⟩]) (.cond (.t 14) (.skip) (.exit 0 (m 53 32)))) (.block 1 (m 53 97) (.seq (.reg [⟨none, (some 15), .mov (.t 6)⟩,⟨none, (some 16), .mov (.t 6)⟩,⟨none, (some 17), .un .neg (.t 16)⟩,⟨none, (some 18), .bin .and (.t 15) (.t 17)⟩,⟨none, (some 7), .mov (.t 18)⟩]) (.seq (.seq (.reg [⟨none, (some 19), .mov (.t 0)⟩,⟨none, (some 20), .len (.t 19)⟩,⟨none, (some 21), .mov (.c (.int .i64 (0)))⟩]) (.block 2 (m 53 225) (F12L1)))
 F12T1)))
def F12L2 : XC := .loop (m 53 97) F12L2b
def F12T2 : XC :=
 .seq (.reg [⟨none, (some 50), .mov (.t 5)⟩,⟨none, (some 51), .call 0 18 [.t 50]⟩]) (.seq (.reg [⟨none, (some 52), .mov (.t 5)⟩,⟨none, (some 4), .mov (.t 52)⟩]) (.ret (m 53 16)))
def F12B : XC :=
 .seq (.reg [⟨none, (some 4), .mov (.c (.nils))⟩]) (.seq (.reg [⟨none, (some 5), .mov (.c (.nils))⟩]) (.seq (.seq (.reg [⟨none, (some 9), .mov (.t 0)⟩,⟨none, (some 10), .call 1 17 [.t 9]⟩,⟨none, (some 11), .mov (.t 1)⟩,⟨none, (some 12), .bin .andNot (.t 10) (.t 11)⟩,⟨none, (some 6), .mov (.t 12)⟩]) (.block 0 (m 53 32) (F12L2)))
 F12T2))
def F12 : XF := ⟨2, 53, [.tmp 4], F12B⟩
def M12 : List (List Bool) := [(m 53 32), (m 53 97), (m 53 32), (m 53 97), (m 53 225), (m 53 3145953), (m 53 225), (m 53 3145953), (m 53 3145953), (m 53 53477601), (m 53 3145953), (m 53 53477601), (m 53 16)]
def F13L0b : XC :=
 .seq (.reg [⟨none, (some 28), .bin .lss (.t 27) (.t 26)⟩]) (.seq (.cond (.t 28) (.skip) (.exit 1 (m 73 71))) (.seq (.block 2 (m 73 234881095) (.seq (.reg [⟨none, (some 29), .indexA 2 (.t 25) (.t 27)⟩,⟨none, (some 30), .load (some 2) (.t 29)⟩,⟨none, (some 9), .alloc [.int .i64 (0), .int .i64 (0)]⟩,⟨none, none, .store 2 (.t 9) (.t 30)⟩]) (.seq (.reg [⟨none, (some 31), .fieldA 0 (.t 9)⟩,⟨none, (some 32), .load none (.t 31)⟩,⟨none, (some 33), .fieldA 1 (.t 9)⟩,⟨none, (some 34), .load none (.t 33)⟩,⟨none, (some 35), .mnx false [.t 32, .t 34]⟩,⟨none, (some 36), .bin .lss (.t 35) (.c (.int .i64 (0)))⟩,⟨none, (some 37), .mov (.t 36)⟩,⟨(some (37, false)), (some 38), .fieldA 0 (.t 9)⟩,⟨(some (37, false)), (some 39), .load none (.t 38)⟩,⟨(some (37, false)), (some 40), .fieldA 1 (.t 9)⟩,⟨(some (37, false)), (some 41), .load none (.t 40)⟩,⟨(some (37, false)), (some 42), .mnx true [.t 39, .t 41]⟩,⟨(some (37, false)), (some 43), .mov (.t 0)⟩,⟨(some (37, false)), (some 44), .bin .geq (.t 42) (.t 43)⟩,⟨none, (some 45), .pick (.t 37) (.c (.bool true)) (.t 44)⟩,⟨none, (some 46), .mov (.t 45)⟩,⟨(some (46, false)), (some 47), .fieldA 0 (.t 9)⟩,⟨(some (46, false)), (some 48), .load none (.t 47)⟩,⟨(some (46, false)), (some 49), .fieldA 1 (.t 9)⟩,⟨(some (46, false)), (some 50), .load none (.t 49)⟩,⟨(some (46, false)), (some 51), .bin .eql (.t 48) (.t 50)⟩,⟨none, (some 52), .pick (.t 46) (.c (.bool true)) (.t 51)⟩]) (.cond (.t 52) (.seq (.reg [⟨none, (some 53), .build [.int .i64 (0), .nils] []⟩,⟨none, none, .store 2 (.t 6) (.t 53)⟩,⟨none, (some 7), .mov (.c (.int .i64 (2)))⟩]) (.ret (m 73 192))) (.skip))))) (.reg [⟨none, (some 54), .bin .add (.t 27) (.c (.int .i64 (1)))⟩,⟨none, (some 27), .mov (.t 54)⟩])))
def F13L0 : XC := .loop (m 73 234881095) F13L0b
def F13L1b : XC :=
 .seq (.reg [⟨none, (some 58), .bin .lss (.t 57) (.t 56)⟩]) (.seq (.cond (.t 58) (.skip) (.exit 3 (m 73 67))) (.seq (.block 4 (m 73 252201579132747843) (.seq (.reg [⟨none, (some 59), .indexA 1 (.t 55) (.t 57)⟩,⟨none, (some 60), .load none (.t 59)⟩,⟨none, (some 11), .mov (.t 60)⟩]) (.seq (.reg [⟨none, (some 61), .mov (.t 11)⟩,⟨none, (some 62), .bin .lss (.t 61) (.c (.int .i64 (0)))⟩,⟨none, (some 63), .mov (.t 62)⟩,⟨(some (63, false)), (some 64), .mov (.t 11)⟩,⟨(some (63, false)), (some 65), .mov (.t 0)⟩,⟨(some (63, false)), (some 66), .bin .geq (.t 64) (.t 65)⟩,⟨none, (some 67), .pick (.t 63) (.c (.bool true)) (.t 66)⟩]) (.cond (.t 67) (.seq (.reg [⟨none, (some 68), .build [.int .i64 (0), .nils] []⟩,⟨none, none, .store 2 (.t 6) (.t 68)⟩,⟨none, (some 7), .mov (.c (.int .i64 (2)))⟩]) (.ret (m 73 192))) (.skip))))) (.reg [⟨none, (some 69), .bin .add (.t 57) (.c (.int .i64 (1)))⟩,⟨none, (some 57), .mov (.t 69)⟩])))
def F13L1 : XC := .loop (m 73 252201579132747843) F13L1b
def F13T0 : XC :=
 .seq (.reg [⟨none, (some 70), .mov (.t 0)⟩,⟨none, (some 71), .mov (.t 1)⟩,⟨none, (some 72), .build [.int .i64 (0), .nils] [(0, 1, .t 70), (1, 1, .t 71)]⟩,⟨none, none, .store 2 (.t 6) (.t 72)⟩,⟨none, (some 7), .mov (.c (.int .i64 (0)))⟩]) (.ret (m 73 192))
def F13T1 : XC :=
 .seq (.seq (.reg [⟨none, (some 55), .mov (.t 2)⟩,⟨none, (some 56), .len (.t 55)⟩,⟨none, (some 57), .mov (.c (.int .i64 (0)))⟩]) (.block 3 (m 73 67) (F13L1)))
 F13T0
def F13B : XC :=
 .seq (.reg [⟨none, (some 6), .alloc [.int .i64 (0), .nils]⟩,⟨none, (some 7), .mov (.c (.int .i64 (0)))⟩]) (.seq (.block 0 (m 73 71) (.seq (.reg [⟨none, (some 13), .mov (.t 0)⟩,⟨none, (some 14), .bin .lss (.t 13) (.c (.int .i64 (2)))⟩,⟨none, (some 15), .mov (.t 14)⟩,⟨(some (15, false)), (some 16), .mov (.t 0)⟩,⟨(some (15, false)), (some 17), .bin .gtr (.t 16) (.c (.int .i64 (8)))⟩,⟨none, (some 18), .pick (.t 15) (.c (.bool true)) (.t 17)⟩,⟨none, (some 12), .mov (.t 18)⟩]) (.cond (.t 12) (.seq (.reg [⟨none, (some 19), .build [.int .i64 (0), .nils] []⟩,⟨none, none, .store 2 (.t 6) (.t 19)⟩,⟨none, (some 7), .mov (.c (.int .i64 (2)))⟩]) (.ret (m 73 192))) (.seq (.reg [⟨none, (some 21), .mov (.t 1)⟩,⟨none, (some 22), .len (.t 21)⟩,⟨none, (some 23), .bin .gtr (.t 22) (.c (.int .i64 (13)))⟩,⟨none, (some 20), .mov (.t 23)⟩]) (.cond (.t 20) (.seq (.reg [⟨none, (some 24), .build [.int .i64 (0), .nils] []⟩,⟨none, none, .store 2 (.t 6) (.t 24)⟩,⟨none, (some 7), .mov (.c (.int .i64 (3)))⟩]) (.ret (m 73 192))) (.skip)))))) (.seq (.seq (.reg [⟨none, (some 25), .mov (.t 1)⟩,⟨none, (some 26), .len (.t 25)⟩,⟨none, (some 27), .mov (.c (.int .i64 (0)))⟩]) (.block 1 (m 73 71) (F13L0)))
 F13T1))
def F13 : XF := ⟨3, 73, [.cell 6 (some 2), .tmp 7], F13B⟩
def M13 : List (List Bool) := [(m 73 71), (m 73 192), (m 73 192), (m 73 71), (m 73 234881095), (m 73 71), (m 73 234881095), (m 73 192), (m 73 67), (m 73 252201579132747843), (m 73 67), (m 73 252201579132747843), (m 73 192), (m 73 192)]
def F14B : XC :=
 .seq (.reg [⟨none, (some 4), .box (.t 0)⟩,⟨none, (some 8), .mov (.c (.bool false))⟩]) (.seq (.reg [⟨none, (some 9), .load (some 2) (.t 4)⟩,⟨none, (some 10), .mov (.t 1)⟩,⟨none, (some 11), .mov (.t 2)⟩,⟨none, (some 12), .call 1 19 [.t 9, .t 10, .t 11]⟩,⟨none, (some 13), .mov (.t 3)⟩,⟨none, (some 14), .bin .shr (.t 12) (.t 13)⟩,⟨none, (some 15), .bin .and (.t 14) (.c (.int .i64 (1)))⟩,⟨none, (some 16), .bin .eql (.t 15) (.c (.int .i64 (1)))⟩,⟨none, (some 8), .mov (.t 16)⟩]) (.ret (m 17 256)))
def F14 : XF := ⟨4, 17, [.tmp 8], F14B⟩
def M14 : List (List Bool) := [(m 17 256)]
def F15B : XC :=
 .seq (.reg [⟨none, (some 2), .mov (.c (.int .i64 (0)))⟩]) (.seq (.cond (.c (.bool false)) (.seq (.reg [⟨none, (some 3), .mov (.t 0)⟩,⟨none, (some 4), .conv .u32 (.t 3)⟩,⟨none, (some 5), .call 1 20 [.t 4]⟩,⟨none, (some 2), .mov (.t 5)⟩]) (.ret (m 8 4))) (.skip)) (.seq (.reg [⟨none, (some 6), .mov (.t 0)⟩,⟨none, (some 7), .call 1 21 [.t 6]⟩,⟨none, (some 2), .mov (.t 7)⟩]) (.ret (m 8 4))))
def F15 : XF := ⟨1, 8, [.tmp 2], F15B⟩
def M15 : List (List Bool) := [(m 8 4), (m 8 4)]
def F16L0b : XC :=
 .seq (.reg [⟨none, (some 42), .bin .lss (.t 41) (.t 40)⟩]) (.seq (.cond (.t 42) (.skip) (.exit 2 (m 58 458753))) (.seq (.block 3 (m 58 3848291156017) (.seq (.reg [⟨none, (some 43), .mov (.t 41)⟩,⟨none, (some 44), .indexA 1 (.t 39) (.t 41)⟩,⟨none, (some 45), .load none (.t 44)⟩,⟨none, (some 6), .mov (.t 43)⟩,⟨none, (some 7), .mov (.t 45)⟩]) (.seq (.reg [⟨none, (some 46), .mov (.t 5)⟩,⟨none, (some 47), .mov (.t 6)⟩,⟨none, (some 48), .bin .shr (.t 46) (.t 47)⟩,⟨none, (some 49), .bin .and (.t 48) (.c (.int .i64 (1)))⟩,⟨none, (some 50), .mov (.t 7)⟩,⟨none, (some 51), .mov (.t 4)⟩,⟨none, (some 52), .bin .shr (.t 50) (.t 51)⟩,⟨none, (some 53), .bin .and (.t 52) (.c (.int .i64 (1)))⟩,⟨none, (some 54), .bin .neq (.t 49) (.t 53)⟩]) (.cond (.t 54) (.seq (.reg [⟨none, (some 2), .mov (.c (.nils))⟩,⟨none, (some 3), .mov (.c (.bool false))⟩]) (.ret (m 58 12))) (.skip))))) (.reg [⟨none, (some 55), .bin .add (.t 41) (.c (.int .i64 (1)))⟩,⟨none, (some 41), .mov (.t 55)⟩])))
def F16L0 : XC := .loop (m 58 3848291156017) F16L0b
def F16T0 : XC :=
 .reg [⟨none, (some 56), .bin .add (.t 18) (.c (.int .i64 (1)))⟩,⟨none, (some 18), .mov (.t 56)⟩]
def F16L1b : XC :=
 .seq (.reg [⟨none, (some 19), .bin .lss (.t 18) (.t 17)⟩]) (.seq (.cond (.t 19) (.skip) (.exit 0 (m 58 1))) (.seq (.block 1 (m 58 458753) (.seq (.reg [⟨none, (some 20), .mov (.t 18)⟩,⟨none, (some 21), .indexA 1 (.t 16) (.t 18)⟩,⟨none, (some 22), .load none (.t 21)⟩,⟨none, (some 4), .mov (.t 20)⟩,⟨none, (some 5), .mov (.t 22)⟩]) (.seq (.seq (.reg [⟨none, (some 23), .mov (.t 5)⟩,⟨none, (some 24), .bin .lss (.t 23) (.c (.int .i64 (0)))⟩,⟨none, (some 25), .mov (.t 24)⟩,⟨(some (25, false)), (some 26), .mov (.t 5)⟩,⟨(some (25, false)), (some 27), .mov (.t 0)⟩,⟨(some (25, false)), (some 28), .len (.t 27)⟩,⟨(some (25, false)), (some 29), .bin .shl (.c (.int .i64 (1))) (.t 28)⟩,⟨(some (25, false)), (some 30), .bin .geq (.t 26) (.t 29)⟩,⟨none, (some 31), .pick (.t 25) (.c (.bool true)) (.t 30)⟩,⟨none, (some 32), .mov (.t 31)⟩,⟨(some (32, false)), (some 33), .mov (.t 5)⟩,⟨(some (32, false)), (some 34), .mov (.t 4)⟩,⟨(some (32, false)), (some 35), .bin .shr (.t 33) (.t 34)⟩,⟨(some (32, false)), (some 36), .bin .and (.t 35) (.c (.int .i64 (1)))⟩,⟨(some (32, false)), (some 37), .bin .eql (.t 36) (.c (.int .i64 (1)))⟩,⟨none, (some 38), .pick (.t 32) (.c (.bool true)) (.t 37)⟩]) (.cond (.t 38) (.seq (.reg [⟨none, (some 2), .mov (.c (.nils))⟩,⟨none, (some 3), .mov (.c (.bool false))⟩]) (.ret (m 58 12))) (.skip))) (.seq (.reg [⟨none, (some 39), .mov (.t 0)⟩,⟨none, (some 40), .len (.t 39)⟩,⟨none, (some 41), .mov (.c (.int .i64 (0)))⟩]) (.block 2 (m 58 458753) (F16L0))))))
 F16T0))
def F16L1 : XC := .loop (m 58 458753) F16L1b
def F16T1 : XC :=
 .seq (.reg [⟨none, (some 57), .mov (.t 0)⟩,⟨none, (some 2), .mov (.t 57)⟩,⟨none, (some 3), .mov (.c (.bool true))⟩]) (.ret (m 58 12))
def F16B : XC :=
 .seq (.reg [⟨none, (some 2), .mov (.c (.nils))⟩,⟨none, (some 3), .mov (.c (.bool false))⟩]) (.seq (.seq (.reg [⟨none, (some 8), .mov (.t 0)⟩,⟨none, (some 9), .len (.t 8)⟩,⟨none, (some 10), .bin .lss (.t 9) (.c (.int .i64 (1)))⟩,⟨none, (some 11), .mov (.t 10)⟩,⟨(some (11, false)), (some 12), .mov (.t 0)⟩,⟨(some (11, false)), (some 13), .len (.t 12)⟩,⟨(some (11, false)), (some 14), .bin .gtr (.t 13) (.c (.int .i64 (10)))⟩,⟨none, (some 15), .pick (.t 11) (.c (.bool true)) (.t 14)⟩]) (.cond (.t 15) (.seq (.reg [⟨none, (some 2), .mov (.c (.nils))⟩,⟨none, (some 3), .mov (.c (.bool false))⟩]) (.ret (m 58 12))) (.skip))) (.seq (.seq (.reg [⟨none, (some 16), .mov (.t 0)⟩,⟨none, (some 17), .len (.t 16)⟩,⟨none, (some 18), .mov (.c (.int .i64 (0)))⟩]) (.block 0 (m 58 1) (F16L1)))
 F16T1))
def F16 : XF := ⟨1, 58, [.tmp 2, .tmp 3], F16B⟩
def M16 : List (List Bool) := [(m 58 12), (m 58 1), (m 58 458753), (m 58 1), (m 58 458753), (m 58 12), (m 58 458753), (m 58 3848291156017), (m 58 458753), (m 58 3848291156017), (m 58 12), (m 58 12)]
def F17B : XC :=
 .seq (.reg [⟨none, (some 2), .mov (.c (.int .i64 (0)))⟩]) (.seq (.reg [⟨none, (some 3), .mov (.t 0)⟩,⟨none, (some 4), .len (.t 3)⟩,⟨none, (some 5), .bin .shl (.c (.int .i64 (1))) (.t 4)⟩,⟨none, (some 6), .bin .sub (.t 5) (.c (.int .i64 (1)))⟩,⟨none, (some 2), .mov (.t 6)⟩]) (.ret (m 7 4)))
def F17 : XF := ⟨1, 7, [.tmp 2], F17B⟩
def M17 : List (List Bool) := [(m 7 4)]
def F18B : XC :=
 .seq (.reg [⟨none, (some 3), .mov (.t 0)⟩,⟨none, (some 4), .len (.t 3)⟩,⟨none, (some 2), .mov (.t 4)⟩]) (.reg [⟨none, (some 5), .mov (.t 0)⟩,⟨none, (some 6), .mov (.t 2)⟩,⟨none, (some 7), .mov (.t 2)⟩,⟨none, (some 8), .conv .u64 (.t 7)⟩,⟨none, (some 9), .call 1 23 [.t 8]⟩,⟨none, (some 10), .call 0 22 [.t 5, .c (.int .i64 (0)), .t 6, .t 9]⟩])
def F18 : XF := ⟨1, 11, [], F18B⟩
def M18 : List (List Bool) := []
def F19L0b : XC :=
 .seq (.reg [⟨none, (some 20), .bin .lss (.t 19) (.t 18)⟩]) (.seq (.cond (.t 20) (.skip) (.exit 2 (m 54 24714))) (.seq (.block 3 (m 54 942218) (.seq (.reg [⟨none, (some 21), .mov (.t 19)⟩,⟨none, (some 22), .indexA 2 (.t 17) (.t 19)⟩,⟨none, (some 23), .load (some 2) (.t 22)⟩,⟨none, (some 9), .alloc [.int .i64 (0), .int .i64 (0)]⟩,⟨none, (some 8), .mov (.t 21)⟩,⟨none, none, .store 2 (.t 9) (.t 23)⟩]) (.seq (.reg [⟨none, (some 24), .mov (.t 1)⟩,⟨none, (some 25), .mov (.t 8)⟩,⟨none, (some 26), .bin .shr (.t 24) (.t 25)⟩,⟨none, (some 27), .bin .and (.t 26) (.c (.int .i64 (1)))⟩,⟨none, (some 28), .bin .eql (.t 27) (.c (.int .i64 (1)))⟩,⟨none, (some 29), .mov (.t 28)⟩,⟨(some (29, true)), (some 30), .mov (.t 7)⟩,⟨(some (29, true)), (some 31), .fieldA 0 (.t 9)⟩,⟨(some (29, true)), (some 32), .load none (.t 31)⟩,⟨(some (29, true)), (some 33), .bin .shr (.t 30) (.t 32)⟩,⟨(some (29, true)), (some 34), .mov (.t 7)⟩,⟨(some (29, true)), (some 35), .fieldA 1 (.t 9)⟩,⟨(some (29, true)), (some 36), .load none (.t 35)⟩,⟨(some (29, true)), (some 37), .bin .shr (.t 34) (.t 36)⟩,⟨(some (29, true)), (some 38), .bin .or (.t 33) (.t 37)⟩,⟨(some (29, true)), (some 39), .bin .and (.t 38) (.c (.int .i64 (1)))⟩,⟨(some (29, true)), (some 40), .bin .eql (.t 39) (.c (.int .i64 (1)))⟩,⟨none, (some 41), .pick (.t 29) (.t 40) (.c (.bool false))⟩]) (.cond (.t 41) (.reg [⟨none, (some 42), .mov (.t 7)⟩,⟨none, (some 43), .fieldA 0 (.t 9)⟩,⟨none, (some 44), .load none (.t 43)⟩,⟨none, (some 45), .bin .shl (.c (.int .i64 (1))) (.t 44)⟩,⟨none, (some 46), .fieldA 1 (.t 9)⟩,⟨none, (some 47), .load none (.t 46)⟩,⟨none, (some 48), .bin .shl (.c (.int .i64 (1))) (.t 47)⟩,⟨none, (some 49), .bin .or (.t 45) (.t 48)⟩,⟨none, (some 50), .bin .or (.t 42) (.t 49)⟩,⟨none, (some 7), .mov (.t 50)⟩]) (.skip))))) (.reg [⟨none, (some 51), .bin .add (.t 19) (.c (.int .i64 (1)))⟩,⟨none, (some 19), .mov (.t 51)⟩])))
def F19L0 : XC := .loop (m 54 942218) F19L0b
def F19T0 : XC :=
 .reg [⟨none, (some 52), .bin .add (.t 14) (.c (.int .i64 (1)))⟩,⟨none, (some 14), .mov (.t 52)⟩]
def F19L1b : XC :=
 .seq (.reg [⟨none, (some 15), .bin .lss (.t 14) (.t 13)⟩]) (.seq (.cond (.t 15) (.skip) (.exit 0 (m 54 128))) (.seq (.block 1 (m 54 24714) (.seq (.reg [⟨none, (some 16), .fieldA 1 (.t 3)⟩,⟨none, (some 17), .load none (.t 16)⟩,⟨none, (some 18), .len (.t 17)⟩,⟨none, (some 19), .mov (.c (.int .i64 (0)))⟩]) (.block 2 (m 54 24714) (F19L0))))
 F19T0))
def F19L1 : XC := .loop (m 54 24714) F19L1b
def F19T1 : XC :=
 .seq (.reg [⟨none, (some 53), .mov (.t 7)⟩,⟨none, (some 6), .mov (.t 53)⟩]) (.ret (m 54 64))
def F19B : XC :=
 .seq (.reg [⟨none, (some 3), .box (.t 0)⟩,⟨none, (some 6), .mov (.c (.int .i64 (0)))⟩]) (.seq (.reg [⟨none, (some 10), .mov (.t 2)⟩,⟨none, (some 11), .bin .shl (.c (.int .i64 (1))) (.t 10)⟩,⟨none, (some 7), .mov (.t 11)⟩]) (.seq (.seq (.reg [⟨none, (some 12), .fieldA 0 (.t 3)⟩,⟨none, (some 13), .load none (.t 12)⟩,⟨none, (some 14), .mov (.c (.int .i64 (0)))⟩]) (.block 0 (m 54 128) (F19L1)))
 F19T1))
def F19 : XF := ⟨3, 54, [.tmp 6], F19B⟩
def M19 : List (List Bool) := [(m 54 128), (m 54 24714), (m 54 128), (m 54 24714), (m 54 24714), (m 54 942218), (m 54 24714), (m 54 942218), (m 54 64)]
def F21B : XC :=
 .seq (.reg [⟨none, (some 2), .mov (.c (.int .i64 (0)))⟩]) (.seq (.reg [⟨none, (some 3), .mov (.t 0)⟩,⟨none, (some 4), .bin .shr (.t 3) (.c (.int .u64 (1)))⟩,⟨none, (some 5), .bin .and (.t 4) (.c (.int .u64 (6148914691236517205)))⟩,⟨none, (some 6), .mov (.t 0)⟩,⟨none, (some 7), .bin .and (.t 6) (.c (.int .u64 (6148914691236517205)))⟩,⟨none, (some 8), .bin .add (.t 5) (.t 7)⟩,⟨none, (some 0), .mov (.t 8)⟩]) (.seq (.reg [⟨none, (some 9), .mov (.t 0)⟩,⟨none, (some 10), .bin .shr (.t 9) (.c (.int .u64 (2)))⟩,⟨none, (some 11), .bin .and (.t 10) (.c (.int .u64 (3689348814741910323)))⟩,⟨none, (some 12), .mov (.t 0)⟩,⟨none, (some 13), .bin .and (.t 12) (.c (.int .u64 (3689348814741910323)))⟩,⟨none, (some 14), .bin .add (.t 11) (.t 13)⟩,⟨none, (some 0), .mov (.t 14)⟩]) (.seq (.reg [⟨none, (some 15), .mov (.t 0)⟩,⟨none, (some 16), .bin .shr (.t 15) (.c (.int .u64 (4)))⟩,⟨none, (some 17), .mov (.t 0)⟩,⟨none, (some 18), .bin .add (.t 16) (.t 17)⟩,⟨none, (some 19), .bin .and (.t 18) (.c (.int .u64 (1085102592571150095)))⟩,⟨none, (some 0), .mov (.t 19)⟩]) (.seq (.reg [⟨none, (some 20), .mov (.t 0)⟩,⟨none, (some 21), .mov (.t 0)⟩,⟨none, (some 22), .bin .shr (.t 21) (.c (.int .u64 (8)))⟩,⟨none, (some 23), .bin .add (.t 20) (.t 22)⟩,⟨none, (some 0), .mov (.t 23)⟩]) (.seq (.reg [⟨none, (some 24), .mov (.t 0)⟩,⟨none, (some 25), .mov (.t 0)⟩,⟨none, (some 26), .bin .shr (.t 25) (.c (.int .u64 (16)))⟩,⟨none, (some 27), .bin .add (.t 24) (.t 26)⟩,⟨none, (some 0), .mov (.t 27)⟩]) (.seq (.reg [⟨none, (some 28), .mov (.t 0)⟩,⟨none, (some 29), .mov (.t 0)⟩,⟨none, (some 30), .bin .shr (.t 29) (.c (.int .u64 (32)))⟩,⟨none, (some 31), .bin .add (.t 28) (.t 30)⟩,⟨none, (some 0), .mov (.t 31)⟩]) (.seq (.reg [⟨none, (some 32), .mov (.t 0)⟩,⟨none, (some 33), .conv .i64 (.t 32)⟩,⟨none, (some 34), .bin .and (.t 33) (.c (.int .i64 (127)))⟩,⟨none, (some 2), .mov (.t 34)⟩]) (.ret (m 35 4)))))))))
def F21 : XF := ⟨1, 35, [.tmp 2], F21B⟩
def M21 : List (List Bool) := [(m 35 4)]
def F22L0b : XC :=
 .block 1 (m 134 783) (.seq (.reg [⟨none, (some 19), .mov (.t 2)⟩,⟨none, (some 20), .mov (.t 1)⟩,⟨none, (some 21), .bin .sub (.t 19) (.t 20)⟩,⟨none, (some 10), .mov (.t 21)⟩]) (.seq (.seq (.reg [⟨none, (some 22), .mov (.t 10)⟩,⟨none, (some 23), .bin .leq (.t 22) (.c (.int .i64 (12)))⟩]) (.cond (.t 23) (.seq (.reg [⟨none, (some 24), .mov (.t 0)⟩,⟨none, (some 25), .mov (.t 1)⟩,⟨none, (some 26), .mov (.t 2)⟩,⟨none, (some 27), .call 0 24 [.t 24, .t 25, .t 26]⟩]) (.ret (m 134 0))) (.skip))) (.seq (.seq (.reg [⟨none, (some 28), .mov (.t 3)⟩,⟨none, (some 29), .bin .eql (.t 28) (.c (.int .i64 (0)))⟩]) (.cond (.t 29) (.seq (.reg [⟨none, (some 30), .mov (.t 0)⟩,⟨none, (some 31), .mov (.t 1)⟩,⟨none, (some 32), .mov (.t 2)⟩,⟨none, (some 33), .call 1 25 [.t 30, .t 31, .t 32]⟩]) (.ret (m 134 0))) (.skip))) (.seq (.seq (.reg [⟨none, (some 34), .mov (.t 8)⟩,⟨none, (some 35), .un .not (.t 34)⟩]) (.cond (.t 35) (.seq (.reg [⟨none, (some 36), .mov (.t 0)⟩,⟨none, (some 37), .mov (.t 1)⟩,⟨none, (some 38), .mov (.t 2)⟩,⟨none, (some 39), .call 1 26 [.t 36, .t 37, .t 38]⟩]) (.reg [⟨none, (some 40), .mov (.t 3)⟩,⟨none, (some 41), .bin .sub (.t 40) (.c (.int .i64 (1)))⟩,⟨none, (some 3), .mov (.t 41)⟩])) (.skip))) (.seq (.reg [⟨none, (some 43), .mov (.t 0)⟩,⟨none, (some 44), .mov (.t 1)⟩,⟨none, (some 45), .mov (.t 2)⟩,⟨none, (some 46), .call 1 27 [.t 43, .t 44, .t 45]⟩,⟨none, (some 42), .mov (.t 46)⟩,⟨none, (some 47), .ext (.t 42) 0⟩,⟨none, (some 48), .ext (.t 42) 1⟩,⟨none, (some 11), .mov (.t 47)⟩,⟨none, (some 12), .mov (.t 48)⟩]) (.seq (.seq (.reg [⟨none, (some 49), .mov (.t 12)⟩,⟨none, (some 50), .bin .eql (.t 49) (.c (.int .i64 (2)))⟩]) (.cond (.t 50) (.seq (.reg [⟨none, (some 51), .mov (.t 0)⟩,⟨none, (some 52), .mov (.t 1)⟩,⟨none, (some 53), .mov (.t 2)⟩,⟨none, (some 54), .call 1 28 [.t 51, .t 52, .t 53]⟩]) (.seq (.reg [⟨none, (some 55), .mov (.t 2)⟩,⟨none, (some 56), .bin .sub (.t 55) (.c (.int .i64 (1)))⟩,⟨none, (some 57), .mov (.t 11)⟩,⟨none, (some 58), .mov (.t 1)⟩,⟨none, (some 59), .bin .sub (.t 57) (.t 58)⟩,⟨none, (some 60), .bin .sub (.t 56) (.t 59)⟩,⟨none, (some 11), .mov (.t 60)⟩]) (.reg [⟨none, (some 12), .mov (.c (.int .i64 (1)))⟩]))) (.skip))) (.seq (.seq (.reg [⟨none, (some 61), .mov (.t 8)⟩,⟨none, (some 62), .mov (.t 61)⟩,⟨(some (62, true)), (some 63), .mov (.t 9)⟩,⟨none, (some 64), .pick (.t 62) (.t 63) (.c (.bool false))⟩,⟨none, (some 65), .mov (.t 64)⟩,⟨(some (65, true)), (some 66), .mov (.t 12)⟩,⟨(some (65, true)), (some 67), .bin .eql (.t 66) (.c (.int .i64 (1)))⟩,⟨none, (some 68), .pick (.t 65) (.t 67) (.c (.bool false))⟩]) (.cond (.t 68) (.seq (.reg [⟨none, (some 69), .mov (.t 0)⟩,⟨none, (some 70), .mov (.t 1)⟩,⟨none, (some 71), .mov (.t 2)⟩,⟨none, (some 72), .call 1 29 [.t 69, .t 70, .t 71]⟩]) (.cond (.t 72) (.ret (m 134 0)) (.skip))) (.skip))) (.seq (.seq (.reg [⟨none, (some 73), .mov (.t 1)⟩,⟨none, (some 74), .bin .gtr (.t 73) (.c (.int .i64 (0)))⟩,⟨none, (some 75), .mov (.t 74)⟩,⟨(some (75, true)), (some 76), .mov (.t 0)⟩,⟨(some (75, true)), (some 77), .mov (.t 1)⟩,⟨(some (75, true)), (some 78), .bin .sub (.t 77) (.c (.int .i64 (1)))⟩,⟨(some (75, true)), (some 79), .indexA 1 (.t 76) (.t 78)⟩,⟨(some (75, true)), (some 80), .load none (.t 79)⟩,⟨(some (75, true)), (some 81), .mov (.t 0)⟩,⟨(some (75, true)), (some 82), .mov (.t 11)⟩,⟨(some (75, true)), (some 83), .indexA 1 (.t 81) (.t 82)⟩,⟨(some (75, true)), (some 84), .load none (.t 83)⟩,⟨(some (75, true)), (some 85), .call 1 30 [.t 80, .t 84]⟩,⟨(some (75, true)), (some 86), .un .not (.t 85)⟩,⟨none, (some 87), .pick (.t 75) (.t 86) (.c (.bool false))⟩]) (.cond (.t 87) (.seq (.reg [⟨none, (some 88), .mov (.t 0)⟩,⟨none, (some 89), .mov (.t 1)⟩,⟨none, (some 90), .mov (.t 2)⟩,⟨none, (some 91), .mov (.t 11)⟩,⟨none, (some 92), .call 1 31 [.t 88, .t 89, .t 90, .t 91]⟩,⟨none, (some 13), .mov (.t 92)⟩]) (.seq (.reg [⟨none, (some 93), .mov (.t 13)⟩,⟨none, (some 1), .mov (.t 93)⟩]) (.exit 1 (m 134 783)))) (.skip))) (.seq (.reg [⟨none, (some 95), .mov (.t 0)⟩,⟨none, (some 96), .mov (.t 1)⟩,⟨none, (some 97), .mov (.t 2)⟩,⟨none, (some 98), .mov (.t 11)⟩,⟨none, (some 99), .call 1 32 [.t 95, .t 96, .t 97, .t 98]⟩,⟨none, (some 94), .mov (.t 99)⟩,⟨none, (some 100), .ext (.t 94) 0⟩,⟨none, (some 101), .ext (.t 94) 1⟩,⟨none, (some 14), .mov (.t 100)⟩,⟨none, (some 15), .mov (.t 101)⟩]) (.seq (.reg [⟨none, (some 102), .mov (.t 15)⟩,⟨none, (some 9), .mov (.t 102)⟩]) (.seq (.reg [⟨none, (some 103), .mov (.t 14)⟩,⟨none, (some 104), .mov (.t 1)⟩,⟨none, (some 105), .bin .sub (.t 103) (.t 104)⟩,⟨none, (some 106), .mov (.t 2)⟩,⟨none, (some 107), .mov (.t 14)⟩,⟨none, (some 108), .bin .sub (.t 106) (.t 107)⟩,⟨none, (some 16), .mov (.t 105)⟩,⟨none, (some 17), .mov (.t 108)⟩]) (.seq (.reg [⟨none, (some 109), .mov (.t 10)⟩,⟨none, (some 110), .bin .quo (.t 109) (.c (.int .i64 (8)))⟩,⟨none, (some 18), .mov (.t 110)⟩]) (.seq (.reg [⟨none, (some 111), .mov (.t 16)⟩,⟨none, (some 112), .mov (.t 17)⟩,⟨none, (some 113), .bin .lss (.t 111) (.t 112)⟩]) (.cond (.t 113) (.seq (.reg [⟨none, (some 114), .mov (.t 16)⟩,⟨none, (some 115), .mov (.t 18)⟩,⟨none, (some 116), .bin .geq (.t 114) (.t 115)⟩,⟨none, (some 8), .mov (.t 116)⟩]) (.seq (.reg [⟨none, (some 117), .mov (.t 0)⟩,⟨none, (some 118), .mov (.t 1)⟩,⟨none, (some 119), .mov (.t 14)⟩,⟨none, (some 120), .mov (.t 3)⟩,⟨none, (some 121), .call 0 22 [.t 117, .t 118, .t 119, .t 120]⟩]) (.reg [⟨none, (some 122), .mov (.t 14)⟩,⟨none, (some 123), .bin .add (.t 122) (.c (.int .i64 (1)))⟩,⟨none, (some 1), .mov (.t 123)⟩]))) (.seq (.reg [⟨none, (some 124), .mov (.t 17)⟩,⟨none, (some 125), .mov (.t 18)⟩,⟨none, (some 126), .bin .geq (.t 124) (.t 125)⟩,⟨none, (some 8), .mov (.t 126)⟩]) (.seq (.reg [⟨none, (some 127), .mov (.t 0)⟩,⟨none, (some 128), .mov (.t 14)⟩,⟨none, (some 129), .bin .add (.t 128) (.c (.int .i64 (1)))⟩,⟨none, (some 130), .mov (.t 2)⟩,⟨none, (some 131), .mov (.t 3)⟩,⟨none, (some 132), .call 0 22 [.t 127, .t 129, .t 130, .t 131]⟩]) (.reg [⟨none, (some 133), .mov (.t 14)⟩,⟨none, (some 2), .mov (.t 133)⟩])))))))))))))))))
def F22L0 : XC := .loop (m 134 783) F22L0b
def F22B : XC :=
 .seq (.reg [⟨none, (some 8), .mov (.c (.bool true))⟩]) (.seq (.reg [⟨none, (some 9), .mov (.c (.bool true))⟩]) (.block 0 (m 134 0) (F22L0)))
def F22 : XF := ⟨4, 134, [], F22B⟩
def M22 : List (List Bool) := [(m 134 0), (m 134 783), (m 134 783), (m 134 0), (m 134 0), (m 134 0), (m 134 783)]
def F23B : XC :=
 .seq (.reg [⟨none, (some 2), .mov (.c (.int .i64 (0)))⟩]) (.seq (.cond (.c (.bool false)) (.seq (.reg [⟨none, (some 3), .mov (.t 0)⟩,⟨none, (some 4), .conv .u32 (.t 3)⟩,⟨none, (some 5), .call 1 33 [.t 4]⟩,⟨none, (some 2), .mov (.t 5)⟩]) (.ret (m 8 4))) (.skip)) (.seq (.reg [⟨none, (some 6), .mov (.t 0)⟩,⟨none, (some 7), .call 1 34 [.t 6]⟩,⟨none, (some 2), .mov (.t 7)⟩]) (.ret (m 8 4))))
def F23 : XF := ⟨1, 8, [.tmp 2], F23B⟩
def M23 : List (List Bool) := [(m 8 4), (m 8 4)]
def F24L0b : XC :=
 .seq (.seq (.reg [⟨none, (some 16), .mov (.t 7)⟩,⟨none, (some 17), .mov (.t 1)⟩,⟨none, (some 18), .bin .gtr (.t 16) (.t 17)⟩,⟨none, (some 19), .mov (.t 18)⟩,⟨(some (19, true)), (some 20), .mov (.t 0)⟩,⟨(some (19, true)), (some 21), .mov (.t 7)⟩,⟨(some (19, true)), (some 22), .indexA 1 (.t 20) (.t 21)⟩,⟨(some (19, true)), (some 23), .load none (.t 22)⟩,⟨(some (19, true)), (some 24), .mov (.t 0)⟩,⟨(some (19, true)), (some 25), .mov (.t 7)⟩,⟨(some (19, true)), (some 26), .bin .sub (.t 25) (.c (.int .i64 (1)))⟩,⟨(some (19, true)), (some 27), .indexA 1 (.t 24) (.t 26)⟩,⟨(some (19, true)), (some 28), .load none (.t 27)⟩,⟨(some (19, true)), (some 29), .call 1 30 [.t 23, .t 28]⟩,⟨none, (some 30), .pick (.t 19) (.t 29) (.c (.bool false))⟩]) (.cond (.t 30) (.skip) (.exit 2 (m 49 71)))) (.seq (.block 3 (m 49 199) (.reg [⟨none, (some 33), .mov (.t 0)⟩,⟨none, (some 34), .mov (.t 7)⟩,⟨none, (some 35), .mov (.t 0)⟩,⟨none, (some 36), .mov (.t 7)⟩,⟨none, (some 37), .bin .sub (.t 36) (.c (.int .i64 (1)))⟩,⟨none, (some 38), .mov (.t 0)⟩,⟨none, (some 39), .mov (.t 7)⟩,⟨none, (some 40), .bin .sub (.t 39) (.c (.int .i64 (1)))⟩,⟨none, (some 41), .indexA 1 (.t 38) (.t 40)⟩,⟨none, (some 42), .load none (.t 41)⟩,⟨none, (some 43), .mov (.t 0)⟩,⟨none, (some 44), .mov (.t 7)⟩,⟨none, (some 45), .indexA 1 (.t 43) (.t 44)⟩,⟨none, (some 46), .load none (.t 45)⟩,⟨none, (some 47), .indexA 1 (.t 33) (.t 34)⟩,⟨none, none, .store 1 (.t 47) (.t 42)⟩,⟨none, (some 48), .indexA 1 (.t 35) (.t 37)⟩,⟨none, none, .store 1 (.t 48) (.t 46)⟩])) (.reg [⟨none, (some 31), .mov (.t 7)⟩,⟨none, (some 32), .bin .sub (.t 31) (.c (.int .i64 (1)))⟩,⟨none, (some 7), .mov (.t 32)⟩]))
def F24L0 : XC := .loop (m 49 199) F24L0b
def F24T0 : XC :=
 .reg [⟨none, (some 13), .mov (.t 6)⟩,⟨none, (some 14), .bin .add (.t 13) (.c (.int .i64 (1)))⟩,⟨none, (some 6), .mov (.t 14)⟩]
def F24L1b : XC :=
 .seq (.seq (.reg [⟨none, (some 10), .mov (.t 6)⟩,⟨none, (some 11), .mov (.t 2)⟩,⟨none, (some 12), .bin .lss (.t 10) (.t 11)⟩]) (.cond (.t 12) (.skip) (.exit 0 (m 49 0)))) (.seq (.block 1 (m 49 71) (.seq (.reg [⟨none, (some 15), .mov (.t 6)⟩,⟨none, (some 7), .mov (.t 15)⟩]) (.block 2 (m 49 71) (F24L0))))
 F24T0)
def F24L1 : XC := .loop (m 49 71) F24L1b
def F24B : XC :=
 .seq (.reg [⟨none, (some 8), .mov (.t 1)⟩,⟨none, (some 9), .bin .add (.t 8) (.c (.int .i64 (1)))⟩,⟨none, (some 6), .mov (.t 9)⟩]) (.block 0 (m 49 0) (F24L1))
def F24 : XF := ⟨3, 49, [], F24B⟩
def M24 : List (List Bool) := [(m 49 0), (m 49 71), (m 49 0), (m 49 71), (m 49 71), (m 49 199), (m 49 71), (m 49 199)]
def F30B : XC :=
 .seq (.reg [⟨none, (some 4), .mov (.c (.bool false))⟩]) (.seq (.reg [⟨none, (some 5), .mov (.t 0)⟩,⟨none, (some 6), .call 1 40 [.t 5]⟩,⟨none, (some 7), .mov (.t 6)⟩,⟨(some (7, true)), (some 8), .mov (.t 1)⟩,⟨(some (7, true)), (some 9), .call 1 40 [.t 8]⟩,⟨(some (7, true)), (some 10), .un .not (.t 9)⟩,⟨none, (some 11), .pick (.t 7) (.t 10) (.c (.bool false))⟩,⟨none, (some 12), .mov (.t 11)⟩,⟨(some (12, false)), (some 13), .mov (.t 0)⟩,⟨(some (12, false)), (some 14), .mov (.t 1)⟩,⟨(some (12, false)), (some 15), .bin .lss (.t 13) (.t 14)⟩,⟨none, (some 16), .pick (.t 12) (.c (.bool true)) (.t 15)⟩,⟨none, (some 4), .mov (.t 16)⟩]) (.ret (m 17 16)))
def F30 : XF := ⟨2, 17, [.tmp 4], F30B⟩
def M30 : List (List Bool) := [(m 17 16)]
def F40B : XC :=
 .seq (.reg [⟨none, (some 2), .mov (.c (.bool false))⟩]) (.seq (.reg [⟨none, (some 3), .mov (.t 0)⟩,⟨none, (some 4), .mov (.t 0)⟩,⟨none, (some 5), .bin .neq (.t 3) (.t 4)⟩,⟨none, (some 2), .mov (.t 5)⟩]) (.ret (m 6 4)))
def F40 : XF := ⟨1, 6, [.tmp 2], F40B⟩
def M40 : List (List Bool) := [(m 6 4)]
def md0 (f : Nat) : Nat := if f = 11 ∨ f = 13 ∨ f = 16 ∨ f = 18 ∨ f = 22 ∨ f = 24 then 0 else 1
theorem ok3 : compF Go.Proofs.Try.prog md0 true M3 Go.Proofs.Try.f3 = some F3 := by kernel_rfl
theorem ok4 : compF Go.Proofs.Try.prog md0 true M4 Go.Proofs.Try.f4 = some F4 := by kernel_rfl
theorem ok5 : compF Go.Proofs.Try.prog md0 true M5 Go.Proofs.Try.f5 = some F5 := by kernel_rfl
theorem ok6 : compF Go.Proofs.Try.prog md0 true M6 Go.Proofs.Try.f6 = some F6 := by kernel_rfl
theorem ok7 : compF Go.Proofs.Try.prog md0 true M7 Go.Proofs.Try.f7 = some F7 := by kernel_rfl
theorem ok8 : compF Go.Proofs.Try.prog md0 true M8 Go.Proofs.Try.f8 = some F8 := by kernel_rfl
theorem ok9 : compF Go.Proofs.Try.prog md0 true M9 Go.Proofs.Try.f9 = some F9 := by kernel_rfl
theorem ok10 : compF Go.Proofs.Try.prog md0 true M10 Go.Proofs.Try.f10 = some F10 := by kernel_rfl
theorem ok11 : compF Go.Proofs.Try.prog md0 true M11 Go.Proofs.Try.f11 = some F11 := by kernel_rfl
theorem ok12 : compF Go.Proofs.Try.prog md0 true M12 Go.Proofs.Try.f12 = some F12 := by kernel_rfl
theorem ok13 : compF Go.Proofs.Try.prog md0 true M13 Go.Proofs.Try.f13 = some F13 := by kernel_rfl
theorem ok14 : compF Go.Proofs.Try.prog md0 true M14 Go.Proofs.Try.f14 = some F14 := by kernel_rfl
theorem ok15 : compF Go.Proofs.Try.prog md0 true M15 Go.Proofs.Try.f15 = some F15 := by kernel_rfl
theorem ok16 : compF Go.Proofs.Try.prog md0 true M16 Go.Proofs.Try.f16 = some F16 := by kernel_rfl
theorem ok17 : compF Go.Proofs.Try.prog md0 true M17 Go.Proofs.Try.f17 = some F17 := by kernel_rfl
theorem ok18 : compF Go.Proofs.Try.prog md0 true M18 Go.Proofs.Try.f18 = some F18 := by kernel_rfl
theorem ok19 : compF Go.Proofs.Try.prog md0 true M19 Go.Proofs.Try.f19 = some F19 := by kernel_rfl
theorem ok21 : compF Go.Proofs.Try.prog md0 true M21 Go.Proofs.Try.f21 = some F21 := by kernel_rfl
theorem ok22 : compF Go.Proofs.Try.prog md0 true M22 Go.Proofs.Try.f22 = some F22 := by kernel_rfl
theorem ok23 : compF Go.Proofs.Try.prog md0 true M23 Go.Proofs.Try.f23 = some F23 := by kernel_rfl
theorem ok24 : compF Go.Proofs.Try.prog md0 true M24 Go.Proofs.Try.f24 = some F24 := by kernel_rfl
theorem ok30 : compF Go.Proofs.Try.prog md0 true M30 Go.Proofs.Try.f30 = some F30 := by kernel_rfl
theorem ok40 : compF Go.Proofs.Try.prog md0 true M40 Go.Proofs.Try.f40 = some F40 := by kernel_rfl
def EJ (f : Nat) : Option XF := match f with
  | 3 => some F3
  | 4 => some F4
  | 5 => some F5
  | 6 => some F6
  | 7 => some F7
  | 8 => some F8
  | 9 => some F9
  | 10 => some F10
  | 11 => some F11
  | 12 => some F12
  | 13 => some F13
  | 14 => some F14
  | 15 => some F15
  | 16 => some F16
  | 17 => some F17
  | 18 => some F18
  | 19 => some F19
  | 21 => some F21
  | 22 => some F22
  | 23 => some F23
  | 24 => some F24
  | 30 => some F30
  | 40 => some F40
  | _ => none
section
variable {Y : Run} {fr : List AV} {H : Heap}
theorem in3_0 : codeL EJ Y F3L0 fr H = lp EJ Y F3L0 (keepA (m 203 8222209) fr) H := codeL_in rfl
theorem un3_0 : lp EJ Y F3L0 fr H = thenX (codeL EJ Y F3L0b (keepA (m 203 8222209) fr) H) (again EJ Y F3L0 (m 203 8222209)) := lp_un rfl
theorem call3 {x0 x1 x2 x3 : AV} (_h : 0 = 0) : callL EJ Y 3 [x0, x1, x2, x3] H = endX [.tmp 8] (codeL EJ Y F3B (sp 203 [(3, x3), (2, x2), (1, x1), (0, x0)]) H) := by
  rw [callL_eq (F := F3) rfl rfl, st_in4]; rfl
theorem in4_0 : codeL EJ Y F4L0 fr H = lp EJ Y F4L0 (keepA (m 69 25) fr) H := codeL_in rfl
theorem un4_0 : lp EJ Y F4L0 fr H = thenX (codeL EJ Y F4L0b (keepA (m 69 25) fr) H) (again EJ Y F4L0 (m 69 25)) := lp_un rfl
theorem in4_1 : codeL EJ Y F4L1 fr H = lp EJ Y F4L1 (keepA (m 69 105) fr) H := codeL_in rfl
theorem un4_1 : lp EJ Y F4L1 fr H = thenX (codeL EJ Y F4L1b (keepA (m 69 105) fr) H) (again EJ Y F4L1 (m 69 105)) := lp_un rfl
theorem in4_2 : codeL EJ Y F4L2 fr H = lp EJ Y F4L2 (keepA (m 69 41) fr) H := codeL_in rfl
theorem un4_2 : lp EJ Y F4L2 fr H = thenX (codeL EJ Y F4L2b (keepA (m 69 41) fr) H) (again EJ Y F4L2 (m 69 41)) := lp_un rfl
theorem call4 {x0 : AV} (_h : 0 = 0) : callL EJ Y 4 [x0] H = endX [.tmp 2] (codeL EJ Y F4B (sp 69 [(0, x0)]) H) := by
  rw [callL_eq (F := F4) rfl rfl, st_in1]; rfl
theorem call5 (_h : 0 = 0) : callL EJ Y 5 [] H = endX [.tmp 0] (codeL EJ Y F5B (sp 43 []) H) := by
  rw [callL_eq (F := F5) rfl rfl, st_in0]; rfl
theorem in6_0 : codeL EJ Y F6L0 fr H = lp EJ Y F6L0 (keepA (m 48 227) fr) H := codeL_in rfl
theorem un6_0 : lp EJ Y F6L0 fr H = thenX (codeL EJ Y F6L0b (keepA (m 48 227) fr) H) (again EJ Y F6L0 (m 48 227)) := lp_un rfl
theorem in6_1 : codeL EJ Y F6L1 fr H = lp EJ Y F6L1 (keepA (m 48 99) fr) H := codeL_in rfl
theorem un6_1 : lp EJ Y F6L1 fr H = thenX (codeL EJ Y F6L1b (keepA (m 48 99) fr) H) (again EJ Y F6L1 (m 48 99)) := lp_un rfl
theorem call6 {x0 x1 : AV} (_h : 0 = 0) : callL EJ Y 6 [x0, x1] H = endX [.tmp 4] (codeL EJ Y F6B (sp 48 [(1, x1), (0, x0)]) H) := by
  rw [callL_eq (F := F6) rfl rfl, st_in2]; rfl
theorem call7 {x0 x1 : AV} (_h : 0 = 0) : callL EJ Y 7 [x0, x1] H = endX [.tmp 4, .tmp 5] (codeL EJ Y F7B (sp 19 [(1, x1), (0, x0)]) H) := by
  rw [callL_eq (F := F7) rfl rfl, st_in2]; rfl
theorem call8 {x0 x1 x2 x3 x4 : AV} (_h : 0 = 0) : callL EJ Y 8 [x0, x1, x2, x3, x4] H = endX [.tmp 10, .tmp 11] (codeL EJ Y F8B (sp 42 [(4, x4), (3, x3), (2, x2), (1, x1), (0, x0)]) H) := by
  rw [callL_eq (F := F8) rfl rfl, st_in5]; rfl
theorem in9_0 : codeL EJ Y F9L0 fr H = lp EJ Y F9L0 (keepA (m 75 6755399441082382) fr) H := codeL_in rfl
theorem un9_0 : lp EJ Y F9L0 fr H = thenX (codeL EJ Y F9L0b (keepA (m 75 6755399441082382) fr) H) (again EJ Y F9L0 (m 75 6755399441082382)) := lp_un rfl
theorem call9 {x0 x1 x2 x3 : AV} (_h : 0 = 0) : callL EJ Y 9 [x0, x1, x2, x3] H = endX [.tmp 8, .tmp 9, .tmp 10] (codeL EJ Y F9B (sp 75 [(3, x3), (2, x2), (1, x1), (0, x0)]) H) := by
  rw [callL_eq (F := F9) rfl rfl, st_in4]; rfl
theorem in10_0 : codeL EJ Y F10L0 fr H = lp EJ Y F10L0 (keepA (m 13 9) fr) H := codeL_in rfl
theorem un10_0 : lp EJ Y F10L0 fr H = thenX (codeL EJ Y F10L0b (keepA (m 13 9) fr) H) (again EJ Y F10L0 (m 13 9)) := lp_un rfl
theorem call10 {x0 : AV} (_h : 0 = 0) : callL EJ Y 10 [x0] H = endX [.tmp 2] (codeL EJ Y F10B (sp 13 [(0, x0)]) H) := by
  rw [callL_eq (F := F10) rfl rfl, st_in1]; rfl
theorem call11 {x0 x1 : AV} (_h : 0 = 0) : callL EJ Y 11 [x0, x1] H = endX [.tmp 4, .tmp 5] (codeL EJ Y F11B (sp 25 [(1, x1), (0, x0)]) H) := by
  rw [callL_eq (F := F11) rfl rfl, st_in2]; rfl
theorem in12_0 : codeL EJ Y F12L0 fr H = lp EJ Y F12L0 (keepA (m 53 53477601) fr) H := codeL_in rfl
theorem un12_0 : lp EJ Y F12L0 fr H = thenX (codeL EJ Y F12L0b (keepA (m 53 53477601) fr) H) (again EJ Y F12L0 (m 53 53477601)) := lp_un rfl
theorem in12_1 : codeL EJ Y F12L1 fr H = lp EJ Y F12L1 (keepA (m 53 3145953) fr) H := codeL_in rfl
theorem un12_1 : lp EJ Y F12L1 fr H = thenX (codeL EJ Y F12L1b (keepA (m 53 3145953) fr) H) (again EJ Y F12L1 (m 53 3145953)) := lp_un rfl
theorem in12_2 : codeL EJ Y F12L2 fr H = lp EJ Y F12L2 (keepA (m 53 97) fr) H := codeL_in rfl
theorem un12_2 : lp EJ Y F12L2 fr H = thenX (codeL EJ Y F12L2b (keepA (m 53 97) fr) H) (again EJ Y F12L2 (m 53 97)) := lp_un rfl
theorem call12 {x0 x1 : AV} (_h : 0 = 0) : callL EJ Y 12 [x0, x1] H = endX [.tmp 4] (codeL EJ Y F12B (sp 53 [(1, x1), (0, x0)]) H) := by
  rw [callL_eq (F := F12) rfl rfl, st_in2]; rfl
theorem in13_0 : codeL EJ Y F13L0 fr H = lp EJ Y F13L0 (keepA (m 73 234881095) fr) H := codeL_in rfl
theorem un13_0 : lp EJ Y F13L0 fr H = thenX (codeL EJ Y F13L0b (keepA (m 73 234881095) fr) H) (again EJ Y F13L0 (m 73 234881095)) := lp_un rfl
theorem in13_1 : codeL EJ Y F13L1 fr H = lp EJ Y F13L1 (keepA (m 73 252201579132747843) fr) H := codeL_in rfl
theorem un13_1 : lp EJ Y F13L1 fr H = thenX (codeL EJ Y F13L1b (keepA (m 73 252201579132747843) fr) H) (again EJ Y F13L1 (m 73 252201579132747843)) := lp_un rfl
theorem call13 {x0 x1 x2 : AV} (_h : 0 = 0) : callL EJ Y 13 [x0, x1, x2] H = endX [.cell 6 (some 2), .tmp 7] (codeL EJ Y F13B (sp 73 [(2, x2), (1, x1), (0, x0)]) H) := by
  rw [callL_eq (F := F13) rfl rfl, st_in3]; rfl
theorem call14 {x0 x1 x2 x3 : AV} (_h : 0 = 0) : callL EJ Y 14 [x0, x1, x2, x3] H = endX [.tmp 8] (codeL EJ Y F14B (sp 17 [(3, x3), (2, x2), (1, x1), (0, x0)]) H) := by
  rw [callL_eq (F := F14) rfl rfl, st_in4]; rfl
theorem call15 {x0 : AV} (_h : 0 = 0) : callL EJ Y 15 [x0] H = endX [.tmp 2] (codeL EJ Y F15B (sp 8 [(0, x0)]) H) := by
  rw [callL_eq (F := F15) rfl rfl, st_in1]; rfl
theorem in16_0 : codeL EJ Y F16L0 fr H = lp EJ Y F16L0 (keepA (m 58 3848291156017) fr) H := codeL_in rfl
theorem un16_0 : lp EJ Y F16L0 fr H = thenX (codeL EJ Y F16L0b (keepA (m 58 3848291156017) fr) H) (again EJ Y F16L0 (m 58 3848291156017)) := lp_un rfl
theorem in16_1 : codeL EJ Y F16L1 fr H = lp EJ Y F16L1 (keepA (m 58 458753) fr) H := codeL_in rfl
theorem un16_1 : lp EJ Y F16L1 fr H = thenX (codeL EJ Y F16L1b (keepA (m 58 458753) fr) H) (again EJ Y F16L1 (m 58 458753)) := lp_un rfl
theorem call16 {x0 : AV} (_h : 0 = 0) : callL EJ Y 16 [x0] H = endX [.tmp 2, .tmp 3] (codeL EJ Y F16B (sp 58 [(0, x0)]) H) := by
  rw [callL_eq (F := F16) rfl rfl, st_in1]; rfl
theorem call17 {x0 : AV} (_h : 0 = 0) : callL EJ Y 17 [x0] H = endX [.tmp 2] (codeL EJ Y F17B (sp 7 [(0, x0)]) H) := by
  rw [callL_eq (F := F17) rfl rfl, st_in1]; rfl
theorem call18 {x0 : AV} (_h : 0 = 0) : callL EJ Y 18 [x0] H = endX [] (codeL EJ Y F18B (sp 11 [(0, x0)]) H) := by
  rw [callL_eq (F := F18) rfl rfl, st_in1]; rfl
theorem in19_0 : codeL EJ Y F19L0 fr H = lp EJ Y F19L0 (keepA (m 54 942218) fr) H := codeL_in rfl
theorem un19_0 : lp EJ Y F19L0 fr H = thenX (codeL EJ Y F19L0b (keepA (m 54 942218) fr) H) (again EJ Y F19L0 (m 54 942218)) := lp_un rfl
theorem in19_1 : codeL EJ Y F19L1 fr H = lp EJ Y F19L1 (keepA (m 54 24714) fr) H := codeL_in rfl
theorem un19_1 : lp EJ Y F19L1 fr H = thenX (codeL EJ Y F19L1b (keepA (m 54 24714) fr) H) (again EJ Y F19L1 (m 54 24714)) := lp_un rfl
theorem call19 {x0 x1 x2 : AV} (_h : 0 = 0) : callL EJ Y 19 [x0, x1, x2] H = endX [.tmp 6] (codeL EJ Y F19B (sp 54 [(2, x2), (1, x1), (0, x0)]) H) := by
  rw [callL_eq (F := F19) rfl rfl, st_in3]; rfl
theorem call21 {x0 : AV} (_h : 0 = 0) : callL EJ Y 21 [x0] H = endX [.tmp 2] (codeL EJ Y F21B (sp 35 [(0, x0)]) H) := by
  rw [callL_eq (F := F21) rfl rfl, st_in1]; rfl
theorem in22_0 : codeL EJ Y F22L0 fr H = lp EJ Y F22L0 (keepA (m 134 783) fr) H := codeL_in rfl
theorem un22_0 : lp EJ Y F22L0 fr H = thenX (codeL EJ Y F22L0b (keepA (m 134 783) fr) H) (again EJ Y F22L0 (m 134 783)) := lp_un rfl
theorem call22 {x0 x1 x2 x3 : AV} (_h : 0 = 0) : callL EJ Y 22 [x0, x1, x2, x3] H = endX [] (codeL EJ Y F22B (sp 134 [(3, x3), (2, x2), (1, x1), (0, x0)]) H) := by
  rw [callL_eq (F := F22) rfl rfl, st_in4]; rfl
theorem call23 {x0 : AV} (_h : 0 = 0) : callL EJ Y 23 [x0] H = endX [.tmp 2] (codeL EJ Y F23B (sp 8 [(0, x0)]) H) := by
  rw [callL_eq (F := F23) rfl rfl, st_in1]; rfl
theorem in24_0 : codeL EJ Y F24L0 fr H = lp EJ Y F24L0 (keepA (m 49 199) fr) H := codeL_in rfl
theorem un24_0 : lp EJ Y F24L0 fr H = thenX (codeL EJ Y F24L0b (keepA (m 49 199) fr) H) (again EJ Y F24L0 (m 49 199)) := lp_un rfl
theorem in24_1 : codeL EJ Y F24L1 fr H = lp EJ Y F24L1 (keepA (m 49 71) fr) H := codeL_in rfl
theorem un24_1 : lp EJ Y F24L1 fr H = thenX (codeL EJ Y F24L1b (keepA (m 49 71) fr) H) (again EJ Y F24L1 (m 49 71)) := lp_un rfl
theorem call24 {x0 x1 x2 : AV} (_h : 0 = 0) : callL EJ Y 24 [x0, x1, x2] H = endX [] (codeL EJ Y F24B (sp 49 [(2, x2), (1, x1), (0, x0)]) H) := by
  rw [callL_eq (F := F24) rfl rfl, st_in3]; rfl
theorem call30 {x0 x1 : AV} (_h : 0 = 0) : callL EJ Y 30 [x0, x1] H = endX [.tmp 4] (codeL EJ Y F30B (sp 17 [(1, x1), (0, x0)]) H) := by
  rw [callL_eq (F := F30) rfl rfl, st_in2]; rfl
theorem call40 {x0 : AV} (_h : 0 = 0) : callL EJ Y 40 [x0] H = endX [.tmp 2] (codeL EJ Y F40B (sp 6 [(0, x0)]) H) := by
  rw [callL_eq (F := F40) rfl rfl, st_in1]; rfl
end
theorem EJ_known : Known Go.Proofs.Try.prog EJ := by
  refine Known.of (fun f F h hs => by cases hs) (by kernel_rfl) fun f F h => ?_
  unfold EJ at h
  split at h
  · cases h; exact ⟨_, _, _, Go.Proofs.Try.func3, by decide, ok3⟩
  · cases h; exact ⟨_, _, _, Go.Proofs.Try.func4, by decide, ok4⟩
  · cases h; exact ⟨_, _, _, Go.Proofs.Try.func5, by decide, ok5⟩
  · cases h; exact ⟨_, _, _, Go.Proofs.Try.func6, by decide, ok6⟩
  · cases h; exact ⟨_, _, _, Go.Proofs.Try.func7, by decide, ok7⟩
  · cases h; exact ⟨_, _, _, Go.Proofs.Try.func8, by decide, ok8⟩
  · cases h; exact ⟨_, _, _, Go.Proofs.Try.func9, by decide, ok9⟩
  · cases h; exact ⟨_, _, _, Go.Proofs.Try.func10, by decide, ok10⟩
  · cases h; exact ⟨_, _, _, Go.Proofs.Try.func11, by decide, ok11⟩
  · cases h; exact ⟨_, _, _, Go.Proofs.Try.func12, by decide, ok12⟩
  · cases h; exact ⟨_, _, _, Go.Proofs.Try.func13, by decide, ok13⟩
  · cases h; exact ⟨_, _, _, Go.Proofs.Try.func14, by decide, ok14⟩
  · cases h; exact ⟨_, _, _, Go.Proofs.Try.func15, by decide, ok15⟩
  · cases h; exact ⟨_, _, _, Go.Proofs.Try.func16, by decide, ok16⟩
  · cases h; exact ⟨_, _, _, Go.Proofs.Try.func17, by decide, ok17⟩
  · cases h; exact ⟨_, _, _, Go.Proofs.Try.func18, by decide, ok18⟩
  · cases h; exact ⟨_, _, _, Go.Proofs.Try.func19, by decide, ok19⟩
  · cases h; exact ⟨_, _, _, Go.Proofs.Try.func21, by decide, ok21⟩
  · cases h; exact ⟨_, _, _, Go.Proofs.Try.func22, by decide, ok22⟩
  · cases h; exact ⟨_, _, _, Go.Proofs.Try.func23, by decide, ok23⟩
  · cases h; exact ⟨_, _, _, Go.Proofs.Try.func24, by decide, ok24⟩
  · cases h; exact ⟨_, _, _, Go.Proofs.Try.func30, by decide, ok30⟩
  · cases h; exact ⟨_, _, _, Go.Proofs.Try.func40, by decide, ok40⟩
  · cases h
end Go.X
