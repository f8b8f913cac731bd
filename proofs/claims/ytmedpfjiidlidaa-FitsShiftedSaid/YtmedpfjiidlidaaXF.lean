import Derived.Test.YtmedpfjiidlidaaXE
import Derived.Test.YtmedpfjiidlidaaProg
import Derived.KernelRfl
/-! The functions of the program that are met, as the small machine has them. Printed by a program of our own. -/
namespace Go.X
def F15L0b : XC :=
 .seq (.seq (.reg [⟨none, (some 10), .mov (.t 5)⟩,⟨none, (some 11), .mov (.t 0)⟩,⟨none, (some 12), .len (.t 11)⟩,⟨none, (some 13), .bin .lss (.t 10) (.t 12)⟩]) (.cond (.t 13) (.skip) (.exit 0 (m 35 2)))) (.seq (.block 1 (m 35 35) (.seq (.reg [⟨none, (some 16), .mov (.t 0)⟩,⟨none, (some 17), .mov (.t 5)⟩,⟨none, (some 18), .indexA 1 (.t 16) (.t 17)⟩,⟨none, (some 19), .load none (.t 18)⟩,⟨none, (some 20), .len (.t 19)⟩,⟨none, (some 21), .bin .gtr (.t 20) (.c (.int .i64 (20)))⟩]) (.cond (.t 21) (.seq (.reg [⟨none, (some 4), .mov (.c (.bool false))⟩]) (.ret (m 35 16))) (.skip)))) (.reg [⟨none, (some 14), .mov (.t 5)⟩,⟨none, (some 15), .bin .add (.t 14) (.c (.int .i64 (1)))⟩,⟨none, (some 5), .mov (.t 15)⟩]))
def F15L0 : XC := .loop (m 35 35) F15L0b
def F15L1b : XC :=
 .seq (.seq (.reg [⟨none, (some 22), .mov (.t 6)⟩,⟨none, (some 23), .mov (.t 1)⟩,⟨none, (some 24), .len (.t 23)⟩,⟨none, (some 25), .bin .lss (.t 22) (.t 24)⟩]) (.cond (.t 25) (.skip) (.exit 2 (m 35 0)))) (.seq (.block 3 (m 35 66) (.seq (.reg [⟨none, (some 28), .mov (.t 1)⟩,⟨none, (some 29), .mov (.t 6)⟩,⟨none, (some 30), .indexA 2 (.t 28) (.t 29)⟩,⟨none, (some 31), .fieldA 0 (.t 30)⟩,⟨none, (some 32), .load none (.t 31)⟩,⟨none, (some 33), .len (.t 32)⟩,⟨none, (some 34), .bin .gtr (.t 33) (.c (.int .i64 (20)))⟩]) (.cond (.t 34) (.seq (.reg [⟨none, (some 4), .mov (.c (.bool false))⟩]) (.ret (m 35 16))) (.skip)))) (.reg [⟨none, (some 26), .mov (.t 6)⟩,⟨none, (some 27), .bin .add (.t 26) (.c (.int .i64 (1)))⟩,⟨none, (some 6), .mov (.t 27)⟩]))
def F15L1 : XC := .loop (m 35 66) F15L1b
def F15T0 : XC :=
 .seq (.reg [⟨none, (some 4), .mov (.c (.bool true))⟩]) (.ret (m 35 16))
def F15T1 : XC :=
 .seq (.seq (.reg [⟨none, (some 6), .mov (.c (.int .i64 (0)))⟩]) (.block 2 (m 35 0) (F15L1)))
 F15T0
def F15B : XC :=
 .seq (.reg [⟨none, (some 4), .mov (.c (.bool false))⟩]) (.seq (.seq (.reg [⟨none, (some 7), .mov (.t 0)⟩,⟨none, (some 8), .len (.t 7)⟩,⟨none, (some 9), .bin .gtr (.t 8) (.c (.int .i64 (20)))⟩]) (.cond (.t 9) (.seq (.reg [⟨none, (some 4), .mov (.c (.bool false))⟩]) (.ret (m 35 16))) (.skip))) (.seq (.seq (.reg [⟨none, (some 5), .mov (.c (.int .i64 (0)))⟩]) (.block 0 (m 35 2) (F15L0)))
 F15T1))
def F15 : XF := ⟨2, 35, [.tmp 4], F15B⟩
def M15 : List (List Bool) := [(m 35 16), (m 35 2), (m 35 35), (m 35 2), (m 35 35), (m 35 16), (m 35 0), (m 35 66), (m 35 0), (m 35 66), (m 35 16), (m 35 16)]
def F16B : XC :=
 .seq (.reg [⟨none, (some 0), .mov (.c (.bool false))⟩]) (.seq (.reg [⟨none, (some 12), .bslice 1 2 [.int .i64 (0)] [(0, 1, .c (.int .i64 (0))), (1, 1, .c (.int .i64 (3)))]⟩,⟨none, (some 13), .bslice 1 2 [.int .i64 (0)] [(0, 1, .c (.int .i64 (1))), (1, 1, .c (.int .i64 (0)))]⟩,⟨none, (some 14), .bslice 1 2 [.nils] [(0, 1, .t 12), (1, 1, .t 13)]⟩,⟨none, (some 1), .mov (.t 14)⟩]) (.seq (.reg [⟨none, (some 16), .mov (.t 1)⟩,⟨none, (some 17), .call 1 30 [.t 16, .c (.int .i64 (3))]⟩,⟨none, (some 15), .mov (.t 17)⟩,⟨none, (some 18), .ext (.t 15) 0⟩,⟨none, (some 19), .ext (.t 15) 1⟩,⟨none, (some 2), .alloc [.nils, .int .i64 (0)]⟩,⟨none, none, .store 2 (.t 2) (.t 18)⟩,⟨none, (some 3), .mov (.t 19)⟩]) (.seq (.reg [⟨none, (some 21), .mov (.t 1)⟩,⟨none, (some 22), .call 1 17 [.t 21]⟩,⟨none, (some 20), .mov (.t 22)⟩,⟨none, (some 23), .ext (.t 20) 0⟩,⟨none, (some 24), .ext (.t 20) 1⟩,⟨none, (some 4), .mov (.t 23)⟩,⟨none, (some 5), .mov (.t 24)⟩]) (.seq (.reg [⟨none, (some 26), .bslice 1 2 [.int .i64 (0)] [(0, 1, .c (.int .i64 (2))), (1, 1, .c (.int .i64 (0)))]⟩,⟨none, (some 27), .bslice 1 2 [.int .i64 (0)] [(0, 1, .c (.int .i64 (0))), (1, 1, .c (.int .i64 (1)))]⟩,⟨none, (some 28), .bslice 1 2 [.nils] [(0, 1, .t 26), (1, 1, .t 27)]⟩,⟨none, (some 29), .call 1 17 [.t 28]⟩,⟨none, (some 25), .mov (.t 29)⟩,⟨none, (some 30), .ext (.t 25) 0⟩,⟨none, (some 31), .ext (.t 25) 1⟩,⟨none, (some 6), .mov (.t 30)⟩,⟨none, (some 7), .mov (.t 31)⟩]) (.seq (.reg [⟨none, (some 33), .mov (.t 1)⟩,⟨none, (some 34), .bslice 1 2 [.int .i64 (0)] [(0, 1, .c (.int .i64 (1))), (1, 1, .c (.int .i64 (0)))]⟩,⟨none, (some 35), .build [.nils, .int .i64 (0)] [(0, 1, .t 34), (1, 1, .c (.int .i64 (1)))]⟩,⟨none, (some 36), .bslice 1 2 [.int .i64 (0)] [(0, 1, .c (.int .i64 (0))), (1, 1, .c (.int .i64 (1)))]⟩,⟨none, (some 37), .build [.nils, .int .i64 (0)] [(0, 1, .t 36), (1, 1, .c (.int .i64 (1)))]⟩,⟨none, (some 38), .call 1 23 [.t 33, .t 35, .t 37]⟩,⟨none, (some 32), .mov (.t 38)⟩,⟨none, (some 39), .ext (.t 32) 0⟩,⟨none, (some 40), .ext (.t 32) 1⟩,⟨none, (some 8), .alloc [.int .i64 (0), .int .i64 (0)]⟩,⟨none, none, .store 2 (.t 8) (.t 39)⟩,⟨none, (some 9), .mov (.t 40)⟩]) (.seq (.reg [⟨none, (some 42), .mov (.t 1)⟩,⟨none, (some 43), .bslice 1 2 [.int .i64 (0)] [(0, 1, .c (.int .i64 (1))), (1, 1, .c (.int .i64 (0)))]⟩,⟨none, (some 44), .build [.nils, .int .i64 (0)] [(0, 1, .t 43), (1, 1, .c (.int .i64 (1)))]⟩,⟨none, (some 45), .call 1 27 [.t 42, .t 44]⟩,⟨none, (some 41), .mov (.t 45)⟩,⟨none, (some 46), .ext (.t 41) 0⟩,⟨none, (some 47), .ext (.t 41) 1⟩,⟨none, (some 10), .mov (.t 46)⟩,⟨none, (some 11), .mov (.t 47)⟩]) (.seq (.reg [⟨none, (some 48), .mov (.t 3)⟩,⟨none, (some 49), .bin .eql (.t 48) (.c (.int .i64 (0)))⟩,⟨none, (some 50), .mov (.t 49)⟩,⟨(some (50, true)), (some 51), .load (some 2) (.t 2)⟩,⟨(some (50, true)), (some 52), .bslice 1 2 [.int .i64 (0)] [(0, 1, .c (.int .i64 (3))), (1, 1, .c (.int .i64 (1)))]⟩,⟨(some (50, true)), (some 53), .build [.nils, .int .i64 (0)] [(0, 1, .t 52), (1, 1, .c (.int .i64 (4)))]⟩,⟨(some (50, true)), (some 54), .call 1 19 [.t 51, .t 53]⟩,⟨none, (some 55), .pick (.t 50) (.t 54) (.c (.bool false))⟩,⟨none, (some 56), .mov (.t 55)⟩,⟨(some (56, true)), (some 57), .mov (.t 5)⟩,⟨(some (56, true)), (some 58), .bin .eql (.t 57) (.c (.int .i64 (0)))⟩,⟨none, (some 59), .pick (.t 56) (.t 58) (.c (.bool false))⟩,⟨none, (some 60), .mov (.t 59)⟩,⟨(some (60, true)), (some 61), .mov (.t 4)⟩,⟨(some (60, true)), (some 62), .len (.t 61)⟩,⟨(some (60, true)), (some 63), .bin .eql (.t 62) (.c (.int .i64 (1)))⟩,⟨none, (some 64), .pick (.t 60) (.t 63) (.c (.bool false))⟩,⟨none, (some 65), .mov (.t 64)⟩,⟨(some (65, true)), (some 66), .mov (.t 4)⟩,⟨(some (65, true)), (some 67), .indexA 2 (.t 66) (.c (.int .i64 (0)))⟩,⟨(some (65, true)), (some 68), .load (some 2) (.t 67)⟩,⟨(some (65, true)), (some 69), .load (some 2) (.t 2)⟩,⟨(some (65, true)), (some 70), .call 1 19 [.t 68, .t 69]⟩,⟨none, (some 71), .pick (.t 65) (.t 70) (.c (.bool false))⟩,⟨none, (some 72), .mov (.t 71)⟩,⟨(some (72, true)), (some 73), .mov (.t 7)⟩,⟨(some (72, true)), (some 74), .bin .eql (.t 73) (.c (.int .i64 (0)))⟩,⟨none, (some 75), .pick (.t 72) (.t 74) (.c (.bool false))⟩,⟨none, (some 76), .mov (.t 75)⟩,⟨(some (76, true)), (some 77), .mov (.t 6)⟩,⟨(some (76, true)), (some 78), .len (.t 77)⟩,⟨(some (76, true)), (some 79), .bin .eql (.t 78) (.c (.int .i64 (2)))⟩,⟨none, (some 80), .pick (.t 76) (.t 79) (.c (.bool false))⟩,⟨none, (some 81), .mov (.t 80)⟩,⟨(some (81, true)), (some 82), .mov (.t 9)⟩,⟨(some (81, true)), (some 83), .bin .eql (.t 82) (.c (.int .i64 (0)))⟩,⟨none, (some 84), .pick (.t 81) (.t 83) (.c (.bool false))⟩,⟨none, (some 85), .mov (.t 84)⟩,⟨(some (85, true)), (some 86), .load (some 2) (.t 8)⟩,⟨(some (85, true)), (some 87), .build [.int .i64 (0), .int .i64 (0)] [(0, 1, .c (.int .i64 (3))), (1, 1, .c (.int .i64 (1)))]⟩,⟨(some (85, true)), (some 88), .eqs false [true, true] (.t 86) (.t 87)⟩,⟨none, (some 89), .pick (.t 85) (.t 88) (.c (.bool false))⟩,⟨none, (some 90), .mov (.t 89)⟩,⟨(some (90, true)), (some 91), .mov (.t 11)⟩,⟨(some (90, true)), (some 92), .bin .eql (.t 91) (.c (.int .i64 (0)))⟩,⟨none, (some 93), .pick (.t 90) (.t 92) (.c (.bool false))⟩,⟨none, (some 94), .mov (.t 93)⟩,⟨(some (94, true)), (some 95), .mov (.t 10)⟩,⟨(some (94, true)), (some 96), .bin .eql (.t 95) (.c (.int .i64 (2)))⟩,⟨none, (some 97), .pick (.t 94) (.t 96) (.c (.bool false))⟩,⟨none, (some 0), .mov (.t 97)⟩]) (.ret (m 98 1)))))))))
def F16 : XF := ⟨0, 98, [.tmp 0], F16B⟩
def M16 : List (List Bool) := [(m 98 1)]
def F17L0b : XC :=
 .seq (.seq (.reg [⟨none, (some 19), .mov (.t 9)⟩,⟨none, (some 20), .mov (.t 0)⟩,⟨none, (some 21), .len (.t 20)⟩,⟨none, (some 22), .bin .shl (.c (.int .i64 (1))) (.t 21)⟩,⟨none, (some 23), .bin .lss (.t 19) (.t 22)⟩]) (.cond (.t 23) (.skip) (.exit 0 (m 45 256)))) (.seq (.block 1 (m 45 977) (.seq (.reg [⟨none, (some 27), .mov (.t 6)⟩,⟨none, (some 28), .mov (.t 4)⟩,⟨none, (some 29), .mov (.t 9)⟩,⟨none, (some 30), .calld 1 (.t 27) [.t 28, .t 29]⟩,⟨none, (some 26), .mov (.t 30)⟩,⟨none, (some 31), .ext (.t 26) 0⟩,⟨none, (some 32), .ext (.t 26) 1⟩,⟨none, (some 10), .alloc [.nils, .int .i64 (0)]⟩,⟨none, none, .store 2 (.t 10) (.t 31)⟩,⟨none, (some 11), .mov (.t 32)⟩]) (.seq (.reg [⟨none, (some 33), .mov (.t 11)⟩,⟨none, (some 34), .mov (.t 33)⟩,⟨(some (34, true)), (some 35), .mov (.t 7)⟩,⟨(some (34, true)), (some 36), .mov (.t 4)⟩,⟨(some (34, true)), (some 37), .load (some 2) (.t 10)⟩,⟨(some (34, true)), (some 38), .calld 1 (.t 35) [.t 36, .t 37]⟩,⟨none, (some 39), .pick (.t 34) (.t 38) (.c (.bool false))⟩]) (.cond (.t 39) (.reg [⟨none, (some 40), .mov (.t 8)⟩,⟨none, (some 41), .load (some 2) (.t 10)⟩,⟨none, (some 42), .bslice 2 1 [.nils, .int .i64 (0)] [(0, 2, .t 41)]⟩,⟨none, (some 43), .app 2 32 (.t 40) (.t 42)⟩,⟨none, (some 8), .mov (.t 43)⟩]) (.skip))))) (.reg [⟨none, (some 24), .mov (.t 9)⟩,⟨none, (some 25), .bin .add (.t 24) (.c (.int .i64 (1)))⟩,⟨none, (some 9), .mov (.t 25)⟩]))
def F17L0 : XC := .loop (m 45 977) F17L0b
def F17T0 : XC :=
 .seq (.reg [⟨none, (some 44), .mov (.t 8)⟩,⟨none, (some 2), .mov (.t 44)⟩,⟨none, (some 3), .mov (.c (.int .i64 (0)))⟩]) (.ret (m 45 12))
def F17B : XC :=
 .seq (.reg [⟨none, (some 2), .mov (.c (.nils))⟩,⟨none, (some 3), .mov (.c (.int .i64 (0)))⟩]) (.seq (.reg [⟨none, (some 13), .mov (.t 0)⟩,⟨none, (some 14), .call 0 47 [.t 13]⟩,⟨none, (some 12), .mov (.t 14)⟩,⟨none, (some 15), .ext (.t 12) 0⟩,⟨none, (some 16), .ext (.t 12) 1⟩,⟨none, (some 4), .mov (.t 15)⟩,⟨none, (some 5), .mov (.t 16)⟩]) (.seq (.seq (.reg [⟨none, (some 17), .mov (.t 5)⟩,⟨none, (some 18), .un .not (.t 17)⟩]) (.cond (.t 18) (.seq (.reg [⟨none, (some 2), .mov (.c (.nils))⟩,⟨none, (some 3), .mov (.c (.int .i64 (2)))⟩]) (.ret (m 45 12))) (.skip))) (.seq (.reg [⟨none, (some 6), .mov (.c (.fn 48 []))⟩,⟨none, (some 7), .mov (.c (.fn 49 []))⟩]) (.seq (.reg [⟨none, (some 8), .mov (.c (.nils))⟩]) (.seq (.seq (.reg [⟨none, (some 9), .mov (.c (.int .i64 (1)))⟩]) (.block 0 (m 45 256) (F17L0)))
 F17T0)))))
def F17 : XF := ⟨1, 45, [.tmp 2, .tmp 3], F17B⟩
def M17 : List (List Bool) := [(m 45 12), (m 45 256), (m 45 977), (m 45 256), (m 45 977), (m 45 12)]
def F19L0b : XC :=
 .seq (.seq (.reg [⟨none, (some 20), .mov (.t 5)⟩,⟨none, (some 21), .fieldA 0 (.t 2)⟩,⟨none, (some 22), .load none (.t 21)⟩,⟨none, (some 23), .len (.t 22)⟩,⟨none, (some 24), .bin .lss (.t 20) (.t 23)⟩]) (.cond (.t 24) (.skip) (.exit 0 (m 38 0)))) (.seq (.block 1 (m 38 44) (.seq (.reg [⟨none, (some 27), .fieldA 0 (.t 2)⟩,⟨none, (some 28), .load none (.t 27)⟩,⟨none, (some 29), .mov (.t 5)⟩,⟨none, (some 30), .indexA 1 (.t 28) (.t 29)⟩,⟨none, (some 31), .load none (.t 30)⟩,⟨none, (some 32), .fieldA 0 (.t 3)⟩,⟨none, (some 33), .load none (.t 32)⟩,⟨none, (some 34), .mov (.t 5)⟩,⟨none, (some 35), .indexA 1 (.t 33) (.t 34)⟩,⟨none, (some 36), .load none (.t 35)⟩,⟨none, (some 37), .bin .neq (.t 31) (.t 36)⟩]) (.cond (.t 37) (.seq (.reg [⟨none, (some 4), .mov (.c (.bool false))⟩]) (.ret (m 38 16))) (.skip)))) (.reg [⟨none, (some 25), .mov (.t 5)⟩,⟨none, (some 26), .bin .add (.t 25) (.c (.int .i64 (1)))⟩,⟨none, (some 5), .mov (.t 26)⟩]))
def F19L0 : XC := .loop (m 38 44) F19L0b
def F19T0 : XC :=
 .seq (.reg [⟨none, (some 4), .mov (.c (.bool true))⟩]) (.ret (m 38 16))
def F19B : XC :=
 .seq (.reg [⟨none, (some 2), .box (.t 0)⟩,⟨none, (some 3), .box (.t 1)⟩,⟨none, (some 4), .mov (.c (.bool false))⟩]) (.seq (.seq (.reg [⟨none, (some 6), .fieldA 1 (.t 2)⟩,⟨none, (some 7), .load none (.t 6)⟩,⟨none, (some 8), .fieldA 1 (.t 3)⟩,⟨none, (some 9), .load none (.t 8)⟩,⟨none, (some 10), .bin .neq (.t 7) (.t 9)⟩,⟨none, (some 11), .mov (.t 10)⟩,⟨(some (11, false)), (some 12), .fieldA 0 (.t 2)⟩,⟨(some (11, false)), (some 13), .load none (.t 12)⟩,⟨(some (11, false)), (some 14), .len (.t 13)⟩,⟨(some (11, false)), (some 15), .fieldA 0 (.t 3)⟩,⟨(some (11, false)), (some 16), .load none (.t 15)⟩,⟨(some (11, false)), (some 17), .len (.t 16)⟩,⟨(some (11, false)), (some 18), .bin .neq (.t 14) (.t 17)⟩,⟨none, (some 19), .pick (.t 11) (.c (.bool true)) (.t 18)⟩]) (.cond (.t 19) (.seq (.reg [⟨none, (some 4), .mov (.c (.bool false))⟩]) (.ret (m 38 16))) (.skip))) (.seq (.seq (.reg [⟨none, (some 5), .mov (.c (.int .i64 (0)))⟩]) (.block 0 (m 38 0) (F19L0)))
 F19T0))
def F19 : XF := ⟨2, 38, [.tmp 4], F19B⟩
def M19 : List (List Bool) := [(m 38 16), (m 38 0), (m 38 44), (m 38 0), (m 38 44), (m 38 16), (m 38 16)]
def F21L0b : XC :=
 .seq (.reg [⟨none, (some 38), .bin .lss (.t 37) (.t 36)⟩]) (.seq (.cond (.t 38) (.skip) (.exit 0 (m 64 104))) (.seq (.block 1 (m 64 240518168680) (.seq (.reg [⟨none, (some 39), .indexA 1 (.t 35) (.t 37)⟩,⟨none, (some 40), .load none (.t 39)⟩,⟨none, (some 8), .mov (.t 40)⟩]) (.seq (.seq (.reg [⟨none, (some 41), .mov (.t 8)⟩,⟨none, (some 42), .bin .lss (.t 41) (.c (.int .i64 (0)))⟩,⟨none, (some 43), .mov (.t 42)⟩,⟨(some (43, false)), (some 44), .mov (.t 8)⟩,⟨(some (43, false)), (some 45), .fieldA 1 (.t 3)⟩,⟨(some (43, false)), (some 46), .load none (.t 45)⟩,⟨(some (43, false)), (some 47), .bin .gtr (.t 44) (.t 46)⟩,⟨none, (some 48), .pick (.t 43) (.c (.bool true)) (.t 47)⟩]) (.cond (.t 48) (.seq (.reg [⟨none, (some 4), .mov (.c (.bool false))⟩]) (.ret (m 64 16))) (.skip))) (.seq (.reg [⟨none, (some 49), .mov (.t 5)⟩,⟨none, (some 50), .mov (.t 8)⟩,⟨none, (some 51), .bin .add (.t 49) (.t 50)⟩,⟨none, (some 5), .mov (.t 51)⟩]) (.reg [⟨none, (some 52), .mov (.t 6)⟩,⟨none, (some 53), .mov (.t 8)⟩,⟨none, (some 54), .call 1 52 [.t 52, .t 53]⟩,⟨none, (some 6), .mov (.t 54)⟩]))))) (.reg [⟨none, (some 55), .bin .add (.t 37) (.c (.int .i64 (1)))⟩,⟨none, (some 37), .mov (.t 55)⟩])))
def F21L0 : XC := .loop (m 64 240518168680) F21L0b
def F21T0 : XC :=
 .seq (.reg [⟨none, (some 56), .mov (.t 5)⟩,⟨none, (some 57), .fieldA 1 (.t 3)⟩,⟨none, (some 58), .load none (.t 57)⟩,⟨none, (some 59), .bin .eql (.t 56) (.t 58)⟩,⟨none, (some 60), .mov (.t 59)⟩,⟨(some (60, true)), (some 61), .mov (.t 6)⟩,⟨(some (60, true)), (some 62), .bin .eql (.t 61) (.c (.int .i64 (1)))⟩,⟨none, (some 63), .pick (.t 60) (.t 62) (.c (.bool false))⟩,⟨none, (some 4), .mov (.t 63)⟩]) (.ret (m 64 16))
def F21B : XC :=
 .seq (.reg [⟨none, (some 3), .box (.t 1)⟩,⟨none, (some 4), .mov (.c (.bool false))⟩]) (.seq (.seq (.reg [⟨none, (some 9), .mov (.t 0)⟩,⟨none, (some 10), .bin .lss (.t 9) (.c (.int .i64 (1)))⟩,⟨none, (some 11), .mov (.t 10)⟩,⟨(some (11, false)), (some 12), .mov (.t 0)⟩,⟨(some (11, false)), (some 13), .bin .gtr (.t 12) (.c (.int .i64 (3)))⟩,⟨none, (some 14), .pick (.t 11) (.c (.bool true)) (.t 13)⟩,⟨none, (some 15), .mov (.t 14)⟩,⟨(some (15, false)), (some 16), .fieldA 0 (.t 3)⟩,⟨(some (15, false)), (some 17), .load none (.t 16)⟩,⟨(some (15, false)), (some 18), .len (.t 17)⟩,⟨(some (15, false)), (some 19), .mov (.t 0)⟩,⟨(some (15, false)), (some 20), .bin .neq (.t 18) (.t 19)⟩,⟨none, (some 21), .pick (.t 15) (.c (.bool true)) (.t 20)⟩,⟨none, (some 22), .mov (.t 21)⟩,⟨(some (22, false)), (some 23), .fieldA 1 (.t 3)⟩,⟨(some (22, false)), (some 24), .load none (.t 23)⟩,⟨(some (22, false)), (some 25), .bin .lss (.t 24) (.c (.int .i64 (1)))⟩,⟨none, (some 26), .pick (.t 22) (.c (.bool true)) (.t 25)⟩,⟨none, (some 27), .mov (.t 26)⟩,⟨(some (27, false)), (some 28), .fieldA 1 (.t 3)⟩,⟨(some (27, false)), (some 29), .load none (.t 28)⟩,⟨(some (27, false)), (some 30), .bin .gtr (.t 29) (.c (.int .i64 (10000)))⟩,⟨none, (some 31), .pick (.t 27) (.c (.bool true)) (.t 30)⟩]) (.cond (.t 31) (.seq (.reg [⟨none, (some 4), .mov (.c (.bool false))⟩]) (.ret (m 64 16))) (.skip))) (.seq (.reg [⟨none, (some 32), .fieldA 1 (.t 3)⟩,⟨none, (some 33), .load none (.t 32)⟩,⟨none, (some 5), .mov (.c (.int .i64 (0)))⟩,⟨none, (some 6), .mov (.t 33)⟩]) (.seq (.seq (.reg [⟨none, (some 34), .fieldA 0 (.t 3)⟩,⟨none, (some 35), .load none (.t 34)⟩,⟨none, (some 36), .len (.t 35)⟩,⟨none, (some 37), .mov (.c (.int .i64 (0)))⟩]) (.block 0 (m 64 104) (F21L0)))
 F21T0)))
def F21 : XF := ⟨2, 64, [.tmp 4], F21B⟩
def M21 : List (List Bool) := [(m 64 16), (m 64 104), (m 64 240518168680), (m 64 104), (m 64 240518168680), (m 64 16), (m 64 16)]
def F22L0b : XC :=
 .seq (.seq (.reg [⟨none, (some 33), .mov (.t 7)⟩,⟨none, (some 34), .mov (.t 0)⟩,⟨none, (some 35), .bin .lss (.t 33) (.t 34)⟩]) (.cond (.t 35) (.skip) (.exit 0 (m 76 104)))) (.seq (.block 1 (m 76 233) (.seq (.seq (.reg [⟨none, (some 38), .fieldA 0 (.t 3)⟩,⟨none, (some 39), .load none (.t 38)⟩,⟨none, (some 40), .mov (.t 7)⟩,⟨none, (some 41), .indexA 1 (.t 39) (.t 40)⟩,⟨none, (some 42), .load none (.t 41)⟩,⟨none, (some 43), .bin .lss (.t 42) (.c (.int .i64 (0)))⟩,⟨none, (some 44), .mov (.t 43)⟩,⟨(some (44, false)), (some 45), .fieldA 0 (.t 3)⟩,⟨(some (44, false)), (some 46), .load none (.t 45)⟩,⟨(some (44, false)), (some 47), .mov (.t 7)⟩,⟨(some (44, false)), (some 48), .indexA 1 (.t 46) (.t 47)⟩,⟨(some (44, false)), (some 49), .load none (.t 48)⟩,⟨(some (44, false)), (some 50), .fieldA 1 (.t 3)⟩,⟨(some (44, false)), (some 51), .load none (.t 50)⟩,⟨(some (44, false)), (some 52), .bin .gtr (.t 49) (.t 51)⟩,⟨none, (some 53), .pick (.t 44) (.c (.bool true)) (.t 52)⟩]) (.cond (.t 53) (.seq (.reg [⟨none, (some 4), .mov (.c (.bool false))⟩]) (.ret (m 76 16))) (.skip))) (.seq (.reg [⟨none, (some 54), .mov (.t 5)⟩,⟨none, (some 55), .fieldA 0 (.t 3)⟩,⟨none, (some 56), .load none (.t 55)⟩,⟨none, (some 57), .mov (.t 7)⟩,⟨none, (some 58), .indexA 1 (.t 56) (.t 57)⟩,⟨none, (some 59), .load none (.t 58)⟩,⟨none, (some 60), .bin .add (.t 54) (.t 59)⟩,⟨none, (some 5), .mov (.t 60)⟩]) (.reg [⟨none, (some 61), .mov (.t 6)⟩,⟨none, (some 62), .fieldA 0 (.t 3)⟩,⟨none, (some 63), .load none (.t 62)⟩,⟨none, (some 64), .mov (.t 7)⟩,⟨none, (some 65), .indexA 1 (.t 63) (.t 64)⟩,⟨none, (some 66), .load none (.t 65)⟩,⟨none, (some 67), .call 1 53 [.t 61, .t 66]⟩,⟨none, (some 6), .mov (.t 67)⟩])))) (.reg [⟨none, (some 36), .mov (.t 7)⟩,⟨none, (some 37), .bin .add (.t 36) (.c (.int .i64 (1)))⟩,⟨none, (some 7), .mov (.t 37)⟩]))
def F22L0 : XC := .loop (m 76 233) F22L0b
def F22T0 : XC :=
 .seq (.reg [⟨none, (some 68), .mov (.t 5)⟩,⟨none, (some 69), .fieldA 1 (.t 3)⟩,⟨none, (some 70), .load none (.t 69)⟩,⟨none, (some 71), .bin .eql (.t 68) (.t 70)⟩,⟨none, (some 72), .mov (.t 71)⟩,⟨(some (72, true)), (some 73), .mov (.t 6)⟩,⟨(some (72, true)), (some 74), .bin .eql (.t 73) (.c (.int .i64 (1)))⟩,⟨none, (some 75), .pick (.t 72) (.t 74) (.c (.bool false))⟩,⟨none, (some 4), .mov (.t 75)⟩]) (.ret (m 76 16))
def F22B : XC :=
 .seq (.reg [⟨none, (some 3), .box (.t 1)⟩,⟨none, (some 4), .mov (.c (.bool false))⟩]) (.seq (.seq (.reg [⟨none, (some 8), .mov (.t 0)⟩,⟨none, (some 9), .bin .lss (.t 8) (.c (.int .i64 (1)))⟩,⟨none, (some 10), .mov (.t 9)⟩,⟨(some (10, false)), (some 11), .mov (.t 0)⟩,⟨(some (10, false)), (some 12), .bin .gtr (.t 11) (.c (.int .i64 (3)))⟩,⟨none, (some 13), .pick (.t 10) (.c (.bool true)) (.t 12)⟩,⟨none, (some 14), .mov (.t 13)⟩,⟨(some (14, false)), (some 15), .fieldA 0 (.t 3)⟩,⟨(some (14, false)), (some 16), .load none (.t 15)⟩,⟨(some (14, false)), (some 17), .len (.t 16)⟩,⟨(some (14, false)), (some 18), .mov (.t 0)⟩,⟨(some (14, false)), (some 19), .bin .neq (.t 17) (.t 18)⟩,⟨none, (some 20), .pick (.t 14) (.c (.bool true)) (.t 19)⟩,⟨none, (some 21), .mov (.t 20)⟩,⟨(some (21, false)), (some 22), .fieldA 1 (.t 3)⟩,⟨(some (21, false)), (some 23), .load none (.t 22)⟩,⟨(some (21, false)), (some 24), .bin .lss (.t 23) (.c (.int .i64 (1)))⟩,⟨none, (some 25), .pick (.t 21) (.c (.bool true)) (.t 24)⟩,⟨none, (some 26), .mov (.t 25)⟩,⟨(some (26, false)), (some 27), .fieldA 1 (.t 3)⟩,⟨(some (26, false)), (some 28), .load none (.t 27)⟩,⟨(some (26, false)), (some 29), .bin .gtr (.t 28) (.c (.int .i64 (10000)))⟩,⟨none, (some 30), .pick (.t 26) (.c (.bool true)) (.t 29)⟩]) (.cond (.t 30) (.seq (.reg [⟨none, (some 4), .mov (.c (.bool false))⟩]) (.ret (m 76 16))) (.skip))) (.seq (.reg [⟨none, (some 31), .fieldA 1 (.t 3)⟩,⟨none, (some 32), .load none (.t 31)⟩,⟨none, (some 5), .mov (.c (.int .i64 (0)))⟩,⟨none, (some 6), .mov (.t 32)⟩]) (.seq (.seq (.reg [⟨none, (some 7), .mov (.c (.int .i64 (0)))⟩]) (.block 0 (m 76 104) (F22L0)))
 F22T0)))
def F22 : XF := ⟨2, 76, [.tmp 4], F22B⟩
def M22 : List (List Bool) := [(m 76 16), (m 76 104), (m 76 233), (m 76 104), (m 76 233), (m 76 16), (m 76 16)]
def F23B : XC :=
 .seq (.reg [⟨none, (some 4), .box (.t 1)⟩,⟨none, (some 5), .box (.t 2)⟩,⟨none, (some 6), .alloc [.int .i64 (0), .int .i64 (0)]⟩,⟨none, (some 7), .mov (.c (.int .i64 (0)))⟩]) (.seq (.reg [⟨none, (some 11), .mov (.t 0)⟩,⟨none, (some 12), .load (some 2) (.t 4)⟩,⟨none, (some 13), .load (some 2) (.t 5)⟩,⟨none, (some 14), .bslice 2 2 [.nils, .int .i64 (0)] [(0, 2, .t 12), (2, 2, .t 13)]⟩,⟨none, (some 15), .call 0 54 [.t 11, .t 14]⟩,⟨none, (some 10), .mov (.t 15)⟩,⟨none, (some 16), .ext (.t 10) 0⟩,⟨none, (some 17), .ext (.t 10) 1⟩,⟨none, (some 8), .mov (.t 16)⟩,⟨none, (some 9), .mov (.t 17)⟩]) (.seq (.seq (.reg [⟨none, (some 18), .mov (.t 9)⟩,⟨none, (some 19), .un .not (.t 18)⟩]) (.cond (.t 19) (.seq (.reg [⟨none, (some 20), .build [.int .i64 (0), .int .i64 (0)] []⟩,⟨none, none, .store 2 (.t 6) (.t 20)⟩,⟨none, (some 7), .mov (.c (.int .i64 (2)))⟩]) (.ret (m 31 192))) (.skip))) (.seq (.reg [⟨none, (some 21), .mov (.t 8)⟩,⟨none, (some 22), .load (some 2) (.t 4)⟩,⟨none, (some 23), .load (some 2) (.t 5)⟩,⟨none, (some 24), .call 1 56 [.t 21, .t 22, .t 23]⟩,⟨none, (some 25), .fieldA 1 (.t 4)⟩,⟨none, (some 26), .load none (.t 25)⟩,⟨none, (some 27), .fieldA 1 (.t 5)⟩,⟨none, (some 28), .load none (.t 27)⟩,⟨none, (some 29), .bin .mul (.t 26) (.t 28)⟩,⟨none, (some 30), .call 1 55 [.t 24, .t 29]⟩,⟨none, none, .store 2 (.t 6) (.t 30)⟩,⟨none, (some 7), .mov (.c (.int .i64 (0)))⟩]) (.ret (m 31 192)))))
def F23 : XF := ⟨3, 31, [.cell 6 (some 2), .tmp 7], F23B⟩
def M23 : List (List Bool) := [(m 31 192), (m 31 192)]
def F25B : XC :=
 .seq (.reg [⟨none, (some 3), .box (.t 1)⟩,⟨none, (some 4), .mov (.c (.bool false))⟩,⟨none, (some 5), .mov (.c (.int .i64 (0)))⟩]) (.seq (.reg [⟨none, (some 9), .mov (.t 0)⟩,⟨none, (some 10), .load (some 2) (.t 3)⟩,⟨none, (some 11), .bslice 2 1 [.nils, .int .i64 (0)] [(0, 2, .t 10)]⟩,⟨none, (some 12), .call 0 54 [.t 9, .t 11]⟩,⟨none, (some 8), .mov (.t 12)⟩,⟨none, (some 13), .ext (.t 8) 0⟩,⟨none, (some 14), .ext (.t 8) 1⟩,⟨none, (some 6), .mov (.t 13)⟩,⟨none, (some 7), .mov (.t 14)⟩]) (.seq (.seq (.reg [⟨none, (some 15), .mov (.t 7)⟩,⟨none, (some 16), .un .not (.t 15)⟩]) (.cond (.t 16) (.seq (.reg [⟨none, (some 4), .mov (.c (.bool false))⟩,⟨none, (some 5), .mov (.c (.int .i64 (2)))⟩]) (.ret (m 20 48))) (.skip))) (.seq (.reg [⟨none, (some 17), .mov (.t 6)⟩,⟨none, (some 18), .load (some 2) (.t 3)⟩,⟨none, (some 19), .call 1 60 [.t 17, .t 18]⟩,⟨none, (some 4), .mov (.t 19)⟩,⟨none, (some 5), .mov (.c (.int .i64 (0)))⟩]) (.ret (m 20 48)))))
def F25 : XF := ⟨2, 20, [.tmp 4, .tmp 5], F25B⟩
def M25 : List (List Bool) := [(m 20 48), (m 20 48)]
def F27B : XC :=
 .seq (.reg [⟨none, (some 3), .box (.t 1)⟩,⟨none, (some 4), .mov (.c (.int .i64 (0)))⟩,⟨none, (some 5), .mov (.c (.int .i64 (0)))⟩]) (.seq (.reg [⟨none, (some 9), .mov (.t 0)⟩,⟨none, (some 10), .load (some 2) (.t 3)⟩,⟨none, (some 11), .bslice 2 1 [.nils, .int .i64 (0)] [(0, 2, .t 10)]⟩,⟨none, (some 12), .call 0 54 [.t 9, .t 11]⟩,⟨none, (some 8), .mov (.t 12)⟩,⟨none, (some 13), .ext (.t 8) 0⟩,⟨none, (some 14), .ext (.t 8) 1⟩,⟨none, (some 6), .mov (.t 13)⟩,⟨none, (some 7), .mov (.t 14)⟩]) (.seq (.seq (.reg [⟨none, (some 15), .mov (.t 7)⟩,⟨none, (some 16), .un .not (.t 15)⟩]) (.cond (.t 16) (.seq (.reg [⟨none, (some 4), .mov (.c (.int .i64 (0)))⟩,⟨none, (some 5), .mov (.c (.int .i64 (2)))⟩]) (.ret (m 20 48))) (.skip))) (.seq (.reg [⟨none, (some 17), .mov (.t 6)⟩,⟨none, (some 18), .load (some 2) (.t 3)⟩,⟨none, (some 19), .call 1 62 [.t 17, .t 18]⟩,⟨none, (some 4), .mov (.t 19)⟩,⟨none, (some 5), .mov (.c (.int .i64 (0)))⟩]) (.ret (m 20 48)))))
def F27 : XF := ⟨2, 20, [.tmp 4, .tmp 5], F27B⟩
def M27 : List (List Bool) := [(m 20 48), (m 20 48)]
def F30B : XC :=
 .seq (.reg [⟨none, (some 4), .alloc [.nils, .int .i64 (0)]⟩,⟨none, (some 5), .mov (.c (.int .i64 (0)))⟩]) (.seq (.reg [⟨none, (some 10), .mov (.t 0)⟩,⟨none, (some 11), .call 0 47 [.t 10]⟩,⟨none, (some 9), .mov (.t 11)⟩,⟨none, (some 12), .ext (.t 9) 0⟩,⟨none, (some 13), .ext (.t 9) 1⟩,⟨none, (some 6), .mov (.t 12)⟩,⟨none, (some 7), .mov (.t 13)⟩]) (.seq (.seq (.reg [⟨none, (some 14), .mov (.t 7)⟩,⟨none, (some 15), .un .not (.t 14)⟩,⟨none, (some 16), .mov (.t 15)⟩,⟨(some (16, false)), (some 17), .mov (.t 1)⟩,⟨(some (16, false)), (some 18), .bin .lss (.t 17) (.c (.int .i64 (1)))⟩,⟨none, (some 19), .pick (.t 16) (.c (.bool true)) (.t 18)⟩,⟨none, (some 20), .mov (.t 19)⟩,⟨(some (20, false)), (some 21), .mov (.t 1)⟩,⟨(some (20, false)), (some 22), .mov (.t 0)⟩,⟨(some (20, false)), (some 23), .len (.t 22)⟩,⟨(some (20, false)), (some 24), .bin .shl (.c (.int .i64 (1))) (.t 23)⟩,⟨(some (20, false)), (some 25), .bin .geq (.t 21) (.t 24)⟩,⟨none, (some 26), .pick (.t 20) (.c (.bool true)) (.t 25)⟩]) (.cond (.t 26) (.seq (.reg [⟨none, (some 27), .build [.nils, .int .i64 (0)] []⟩,⟨none, none, .store 2 (.t 4) (.t 27)⟩,⟨none, (some 5), .mov (.c (.int .i64 (2)))⟩]) (.ret (m 38 48))) (.skip))) (.seq (.reg [⟨none, (some 29), .mov (.t 6)⟩,⟨none, (some 30), .mov (.t 1)⟩,⟨none, (some 31), .call 1 48 [.t 29, .t 30]⟩,⟨none, (some 28), .mov (.t 31)⟩,⟨none, (some 32), .ext (.t 28) 0⟩,⟨none, (some 33), .ext (.t 28) 1⟩,⟨none, (some 8), .alloc [.nils, .int .i64 (0)]⟩,⟨none, none, .store 2 (.t 8) (.t 32)⟩,⟨none, (some 7), .mov (.t 33)⟩]) (.seq (.seq (.reg [⟨none, (some 34), .mov (.t 7)⟩,⟨none, (some 35), .un .not (.t 34)⟩]) (.cond (.t 35) (.seq (.reg [⟨none, (some 36), .build [.nils, .int .i64 (0)] []⟩,⟨none, none, .store 2 (.t 4) (.t 36)⟩,⟨none, (some 5), .mov (.c (.int .i64 (10)))⟩]) (.ret (m 38 48))) (.skip))) (.seq (.reg [⟨none, (some 37), .load (some 2) (.t 8)⟩,⟨none, none, .store 2 (.t 4) (.t 37)⟩,⟨none, (some 5), .mov (.c (.int .i64 (0)))⟩]) (.ret (m 38 48)))))))
def F30 : XF := ⟨2, 38, [.cell 4 (some 2), .tmp 5], F30B⟩
def M30 : List (List Bool) := [(m 38 48), (m 38 48), (m 38 48)]
def F34L0b : XC :=
 .seq (.seq (.reg [⟨none, (some 19), .mov (.t 4)⟩,⟨none, (some 20), .mov (.t 0)⟩,⟨none, (some 21), .mov (.t 3)⟩,⟨none, (some 22), .indexA 1 (.t 20) (.t 21)⟩,⟨none, (some 23), .load none (.t 22)⟩,⟨none, (some 24), .len (.t 23)⟩,⟨none, (some 25), .bin .lss (.t 19) (.t 24)⟩]) (.cond (.t 25) (.skip) (.exit 2 (m 54 9)))) (.seq (.block 3 (m 54 25) (.seq (.reg [⟨none, (some 28), .mov (.t 0)⟩,⟨none, (some 29), .mov (.t 3)⟩,⟨none, (some 30), .indexA 1 (.t 28) (.t 29)⟩,⟨none, (some 31), .load none (.t 30)⟩,⟨none, (some 32), .mov (.t 4)⟩,⟨none, (some 33), .indexA 1 (.t 31) (.t 32)⟩,⟨none, (some 34), .load none (.t 33)⟩,⟨none, (some 35), .bin .lss (.t 34) (.c (.int .i64 (-20)))⟩,⟨none, (some 36), .mov (.t 35)⟩,⟨(some (36, false)), (some 37), .mov (.t 0)⟩,⟨(some (36, false)), (some 38), .mov (.t 3)⟩,⟨(some (36, false)), (some 39), .indexA 1 (.t 37) (.t 38)⟩,⟨(some (36, false)), (some 40), .load none (.t 39)⟩,⟨(some (36, false)), (some 41), .mov (.t 4)⟩,⟨(some (36, false)), (some 42), .indexA 1 (.t 40) (.t 41)⟩,⟨(some (36, false)), (some 43), .load none (.t 42)⟩,⟨(some (36, false)), (some 44), .bin .gtr (.t 43) (.c (.int .i64 (20)))⟩,⟨none, (some 45), .pick (.t 36) (.c (.bool true)) (.t 44)⟩]) (.cond (.t 45) (.seq (.reg [⟨none, (some 2), .mov (.c (.bool false))⟩]) (.ret (m 54 4))) (.skip)))) (.reg [⟨none, (some 26), .mov (.t 4)⟩,⟨none, (some 27), .bin .add (.t 26) (.c (.int .i64 (1)))⟩,⟨none, (some 4), .mov (.t 27)⟩]))
def F34L0 : XC := .loop (m 54 25) F34L0b
def F34T0 : XC :=
 .reg [⟨none, (some 9), .mov (.t 3)⟩,⟨none, (some 10), .bin .add (.t 9) (.c (.int .i64 (1)))⟩,⟨none, (some 3), .mov (.t 10)⟩]
def F34L1b : XC :=
 .seq (.seq (.reg [⟨none, (some 5), .mov (.t 3)⟩,⟨none, (some 6), .mov (.t 0)⟩,⟨none, (some 7), .len (.t 6)⟩,⟨none, (some 8), .bin .lss (.t 5) (.t 7)⟩]) (.cond (.t 8) (.skip) (.exit 0 (m 54 1)))) (.seq (.block 1 (m 54 9) (.seq (.seq (.reg [⟨none, (some 11), .mov (.t 0)⟩,⟨none, (some 12), .mov (.t 3)⟩,⟨none, (some 13), .indexA 1 (.t 11) (.t 12)⟩,⟨none, (some 14), .load none (.t 13)⟩,⟨none, (some 15), .len (.t 14)⟩,⟨none, (some 16), .mov (.t 0)⟩,⟨none, (some 17), .len (.t 16)⟩,⟨none, (some 18), .bin .neq (.t 15) (.t 17)⟩]) (.cond (.t 18) (.seq (.reg [⟨none, (some 2), .mov (.c (.bool false))⟩]) (.ret (m 54 4))) (.skip))) (.seq (.reg [⟨none, (some 4), .mov (.c (.int .i64 (0)))⟩]) (.block 2 (m 54 9) (F34L0)))))
 F34T0)
def F34L1 : XC := .loop (m 54 9) F34L1b
def F34T1 : XC :=
 .seq (.reg [⟨none, (some 46), .mov (.t 0)⟩,⟨none, (some 47), .len (.t 46)⟩,⟨none, (some 48), .bin .geq (.t 47) (.c (.int .i64 (1)))⟩,⟨none, (some 49), .mov (.t 48)⟩,⟨(some (49, true)), (some 50), .mov (.t 0)⟩,⟨(some (49, true)), (some 51), .len (.t 50)⟩,⟨(some (49, true)), (some 52), .bin .leq (.t 51) (.c (.int .i64 (3)))⟩,⟨none, (some 53), .pick (.t 49) (.t 52) (.c (.bool false))⟩,⟨none, (some 2), .mov (.t 53)⟩]) (.ret (m 54 4))
def F34B : XC :=
 .seq (.reg [⟨none, (some 2), .mov (.c (.bool false))⟩]) (.seq (.seq (.reg [⟨none, (some 3), .mov (.c (.int .i64 (0)))⟩]) (.block 0 (m 54 1) (F34L1)))
 F34T1)
def F34 : XF := ⟨1, 54, [.tmp 2], F34B⟩
def M34 : List (List Bool) := [(m 54 1), (m 54 9), (m 54 1), (m 54 9), (m 54 4), (m 54 9), (m 54 25), (m 54 9), (m 54 25), (m 54 4), (m 54 4)]
def F47L0b : XC :=
 .seq (.reg [⟨none, (some 17), .bin .lss (.t 16) (.t 15)⟩]) (.seq (.cond (.t 17) (.skip) (.exit 0 (m 37 1))) (.seq (.block 1 (m 37 114689) (.seq (.reg [⟨none, (some 18), .indexA 1 (.t 14) (.t 16)⟩,⟨none, (some 19), .load none (.t 18)⟩,⟨none, (some 5), .mov (.t 19)⟩]) (.seq (.reg [⟨none, (some 20), .mov (.t 5)⟩,⟨none, (some 21), .len (.t 20)⟩,⟨none, (some 22), .mov (.t 0)⟩,⟨none, (some 23), .len (.t 22)⟩,⟨none, (some 24), .bin .neq (.t 21) (.t 23)⟩,⟨none, (some 25), .mov (.t 24)⟩,⟨(some (25, false)), (some 26), .mov (.t 5)⟩,⟨(some (25, false)), (some 27), .call 1 65 [.t 26]⟩,⟨(some (25, false)), (some 28), .bin .lss (.t 27) (.c (.int .i64 (-20)))⟩,⟨none, (some 29), .pick (.t 25) (.c (.bool true)) (.t 28)⟩,⟨none, (some 30), .mov (.t 29)⟩,⟨(some (30, false)), (some 31), .mov (.t 5)⟩,⟨(some (30, false)), (some 32), .call 1 66 [.t 31]⟩,⟨(some (30, false)), (some 33), .bin .gtr (.t 32) (.c (.int .i64 (20)))⟩,⟨none, (some 34), .pick (.t 30) (.c (.bool true)) (.t 33)⟩]) (.cond (.t 34) (.seq (.reg [⟨none, (some 2), .mov (.c (.nils))⟩,⟨none, (some 3), .mov (.c (.bool false))⟩]) (.ret (m 37 12))) (.skip))))) (.reg [⟨none, (some 35), .bin .add (.t 16) (.c (.int .i64 (1)))⟩,⟨none, (some 16), .mov (.t 35)⟩])))
def F47L0 : XC := .loop (m 37 114689) F47L0b
def F47T0 : XC :=
 .seq (.reg [⟨none, (some 36), .mov (.t 0)⟩,⟨none, (some 2), .mov (.t 36)⟩,⟨none, (some 3), .mov (.c (.bool true))⟩]) (.ret (m 37 12))
def F47B : XC :=
 .seq (.reg [⟨none, (some 2), .mov (.c (.nils))⟩,⟨none, (some 3), .mov (.c (.bool false))⟩]) (.seq (.seq (.reg [⟨none, (some 6), .mov (.t 0)⟩,⟨none, (some 7), .len (.t 6)⟩,⟨none, (some 8), .bin .lss (.t 7) (.c (.int .i64 (1)))⟩,⟨none, (some 9), .mov (.t 8)⟩,⟨(some (9, false)), (some 10), .mov (.t 0)⟩,⟨(some (9, false)), (some 11), .len (.t 10)⟩,⟨(some (9, false)), (some 12), .bin .gtr (.t 11) (.c (.int .i64 (3)))⟩,⟨none, (some 13), .pick (.t 9) (.c (.bool true)) (.t 12)⟩]) (.cond (.t 13) (.seq (.reg [⟨none, (some 2), .mov (.c (.nils))⟩,⟨none, (some 3), .mov (.c (.bool false))⟩]) (.ret (m 37 12))) (.skip))) (.seq (.seq (.reg [⟨none, (some 14), .mov (.t 0)⟩,⟨none, (some 15), .len (.t 14)⟩,⟨none, (some 16), .mov (.c (.int .i64 (0)))⟩]) (.block 0 (m 37 1) (F47L0)))
 F47T0))
def F47 : XF := ⟨1, 37, [.tmp 2, .tmp 3], F47B⟩
def M47 : List (List Bool) := [(m 37 12), (m 37 1), (m 37 114689), (m 37 1), (m 37 114689), (m 37 12), (m 37 12)]
def F48L0b : XC :=
 .seq (.reg [⟨none, (some 23), .bin .lss (.t 22) (.t 21)⟩]) (.seq (.cond (.t 23) (.skip) (.exit 0 (m 242 83))) (.seq (.block 1 (m 242 6291539) (.seq (.reg [⟨none, (some 24), .mov (.t 22)⟩,⟨none, (some 7), .mov (.t 24)⟩]) (.seq (.reg [⟨none, (some 25), .mov (.t 1)⟩,⟨none, (some 26), .mov (.t 7)⟩,⟨none, (some 27), .bin .shr (.t 25) (.t 26)⟩,⟨none, (some 28), .bin .and (.t 27) (.c (.int .i64 (1)))⟩,⟨none, (some 29), .bin .eql (.t 28) (.c (.int .i64 (1)))⟩]) (.cond (.t 29) (.reg [⟨none, (some 30), .mov (.t 6)⟩,⟨none, (some 31), .mov (.t 7)⟩,⟨none, (some 32), .bslice 1 1 [.int .i64 (0)] [(0, 1, .t 31)]⟩,⟨none, (some 33), .app 1 8 (.t 30) (.t 32)⟩,⟨none, (some 6), .mov (.t 33)⟩]) (.skip))))) (.reg [⟨none, (some 34), .bin .add (.t 22) (.c (.int .i64 (1)))⟩,⟨none, (some 22), .mov (.t 34)⟩])))
def F48L0 : XC := .loop (m 242 6291539) F48L0b
def F48L1b : XC :=
 .seq (.reg [⟨none, (some 43), .bin .lss (.t 42) (.t 41)⟩]) (.seq (.cond (.t 43) (.skip) (.exit 3 (m 242 274))) (.seq (.block 4 (m 242 6597069766995) (.seq (.reg [⟨none, (some 44), .mov (.t 42)⟩,⟨none, (some 11), .mov (.t 44)⟩]) (.seq (.reg [⟨none, (some 45), .mov (.t 6)⟩,⟨none, (some 46), .mov (.t 11)⟩,⟨none, (some 47), .bin .add (.t 46) (.c (.int .i64 (1)))⟩,⟨none, (some 48), .bin .rem (.t 47) (.c (.int .i64 (3)))⟩,⟨none, (some 49), .indexA 1 (.t 45) (.t 48)⟩,⟨none, (some 50), .load none (.t 49)⟩,⟨none, (some 51), .mov (.t 6)⟩,⟨none, (some 52), .mov (.t 11)⟩,⟨none, (some 53), .bin .add (.t 52) (.c (.int .i64 (2)))⟩,⟨none, (some 54), .bin .rem (.t 53) (.c (.int .i64 (3)))⟩,⟨none, (some 55), .indexA 1 (.t 51) (.t 54)⟩,⟨none, (some 56), .load none (.t 55)⟩,⟨none, (some 12), .mov (.t 50)⟩,⟨none, (some 13), .mov (.t 56)⟩]) (.reg [⟨none, (some 57), .mov (.t 8)⟩,⟨none, (some 58), .mov (.t 6)⟩,⟨none, (some 59), .mov (.t 11)⟩,⟨none, (some 60), .indexA 1 (.t 58) (.t 59)⟩,⟨none, (some 61), .load none (.t 60)⟩,⟨none, (some 62), .mov (.t 0)⟩,⟨none, (some 63), .mov (.t 6)⟩,⟨none, (some 64), .indexA 1 (.t 63) (.c (.int .i64 (0)))⟩,⟨none, (some 65), .load none (.t 64)⟩,⟨none, (some 66), .indexA 1 (.t 62) (.t 65)⟩,⟨none, (some 67), .load none (.t 66)⟩,⟨none, (some 68), .mov (.t 12)⟩,⟨none, (some 69), .indexA 1 (.t 67) (.t 68)⟩,⟨none, (some 70), .load none (.t 69)⟩,⟨none, (some 71), .mov (.t 0)⟩,⟨none, (some 72), .mov (.t 6)⟩,⟨none, (some 73), .indexA 1 (.t 72) (.c (.int .i64 (1)))⟩,⟨none, (some 74), .load none (.t 73)⟩,⟨none, (some 75), .indexA 1 (.t 71) (.t 74)⟩,⟨none, (some 76), .load none (.t 75)⟩,⟨none, (some 77), .mov (.t 12)⟩,⟨none, (some 78), .indexA 1 (.t 76) (.t 77)⟩,⟨none, (some 79), .load none (.t 78)⟩,⟨none, (some 80), .bin .sub (.t 70) (.t 79)⟩,⟨none, (some 81), .mov (.t 0)⟩,⟨none, (some 82), .mov (.t 6)⟩,⟨none, (some 83), .indexA 1 (.t 82) (.c (.int .i64 (0)))⟩,⟨none, (some 84), .load none (.t 83)⟩,⟨none, (some 85), .indexA 1 (.t 81) (.t 84)⟩,⟨none, (some 86), .load none (.t 85)⟩,⟨none, (some 87), .mov (.t 13)⟩,⟨none, (some 88), .indexA 1 (.t 86) (.t 87)⟩,⟨none, (some 89), .load none (.t 88)⟩,⟨none, (some 90), .mov (.t 0)⟩,⟨none, (some 91), .mov (.t 6)⟩,⟨none, (some 92), .indexA 1 (.t 91) (.c (.int .i64 (2)))⟩,⟨none, (some 93), .load none (.t 92)⟩,⟨none, (some 94), .indexA 1 (.t 90) (.t 93)⟩,⟨none, (some 95), .load none (.t 94)⟩,⟨none, (some 96), .mov (.t 13)⟩,⟨none, (some 97), .indexA 1 (.t 95) (.t 96)⟩,⟨none, (some 98), .load none (.t 97)⟩,⟨none, (some 99), .bin .sub (.t 89) (.t 98)⟩,⟨none, (some 100), .bin .mul (.t 80) (.t 99)⟩,⟨none, (some 101), .mov (.t 0)⟩,⟨none, (some 102), .mov (.t 6)⟩,⟨none, (some 103), .indexA 1 (.t 102) (.c (.int .i64 (0)))⟩,⟨none, (some 104), .load none (.t 103)⟩,⟨none, (some 105), .indexA 1 (.t 101) (.t 104)⟩,⟨none, (some 106), .load none (.t 105)⟩,⟨none, (some 107), .mov (.t 13)⟩,⟨none, (some 108), .indexA 1 (.t 106) (.t 107)⟩,⟨none, (some 109), .load none (.t 108)⟩,⟨none, (some 110), .mov (.t 0)⟩,⟨none, (some 111), .mov (.t 6)⟩,⟨none, (some 112), .indexA 1 (.t 111) (.c (.int .i64 (1)))⟩,⟨none, (some 113), .load none (.t 112)⟩,⟨none, (some 114), .indexA 1 (.t 110) (.t 113)⟩,⟨none, (some 115), .load none (.t 114)⟩,⟨none, (some 116), .mov (.t 13)⟩,⟨none, (some 117), .indexA 1 (.t 115) (.t 116)⟩,⟨none, (some 118), .load none (.t 117)⟩,⟨none, (some 119), .bin .sub (.t 109) (.t 118)⟩,⟨none, (some 120), .mov (.t 0)⟩,⟨none, (some 121), .mov (.t 6)⟩,⟨none, (some 122), .indexA 1 (.t 121) (.c (.int .i64 (0)))⟩,⟨none, (some 123), .load none (.t 122)⟩,⟨none, (some 124), .indexA 1 (.t 120) (.t 123)⟩,⟨none, (some 125), .load none (.t 124)⟩,⟨none, (some 126), .mov (.t 12)⟩,⟨none, (some 127), .indexA 1 (.t 125) (.t 126)⟩,⟨none, (some 128), .load none (.t 127)⟩,⟨none, (some 129), .mov (.t 0)⟩,⟨none, (some 130), .mov (.t 6)⟩,⟨none, (some 131), .indexA 1 (.t 130) (.c (.int .i64 (2)))⟩,⟨none, (some 132), .load none (.t 131)⟩,⟨none, (some 133), .indexA 1 (.t 129) (.t 132)⟩,⟨none, (some 134), .load none (.t 133)⟩,⟨none, (some 135), .mov (.t 12)⟩,⟨none, (some 136), .indexA 1 (.t 134) (.t 135)⟩,⟨none, (some 137), .load none (.t 136)⟩,⟨none, (some 138), .bin .sub (.t 128) (.t 137)⟩,⟨none, (some 139), .bin .mul (.t 119) (.t 138)⟩,⟨none, (some 140), .bin .sub (.t 100) (.t 139)⟩,⟨none, (some 141), .indexA 1 (.t 57) (.t 61)⟩,⟨none, none, .store 1 (.t 141) (.t 140)⟩])))) (.reg [⟨none, (some 142), .bin .add (.t 42) (.c (.int .i64 (1)))⟩,⟨none, (some 42), .mov (.t 142)⟩])))
def F48L1 : XC := .loop (m 242 6597069766995) F48L1b
def F48L2b : XC :=
 .seq (.reg [⟨none, (some 197), .bin .lss (.t 196) (.t 195)⟩]) (.seq (.cond (.t 197) (.skip) (.exit 5 (m 242 49426))) (.seq (.block 6 (m 242 175758848590827061387402103849814659650865952444992966410514) (.seq (.reg [⟨none, (some 198), .indexA 1 (.t 194) (.t 196)⟩,⟨none, (some 199), .load none (.t 198)⟩,⟨none, (some 17), .mov (.t 199)⟩]) (.seq (.reg [⟨none, (some 200), .mov (.t 14)⟩,⟨none, (some 201), .mov (.t 17)⟩,⟨none, (some 202), .bin .add (.t 200) (.t 201)⟩,⟨none, (some 14), .mov (.t 202)⟩]) (.reg [⟨none, (some 203), .mov (.t 15)⟩,⟨none, (some 204), .mov (.t 17)⟩,⟨none, (some 205), .call 1 52 [.t 203, .t 204]⟩,⟨none, (some 15), .mov (.t 205)⟩])))) (.reg [⟨none, (some 206), .bin .add (.t 196) (.c (.int .i64 (1)))⟩,⟨none, (some 196), .mov (.t 206)⟩])))
def F48L2 : XC := .loop (m 242 175758848590827061387402103849814659650865952444992966410514) F48L2b
def F48L3b : XC :=
 .seq (.reg [⟨none, (some 217), .bin .lss (.t 216) (.t 215)⟩]) (.seq (.cond (.t 217) (.skip) (.exit 7 (m 242 49426))) (.seq (.block 8 (m 242 157968437502835780046877041525505648478342643100823666881466515730) (.seq (.reg [⟨none, (some 218), .mov (.t 216)⟩,⟨none, (some 18), .mov (.t 218)⟩]) (.reg [⟨none, (some 219), .mov (.t 8)⟩,⟨none, (some 220), .mov (.t 18)⟩,⟨none, (some 221), .indexA 1 (.t 219) (.t 220)⟩,⟨none, (some 222), .load none (.t 221)⟩,⟨none, (some 223), .mov (.t 15)⟩,⟨none, (some 224), .bin .quo (.t 222) (.t 223)⟩,⟨none, (some 225), .indexA 1 (.t 219) (.t 220)⟩,⟨none, none, .store 1 (.t 225) (.t 224)⟩]))) (.reg [⟨none, (some 226), .bin .add (.t 216) (.c (.int .i64 (1)))⟩,⟨none, (some 216), .mov (.t 226)⟩])))
def F48L3 : XC := .loop (m 242 157968437502835780046877041525505648478342643100823666881466515730) F48L3b
def F48T0 : XC :=
 .seq (.reg [⟨none, (some 227), .mov (.t 8)⟩,⟨none, (some 228), .mov (.t 14)⟩,⟨none, (some 229), .mov (.t 15)⟩,⟨none, (some 230), .bin .quo (.t 228) (.t 229)⟩,⟨none, (some 231), .build [.nils, .int .i64 (0)] [(0, 1, .t 227), (1, 1, .t 230)]⟩,⟨none, (some 19), .alloc [.nils, .int .i64 (0)]⟩,⟨none, none, .store 2 (.t 19) (.t 231)⟩]) (.seq (.reg [⟨none, (some 232), .load (some 2) (.t 19)⟩,⟨none, (some 233), .mov (.t 8)⟩,⟨none, (some 234), .call 1 65 [.t 233]⟩,⟨none, (some 235), .bin .geq (.t 234) (.c (.int .i64 (0)))⟩,⟨none, (some 236), .mov (.t 235)⟩,⟨(some (236, true)), (some 237), .load (some 2) (.t 19)⟩,⟨(some (236, true)), (some 238), .call 1 67 [.t 237]⟩,⟨(some (236, true)), (some 239), .mov (.t 1)⟩,⟨(some (236, true)), (some 240), .bin .eql (.t 238) (.t 239)⟩,⟨none, (some 241), .pick (.t 236) (.t 240) (.c (.bool false))⟩,⟨none, none, .store 2 (.t 4) (.t 232)⟩,⟨none, (some 5), .mov (.t 241)⟩]) (.ret (m 242 48)))
def F48T1 : XC :=
 .seq (.seq (.reg [⟨none, (some 207), .mov (.t 14)⟩,⟨none, (some 208), .bin .eql (.t 207) (.c (.int .i64 (0)))⟩]) (.cond (.t 208) (.seq (.reg [⟨none, (some 209), .build [.nils, .int .i64 (0)] []⟩,⟨none, none, .store 2 (.t 4) (.t 209)⟩,⟨none, (some 5), .mov (.c (.bool false))⟩]) (.ret (m 242 48))) (.skip))) (.seq (.seq (.reg [⟨none, (some 210), .mov (.t 14)⟩,⟨none, (some 211), .bin .lss (.t 210) (.c (.int .i64 (0)))⟩]) (.cond (.t 211) (.reg [⟨none, (some 212), .mov (.t 15)⟩,⟨none, (some 213), .un .neg (.t 212)⟩,⟨none, (some 15), .mov (.t 213)⟩]) (.skip))) (.seq (.seq (.reg [⟨none, (some 214), .mov (.t 8)⟩,⟨none, (some 215), .len (.t 214)⟩,⟨none, (some 216), .mov (.c (.int .i64 (0)))⟩]) (.block 7 (m 242 49426) (F48L3)))
 F48T0))
def F48T2 : XC :=
 .seq (.reg [⟨none, (some 14), .mov (.c (.int .i64 (0)))⟩,⟨none, (some 15), .mov (.c (.int .i64 (0)))⟩]) (.seq (.seq (.reg [⟨none, (some 194), .mov (.t 8)⟩,⟨none, (some 195), .len (.t 194)⟩,⟨none, (some 196), .mov (.c (.int .i64 (0)))⟩]) (.block 5 (m 242 49426) (F48L2)))
 F48T1)
def F48T3 : XC :=
 .seq (.reg [⟨none, (some 35), .mov (.t 0)⟩,⟨none, (some 36), .len (.t 35)⟩,⟨none, (some 37), .mks 1 8 [.int .i64 (0)] (.t 36) (.t 36)⟩,⟨none, (some 8), .mov (.t 37)⟩]) (.seq (.seq (.reg [⟨none, (some 38), .mov (.t 6)⟩,⟨none, (some 39), .len (.t 38)⟩]) (.block 2 (m 242 274) (.seq (.reg [⟨none, (some 144), .bin .eql (.t 39) (.c (.int .i64 (1)))⟩,⟨none, (some 143), .mov (.t 144)⟩]) (.cond (.t 143) (.reg [⟨none, (some 145), .mov (.t 8)⟩,⟨none, (some 146), .mov (.t 6)⟩,⟨none, (some 147), .indexA 1 (.t 146) (.c (.int .i64 (0)))⟩,⟨none, (some 148), .load none (.t 147)⟩,⟨none, (some 149), .indexA 1 (.t 145) (.t 148)⟩,⟨none, none, .store 1 (.t 149) (.c (.int .i64 (1)))⟩]) (.seq (.reg [⟨none, (some 151), .bin .eql (.t 39) (.c (.int .i64 (2)))⟩,⟨none, (some 150), .mov (.t 151)⟩]) (.cond (.t 150) (.seq (.reg [⟨none, (some 152), .mov (.t 6)⟩,⟨none, (some 153), .indexA 1 (.t 152) (.c (.int .i64 (0)))⟩,⟨none, (some 154), .load none (.t 153)⟩,⟨none, (some 155), .mov (.t 6)⟩,⟨none, (some 156), .indexA 1 (.t 155) (.c (.int .i64 (1)))⟩,⟨none, (some 157), .load none (.t 156)⟩,⟨none, (some 9), .mov (.t 154)⟩,⟨none, (some 10), .mov (.t 157)⟩]) (.reg [⟨none, (some 158), .mov (.t 8)⟩,⟨none, (some 159), .mov (.t 9)⟩,⟨none, (some 160), .mov (.t 8)⟩,⟨none, (some 161), .mov (.t 10)⟩,⟨none, (some 162), .mov (.t 0)⟩,⟨none, (some 163), .mov (.t 9)⟩,⟨none, (some 164), .indexA 1 (.t 162) (.t 163)⟩,⟨none, (some 165), .load none (.t 164)⟩,⟨none, (some 166), .mov (.t 10)⟩,⟨none, (some 167), .indexA 1 (.t 165) (.t 166)⟩,⟨none, (some 168), .load none (.t 167)⟩,⟨none, (some 169), .mov (.t 0)⟩,⟨none, (some 170), .mov (.t 10)⟩,⟨none, (some 171), .indexA 1 (.t 169) (.t 170)⟩,⟨none, (some 172), .load none (.t 171)⟩,⟨none, (some 173), .mov (.t 10)⟩,⟨none, (some 174), .indexA 1 (.t 172) (.t 173)⟩,⟨none, (some 175), .load none (.t 174)⟩,⟨none, (some 176), .bin .sub (.t 168) (.t 175)⟩,⟨none, (some 177), .mov (.t 0)⟩,⟨none, (some 178), .mov (.t 10)⟩,⟨none, (some 179), .indexA 1 (.t 177) (.t 178)⟩,⟨none, (some 180), .load none (.t 179)⟩,⟨none, (some 181), .mov (.t 9)⟩,⟨none, (some 182), .indexA 1 (.t 180) (.t 181)⟩,⟨none, (some 183), .load none (.t 182)⟩,⟨none, (some 184), .mov (.t 0)⟩,⟨none, (some 185), .mov (.t 9)⟩,⟨none, (some 186), .indexA 1 (.t 184) (.t 185)⟩,⟨none, (some 187), .load none (.t 186)⟩,⟨none, (some 188), .mov (.t 9)⟩,⟨none, (some 189), .indexA 1 (.t 187) (.t 188)⟩,⟨none, (some 190), .load none (.t 189)⟩,⟨none, (some 191), .bin .sub (.t 183) (.t 190)⟩,⟨none, (some 192), .indexA 1 (.t 158) (.t 159)⟩,⟨none, none, .store 1 (.t 192) (.t 176)⟩,⟨none, (some 193), .indexA 1 (.t 160) (.t 161)⟩,⟨none, none, .store 1 (.t 193) (.t 191)⟩])) (.seq (.reg [⟨none, (some 40), .mov (.t 6)⟩,⟨none, (some 41), .len (.t 40)⟩,⟨none, (some 42), .mov (.c (.int .i64 (0)))⟩]) (.block 3 (m 242 274) (F48L1)))))))))
 F48T2)
def F48B : XC :=
 .seq (.reg [⟨none, (some 4), .alloc [.nils, .int .i64 (0)]⟩,⟨none, (some 5), .mov (.c (.bool false))⟩]) (.seq (.reg [⟨none, (some 6), .mov (.c (.nils))⟩]) (.seq (.seq (.reg [⟨none, (some 20), .mov (.t 0)⟩,⟨none, (some 21), .len (.t 20)⟩,⟨none, (some 22), .mov (.c (.int .i64 (0)))⟩]) (.block 0 (m 242 83) (F48L0)))
 F48T3))
def F48 : XF := ⟨2, 242, [.cell 4 (some 2), .tmp 5], F48B⟩
def M48 : List (List Bool) := [(m 242 83), (m 242 6291539), (m 242 83), (m 242 6291539), (m 242 274), (m 242 274), (m 242 6597069766995), (m 242 274), (m 242 6597069766995), (m 242 49426), (m 242 175758848590827061387402103849814659650865952444992966410514), (m 242 49426), (m 242 175758848590827061387402103849814659650865952444992966410514), (m 242 48), (m 242 49426), (m 242 157968437502835780046877041525505648478342643100823666881466515730), (m 242 49426), (m 242 157968437502835780046877041525505648478342643100823666881466515730), (m 242 48)]
def F49L0b : XC :=
 .seq (.reg [⟨none, (some 24), .bin .lss (.t 23) (.t 22)⟩]) (.seq (.cond (.t 24) (.skip) (.exit 0 (m 112 225))) (.seq (.block 1 (m 112 12583145) (.seq (.reg [⟨none, (some 25), .mov (.t 23)⟩,⟨none, (some 8), .mov (.t 25)⟩]) (.block 2 (m 112 12583145) (.seq (.reg [⟨none, (some 27), .mov (.t 5)⟩,⟨none, (some 28), .mov (.t 8)⟩,⟨none, (some 29), .bin .shr (.t 27) (.t 28)⟩,⟨none, (some 30), .bin .and (.t 29) (.c (.int .i64 (1)))⟩,⟨none, (some 31), .bin .eql (.t 30) (.c (.int .i64 (1)))⟩,⟨none, (some 32), .mov (.t 31)⟩,⟨(some (32, true)), (some 33), .mov (.t 7)⟩,⟨(some (32, true)), (some 34), .bin .lss (.t 33) (.c (.int .i64 (0)))⟩,⟨none, (some 35), .pick (.t 32) (.t 34) (.c (.bool false))⟩,⟨none, (some 26), .mov (.t 35)⟩]) (.cond (.t 26) (.reg [⟨none, (some 36), .mov (.t 8)⟩,⟨none, (some 7), .mov (.t 36)⟩]) (.seq (.reg [⟨none, (some 38), .mov (.t 0)⟩,⟨none, (some 39), .load (some 2) (.t 3)⟩,⟨none, (some 40), .call 1 62 [.t 38, .t 39]⟩,⟨none, (some 41), .mov (.t 8)⟩,⟨none, (some 42), .bin .shr (.t 40) (.t 41)⟩,⟨none, (some 43), .bin .and (.t 42) (.c (.int .i64 (1)))⟩,⟨none, (some 44), .bin .eql (.t 43) (.c (.int .i64 (1)))⟩,⟨none, (some 37), .mov (.t 44)⟩]) (.cond (.t 37) (.reg [⟨none, (some 45), .mov (.t 6)⟩,⟨none, (some 46), .mov (.t 8)⟩,⟨none, (some 47), .bslice 1 1 [.int .i64 (0)] [(0, 1, .t 46)]⟩,⟨none, (some 48), .app 1 8 (.t 45) (.t 47)⟩,⟨none, (some 6), .mov (.t 48)⟩]) (.skip)))))))) (.reg [⟨none, (some 49), .bin .add (.t 23) (.c (.int .i64 (1)))⟩,⟨none, (some 23), .mov (.t 49)⟩])))
def F49L0 : XC := .loop (m 112 12583145) F49L0b
def F49T0 : XC :=
 .seq (.seq (.reg [⟨none, (some 50), .mov (.t 6)⟩,⟨none, (some 51), .len (.t 50)⟩]) (.block 3 (m 112 225) (.seq (.reg [⟨none, (some 53), .bin .eql (.t 51) (.c (.int .i64 (0)))⟩,⟨none, (some 52), .mov (.t 53)⟩]) (.cond (.t 52) (.seq (.reg [⟨none, (some 4), .mov (.c (.bool true))⟩]) (.ret (m 112 16))) (.seq (.reg [⟨none, (some 55), .bin .eql (.t 51) (.c (.int .i64 (1)))⟩,⟨none, (some 54), .mov (.t 55)⟩]) (.cond (.t 54) (.seq (.reg [⟨none, (some 56), .mov (.t 0)⟩,⟨none, (some 57), .mov (.t 7)⟩,⟨none, (some 58), .mov (.t 6)⟩,⟨none, (some 59), .indexA 1 (.t 58) (.c (.int .i64 (0)))⟩,⟨none, (some 60), .load none (.t 59)⟩,⟨none, (some 61), .mov (.t 6)⟩,⟨none, (some 62), .indexA 1 (.t 61) (.c (.int .i64 (0)))⟩,⟨none, (some 63), .load none (.t 62)⟩,⟨none, (some 64), .call 1 68 [.t 56, .t 57, .t 60, .t 63]⟩,⟨none, (some 65), .bin .lss (.t 64) (.c (.int .i64 (0)))⟩,⟨none, (some 4), .mov (.t 65)⟩]) (.ret (m 112 16))) (.skip))))))) (.seq (.reg [⟨none, (some 66), .mov (.t 6)⟩,⟨none, (some 67), .indexA 1 (.t 66) (.c (.int .i64 (0)))⟩,⟨none, (some 68), .load none (.t 67)⟩,⟨none, (some 69), .mov (.t 6)⟩,⟨none, (some 70), .indexA 1 (.t 69) (.c (.int .i64 (1)))⟩,⟨none, (some 71), .load none (.t 70)⟩,⟨none, (some 9), .mov (.t 68)⟩,⟨none, (some 10), .mov (.t 71)⟩]) (.seq (.reg [⟨none, (some 72), .mov (.t 0)⟩,⟨none, (some 73), .mov (.t 7)⟩,⟨none, (some 74), .mov (.t 9)⟩,⟨none, (some 75), .mov (.t 9)⟩,⟨none, (some 76), .call 1 68 [.t 72, .t 73, .t 74, .t 75]⟩,⟨none, (some 77), .mov (.t 0)⟩,⟨none, (some 78), .mov (.t 7)⟩,⟨none, (some 79), .mov (.t 10)⟩,⟨none, (some 80), .mov (.t 10)⟩,⟨none, (some 81), .call 1 68 [.t 77, .t 78, .t 79, .t 80]⟩,⟨none, (some 82), .mov (.t 0)⟩,⟨none, (some 83), .mov (.t 7)⟩,⟨none, (some 84), .mov (.t 9)⟩,⟨none, (some 85), .mov (.t 10)⟩,⟨none, (some 86), .call 1 68 [.t 82, .t 83, .t 84, .t 85]⟩,⟨none, (some 11), .mov (.t 76)⟩,⟨none, (some 12), .mov (.t 81)⟩,⟨none, (some 13), .mov (.t 86)⟩]) (.seq (.seq (.reg [⟨none, (some 87), .mov (.t 11)⟩,⟨none, (some 88), .bin .geq (.t 87) (.c (.int .i64 (0)))⟩,⟨none, (some 89), .mov (.t 88)⟩,⟨(some (89, false)), (some 90), .mov (.t 12)⟩,⟨(some (89, false)), (some 91), .bin .geq (.t 90) (.c (.int .i64 (0)))⟩,⟨none, (some 92), .pick (.t 89) (.c (.bool true)) (.t 91)⟩]) (.cond (.t 92) (.seq (.reg [⟨none, (some 4), .mov (.c (.bool false))⟩]) (.ret (m 112 16))) (.skip))) (.seq (.reg [⟨none, (some 93), .mov (.t 5)⟩,⟨none, (some 94), .mov (.t 5)⟩,⟨none, (some 95), .bin .sub (.t 94) (.c (.int .i64 (1)))⟩,⟨none, (some 96), .bin .and (.t 93) (.t 95)⟩,⟨none, (some 97), .bin .eql (.t 96) (.c (.int .i64 (0)))⟩,⟨none, (some 14), .mov (.t 97)⟩]) (.seq (.reg [⟨none, (some 98), .mov (.t 14)⟩,⟨none, (some 99), .mov (.t 98)⟩,⟨(some (99, true)), (some 100), .mov (.t 13)⟩,⟨(some (99, true)), (some 101), .bin .leq (.t 100) (.c (.int .i64 (0)))⟩,⟨none, (some 102), .pick (.t 99) (.t 101) (.c (.bool false))⟩,⟨none, (some 103), .mov (.t 102)⟩,⟨(some (103, false)), (some 104), .mov (.t 13)⟩,⟨(some (103, false)), (some 105), .mov (.t 13)⟩,⟨(some (103, false)), (some 106), .bin .mul (.t 104) (.t 105)⟩,⟨(some (103, false)), (some 107), .mov (.t 11)⟩,⟨(some (103, false)), (some 108), .mov (.t 12)⟩,⟨(some (103, false)), (some 109), .bin .mul (.t 107) (.t 108)⟩,⟨(some (103, false)), (some 110), .bin .lss (.t 106) (.t 109)⟩,⟨none, (some 111), .pick (.t 103) (.c (.bool true)) (.t 110)⟩,⟨none, (some 4), .mov (.t 111)⟩]) (.ret (m 112 16)))))))
def F49B : XC :=
 .seq (.reg [⟨none, (some 3), .box (.t 1)⟩,⟨none, (some 4), .mov (.c (.bool false))⟩]) (.seq (.seq (.reg [⟨none, (some 15), .mov (.t 0)⟩,⟨none, (some 16), .load (some 2) (.t 3)⟩,⟨none, (some 17), .call 1 60 [.t 15, .t 16]⟩,⟨none, (some 18), .un .not (.t 17)⟩]) (.cond (.t 18) (.seq (.reg [⟨none, (some 4), .mov (.c (.bool false))⟩]) (.ret (m 112 16))) (.skip))) (.seq (.reg [⟨none, (some 19), .load (some 2) (.t 3)⟩,⟨none, (some 20), .call 1 67 [.t 19]⟩,⟨none, (some 5), .mov (.t 20)⟩]) (.seq (.reg [⟨none, (some 6), .mov (.c (.nils))⟩]) (.seq (.reg [⟨none, (some 7), .mov (.c (.int .i64 (-1)))⟩]) (.seq (.seq (.reg [⟨none, (some 21), .mov (.t 0)⟩,⟨none, (some 22), .len (.t 21)⟩,⟨none, (some 23), .mov (.c (.int .i64 (0)))⟩]) (.block 0 (m 112 225) (F49L0)))
 F49T0)))))
def F49 : XF := ⟨2, 112, [.tmp 4], F49B⟩
def M49 : List (List Bool) := [(m 112 16), (m 112 225), (m 112 12583145), (m 112 225), (m 112 12583145), (m 112 12583145), (m 112 225), (m 112 16), (m 112 16), (m 112 16), (m 112 16)]
def F52L0b : XC :=
 .seq (.seq (.reg [⟨none, (some 5), .mov (.t 1)⟩,⟨none, (some 6), .bin .neq (.t 5) (.c (.int .i64 (0)))⟩]) (.cond (.t 6) (.skip) (.exit 0 (m 15 1)))) (.block 1 (m 15 3) (.reg [⟨none, (some 7), .mov (.t 1)⟩,⟨none, (some 8), .mov (.t 0)⟩,⟨none, (some 9), .mov (.t 1)⟩,⟨none, (some 10), .bin .rem (.t 8) (.t 9)⟩,⟨none, (some 0), .mov (.t 7)⟩,⟨none, (some 1), .mov (.t 10)⟩]))
def F52L0 : XC := .loop (m 15 3) F52L0b
def F52T0 : XC :=
 .seq (.reg [⟨none, (some 11), .mov (.t 0)⟩,⟨none, (some 12), .mov (.t 0)⟩,⟨none, (some 13), .un .neg (.t 12)⟩,⟨none, (some 14), .mnx true [.t 11, .t 13]⟩,⟨none, (some 4), .mov (.t 14)⟩]) (.ret (m 15 16))
def F52B : XC :=
 .seq (.reg [⟨none, (some 4), .mov (.c (.int .i64 (0)))⟩]) (.seq (.block 0 (m 15 1) (F52L0))
 F52T0)
def F52 : XF := ⟨2, 15, [.tmp 4], F52B⟩
def M52 : List (List Bool) := [(m 15 1), (m 15 3), (m 15 1), (m 15 3), (m 15 16)]
def F53L0b : XC :=
 .seq (.seq (.reg [⟨none, (some 14), .mov (.t 1)⟩,⟨none, (some 15), .bin .gtr (.t 14) (.c (.int .i64 (0)))⟩]) (.cond (.t 15) (.skip) (.exit 0 (m 22 1)))) (.block 1 (m 22 3) (.seq (.reg [⟨none, (some 16), .mov (.t 0)⟩,⟨none, (some 17), .mov (.t 1)⟩,⟨none, (some 18), .bin .rem (.t 16) (.t 17)⟩,⟨none, (some 5), .mov (.t 18)⟩]) (.seq (.reg [⟨none, (some 19), .mov (.t 1)⟩,⟨none, (some 0), .mov (.t 19)⟩]) (.reg [⟨none, (some 20), .mov (.t 5)⟩,⟨none, (some 1), .mov (.t 20)⟩]))))
def F53L0 : XC := .loop (m 22 3) F53L0b
def F53T0 : XC :=
 .seq (.reg [⟨none, (some 21), .mov (.t 0)⟩,⟨none, (some 4), .mov (.t 21)⟩]) (.ret (m 22 16))
def F53B : XC :=
 .seq (.reg [⟨none, (some 4), .mov (.c (.int .i64 (0)))⟩]) (.seq (.reg [⟨none, (some 6), .mov (.t 0)⟩,⟨none, (some 7), .mov (.t 0)⟩,⟨none, (some 8), .un .neg (.t 7)⟩,⟨none, (some 9), .mnx true [.t 6, .t 8]⟩,⟨none, (some 0), .mov (.t 9)⟩]) (.seq (.reg [⟨none, (some 10), .mov (.t 1)⟩,⟨none, (some 11), .mov (.t 1)⟩,⟨none, (some 12), .un .neg (.t 11)⟩,⟨none, (some 13), .mnx true [.t 10, .t 12]⟩,⟨none, (some 1), .mov (.t 13)⟩]) (.seq (.block 0 (m 22 1) (F53L0))
 F53T0)))
def F53 : XF := ⟨2, 22, [.tmp 4], F53B⟩
def M53 : List (List Bool) := [(m 22 1), (m 22 3), (m 22 1), (m 22 3), (m 22 16)]
def F54L0b : XC :=
 .seq (.reg [⟨none, (some 18), .bin .lss (.t 17) (.t 16)⟩]) (.seq (.cond (.t 18) (.skip) (.exit 0 (m 31 192))) (.seq (.block 1 (m 31 229569) (.seq (.reg [⟨none, (some 19), .indexA 2 (.t 15) (.t 17)⟩,⟨none, (some 20), .load (some 2) (.t 19)⟩,⟨none, (some 9), .alloc [.nils, .int .i64 (0)]⟩,⟨none, none, .store 2 (.t 9) (.t 20)⟩]) (.reg [⟨none, (some 21), .mov (.t 7)⟩,⟨none, (some 22), .mov (.t 21)⟩,⟨(some (22, true)), (some 23), .mov (.t 0)⟩,⟨(some (22, true)), (some 24), .len (.t 23)⟩,⟨(some (22, true)), (some 25), .load (some 2) (.t 9)⟩,⟨(some (22, true)), (some 26), .call 1 21 [.t 24, .t 25]⟩,⟨none, (some 27), .pick (.t 22) (.t 26) (.c (.bool false))⟩,⟨none, (some 7), .mov (.t 27)⟩]))) (.reg [⟨none, (some 28), .bin .add (.t 17) (.c (.int .i64 (1)))⟩,⟨none, (some 17), .mov (.t 28)⟩])))
def F54L0 : XC := .loop (m 31 229569) F54L0b
def F54T0 : XC :=
 .seq (.reg [⟨none, (some 29), .mov (.t 6)⟩,⟨none, (some 30), .mov (.t 7)⟩,⟨none, (some 4), .mov (.t 29)⟩,⟨none, (some 5), .mov (.t 30)⟩]) (.ret (m 31 48))
def F54B : XC :=
 .seq (.reg [⟨none, (some 4), .mov (.c (.nils))⟩,⟨none, (some 5), .mov (.c (.bool false))⟩]) (.seq (.reg [⟨none, (some 11), .mov (.t 0)⟩,⟨none, (some 12), .call 0 47 [.t 11]⟩,⟨none, (some 10), .mov (.t 12)⟩,⟨none, (some 13), .ext (.t 10) 0⟩,⟨none, (some 14), .ext (.t 10) 1⟩,⟨none, (some 6), .mov (.t 13)⟩,⟨none, (some 7), .mov (.t 14)⟩]) (.seq (.seq (.reg [⟨none, (some 15), .mov (.t 1)⟩,⟨none, (some 16), .len (.t 15)⟩,⟨none, (some 17), .mov (.c (.int .i64 (0)))⟩]) (.block 0 (m 31 192) (F54L0)))
 F54T0))
def F54 : XF := ⟨2, 31, [.tmp 4, .tmp 5], F54B⟩
def M54 : List (List Bool) := [(m 31 192), (m 31 229569), (m 31 192), (m 31 229569), (m 31 48)]
def F55B : XC :=
 .seq (.reg [⟨none, (some 4), .alloc [.int .i64 (0), .int .i64 (0)]⟩]) (.seq (.reg [⟨none, (some 6), .mov (.t 0)⟩,⟨none, (some 7), .mov (.t 1)⟩,⟨none, (some 8), .call 1 52 [.t 6, .t 7]⟩,⟨none, (some 5), .mov (.t 8)⟩]) (.seq (.seq (.reg [⟨none, (some 9), .mov (.t 1)⟩,⟨none, (some 10), .bin .lss (.t 9) (.c (.int .i64 (0)))⟩]) (.cond (.t 10) (.reg [⟨none, (some 11), .mov (.t 5)⟩,⟨none, (some 12), .un .neg (.t 11)⟩,⟨none, (some 5), .mov (.t 12)⟩]) (.skip))) (.seq (.reg [⟨none, (some 13), .mov (.t 0)⟩,⟨none, (some 14), .mov (.t 5)⟩,⟨none, (some 15), .bin .quo (.t 13) (.t 14)⟩,⟨none, (some 16), .mov (.t 1)⟩,⟨none, (some 17), .mov (.t 5)⟩,⟨none, (some 18), .bin .quo (.t 16) (.t 17)⟩,⟨none, (some 19), .build [.int .i64 (0), .int .i64 (0)] [(0, 1, .t 15), (1, 1, .t 18)]⟩,⟨none, none, .store 2 (.t 4) (.t 19)⟩]) (.ret (m 20 16)))))
def F55 : XF := ⟨2, 20, [.cell 4 (some 2)], F55B⟩
def M55 : List (List Bool) := [(m 20 16)]
def F56L0b : XC :=
 .seq (.reg [⟨none, (some 15), .bin .lss (.t 14) (.t 13)⟩]) (.seq (.cond (.t 15) (.skip) (.exit 0 (m 30 128))) (.seq (.block 1 (m 30 28816) (.seq (.reg [⟨none, (some 16), .mov (.t 14)⟩,⟨none, (some 17), .indexA 1 (.t 12) (.t 14)⟩,⟨none, (some 18), .load none (.t 17)⟩,⟨none, (some 8), .mov (.t 16)⟩,⟨none, (some 9), .mov (.t 18)⟩]) (.reg [⟨none, (some 19), .mov (.t 7)⟩,⟨none, (some 20), .fieldA 0 (.t 4)⟩,⟨none, (some 21), .load none (.t 20)⟩,⟨none, (some 22), .mov (.t 8)⟩,⟨none, (some 23), .indexA 1 (.t 21) (.t 22)⟩,⟨none, (some 24), .load none (.t 23)⟩,⟨none, (some 25), .mov (.t 9)⟩,⟨none, (some 26), .bin .mul (.t 24) (.t 25)⟩,⟨none, (some 27), .bin .add (.t 19) (.t 26)⟩,⟨none, (some 7), .mov (.t 27)⟩]))) (.reg [⟨none, (some 28), .bin .add (.t 14) (.c (.int .i64 (1)))⟩,⟨none, (some 14), .mov (.t 28)⟩])))
def F56L0 : XC := .loop (m 30 28816) F56L0b
def F56T0 : XC :=
 .seq (.reg [⟨none, (some 29), .mov (.t 7)⟩,⟨none, (some 6), .mov (.t 29)⟩]) (.ret (m 30 64))
def F56B : XC :=
 .seq (.reg [⟨none, (some 4), .box (.t 1)⟩,⟨none, (some 5), .box (.t 2)⟩,⟨none, (some 6), .mov (.c (.int .i64 (0)))⟩]) (.seq (.reg [⟨none, (some 7), .mov (.c (.int .i64 (0)))⟩]) (.seq (.seq (.reg [⟨none, (some 10), .mov (.t 0)⟩,⟨none, (some 11), .load (some 2) (.t 5)⟩,⟨none, (some 12), .call 1 71 [.t 10, .t 11]⟩,⟨none, (some 13), .len (.t 12)⟩,⟨none, (some 14), .mov (.c (.int .i64 (0)))⟩]) (.block 0 (m 30 128) (F56L0)))
 F56T0))
def F56 : XF := ⟨3, 30, [.tmp 6], F56B⟩
def M56 : List (List Bool) := [(m 30 128), (m 30 28816), (m 30 128), (m 30 28816), (m 30 64)]
def F60B : XC :=
 .seq (.reg [⟨none, (some 3), .box (.t 1)⟩,⟨none, (some 4), .mov (.c (.bool false))⟩]) (.seq (.reg [⟨none, (some 5), .load (some 2) (.t 3)⟩,⟨none, (some 6), .call 1 67 [.t 5]⟩,⟨none, (some 7), .mov (.t 0)⟩,⟨none, (some 8), .load (some 2) (.t 3)⟩,⟨none, (some 9), .call 1 62 [.t 7, .t 8]⟩,⟨none, (some 10), .bin .andNot (.t 6) (.t 9)⟩,⟨none, (some 11), .bin .eql (.t 10) (.c (.int .i64 (0)))⟩,⟨none, (some 4), .mov (.t 11)⟩]) (.ret (m 12 16)))
def F60 : XF := ⟨2, 12, [.tmp 4], F60B⟩
def M60 : List (List Bool) := [(m 12 16)]
def F62L0b : XC :=
 .seq (.reg [⟨none, (some 15), .bin .lss (.t 14) (.t 13)⟩]) (.seq (.cond (.t 15) (.skip) (.exit 0 (m 29 64))) (.seq (.block 1 (m 29 28768) (.seq (.reg [⟨none, (some 16), .mov (.t 14)⟩,⟨none, (some 17), .indexA 1 (.t 12) (.t 14)⟩,⟨none, (some 18), .load none (.t 17)⟩,⟨none, (some 7), .mov (.t 16)⟩,⟨none, (some 8), .mov (.t 18)⟩]) (.seq (.reg [⟨none, (some 19), .mov (.t 8)⟩,⟨none, (some 20), .mov (.t 5)⟩,⟨none, (some 21), .call 1 66 [.t 20]⟩,⟨none, (some 22), .bin .eql (.t 19) (.t 21)⟩]) (.cond (.t 22) (.reg [⟨none, (some 23), .mov (.t 6)⟩,⟨none, (some 24), .mov (.t 7)⟩,⟨none, (some 25), .bin .shl (.c (.int .i64 (1))) (.t 24)⟩,⟨none, (some 26), .bin .or (.t 23) (.t 25)⟩,⟨none, (some 6), .mov (.t 26)⟩]) (.skip))))) (.reg [⟨none, (some 27), .bin .add (.t 14) (.c (.int .i64 (1)))⟩,⟨none, (some 14), .mov (.t 27)⟩])))
def F62L0 : XC := .loop (m 29 28768) F62L0b
def F62T0 : XC :=
 .seq (.reg [⟨none, (some 28), .mov (.t 6)⟩,⟨none, (some 4), .mov (.t 28)⟩]) (.ret (m 29 16))
def F62B : XC :=
 .seq (.reg [⟨none, (some 3), .box (.t 1)⟩,⟨none, (some 4), .mov (.c (.int .i64 (0)))⟩]) (.seq (.reg [⟨none, (some 9), .mov (.t 0)⟩,⟨none, (some 10), .load (some 2) (.t 3)⟩,⟨none, (some 11), .call 1 71 [.t 9, .t 10]⟩,⟨none, (some 5), .mov (.t 11)⟩]) (.seq (.reg [⟨none, (some 6), .mov (.c (.int .i64 (0)))⟩]) (.seq (.seq (.reg [⟨none, (some 12), .mov (.t 5)⟩,⟨none, (some 13), .len (.t 12)⟩,⟨none, (some 14), .mov (.c (.int .i64 (0)))⟩]) (.block 0 (m 29 64) (F62L0)))
 F62T0)))
def F62 : XF := ⟨2, 29, [.tmp 4], F62B⟩
def M62 : List (List Bool) := [(m 29 64), (m 29 28768), (m 29 64), (m 29 28768), (m 29 16)]
def F65L0b : XC :=
 .seq (.seq (.reg [⟨none, (some 12), .mov (.t 4)⟩,⟨none, (some 13), .mov (.t 0)⟩,⟨none, (some 14), .len (.t 13)⟩,⟨none, (some 15), .bin .lss (.t 12) (.t 14)⟩]) (.cond (.t 15) (.skip) (.exit 0 (m 25 8)))) (.seq (.block 1 (m 25 25) (.reg [⟨none, (some 18), .mov (.t 3)⟩,⟨none, (some 19), .mov (.t 0)⟩,⟨none, (some 20), .mov (.t 4)⟩,⟨none, (some 21), .indexA 1 (.t 19) (.t 20)⟩,⟨none, (some 22), .load none (.t 21)⟩,⟨none, (some 23), .mnx false [.t 18, .t 22]⟩,⟨none, (some 3), .mov (.t 23)⟩])) (.reg [⟨none, (some 16), .mov (.t 4)⟩,⟨none, (some 17), .bin .add (.t 16) (.c (.int .i64 (1)))⟩,⟨none, (some 4), .mov (.t 17)⟩]))
def F65L0 : XC := .loop (m 25 25) F65L0b
def F65T0 : XC :=
 .seq (.reg [⟨none, (some 24), .mov (.t 3)⟩,⟨none, (some 2), .mov (.t 24)⟩]) (.ret (m 25 4))
def F65B : XC :=
 .seq (.reg [⟨none, (some 2), .mov (.c (.int .i64 (0)))⟩]) (.seq (.seq (.reg [⟨none, (some 5), .mov (.t 0)⟩,⟨none, (some 6), .len (.t 5)⟩,⟨none, (some 7), .bin .lss (.t 6) (.c (.int .i64 (1)))⟩]) (.cond (.t 7) (.reg [⟨none, (some 8), .mki 9 (.c (.undef))⟩,⟨none, none, .bad⟩]) (.skip))) (.seq (.reg [⟨none, (some 9), .mov (.t 0)⟩,⟨none, (some 10), .indexA 1 (.t 9) (.c (.int .i64 (0)))⟩,⟨none, (some 11), .load none (.t 10)⟩,⟨none, (some 3), .mov (.t 11)⟩]) (.seq (.seq (.reg [⟨none, (some 4), .mov (.c (.int .i64 (1)))⟩]) (.block 0 (m 25 8) (F65L0)))
 F65T0)))
def F65 : XF := ⟨1, 25, [.tmp 2], F65B⟩
def M65 : List (List Bool) := [(m 25 8), (m 25 25), (m 25 8), (m 25 25), (m 25 4)]
def F66L0b : XC :=
 .seq (.seq (.reg [⟨none, (some 12), .mov (.t 4)⟩,⟨none, (some 13), .mov (.t 0)⟩,⟨none, (some 14), .len (.t 13)⟩,⟨none, (some 15), .bin .lss (.t 12) (.t 14)⟩]) (.cond (.t 15) (.skip) (.exit 0 (m 25 8)))) (.seq (.block 1 (m 25 25) (.reg [⟨none, (some 18), .mov (.t 3)⟩,⟨none, (some 19), .mov (.t 0)⟩,⟨none, (some 20), .mov (.t 4)⟩,⟨none, (some 21), .indexA 1 (.t 19) (.t 20)⟩,⟨none, (some 22), .load none (.t 21)⟩,⟨none, (some 23), .mnx true [.t 18, .t 22]⟩,⟨none, (some 3), .mov (.t 23)⟩])) (.reg [⟨none, (some 16), .mov (.t 4)⟩,⟨none, (some 17), .bin .add (.t 16) (.c (.int .i64 (1)))⟩,⟨none, (some 4), .mov (.t 17)⟩]))
def F66L0 : XC := .loop (m 25 25) F66L0b
def F66T0 : XC :=
 .seq (.reg [⟨none, (some 24), .mov (.t 3)⟩,⟨none, (some 2), .mov (.t 24)⟩]) (.ret (m 25 4))
def F66B : XC :=
 .seq (.reg [⟨none, (some 2), .mov (.c (.int .i64 (0)))⟩]) (.seq (.seq (.reg [⟨none, (some 5), .mov (.t 0)⟩,⟨none, (some 6), .len (.t 5)⟩,⟨none, (some 7), .bin .lss (.t 6) (.c (.int .i64 (1)))⟩]) (.cond (.t 7) (.reg [⟨none, (some 8), .mki 9 (.c (.undef))⟩,⟨none, none, .bad⟩]) (.skip))) (.seq (.reg [⟨none, (some 9), .mov (.t 0)⟩,⟨none, (some 10), .indexA 1 (.t 9) (.c (.int .i64 (0)))⟩,⟨none, (some 11), .load none (.t 10)⟩,⟨none, (some 3), .mov (.t 11)⟩]) (.seq (.seq (.reg [⟨none, (some 4), .mov (.c (.int .i64 (1)))⟩]) (.block 0 (m 25 8) (F66L0)))
 F66T0)))
def F66 : XF := ⟨1, 25, [.tmp 2], F66B⟩
def M66 : List (List Bool) := [(m 25 8), (m 25 25), (m 25 8), (m 25 25), (m 25 4)]
def F67L0b : XC :=
 .seq (.reg [⟨none, (some 10), .bin .lss (.t 9) (.t 8)⟩]) (.seq (.cond (.t 10) (.skip) (.exit 0 (m 22 8))) (.seq (.block 1 (m 22 904) (.seq (.reg [⟨none, (some 11), .mov (.t 9)⟩,⟨none, (some 12), .indexA 1 (.t 7) (.t 9)⟩,⟨none, (some 13), .load none (.t 12)⟩,⟨none, (some 4), .mov (.t 11)⟩,⟨none, (some 5), .mov (.t 13)⟩]) (.seq (.reg [⟨none, (some 14), .mov (.t 5)⟩,⟨none, (some 15), .bin .gtr (.t 14) (.c (.int .i64 (0)))⟩]) (.cond (.t 15) (.reg [⟨none, (some 16), .mov (.t 3)⟩,⟨none, (some 17), .mov (.t 4)⟩,⟨none, (some 18), .bin .shl (.c (.int .i64 (1))) (.t 17)⟩,⟨none, (some 19), .bin .or (.t 16) (.t 18)⟩,⟨none, (some 3), .mov (.t 19)⟩]) (.skip))))) (.reg [⟨none, (some 20), .bin .add (.t 9) (.c (.int .i64 (1)))⟩,⟨none, (some 9), .mov (.t 20)⟩])))
def F67L0 : XC := .loop (m 22 904) F67L0b
def F67T0 : XC :=
 .seq (.reg [⟨none, (some 21), .mov (.t 3)⟩,⟨none, (some 2), .mov (.t 21)⟩]) (.ret (m 22 4))
def F67B : XC :=
 .seq (.reg [⟨none, (some 1), .box (.t 0)⟩,⟨none, (some 2), .mov (.c (.int .i64 (0)))⟩]) (.seq (.reg [⟨none, (some 3), .mov (.c (.int .i64 (0)))⟩]) (.seq (.seq (.reg [⟨none, (some 6), .fieldA 0 (.t 1)⟩,⟨none, (some 7), .load none (.t 6)⟩,⟨none, (some 8), .len (.t 7)⟩,⟨none, (some 9), .mov (.c (.int .i64 (0)))⟩]) (.block 0 (m 22 8) (F67L0)))
 F67T0))
def F67 : XF := ⟨1, 22, [.tmp 2], F67B⟩
def M67 : List (List Bool) := [(m 22 8), (m 22 904), (m 22 8), (m 22 904), (m 22 4)]
def F68B : XC :=
 .seq (.reg [⟨none, (some 4), .box (.t 0)⟩,⟨none, (some 5), .box (.t 1)⟩,⟨none, (some 8), .mov (.c (.int .i64 (0)))⟩]) (.seq (.reg [⟨none, (some 10), .mkf 72 [.t 4, .t 5]⟩,⟨none, (some 9), .mov (.t 10)⟩]) (.seq (.reg [⟨none, (some 11), .mov (.t 9)⟩,⟨none, (some 12), .mov (.t 2)⟩,⟨none, (some 13), .mov (.t 3)⟩,⟨none, (some 14), .calld 0 (.t 11) [.t 12, .t 13]⟩,⟨none, (some 15), .mov (.t 9)⟩,⟨none, (some 16), .mov (.t 3)⟩,⟨none, (some 17), .mov (.t 2)⟩,⟨none, (some 18), .calld 0 (.t 15) [.t 16, .t 17]⟩,⟨none, (some 19), .bin .add (.t 14) (.t 18)⟩,⟨none, (some 8), .mov (.t 19)⟩]) (.ret (m 20 256))))
def F68 : XF := ⟨4, 20, [.tmp 8], F68B⟩
def M68 : List (List Bool) := [(m 20 256)]
def F71L0b : XC :=
 .seq (.reg [⟨none, (some 20), .bin .lss (.t 19) (.t 18)⟩]) (.seq (.cond (.t 20) (.skip) (.exit 2 (m 40 14632))) (.seq (.block 3 (m 40 932136) (.seq (.reg [⟨none, (some 21), .mov (.t 19)⟩,⟨none, (some 22), .indexA 1 (.t 17) (.t 19)⟩,⟨none, (some 23), .load none (.t 22)⟩,⟨none, (some 9), .mov (.t 21)⟩,⟨none, (some 10), .mov (.t 23)⟩]) (.reg [⟨none, (some 24), .mov (.t 8)⟩,⟨none, (some 25), .mov (.t 10)⟩,⟨none, (some 26), .fieldA 0 (.t 3)⟩,⟨none, (some 27), .load none (.t 26)⟩,⟨none, (some 28), .mov (.t 9)⟩,⟨none, (some 29), .indexA 1 (.t 27) (.t 28)⟩,⟨none, (some 30), .load none (.t 29)⟩,⟨none, (some 31), .bin .mul (.t 25) (.t 30)⟩,⟨none, (some 32), .bin .add (.t 24) (.t 31)⟩,⟨none, (some 8), .mov (.t 32)⟩]))) (.reg [⟨none, (some 33), .bin .add (.t 19) (.c (.int .i64 (1)))⟩,⟨none, (some 19), .mov (.t 33)⟩])))
def F71L0 : XC := .loop (m 40 932136) F71L0b
def F71T0 : XC :=
 .reg [⟨none, (some 34), .mov (.t 5)⟩,⟨none, (some 35), .mov (.t 8)⟩,⟨none, (some 36), .bslice 1 1 [.int .i64 (0)] [(0, 1, .t 35)]⟩,⟨none, (some 37), .app 1 8 (.t 34) (.t 36)⟩,⟨none, (some 5), .mov (.t 37)⟩]
def F71T1 : XC :=
 .reg [⟨none, (some 38), .bin .add (.t 13) (.c (.int .i64 (1)))⟩,⟨none, (some 13), .mov (.t 38)⟩]
def F71L1b : XC :=
 .seq (.reg [⟨none, (some 14), .bin .lss (.t 13) (.t 12)⟩]) (.seq (.cond (.t 14) (.skip) (.exit 0 (m 40 32))) (.seq (.block 1 (m 40 14376) (.seq (.reg [⟨none, (some 15), .indexA 1 (.t 11) (.t 13)⟩,⟨none, (some 16), .load none (.t 15)⟩,⟨none, (some 7), .mov (.t 16)⟩]) (.seq (.reg [⟨none, (some 8), .mov (.c (.int .i64 (0)))⟩]) (.seq (.seq (.reg [⟨none, (some 17), .mov (.t 7)⟩,⟨none, (some 18), .len (.t 17)⟩,⟨none, (some 19), .mov (.c (.int .i64 (0)))⟩]) (.block 2 (m 40 14632) (F71L0)))
 F71T0))))
 F71T1))
def F71L1 : XC := .loop (m 40 14376) F71L1b
def F71T2 : XC :=
 .seq (.reg [⟨none, (some 39), .mov (.t 5)⟩,⟨none, (some 4), .mov (.t 39)⟩]) (.ret (m 40 16))
def F71B : XC :=
 .seq (.reg [⟨none, (some 3), .box (.t 1)⟩,⟨none, (some 4), .mov (.c (.nils))⟩]) (.seq (.reg [⟨none, (some 5), .mov (.c (.nils))⟩]) (.seq (.seq (.reg [⟨none, (some 11), .mov (.t 0)⟩,⟨none, (some 12), .len (.t 11)⟩,⟨none, (some 13), .mov (.c (.int .i64 (0)))⟩]) (.block 0 (m 40 32) (F71L1)))
 F71T2))
def F71 : XF := ⟨2, 40, [.tmp 4], F71B⟩
def M71 : List (List Bool) := [(m 40 32), (m 40 14376), (m 40 32), (m 40 14376), (m 40 14632), (m 40 932136), (m 40 14632), (m 40 932136), (m 40 16)]
def F72B : XC :=
 .seq (.reg [⟨none, (some 6), .mov (.c (.int .i64 (0)))⟩]) (.seq (.reg [⟨none, (some 7), .load none (.t 2)⟩,⟨none, (some 8), .mov (.t 0)⟩,⟨none, (some 9), .indexA 1 (.t 7) (.t 8)⟩,⟨none, (some 10), .load none (.t 9)⟩,⟨none, (some 11), .mov (.t 1)⟩,⟨none, (some 12), .indexA 1 (.t 10) (.t 11)⟩,⟨none, (some 13), .load none (.t 12)⟩,⟨none, (some 14), .load none (.t 2)⟩,⟨none, (some 15), .mov (.t 0)⟩,⟨none, (some 16), .indexA 1 (.t 14) (.t 15)⟩,⟨none, (some 17), .load none (.t 16)⟩,⟨none, (some 18), .load none (.t 3)⟩,⟨none, (some 19), .indexA 1 (.t 17) (.t 18)⟩,⟨none, (some 20), .load none (.t 19)⟩,⟨none, (some 21), .bin .sub (.t 13) (.t 20)⟩,⟨none, (some 22), .load none (.t 2)⟩,⟨none, (some 23), .load none (.t 3)⟩,⟨none, (some 24), .indexA 1 (.t 22) (.t 23)⟩,⟨none, (some 25), .load none (.t 24)⟩,⟨none, (some 26), .mov (.t 1)⟩,⟨none, (some 27), .indexA 1 (.t 25) (.t 26)⟩,⟨none, (some 28), .load none (.t 27)⟩,⟨none, (some 29), .bin .sub (.t 21) (.t 28)⟩,⟨none, (some 30), .load none (.t 2)⟩,⟨none, (some 31), .load none (.t 3)⟩,⟨none, (some 32), .indexA 1 (.t 30) (.t 31)⟩,⟨none, (some 33), .load none (.t 32)⟩,⟨none, (some 34), .load none (.t 3)⟩,⟨none, (some 35), .indexA 1 (.t 33) (.t 34)⟩,⟨none, (some 36), .load none (.t 35)⟩,⟨none, (some 37), .bin .add (.t 29) (.t 36)⟩,⟨none, (some 6), .mov (.t 37)⟩]) (.ret (m 38 64)))
def F72 : XF := ⟨4, 38, [.tmp 6], F72B⟩
def M72 : List (List Bool) := [(m 38 64)]
def md0 (f : Nat) : Nat := if f = 47 ∨ f = 54 then 0 else if f = 64 then 2 else 1
def md68 (f : Nat) : Nat := if f = 47 ∨ f = 54 ∨ f = 1000000 then 0 else if f = 64 then 2 else 1
theorem ok15 : compF Go.Proofs.Try.prog md0 true M15 Go.Proofs.Try.f15 = some F15 := by kernel_rfl
theorem ok16 : compF Go.Proofs.Try.prog md0 true M16 Go.Proofs.Try.f16 = some F16 := by kernel_rfl
theorem ok17 : compF Go.Proofs.Try.prog md0 true M17 Go.Proofs.Try.f17 = some F17 := by kernel_rfl
theorem ok19 : compF Go.Proofs.Try.prog md0 true M19 Go.Proofs.Try.f19 = some F19 := by kernel_rfl
theorem ok21 : compF Go.Proofs.Try.prog md0 true M21 Go.Proofs.Try.f21 = some F21 := by kernel_rfl
theorem ok22 : compF Go.Proofs.Try.prog md0 true M22 Go.Proofs.Try.f22 = some F22 := by kernel_rfl
theorem ok23 : compF Go.Proofs.Try.prog md0 true M23 Go.Proofs.Try.f23 = some F23 := by kernel_rfl
theorem ok25 : compF Go.Proofs.Try.prog md0 true M25 Go.Proofs.Try.f25 = some F25 := by kernel_rfl
theorem ok27 : compF Go.Proofs.Try.prog md0 true M27 Go.Proofs.Try.f27 = some F27 := by kernel_rfl
theorem ok30 : compF Go.Proofs.Try.prog md0 true M30 Go.Proofs.Try.f30 = some F30 := by kernel_rfl
theorem ok34 : compF Go.Proofs.Try.prog md0 true M34 Go.Proofs.Try.f34 = some F34 := by kernel_rfl
theorem ok47 : compF Go.Proofs.Try.prog md0 true M47 Go.Proofs.Try.f47 = some F47 := by kernel_rfl
theorem ok48 : compF Go.Proofs.Try.prog md0 true M48 Go.Proofs.Try.f48 = some F48 := by kernel_rfl
theorem ok49 : compF Go.Proofs.Try.prog md0 true M49 Go.Proofs.Try.f49 = some F49 := by kernel_rfl
theorem ok52 : compF Go.Proofs.Try.prog md0 true M52 Go.Proofs.Try.f52 = some F52 := by kernel_rfl
theorem ok53 : compF Go.Proofs.Try.prog md0 true M53 Go.Proofs.Try.f53 = some F53 := by kernel_rfl
theorem ok54 : compF Go.Proofs.Try.prog md0 true M54 Go.Proofs.Try.f54 = some F54 := by kernel_rfl
theorem ok55 : compF Go.Proofs.Try.prog md0 true M55 Go.Proofs.Try.f55 = some F55 := by kernel_rfl
theorem ok56 : compF Go.Proofs.Try.prog md0 true M56 Go.Proofs.Try.f56 = some F56 := by kernel_rfl
theorem ok60 : compF Go.Proofs.Try.prog md0 true M60 Go.Proofs.Try.f60 = some F60 := by kernel_rfl
theorem ok62 : compF Go.Proofs.Try.prog md0 true M62 Go.Proofs.Try.f62 = some F62 := by kernel_rfl
theorem ok65 : compF Go.Proofs.Try.prog md0 true M65 Go.Proofs.Try.f65 = some F65 := by kernel_rfl
theorem ok66 : compF Go.Proofs.Try.prog md0 true M66 Go.Proofs.Try.f66 = some F66 := by kernel_rfl
theorem ok67 : compF Go.Proofs.Try.prog md0 true M67 Go.Proofs.Try.f67 = some F67 := by kernel_rfl
theorem ok68 : compF Go.Proofs.Try.prog md68 true M68 Go.Proofs.Try.f68 = some F68 := by kernel_rfl
theorem ok71 : compF Go.Proofs.Try.prog md0 true M71 Go.Proofs.Try.f71 = some F71 := by kernel_rfl
theorem ok72 : compF Go.Proofs.Try.prog md0 true M72 Go.Proofs.Try.f72 = some F72 := by kernel_rfl
def E (f : Nat) : Option XF := match f with
  | 15 => some F15
  | 16 => some F16
  | 17 => some F17
  | 19 => some F19
  | 21 => some F21
  | 22 => some F22
  | 23 => some F23
  | 25 => some F25
  | 27 => some F27
  | 30 => some F30
  | 34 => some F34
  | 47 => some F47
  | 48 => some F48
  | 49 => some F49
  | 52 => some F52
  | 53 => some F53
  | 54 => some F54
  | 55 => some F55
  | 56 => some F56
  | 60 => some F60
  | 62 => some F62
  | 65 => some F65
  | 66 => some F66
  | 67 => some F67
  | 68 => some F68
  | 71 => some F71
  | 72 => some F72
  | _ => none
section
variable {Y : Run} {fr : List AV} {H : Heap}
theorem in15_0 : codeL E Y F15L0 fr H = lp E Y F15L0 (keepA (m 35 35) fr) H := codeL_in rfl
theorem un15_0 : lp E Y F15L0 fr H = thenX (codeL E Y F15L0b (keepA (m 35 35) fr) H) (again E Y F15L0 (m 35 35)) := lp_un rfl
theorem in15_1 : codeL E Y F15L1 fr H = lp E Y F15L1 (keepA (m 35 66) fr) H := codeL_in rfl
theorem un15_1 : lp E Y F15L1 fr H = thenX (codeL E Y F15L1b (keepA (m 35 66) fr) H) (again E Y F15L1 (m 35 66)) := lp_un rfl
theorem call15 {x0 x1 : AV} (_h : 0 = 0) : callL E Y 15 [x0, x1] H = endX [.tmp 4] (codeL E Y F15B (sp 35 [(1, x1), (0, x0)]) H) := by
  rw [callL_eq (F := F15) rfl rfl, st_in2]; rfl
theorem in17_0 : codeL E Y F17L0 fr H = lp E Y F17L0 (keepA (m 45 977) fr) H := codeL_in rfl
theorem un17_0 : lp E Y F17L0 fr H = thenX (codeL E Y F17L0b (keepA (m 45 977) fr) H) (again E Y F17L0 (m 45 977)) := lp_un rfl
theorem call17 {x0 : AV} (_h : 0 = 0) : callL E Y 17 [x0] H = endX [.tmp 2, .tmp 3] (codeL E Y F17B (sp 45 [(0, x0)]) H) := by
  rw [callL_eq (F := F17) rfl rfl, st_in1]; rfl
theorem in19_0 : codeL E Y F19L0 fr H = lp E Y F19L0 (keepA (m 38 44) fr) H := codeL_in rfl
theorem un19_0 : lp E Y F19L0 fr H = thenX (codeL E Y F19L0b (keepA (m 38 44) fr) H) (again E Y F19L0 (m 38 44)) := lp_un rfl
theorem call19 {x0 x1 : AV} (_h : 0 = 0) : callL E Y 19 [x0, x1] H = endX [.tmp 4] (codeL E Y F19B (sp 38 [(1, x1), (0, x0)]) H) := by
  rw [callL_eq (F := F19) rfl rfl, st_in2]; rfl
theorem in21_0 : codeL E Y F21L0 fr H = lp E Y F21L0 (keepA (m 64 240518168680) fr) H := codeL_in rfl
theorem un21_0 : lp E Y F21L0 fr H = thenX (codeL E Y F21L0b (keepA (m 64 240518168680) fr) H) (again E Y F21L0 (m 64 240518168680)) := lp_un rfl
theorem call21 {x0 x1 : AV} (_h : 0 = 0) : callL E Y 21 [x0, x1] H = endX [.tmp 4] (codeL E Y F21B (sp 64 [(1, x1), (0, x0)]) H) := by
  rw [callL_eq (F := F21) rfl rfl, st_in2]; rfl
theorem in22_0 : codeL E Y F22L0 fr H = lp E Y F22L0 (keepA (m 76 233) fr) H := codeL_in rfl
theorem un22_0 : lp E Y F22L0 fr H = thenX (codeL E Y F22L0b (keepA (m 76 233) fr) H) (again E Y F22L0 (m 76 233)) := lp_un rfl
theorem call22 {x0 x1 : AV} (_h : 0 = 0) : callL E Y 22 [x0, x1] H = endX [.tmp 4] (codeL E Y F22B (sp 76 [(1, x1), (0, x0)]) H) := by
  rw [callL_eq (F := F22) rfl rfl, st_in2]; rfl
theorem call25 {x0 x1 : AV} (_h : 0 = 0) : callL E Y 25 [x0, x1] H = endX [.tmp 4, .tmp 5] (codeL E Y F25B (sp 20 [(1, x1), (0, x0)]) H) := by
  rw [callL_eq (F := F25) rfl rfl, st_in2]; rfl
theorem call27 {x0 x1 : AV} (_h : 0 = 0) : callL E Y 27 [x0, x1] H = endX [.tmp 4, .tmp 5] (codeL E Y F27B (sp 20 [(1, x1), (0, x0)]) H) := by
  rw [callL_eq (F := F27) rfl rfl, st_in2]; rfl
theorem in34_0 : codeL E Y F34L0 fr H = lp E Y F34L0 (keepA (m 54 25) fr) H := codeL_in rfl
theorem un34_0 : lp E Y F34L0 fr H = thenX (codeL E Y F34L0b (keepA (m 54 25) fr) H) (again E Y F34L0 (m 54 25)) := lp_un rfl
theorem in34_1 : codeL E Y F34L1 fr H = lp E Y F34L1 (keepA (m 54 9) fr) H := codeL_in rfl
theorem un34_1 : lp E Y F34L1 fr H = thenX (codeL E Y F34L1b (keepA (m 54 9) fr) H) (again E Y F34L1 (m 54 9)) := lp_un rfl
theorem call34 {x0 : AV} (_h : 0 = 0) : callL E Y 34 [x0] H = endX [.tmp 2] (codeL E Y F34B (sp 54 [(0, x0)]) H) := by
  rw [callL_eq (F := F34) rfl rfl, st_in1]; rfl
theorem in47_0 : codeL E Y F47L0 fr H = lp E Y F47L0 (keepA (m 37 114689) fr) H := codeL_in rfl
theorem un47_0 : lp E Y F47L0 fr H = thenX (codeL E Y F47L0b (keepA (m 37 114689) fr) H) (again E Y F47L0 (m 37 114689)) := lp_un rfl
theorem call47 {x0 : AV} (_h : 0 = 0) : callL E Y 47 [x0] H = endX [.tmp 2, .tmp 3] (codeL E Y F47B (sp 37 [(0, x0)]) H) := by
  rw [callL_eq (F := F47) rfl rfl, st_in1]; rfl
theorem in48_0 : codeL E Y F48L0 fr H = lp E Y F48L0 (keepA (m 242 6291539) fr) H := codeL_in rfl
theorem un48_0 : lp E Y F48L0 fr H = thenX (codeL E Y F48L0b (keepA (m 242 6291539) fr) H) (again E Y F48L0 (m 242 6291539)) := lp_un rfl
theorem in48_2 : codeL E Y F48L2 fr H = lp E Y F48L2 (keepA (m 242 175758848590827061387402103849814659650865952444992966410514) fr) H := codeL_in rfl
theorem un48_2 : lp E Y F48L2 fr H = thenX (codeL E Y F48L2b (keepA (m 242 175758848590827061387402103849814659650865952444992966410514) fr) H) (again E Y F48L2 (m 242 175758848590827061387402103849814659650865952444992966410514)) := lp_un rfl
theorem in48_3 : codeL E Y F48L3 fr H = lp E Y F48L3 (keepA (m 242 157968437502835780046877041525505648478342643100823666881466515730) fr) H := codeL_in rfl
theorem un48_3 : lp E Y F48L3 fr H = thenX (codeL E Y F48L3b (keepA (m 242 157968437502835780046877041525505648478342643100823666881466515730) fr) H) (again E Y F48L3 (m 242 157968437502835780046877041525505648478342643100823666881466515730)) := lp_un rfl
theorem call48 {x0 x1 : AV} (_h : 0 = 0) : callL E Y 48 [x0, x1] H = endX [.cell 4 (some 2), .tmp 5] (codeL E Y F48B (sp 242 [(1, x1), (0, x0)]) H) := by
  rw [callL_eq (F := F48) rfl rfl, st_in2]; rfl
theorem in49_0 : codeL E Y F49L0 fr H = lp E Y F49L0 (keepA (m 112 12583145) fr) H := codeL_in rfl
theorem un49_0 : lp E Y F49L0 fr H = thenX (codeL E Y F49L0b (keepA (m 112 12583145) fr) H) (again E Y F49L0 (m 112 12583145)) := lp_un rfl
theorem call49 {x0 x1 : AV} (_h : 0 = 0) : callL E Y 49 [x0, x1] H = endX [.tmp 4] (codeL E Y F49B (sp 112 [(1, x1), (0, x0)]) H) := by
  rw [callL_eq (F := F49) rfl rfl, st_in2]; rfl
theorem in52_0 : codeL E Y F52L0 fr H = lp E Y F52L0 (keepA (m 15 3) fr) H := codeL_in rfl
theorem un52_0 : lp E Y F52L0 fr H = thenX (codeL E Y F52L0b (keepA (m 15 3) fr) H) (again E Y F52L0 (m 15 3)) := lp_un rfl
theorem call52 {x0 x1 : AV} (_h : 0 = 0) : callL E Y 52 [x0, x1] H = endX [.tmp 4] (codeL E Y F52B (sp 15 [(1, x1), (0, x0)]) H) := by
  rw [callL_eq (F := F52) rfl rfl, st_in2]; rfl
theorem in53_0 : codeL E Y F53L0 fr H = lp E Y F53L0 (keepA (m 22 3) fr) H := codeL_in rfl
theorem un53_0 : lp E Y F53L0 fr H = thenX (codeL E Y F53L0b (keepA (m 22 3) fr) H) (again E Y F53L0 (m 22 3)) := lp_un rfl
theorem call53 {x0 x1 : AV} (_h : 0 = 0) : callL E Y 53 [x0, x1] H = endX [.tmp 4] (codeL E Y F53B (sp 22 [(1, x1), (0, x0)]) H) := by
  rw [callL_eq (F := F53) rfl rfl, st_in2]; rfl
theorem in54_0 : codeL E Y F54L0 fr H = lp E Y F54L0 (keepA (m 31 229569) fr) H := codeL_in rfl
theorem un54_0 : lp E Y F54L0 fr H = thenX (codeL E Y F54L0b (keepA (m 31 229569) fr) H) (again E Y F54L0 (m 31 229569)) := lp_un rfl
theorem call54 {x0 x1 : AV} (_h : 0 = 0) : callL E Y 54 [x0, x1] H = endX [.tmp 4, .tmp 5] (codeL E Y F54B (sp 31 [(1, x1), (0, x0)]) H) := by
  rw [callL_eq (F := F54) rfl rfl, st_in2]; rfl
theorem call55 {x0 x1 : AV} (_h : 0 = 0) : callL E Y 55 [x0, x1] H = endX [.cell 4 (some 2)] (codeL E Y F55B (sp 20 [(1, x1), (0, x0)]) H) := by
  rw [callL_eq (F := F55) rfl rfl, st_in2]; rfl
theorem in56_0 : codeL E Y F56L0 fr H = lp E Y F56L0 (keepA (m 30 28816) fr) H := codeL_in rfl
theorem un56_0 : lp E Y F56L0 fr H = thenX (codeL E Y F56L0b (keepA (m 30 28816) fr) H) (again E Y F56L0 (m 30 28816)) := lp_un rfl
theorem call56 {x0 x1 x2 : AV} (_h : 0 = 0) : callL E Y 56 [x0, x1, x2] H = endX [.tmp 6] (codeL E Y F56B (sp 30 [(2, x2), (1, x1), (0, x0)]) H) := by
  rw [callL_eq (F := F56) rfl rfl, st_in3]; rfl
theorem call60 {x0 x1 : AV} (_h : 0 = 0) : callL E Y 60 [x0, x1] H = endX [.tmp 4] (codeL E Y F60B (sp 12 [(1, x1), (0, x0)]) H) := by
  rw [callL_eq (F := F60) rfl rfl, st_in2]; rfl
theorem in62_0 : codeL E Y F62L0 fr H = lp E Y F62L0 (keepA (m 29 28768) fr) H := codeL_in rfl
theorem un62_0 : lp E Y F62L0 fr H = thenX (codeL E Y F62L0b (keepA (m 29 28768) fr) H) (again E Y F62L0 (m 29 28768)) := lp_un rfl
theorem call62 {x0 x1 : AV} (_h : 0 = 0) : callL E Y 62 [x0, x1] H = endX [.tmp 4] (codeL E Y F62B (sp 29 [(1, x1), (0, x0)]) H) := by
  rw [callL_eq (F := F62) rfl rfl, st_in2]; rfl
theorem in65_0 : codeL E Y F65L0 fr H = lp E Y F65L0 (keepA (m 25 25) fr) H := codeL_in rfl
theorem un65_0 : lp E Y F65L0 fr H = thenX (codeL E Y F65L0b (keepA (m 25 25) fr) H) (again E Y F65L0 (m 25 25)) := lp_un rfl
theorem call65 {x0 : AV} (_h : 0 = 0) : callL E Y 65 [x0] H = endX [.tmp 2] (codeL E Y F65B (sp 25 [(0, x0)]) H) := by
  rw [callL_eq (F := F65) rfl rfl, st_in1]; rfl
theorem in66_0 : codeL E Y F66L0 fr H = lp E Y F66L0 (keepA (m 25 25) fr) H := codeL_in rfl
theorem un66_0 : lp E Y F66L0 fr H = thenX (codeL E Y F66L0b (keepA (m 25 25) fr) H) (again E Y F66L0 (m 25 25)) := lp_un rfl
theorem call66 {x0 : AV} (_h : 0 = 0) : callL E Y 66 [x0] H = endX [.tmp 2] (codeL E Y F66B (sp 25 [(0, x0)]) H) := by
  rw [callL_eq (F := F66) rfl rfl, st_in1]; rfl
theorem in67_0 : codeL E Y F67L0 fr H = lp E Y F67L0 (keepA (m 22 904) fr) H := codeL_in rfl
theorem un67_0 : lp E Y F67L0 fr H = thenX (codeL E Y F67L0b (keepA (m 22 904) fr) H) (again E Y F67L0 (m 22 904)) := lp_un rfl
theorem call67 {x0 : AV} (_h : 0 = 0) : callL E Y 67 [x0] H = endX [.tmp 2] (codeL E Y F67B (sp 22 [(0, x0)]) H) := by
  rw [callL_eq (F := F67) rfl rfl, st_in1]; rfl
theorem call68 {x0 x1 x2 x3 : AV} (_h : 0 = 0) : callL E Y 68 [x0, x1, x2, x3] H = endX [.tmp 8] (codeL E Y F68B (sp 20 [(3, x3), (2, x2), (1, x1), (0, x0)]) H) := by
  rw [callL_eq (F := F68) rfl rfl, st_in4]; rfl
theorem in71_0 : codeL E Y F71L0 fr H = lp E Y F71L0 (keepA (m 40 932136) fr) H := codeL_in rfl
theorem un71_0 : lp E Y F71L0 fr H = thenX (codeL E Y F71L0b (keepA (m 40 932136) fr) H) (again E Y F71L0 (m 40 932136)) := lp_un rfl
theorem in71_1 : codeL E Y F71L1 fr H = lp E Y F71L1 (keepA (m 40 14376) fr) H := codeL_in rfl
theorem un71_1 : lp E Y F71L1 fr H = thenX (codeL E Y F71L1b (keepA (m 40 14376) fr) H) (again E Y F71L1 (m 40 14376)) := lp_un rfl
theorem call71 {x0 x1 : AV} (_h : 0 = 0) : callL E Y 71 [x0, x1] H = endX [.tmp 4] (codeL E Y F71B (sp 40 [(1, x1), (0, x0)]) H) := by
  rw [callL_eq (F := F71) rfl rfl, st_in2]; rfl
theorem call72 {x0 x1 x2 x3 : AV} (_h : 0 = 0) : callL E Y 72 [x0, x1, x2, x3] H = endX [.tmp 6] (codeL E Y F72B (sp 38 [(3, x3), (2, x2), (1, x1), (0, x0)]) H) := by
  rw [callL_eq (F := F72) rfl rfl, st_in4]; rfl
end
theorem E_known : Known Go.Proofs.Try.prog E := by
  refine Known.of (by kernel_rfl) fun f F h => ?_
  unfold E at h
  split at h
  · cases h; exact ⟨_, _, _, Go.Proofs.Try.func15, by decide, ok15⟩
  · cases h; exact ⟨_, _, _, Go.Proofs.Try.func16, by decide, ok16⟩
  · cases h; exact ⟨_, _, _, Go.Proofs.Try.func17, by decide, ok17⟩
  · cases h; exact ⟨_, _, _, Go.Proofs.Try.func19, by decide, ok19⟩
  · cases h; exact ⟨_, _, _, Go.Proofs.Try.func21, by decide, ok21⟩
  · cases h; exact ⟨_, _, _, Go.Proofs.Try.func22, by decide, ok22⟩
  · cases h; exact ⟨_, _, _, Go.Proofs.Try.func23, by decide, ok23⟩
  · cases h; exact ⟨_, _, _, Go.Proofs.Try.func25, by decide, ok25⟩
  · cases h; exact ⟨_, _, _, Go.Proofs.Try.func27, by decide, ok27⟩
  · cases h; exact ⟨_, _, _, Go.Proofs.Try.func30, by decide, ok30⟩
  · cases h; exact ⟨_, _, _, Go.Proofs.Try.func34, by decide, ok34⟩
  · cases h; exact ⟨_, _, _, Go.Proofs.Try.func47, by decide, ok47⟩
  · cases h; exact ⟨_, _, _, Go.Proofs.Try.func48, by decide, ok48⟩
  · cases h; exact ⟨_, _, _, Go.Proofs.Try.func49, by decide, ok49⟩
  · cases h; exact ⟨_, _, _, Go.Proofs.Try.func52, by decide, ok52⟩
  · cases h; exact ⟨_, _, _, Go.Proofs.Try.func53, by decide, ok53⟩
  · cases h; exact ⟨_, _, _, Go.Proofs.Try.func54, by decide, ok54⟩
  · cases h; exact ⟨_, _, _, Go.Proofs.Try.func55, by decide, ok55⟩
  · cases h; exact ⟨_, _, _, Go.Proofs.Try.func56, by decide, ok56⟩
  · cases h; exact ⟨_, _, _, Go.Proofs.Try.func60, by decide, ok60⟩
  · cases h; exact ⟨_, _, _, Go.Proofs.Try.func62, by decide, ok62⟩
  · cases h; exact ⟨_, _, _, Go.Proofs.Try.func65, by decide, ok65⟩
  · cases h; exact ⟨_, _, _, Go.Proofs.Try.func66, by decide, ok66⟩
  · cases h; exact ⟨_, _, _, Go.Proofs.Try.func67, by decide, ok67⟩
  · cases h; exact ⟨_, _, _, Go.Proofs.Try.func68, by decide, ok68⟩
  · cases h; exact ⟨_, _, _, Go.Proofs.Try.func71, by decide, ok71⟩
  · cases h; exact ⟨_, _, _, Go.Proofs.Try.func72, by decide, ok72⟩
  · cases h
end Go.X
