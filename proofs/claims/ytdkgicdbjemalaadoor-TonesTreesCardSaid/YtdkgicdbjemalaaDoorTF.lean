import Derived.Test.YtdkgicdbjemalaaDoorTF1
/-! The functions of the program that are met, as the small machine has them: the rest. Printed by a program of our own. -/
namespace Go.X
def F80L0b : XC :=
 .seq (.seq (.reg [⟨none, (some 8), .mov (.t 0)⟩,⟨none, (some 9), .bin .neq (.t 8) (.c (.int .i64 (0)))⟩]) (.cond (.t 9) (.skip) (.exit 0 (m 25 28)))) (.block 1 (m 25 29) (.seq (.reg [⟨none, (some 10), .mov (.t 0)⟩,⟨none, (some 11), .bin .rem (.t 10) (.c (.int .i64 (10000)))⟩,⟨none, (some 5), .mov (.t 11)⟩]) (.seq (.seq (.reg [⟨none, (some 12), .mov (.t 5)⟩,⟨none, (some 13), .bin .lss (.t 12) (.c (.int .i64 (0)))⟩]) (.cond (.t 13) (.reg [⟨none, (some 14), .mov (.t 5)⟩,⟨none, (some 15), .un .neg (.t 14)⟩,⟨none, (some 5), .mov (.t 15)⟩]) (.skip))) (.seq (.reg [⟨none, (some 16), .mov (.t 3)⟩,⟨none, (some 17), .mov (.t 5)⟩,⟨none, (some 18), .bslice 1 1 [.int .i64 (0)] [(0, 1, .t 17)]⟩,⟨none, (some 19), .app 1 8 (.t 16) (.t 18)⟩,⟨none, (some 3), .mov (.t 19)⟩]) (.reg [⟨none, (some 20), .mov (.t 0)⟩,⟨none, (some 21), .bin .quo (.t 20) (.c (.int .i64 (10000)))⟩,⟨none, (some 0), .mov (.t 21)⟩])))))
def F80L0 : XC := .loop (m 25 29) F80L0b
def F80T0 : XC :=
 .seq (.reg [⟨none, (some 22), .mov (.t 4)⟩,⟨none, (some 23), .mov (.t 3)⟩,⟨none, (some 24), .call 1 98 [.t 22, .t 23]⟩,⟨none, none, .store 2 (.t 2) (.t 24)⟩]) (.ret (m 25 4))
def F80B : XC :=
 .seq (.reg [⟨none, (some 2), .alloc [.bool false, .nils]⟩]) (.seq (.reg [⟨none, (some 3), .mov (.c (.nils))⟩]) (.seq (.reg [⟨none, (some 6), .mov (.t 0)⟩,⟨none, (some 7), .bin .lss (.t 6) (.c (.int .i64 (0)))⟩,⟨none, (some 4), .mov (.t 7)⟩]) (.seq (.block 0 (m 25 28) (F80L0))
 F80T0)))
def F80 : XF := ⟨1, 25, [.cell 2 (some 2)], F80B⟩
def M80 : List (List Bool) := [(m 25 28), (m 25 29), (m 25 28), (m 25 29), (m 25 4)]
def F81L0b : XC :=
 .seq (.seq (.reg [⟨none, (some 8), .mov (.t 4)⟩,⟨none, (some 9), .mov (.t 0)⟩,⟨none, (some 10), .len (.t 9)⟩,⟨none, (some 11), .bin .lss (.t 8) (.t 10)⟩]) (.cond (.t 11) (.skip) (.exit 0 (m 37 9)))) (.seq (.block 1 (m 37 25) (.reg [⟨none, (some 14), .load (some 2) (.t 3)⟩,⟨none, (some 15), .mov (.t 0)⟩,⟨none, (some 16), .mov (.t 4)⟩,⟨none, (some 17), .indexA 2 (.t 15) (.t 16)⟩,⟨none, (some 18), .load (some 2) (.t 17)⟩,⟨none, (some 19), .call 1 99 [.t 14, .t 18]⟩,⟨none, none, .store 2 (.t 3) (.t 19)⟩])) (.reg [⟨none, (some 12), .mov (.t 4)⟩,⟨none, (some 13), .bin .add (.t 12) (.c (.int .i64 (1)))⟩,⟨none, (some 4), .mov (.t 13)⟩]))
def F81L0 : XC := .loop (m 37 25) F81L0b
def F81L1b : XC :=
 .seq (.seq (.reg [⟨none, (some 20), .mov (.t 6)⟩,⟨none, (some 21), .mov (.t 0)⟩,⟨none, (some 22), .len (.t 21)⟩,⟨none, (some 23), .bin .lss (.t 20) (.t 22)⟩]) (.cond (.t 23) (.skip) (.exit 2 (m 37 32)))) (.seq (.block 3 (m 37 105) (.reg [⟨none, (some 26), .mov (.t 5)⟩,⟨none, (some 27), .mov (.t 0)⟩,⟨none, (some 28), .mov (.t 6)⟩,⟨none, (some 29), .indexA 2 (.t 27) (.t 28)⟩,⟨none, (some 30), .load (some 2) (.t 29)⟩,⟨none, (some 31), .load (some 2) (.t 3)⟩,⟨none, (some 32), .call 1 100 [.t 30, .t 31]⟩,⟨none, (some 33), .bslice 2 1 [.bool false, .nils] [(0, 2, .t 32)]⟩,⟨none, (some 34), .app 2 32 (.t 26) (.t 33)⟩,⟨none, (some 5), .mov (.t 34)⟩])) (.reg [⟨none, (some 24), .mov (.t 6)⟩,⟨none, (some 25), .bin .add (.t 24) (.c (.int .i64 (1)))⟩,⟨none, (some 6), .mov (.t 25)⟩]))
def F81L1 : XC := .loop (m 37 105) F81L1b
def F81T0 : XC :=
 .seq (.reg [⟨none, (some 35), .mov (.t 5)⟩,⟨none, (some 36), .call 0 101 [.t 35]⟩,⟨none, (some 2), .mov (.t 36)⟩]) (.ret (m 37 4))
def F81T1 : XC :=
 .seq (.reg [⟨none, (some 5), .mov (.c (.nils))⟩]) (.seq (.seq (.reg [⟨none, (some 6), .mov (.c (.int .i64 (0)))⟩]) (.block 2 (m 37 32) (F81L1)))
 F81T0)
def F81B : XC :=
 .seq (.reg [⟨none, (some 2), .mov (.c (.nils))⟩]) (.seq (.reg [⟨none, (some 7), .call 1 80 [.c (.int .i64 (0))]⟩,⟨none, (some 3), .alloc [.bool false, .nils]⟩,⟨none, none, .store 2 (.t 3) (.t 7)⟩]) (.seq (.seq (.reg [⟨none, (some 4), .mov (.c (.int .i64 (0)))⟩]) (.block 0 (m 37 9) (F81L0)))
 F81T1))
def F81 : XF := ⟨1, 37, [.tmp 2], F81B⟩
def M81 : List (List Bool) := [(m 37 9), (m 37 25), (m 37 9), (m 37 25), (m 37 32), (m 37 105), (m 37 32), (m 37 105), (m 37 4)]
def F82L0b : XC :=
 .seq (.seq (.reg [⟨none, (some 5), .mov (.t 4)⟩,⟨none, (some 6), .mov (.t 0)⟩,⟨none, (some 7), .len (.t 6)⟩,⟨none, (some 8), .bin .lss (.t 5) (.t 7)⟩]) (.cond (.t 8) (.skip) (.exit 0 (m 22 8)))) (.seq (.block 1 (m 22 25) (.reg [⟨none, (some 11), .mov (.t 3)⟩,⟨none, (some 12), .mov (.t 4)⟩,⟨none, (some 13), .call 1 80 [.t 12]⟩,⟨none, (some 14), .mov (.t 0)⟩,⟨none, (some 15), .mov (.t 4)⟩,⟨none, (some 16), .indexA 2 (.t 14) (.t 15)⟩,⟨none, (some 17), .load (some 2) (.t 16)⟩,⟨none, (some 18), .call 1 102 [.t 13, .t 17]⟩,⟨none, (some 19), .bslice 2 1 [.bool false, .nils] [(0, 2, .t 18)]⟩,⟨none, (some 20), .app 2 32 (.t 11) (.t 19)⟩,⟨none, (some 3), .mov (.t 20)⟩])) (.reg [⟨none, (some 9), .mov (.t 4)⟩,⟨none, (some 10), .bin .add (.t 9) (.c (.int .i64 (1)))⟩,⟨none, (some 4), .mov (.t 10)⟩]))
def F82L0 : XC := .loop (m 22 25) F82L0b
def F82T0 : XC :=
 .seq (.reg [⟨none, (some 21), .mov (.t 3)⟩,⟨none, (some 2), .mov (.t 21)⟩]) (.ret (m 22 4))
def F82B : XC :=
 .seq (.reg [⟨none, (some 2), .mov (.c (.nils))⟩]) (.seq (.reg [⟨none, (some 3), .mov (.c (.nils))⟩]) (.seq (.seq (.reg [⟨none, (some 4), .mov (.c (.int .i64 (1)))⟩]) (.block 0 (m 22 8) (F82L0)))
 F82T0))
def F82 : XF := ⟨1, 22, [.tmp 2], F82B⟩
def M82 : List (List Bool) := [(m 22 8), (m 22 25), (m 22 8), (m 22 25), (m 22 4)]
def F83L0b : XC :=
 .seq (.seq (.reg [⟨none, (some 28), .mov (.t 8)⟩,⟨none, (some 29), .mov (.t 0)⟩,⟨none, (some 30), .len (.t 29)⟩,⟨none, (some 31), .bin .lss (.t 28) (.t 30)⟩]) (.cond (.t 31) (.skip) (.exit 2 (m 69 162)))) (.seq (.block 3 (m 69 483) (.seq (.reg [⟨none, (some 34), .load (some 2) (.t 5)⟩,⟨none, (some 35), .load (some 2) (.t 5)⟩,⟨none, (some 36), .call 1 102 [.t 34, .t 35]⟩,⟨none, (some 37), .mov (.t 0)⟩,⟨none, (some 38), .mov (.t 8)⟩,⟨none, (some 39), .indexA 2 (.t 37) (.t 38)⟩,⟨none, (some 40), .load (some 2) (.t 39)⟩,⟨none, (some 41), .call 1 102 [.t 36, .t 40]⟩,⟨none, (some 9), .alloc [.bool false, .nils]⟩,⟨none, none, .store 2 (.t 9) (.t 41)⟩]) (.seq (.reg [⟨none, (some 42), .mov (.t 8)⟩,⟨none, (some 43), .mov (.t 0)⟩,⟨none, (some 44), .len (.t 43)⟩,⟨none, (some 45), .mov (.t 1)⟩,⟨none, (some 46), .len (.t 45)⟩,⟨none, (some 47), .bin .sub (.t 44) (.t 46)⟩,⟨none, (some 48), .bin .sub (.t 42) (.t 47)⟩,⟨none, (some 10), .mov (.t 48)⟩]) (.seq (.seq (.reg [⟨none, (some 49), .mov (.t 10)⟩,⟨none, (some 50), .bin .geq (.t 49) (.c (.int .i64 (0)))⟩]) (.cond (.t 50) (.reg [⟨none, (some 51), .load (some 2) (.t 9)⟩,⟨none, (some 52), .load (some 2) (.t 5)⟩,⟨none, (some 53), .load (some 2) (.t 6)⟩,⟨none, (some 54), .call 1 102 [.t 52, .t 53]⟩,⟨none, (some 55), .mov (.t 1)⟩,⟨none, (some 56), .mov (.t 10)⟩,⟨none, (some 57), .indexA 2 (.t 55) (.t 56)⟩,⟨none, (some 58), .load (some 2) (.t 57)⟩,⟨none, (some 59), .call 1 102 [.t 54, .t 58]⟩,⟨none, (some 60), .call 1 103 [.t 51, .t 59]⟩,⟨none, none, .store 2 (.t 9) (.t 60)⟩]) (.skip))) (.reg [⟨none, (some 61), .mov (.t 7)⟩,⟨none, (some 62), .load (some 2) (.t 9)⟩,⟨none, (some 63), .bslice 2 1 [.bool false, .nils] [(0, 2, .t 62)]⟩,⟨none, (some 64), .app 2 32 (.t 61) (.t 63)⟩,⟨none, (some 7), .mov (.t 64)⟩]))))) (.reg [⟨none, (some 32), .mov (.t 8)⟩,⟨none, (some 33), .bin .add (.t 32) (.c (.int .i64 (1)))⟩,⟨none, (some 8), .mov (.t 33)⟩]))
def F83L0 : XC := .loop (m 69 483) F83L0b
def F83T0 : XC :=
 .reg [⟨none, (some 65), .mov (.t 7)⟩,⟨none, (some 66), .call 0 101 [.t 65]⟩,⟨none, (some 67), .call 1 81 [.t 66]⟩,⟨none, (some 0), .mov (.t 67)⟩]
def F83L1b : XC :=
 .seq (.seq (.reg [⟨none, (some 17), .mov (.t 0)⟩,⟨none, (some 18), .len (.t 17)⟩,⟨none, (some 19), .mov (.t 1)⟩,⟨none, (some 20), .len (.t 19)⟩,⟨none, (some 21), .bin .geq (.t 18) (.t 20)⟩]) (.cond (.t 21) (.skip) (.exit 0 (m 69 1)))) (.block 1 (m 69 35) (.seq (.reg [⟨none, (some 22), .mov (.t 0)⟩,⟨none, (some 23), .mov (.t 0)⟩,⟨none, (some 24), .len (.t 23)⟩,⟨none, (some 25), .bin .sub (.t 24) (.c (.int .i64 (1)))⟩,⟨none, (some 26), .indexA 2 (.t 22) (.t 25)⟩,⟨none, (some 27), .load (some 2) (.t 26)⟩,⟨none, (some 6), .alloc [.bool false, .nils]⟩,⟨none, none, .store 2 (.t 6) (.t 27)⟩]) (.seq (.reg [⟨none, (some 7), .mov (.c (.nils))⟩]) (.seq (.seq (.reg [⟨none, (some 8), .mov (.c (.int .i64 (0)))⟩]) (.block 2 (m 69 162) (F83L0)))
 F83T0))))
def F83L1 : XC := .loop (m 69 35) F83L1b
def F83T1 : XC :=
 .seq (.reg [⟨none, (some 68), .mov (.t 0)⟩,⟨none, (some 4), .mov (.t 68)⟩]) (.ret (m 69 16))
def F83B : XC :=
 .seq (.reg [⟨none, (some 4), .mov (.c (.nils))⟩]) (.seq (.reg [⟨none, (some 11), .mov (.t 1)⟩,⟨none, (some 12), .mov (.t 1)⟩,⟨none, (some 13), .len (.t 12)⟩,⟨none, (some 14), .bin .sub (.t 13) (.c (.int .i64 (1)))⟩,⟨none, (some 15), .indexA 2 (.t 11) (.t 14)⟩,⟨none, (some 16), .load (some 2) (.t 15)⟩,⟨none, (some 5), .alloc [.bool false, .nils]⟩,⟨none, none, .store 2 (.t 5) (.t 16)⟩]) (.seq (.block 0 (m 69 1) (F83L1))
 F83T1))
def F83 : XF := ⟨2, 69, [.tmp 4], F83B⟩
def M83 : List (List Bool) := [(m 69 1), (m 69 35), (m 69 1), (m 69 35), (m 69 162), (m 69 483), (m 69 162), (m 69 483), (m 69 16)]
def F84B : XC :=
 .seq (.reg [⟨none, (some 1), .box (.t 0)⟩,⟨none, (some 2), .alloc [.bool false, .nils]⟩]) (.seq (.reg [⟨none, (some 3), .fieldA 0 (.t 1)⟩,⟨none, (some 4), .load none (.t 3)⟩,⟨none, (some 5), .un .not (.t 4)⟩,⟨none, (some 6), .fieldA 1 (.t 1)⟩,⟨none, (some 7), .load none (.t 6)⟩,⟨none, (some 8), .call 1 98 [.t 5, .t 7]⟩,⟨none, none, .store 2 (.t 2) (.t 8)⟩]) (.ret (m 9 4)))
def F84 : XF := ⟨1, 9, [.cell 2 (some 2)], F84B⟩
def M84 : List (List Bool) := [(m 9 4)]
def F85L0b : XC :=
 .seq (.seq (.reg [⟨none, (some 46), .mov (.t 9)⟩,⟨none, (some 47), .mov (.t 0)⟩,⟨none, (some 48), .len (.t 47)⟩,⟨none, (some 49), .bin .lss (.t 46) (.t 48)⟩]) (.cond (.t 49) (.skip) (.exit 2 (m 83 354)))) (.seq (.block 3 (m 83 995) (.seq (.reg [⟨none, (some 52), .mov (.t 0)⟩,⟨none, (some 53), .mov (.t 9)⟩,⟨none, (some 54), .indexA 2 (.t 52) (.t 53)⟩,⟨none, (some 55), .load (some 2) (.t 54)⟩,⟨none, (some 10), .alloc [.bool false, .nils]⟩,⟨none, none, .store 2 (.t 10) (.t 55)⟩]) (.seq (.seq (.reg [⟨none, (some 56), .mov (.t 9)⟩,⟨none, (some 57), .mov (.t 6)⟩,⟨none, (some 58), .bin .geq (.t 56) (.t 57)⟩,⟨none, (some 59), .mov (.t 58)⟩,⟨(some (59, true)), (some 60), .mov (.t 9)⟩,⟨(some (59, true)), (some 61), .mov (.t 6)⟩,⟨(some (59, true)), (some 62), .mov (.t 1)⟩,⟨(some (59, true)), (some 63), .len (.t 62)⟩,⟨(some (59, true)), (some 64), .bin .add (.t 61) (.t 63)⟩,⟨(some (59, true)), (some 65), .bin .lss (.t 60) (.t 64)⟩,⟨none, (some 66), .pick (.t 59) (.t 65) (.c (.bool false))⟩]) (.cond (.t 66) (.reg [⟨none, (some 67), .load (some 2) (.t 10)⟩,⟨none, (some 68), .load (some 2) (.t 7)⟩,⟨none, (some 69), .mov (.t 1)⟩,⟨none, (some 70), .mov (.t 9)⟩,⟨none, (some 71), .mov (.t 6)⟩,⟨none, (some 72), .bin .sub (.t 70) (.t 71)⟩,⟨none, (some 73), .indexA 2 (.t 69) (.t 72)⟩,⟨none, (some 74), .load (some 2) (.t 73)⟩,⟨none, (some 75), .call 1 102 [.t 68, .t 74]⟩,⟨none, (some 76), .call 1 103 [.t 67, .t 75]⟩,⟨none, none, .store 2 (.t 10) (.t 76)⟩]) (.skip))) (.reg [⟨none, (some 77), .mov (.t 8)⟩,⟨none, (some 78), .load (some 2) (.t 10)⟩,⟨none, (some 79), .bslice 2 1 [.bool false, .nils] [(0, 2, .t 78)]⟩,⟨none, (some 80), .app 2 32 (.t 77) (.t 79)⟩,⟨none, (some 8), .mov (.t 80)⟩])))) (.reg [⟨none, (some 50), .mov (.t 9)⟩,⟨none, (some 51), .bin .add (.t 50) (.c (.int .i64 (1)))⟩,⟨none, (some 9), .mov (.t 51)⟩]))
def F85L0 : XC := .loop (m 83 995) F85L0b
def F85T0 : XC :=
 .reg [⟨none, (some 81), .mov (.t 8)⟩,⟨none, (some 0), .mov (.t 81)⟩]
def F85T1 : XC :=
 .reg [⟨none, (some 25), .mov (.t 6)⟩,⟨none, (some 26), .bin .sub (.t 25) (.c (.int .i64 (1)))⟩,⟨none, (some 6), .mov (.t 26)⟩]
def F85L1b : XC :=
 .seq (.seq (.reg [⟨none, (some 23), .mov (.t 6)⟩,⟨none, (some 24), .bin .geq (.t 23) (.c (.int .i64 (0)))⟩]) (.cond (.t 24) (.skip) (.exit 0 (m 83 32)))) (.seq (.block 1 (m 83 99) (.seq (.reg [⟨none, (some 27), .mov (.t 0)⟩,⟨none, (some 28), .mov (.t 6)⟩,⟨none, (some 29), .mov (.t 1)⟩,⟨none, (some 30), .len (.t 29)⟩,⟨none, (some 31), .bin .add (.t 28) (.t 30)⟩,⟨none, (some 32), .bin .sub (.t 31) (.c (.int .i64 (1)))⟩,⟨none, (some 33), .indexA 2 (.t 27) (.t 32)⟩,⟨none, (some 34), .load (some 2) (.t 33)⟩,⟨none, (some 35), .mov (.t 1)⟩,⟨none, (some 36), .mov (.t 1)⟩,⟨none, (some 37), .len (.t 36)⟩,⟨none, (some 38), .bin .sub (.t 37) (.c (.int .i64 (1)))⟩,⟨none, (some 39), .indexA 2 (.t 35) (.t 38)⟩,⟨none, (some 40), .load (some 2) (.t 39)⟩,⟨none, (some 41), .call 1 100 [.t 34, .t 40]⟩,⟨none, (some 7), .alloc [.bool false, .nils]⟩,⟨none, none, .store 2 (.t 7) (.t 41)⟩]) (.seq (.reg [⟨none, (some 42), .mov (.t 5)⟩,⟨none, (some 43), .mov (.t 6)⟩,⟨none, (some 44), .load (some 2) (.t 7)⟩,⟨none, (some 45), .indexA 2 (.t 42) (.t 43)⟩,⟨none, none, .store 2 (.t 45) (.t 44)⟩]) (.seq (.reg [⟨none, (some 8), .mov (.c (.nils))⟩]) (.seq (.seq (.reg [⟨none, (some 9), .mov (.c (.int .i64 (0)))⟩]) (.block 2 (m 83 354) (F85L0)))
 F85T0)))))
 F85T1)
def F85L1 : XC := .loop (m 83 99) F85L1b
def F85T2 : XC :=
 .seq (.reg [⟨none, (some 82), .mov (.t 5)⟩,⟨none, (some 4), .mov (.t 82)⟩]) (.ret (m 83 16))
def F85B : XC :=
 .seq (.reg [⟨none, (some 4), .mov (.c (.nils))⟩]) (.seq (.reg [⟨none, (some 11), .mov (.t 0)⟩,⟨none, (some 12), .len (.t 11)⟩,⟨none, (some 13), .mov (.t 1)⟩,⟨none, (some 14), .len (.t 13)⟩,⟨none, (some 15), .bin .sub (.t 12) (.t 14)⟩,⟨none, (some 16), .bin .add (.t 15) (.c (.int .i64 (1)))⟩,⟨none, (some 17), .mks 2 32 [.bool false, .nils] (.t 16) (.t 16)⟩,⟨none, (some 5), .mov (.t 17)⟩]) (.seq (.seq (.reg [⟨none, (some 18), .mov (.t 0)⟩,⟨none, (some 19), .len (.t 18)⟩,⟨none, (some 20), .mov (.t 1)⟩,⟨none, (some 21), .len (.t 20)⟩,⟨none, (some 22), .bin .sub (.t 19) (.t 21)⟩,⟨none, (some 6), .mov (.t 22)⟩]) (.block 0 (m 83 32) (F85L1)))
 F85T2))
def F85 : XF := ⟨2, 83, [.tmp 4], F85B⟩
def M85 : List (List Bool) := [(m 83 32), (m 83 99), (m 83 32), (m 83 99), (m 83 354), (m 83 995), (m 83 354), (m 83 995), (m 83 16)]
def F86L0b : XC :=
 .seq (.seq (.reg [⟨none, (some 9), .mov (.t 7)⟩,⟨none, (some 10), .mov (.t 0)⟩,⟨none, (some 11), .len (.t 10)⟩,⟨none, (some 12), .bin .lss (.t 9) (.t 11)⟩]) (.cond (.t 12) (.skip) (.exit 0 (m 38 32)))) (.seq (.block 1 (m 38 227) (.seq (.reg [⟨none, (some 15), .mov (.t 0)⟩,⟨none, (some 16), .mov (.t 7)⟩,⟨none, (some 17), .indexA 1 (.t 15) (.t 16)⟩,⟨none, (some 18), .load none (.t 17)⟩,⟨none, (some 19), .mov (.t 1)⟩,⟨none, (some 20), .call 1 104 [.t 18, .t 19]⟩,⟨none, (some 8), .mov (.t 20)⟩]) (.seq (.seq (.reg [⟨none, (some 21), .mov (.t 8)⟩,⟨none, (some 22), .bin .neq (.t 21) (.c (.int .i64 (0)))⟩,⟨none, (some 23), .mov (.t 22)⟩,⟨(some (23, true)), (some 24), .mov (.t 6)⟩,⟨(some (23, true)), (some 25), .bin .neq (.t 24) (.c (.int .i64 (0)))⟩,⟨none, (some 26), .pick (.t 23) (.t 25) (.c (.bool false))⟩,⟨none, (some 27), .mov (.t 26)⟩,⟨(some (27, true)), (some 28), .mov (.t 8)⟩,⟨(some (27, true)), (some 29), .mov (.t 6)⟩,⟨(some (27, true)), (some 30), .bin .neq (.t 28) (.t 29)⟩,⟨none, (some 31), .pick (.t 27) (.t 30) (.c (.bool false))⟩]) (.cond (.t 31) (.reg [⟨none, (some 32), .mov (.t 5)⟩,⟨none, (some 33), .bin .add (.t 32) (.c (.int .i64 (1)))⟩,⟨none, (some 5), .mov (.t 33)⟩]) (.skip))) (.seq (.reg [⟨none, (some 34), .mov (.t 8)⟩,⟨none, (some 35), .bin .neq (.t 34) (.c (.int .i64 (0)))⟩]) (.cond (.t 35) (.reg [⟨none, (some 36), .mov (.t 8)⟩,⟨none, (some 6), .mov (.t 36)⟩]) (.skip)))))) (.reg [⟨none, (some 13), .mov (.t 7)⟩,⟨none, (some 14), .bin .add (.t 13) (.c (.int .i64 (1)))⟩,⟨none, (some 7), .mov (.t 14)⟩]))
def F86L0 : XC := .loop (m 38 227) F86L0b
def F86T0 : XC :=
 .seq (.reg [⟨none, (some 37), .mov (.t 5)⟩,⟨none, (some 4), .mov (.t 37)⟩]) (.ret (m 38 16))
def F86B : XC :=
 .seq (.reg [⟨none, (some 4), .mov (.c (.int .i64 (0)))⟩]) (.seq (.reg [⟨none, (some 5), .mov (.c (.int .i64 (0)))⟩,⟨none, (some 6), .mov (.c (.int .i64 (0)))⟩]) (.seq (.seq (.reg [⟨none, (some 7), .mov (.c (.int .i64 (0)))⟩]) (.block 0 (m 38 32) (F86L0)))
 F86T0))
def F86 : XF := ⟨2, 38, [.tmp 4], F86B⟩
def M86 : List (List Bool) := [(m 38 32), (m 38 227), (m 38 32), (m 38 227), (m 38 16)]
def F88B : XC :=
 .seq (.reg [⟨none, (some 2), .mov (.c (.int .i64 (0)))⟩]) (.seq (.reg [⟨none, none, .bad⟩]) (.ret (m 21 4)))
def F88 : XF := ⟨1, 21, [.tmp 2], F88B⟩
def M88 : List (List Bool) := [(m 21 4)]
def F89B : XC :=
 .seq (.reg [⟨none, (some 2), .mov (.c (.int .i64 (0)))⟩]) (.seq (.reg [⟨none, (some 3), .mov (.t 0)⟩,⟨none, (some 4), .bin .shr (.t 3) (.c (.int .u64 (1)))⟩,⟨none, (some 5), .bin .and (.t 4) (.c (.int .u64 (6148914691236517205)))⟩,⟨none, (some 6), .mov (.t 0)⟩,⟨none, (some 7), .bin .and (.t 6) (.c (.int .u64 (6148914691236517205)))⟩,⟨none, (some 8), .bin .add (.t 5) (.t 7)⟩,⟨none, (some 0), .mov (.t 8)⟩]) (.seq (.reg [⟨none, (some 9), .mov (.t 0)⟩,⟨none, (some 10), .bin .shr (.t 9) (.c (.int .u64 (2)))⟩,⟨none, (some 11), .bin .and (.t 10) (.c (.int .u64 (3689348814741910323)))⟩,⟨none, (some 12), .mov (.t 0)⟩,⟨none, (some 13), .bin .and (.t 12) (.c (.int .u64 (3689348814741910323)))⟩,⟨none, (some 14), .bin .add (.t 11) (.t 13)⟩,⟨none, (some 0), .mov (.t 14)⟩]) (.seq (.reg [⟨none, (some 15), .mov (.t 0)⟩,⟨none, (some 16), .bin .shr (.t 15) (.c (.int .u64 (4)))⟩,⟨none, (some 17), .mov (.t 0)⟩,⟨none, (some 18), .bin .add (.t 16) (.t 17)⟩,⟨none, (some 19), .bin .and (.t 18) (.c (.int .u64 (1085102592571150095)))⟩,⟨none, (some 0), .mov (.t 19)⟩]) (.seq (.reg [⟨none, (some 20), .mov (.t 0)⟩,⟨none, (some 21), .mov (.t 0)⟩,⟨none, (some 22), .bin .shr (.t 21) (.c (.int .u64 (8)))⟩,⟨none, (some 23), .bin .add (.t 20) (.t 22)⟩,⟨none, (some 0), .mov (.t 23)⟩]) (.seq (.reg [⟨none, (some 24), .mov (.t 0)⟩,⟨none, (some 25), .mov (.t 0)⟩,⟨none, (some 26), .bin .shr (.t 25) (.c (.int .u64 (16)))⟩,⟨none, (some 27), .bin .add (.t 24) (.t 26)⟩,⟨none, (some 0), .mov (.t 27)⟩]) (.seq (.reg [⟨none, (some 28), .mov (.t 0)⟩,⟨none, (some 29), .mov (.t 0)⟩,⟨none, (some 30), .bin .shr (.t 29) (.c (.int .u64 (32)))⟩,⟨none, (some 31), .bin .add (.t 28) (.t 30)⟩,⟨none, (some 0), .mov (.t 31)⟩]) (.seq (.reg [⟨none, (some 32), .mov (.t 0)⟩,⟨none, (some 33), .conv .i64 (.t 32)⟩,⟨none, (some 34), .bin .and (.t 33) (.c (.int .i64 (127)))⟩,⟨none, (some 2), .mov (.t 34)⟩]) (.ret (m 35 4)))))))))
def F89 : XF := ⟨1, 35, [.tmp 2], F89B⟩
def M89 : List (List Bool) := [(m 35 4)]
def F90L0b : XC :=
 .seq (.seq (.reg [⟨none, (some 55), .mov (.t 15)⟩,⟨none, (some 56), .mov (.t 0)⟩,⟨none, (some 57), .len (.t 56)⟩,⟨none, (some 58), .bin .lss (.t 55) (.t 57)⟩]) (.cond (.t 58) (.skip) (.exit 0 (m 90 0)))) (.seq (.block 1 (m 90 49279) (.seq (.reg [⟨none, (some 61), .mov (.t 0)⟩,⟨none, (some 62), .mov (.t 14)⟩,⟨none, (some 63), .indexA 1 (.t 61) (.t 62)⟩,⟨none, (some 64), .load none (.t 63)⟩,⟨none, (some 65), .mov (.t 1)⟩,⟨none, (some 66), .bin .and (.t 64) (.t 65)⟩,⟨none, (some 67), .mov (.t 15)⟩,⟨none, (some 68), .bin .shr (.t 66) (.t 67)⟩,⟨none, (some 69), .bin .rem (.t 68) (.c (.int .i64 (2)))⟩,⟨none, (some 70), .bin .eql (.t 69) (.c (.int .i64 (1)))⟩]) (.cond (.t 70) (.reg [⟨none, (some 71), .mov (.t 0)⟩,⟨none, (some 72), .mov (.t 1)⟩,⟨none, (some 73), .mov (.t 15)⟩,⟨none, (some 74), .bin .shl (.c (.int .i64 (1))) (.t 73)⟩,⟨none, (some 75), .bin .sub (.t 72) (.t 74)⟩,⟨none, (some 76), .mov (.t 2)⟩,⟨none, (some 77), .mov (.t 3)⟩,⟨none, (some 78), .mov (.t 4)⟩,⟨none, (some 79), .mov (.t 5)⟩,⟨none, (some 80), .mov (.t 6)⟩,⟨none, (some 81), .mov (.t 6)⟩,⟨none, (some 82), .len (.t 81)⟩,⟨none, (some 83), .mov (.t 6)⟩,⟨none, (some 84), .len (.t 83)⟩,⟨none, (some 85), .slice 1 (.t 80) none (some (.t 82)) (some (.t 84))⟩,⟨none, (some 86), .mov (.t 15)⟩,⟨none, (some 87), .bslice 1 1 [.int .i64 (0)] [(0, 1, .t 86)]⟩,⟨none, (some 88), .app 1 8 (.t 85) (.t 87)⟩,⟨none, (some 89), .call 0 90 [.t 71, .t 75, .t 76, .t 77, .t 78, .t 79, .t 88]⟩]) (.skip)))) (.reg [⟨none, (some 59), .mov (.t 15)⟩,⟨none, (some 60), .bin .add (.t 59) (.c (.int .i64 (1)))⟩,⟨none, (some 15), .mov (.t 60)⟩]))
def F90L0 : XC := .loop (m 90 49279) F90L0b
def F90B : XC :=
 .seq (.reg [⟨none, (some 16), .mov (.t 6)⟩,⟨none, (some 17), .mov (.t 6)⟩,⟨none, (some 18), .len (.t 17)⟩,⟨none, (some 19), .bin .sub (.t 18) (.c (.int .i64 (1)))⟩,⟨none, (some 20), .indexA 1 (.t 16) (.t 19)⟩,⟨none, (some 21), .load none (.t 20)⟩,⟨none, (some 14), .mov (.t 21)⟩]) (.seq (.seq (.reg [⟨none, (some 22), .mov (.t 6)⟩,⟨none, (some 23), .len (.t 22)⟩,⟨none, (some 24), .bin .geq (.t 23) (.c (.int .i64 (3)))⟩,⟨none, (some 25), .mov (.t 24)⟩,⟨(some (25, true)), (some 26), .mov (.t 14)⟩,⟨(some (25, true)), (some 27), .mov (.t 6)⟩,⟨(some (25, true)), (some 28), .indexA 1 (.t 27) (.c (.int .i64 (1)))⟩,⟨(some (25, true)), (some 29), .load none (.t 28)⟩,⟨(some (25, true)), (some 30), .bin .gtr (.t 26) (.t 29)⟩,⟨none, (some 31), .pick (.t 25) (.t 30) (.c (.bool false))⟩,⟨none, (some 32), .mov (.t 31)⟩,⟨(some (32, true)), (some 33), .mov (.t 0)⟩,⟨(some (32, true)), (some 34), .mov (.t 14)⟩,⟨(some (32, true)), (some 35), .indexA 1 (.t 33) (.t 34)⟩,⟨(some (32, true)), (some 36), .load none (.t 35)⟩,⟨(some (32, true)), (some 37), .mov (.t 6)⟩,⟨(some (32, true)), (some 38), .indexA 1 (.t 37) (.c (.int .i64 (0)))⟩,⟨(some (32, true)), (some 39), .load none (.t 38)⟩,⟨(some (32, true)), (some 40), .bin .shr (.t 36) (.t 39)⟩,⟨(some (32, true)), (some 41), .bin .rem (.t 40) (.c (.int .i64 (2)))⟩,⟨(some (32, true)), (some 42), .bin .eql (.t 41) (.c (.int .i64 (1)))⟩,⟨none, (some 43), .pick (.t 32) (.t 42) (.c (.bool false))⟩]) (.cond (.t 43) (.reg [⟨none, (some 44), .mov (.t 0)⟩,⟨none, (some 45), .mov (.t 1)⟩,⟨none, (some 46), .mov (.t 2)⟩,⟨none, (some 47), .mov (.t 6)⟩,⟨none, (some 48), .len (.t 47)⟩,⟨none, (some 49), .bin .add (.t 46) (.t 48)⟩,⟨none, (some 50), .mov (.t 3)⟩,⟨none, (some 51), .bin .mul (.c (.int .i64 (-2))) (.t 50)⟩,⟨none, (some 52), .mov (.t 4)⟩,⟨none, (some 53), .mov (.t 5)⟩,⟨none, (some 54), .call 0 70 [.t 44, .t 45, .t 49, .t 51, .t 52, .t 53]⟩]) (.skip))) (.seq (.reg [⟨none, (some 15), .mov (.c (.int .i64 (0)))⟩]) (.block 0 (m 90 0) (F90L0))))
def F90 : XF := ⟨7, 90, [], F90B⟩
def M90 : List (List Bool) := [(m 90 0), (m 90 49279), (m 90 0), (m 90 49279)]
def F91B : XC :=
 .seq (.reg [⟨none, (some 2), .mov (.c (.int .i64 (0)))⟩]) (.seq (.reg [⟨none, (some 3), .mov (.t 0)⟩,⟨none, (some 4), .conv .u64 (.t 3)⟩,⟨none, (some 5), .call 1 105 [.t 4]⟩,⟨none, (some 2), .mov (.t 5)⟩]) (.ret (m 6 4)))
def F91 : XF := ⟨1, 6, [.tmp 2], F91B⟩
def M91 : List (List Bool) := [(m 6 4)]
def F92L0b : XC :=
 .seq (.seq (.reg [⟨none, (some 16), .load none (.t 3)⟩,⟨none, (some 17), .len (.t 16)⟩,⟨none, (some 18), .mov (.t 7)⟩,⟨none, (some 19), .mov (.t 0)⟩,⟨none, (some 20), .bin .add (.t 18) (.t 19)⟩,⟨none, (some 21), .bin .leq (.t 17) (.t 20)⟩]) (.cond (.t 21) (.skip) (.exit 2 (m 37 3981)))) (.block 3 (m 37 3981) (.reg [⟨none, (some 22), .load none (.t 3)⟩,⟨none, (some 23), .bslice 1 1 [.int .i64 (0)] [(0, 1, .c (.int .i64 (0)))]⟩,⟨none, (some 24), .app 1 8 (.t 22) (.t 23)⟩,⟨none, none, .store 1 (.t 3) (.t 24)⟩]))
def F92L0 : XC := .loop (m 37 3981) F92L0b
def F92T0 : XC :=
 .reg [⟨none, (some 25), .load none (.t 3)⟩,⟨none, (some 26), .mov (.t 7)⟩,⟨none, (some 27), .mov (.t 0)⟩,⟨none, (some 28), .bin .add (.t 26) (.t 27)⟩,⟨none, (some 29), .indexA 1 (.t 25) (.t 28)⟩,⟨none, (some 30), .load none (.t 29)⟩,⟨none, (some 31), .mov (.t 2)⟩,⟨none, (some 32), .mov (.t 8)⟩,⟨none, (some 33), .calld 1 (.t 31) [.t 32]⟩,⟨none, (some 34), .bin .add (.t 30) (.t 33)⟩,⟨none, (some 35), .indexA 1 (.t 25) (.t 28)⟩,⟨none, none, .store 1 (.t 35) (.t 34)⟩]
def F92T1 : XC :=
 .reg [⟨none, (some 36), .bin .add (.t 11) (.c (.int .i64 (1)))⟩,⟨none, (some 11), .mov (.t 36)⟩]
def F92L1b : XC :=
 .seq (.reg [⟨none, (some 12), .bin .lss (.t 11) (.t 10)⟩]) (.seq (.cond (.t 12) (.skip) (.exit 0 (m 37 0))) (.seq (.block 1 (m 37 3597) (.seq (.reg [⟨none, (some 13), .mov (.t 11)⟩,⟨none, (some 14), .indexA 1 (.t 9) (.t 11)⟩,⟨none, (some 15), .load none (.t 14)⟩,⟨none, (some 7), .mov (.t 13)⟩,⟨none, (some 8), .mov (.t 15)⟩]) (.seq (.block 2 (m 37 3981) (F92L0))
 F92T0)))
 F92T1))
def F92L1 : XC := .loop (m 37 3597) F92L1b
def F92B : XC :=
 .seq (.reg [⟨none, (some 9), .mov (.t 1)⟩,⟨none, (some 10), .len (.t 9)⟩,⟨none, (some 11), .mov (.c (.int .i64 (0)))⟩]) (.block 0 (m 37 0) (F92L1))
def F92 : XF := ⟨4, 37, [], F92B⟩
def M92 : List (List Bool) := [(m 37 0), (m 37 3597), (m 37 0), (m 37 3597), (m 37 3981), (m 37 3981), (m 37 3981), (m 37 3981)]
def F93L0b : XC :=
 .seq (.reg [⟨none, (some 17), .bin .lss (.t 16) (.t 15)⟩]) (.seq (.cond (.t 17) (.skip) (.exit 0 (m 78 0))) (.seq (.block 1 (m 78 98815) (.seq (.reg [⟨none, (some 18), .mov (.t 16)⟩,⟨none, (some 12), .mov (.t 18)⟩]) (.seq (.seq (.reg [⟨none, (some 19), .load none (.t 3)⟩,⟨none, (some 20), .mov (.t 0)⟩,⟨none, (some 21), .indexA 1 (.t 19) (.t 20)⟩,⟨none, (some 22), .load none (.t 21)⟩,⟨none, (some 23), .load none (.t 4)⟩,⟨none, (some 24), .bin .and (.t 22) (.t 23)⟩,⟨none, (some 25), .mov (.t 2)⟩,⟨none, (some 26), .bin .andNot (.t 24) (.t 25)⟩,⟨none, (some 27), .mov (.t 12)⟩,⟨none, (some 28), .bin .shr (.t 26) (.t 27)⟩,⟨none, (some 29), .bin .and (.t 28) (.c (.int .i64 (1)))⟩,⟨none, (some 30), .bin .eql (.t 29) (.c (.int .i64 (0)))⟩]) (.cond (.t 30) (.exit 1 (m 78 98815)) (.skip))) (.seq (.seq (.reg [⟨none, (some 31), .mov (.t 2)⟩,⟨none, (some 32), .bin .gtr (.t 31) (.c (.int .i64 (0)))⟩,⟨none, (some 33), .mov (.t 32)⟩,⟨(some (33, true)), (some 34), .mov (.t 12)⟩,⟨(some (33, true)), (some 35), .mov (.t 1)⟩,⟨(some (33, true)), (some 36), .bin .gtr (.t 34) (.t 35)⟩,⟨none, (some 37), .pick (.t 33) (.t 36) (.c (.bool false))⟩,⟨none, (some 38), .mov (.t 37)⟩,⟨(some (38, true)), (some 39), .load none (.t 3)⟩,⟨(some (38, true)), (some 40), .mov (.t 12)⟩,⟨(some (38, true)), (some 41), .indexA 1 (.t 39) (.t 40)⟩,⟨(some (38, true)), (some 42), .load none (.t 41)⟩,⟨(some (38, true)), (some 43), .load none (.t 5)⟩,⟨(some (38, true)), (some 44), .bin .shr (.t 42) (.t 43)⟩,⟨(some (38, true)), (some 45), .bin .and (.t 44) (.c (.int .i64 (1)))⟩,⟨(some (38, true)), (some 46), .bin .eql (.t 45) (.c (.int .i64 (1)))⟩,⟨none, (some 47), .pick (.t 38) (.t 46) (.c (.bool false))⟩]) (.cond (.t 47) (.reg [⟨none, (some 48), .load none (.t 6)⟩,⟨none, (some 49), .mov (.t 2)⟩,⟨none, (some 50), .conv .u64 (.t 49)⟩,⟨none, (some 51), .call 1 68 [.t 50]⟩,⟨none, (some 52), .bin .add (.t 51) (.c (.int .i64 (2)))⟩,⟨none, (some 53), .load none (.t 3)⟩,⟨none, (some 54), .load none (.t 4)⟩,⟨none, (some 55), .mov (.t 2)⟩,⟨none, (some 56), .bin .andNot (.t 54) (.t 55)⟩,⟨none, (some 57), .mov (.t 12)⟩,⟨none, (some 58), .bin .shl (.c (.int .i64 (1))) (.t 57)⟩,⟨none, (some 59), .bin .andNot (.t 56) (.t 58)⟩,⟨none, (some 60), .load (some 2) (.t 7)⟩,⟨none, (some 61), .call 2 71 [.t 53, .t 59, .t 60]⟩,⟨none, (some 62), .fieldA 1 (.t 7)⟩,⟨none, (some 63), .load none (.t 62)⟩,⟨none, (some 64), .calld 0 (.t 48) [.t 52, .t 61, .t 63]⟩]) (.skip))) (.seq (.reg [⟨none, (some 65), .mov (.t 1)⟩,⟨none, (some 13), .mov (.t 65)⟩]) (.seq (.seq (.reg [⟨none, (some 66), .mov (.t 2)⟩,⟨none, (some 67), .bin .eql (.t 66) (.c (.int .i64 (0)))⟩]) (.cond (.t 67) (.reg [⟨none, (some 68), .mov (.t 12)⟩,⟨none, (some 13), .mov (.t 68)⟩]) (.skip))) (.reg [⟨none, (some 69), .load none (.t 8)⟩,⟨none, (some 70), .mov (.t 12)⟩,⟨none, (some 71), .mov (.t 13)⟩,⟨none, (some 72), .mov (.t 2)⟩,⟨none, (some 73), .mov (.t 12)⟩,⟨none, (some 74), .bin .shl (.c (.int .i64 (1))) (.t 73)⟩,⟨none, (some 75), .bin .or (.t 72) (.t 74)⟩,⟨none, (some 76), .calld 0 (.t 69) [.t 70, .t 71, .t 75]⟩]))))))) (.reg [⟨none, (some 77), .bin .add (.t 16) (.c (.int .i64 (1)))⟩,⟨none, (some 16), .mov (.t 77)⟩])))
def F93L0 : XC := .loop (m 78 98815) F93L0b
def F93B : XC :=
 .seq (.reg [⟨none, (some 14), .load none (.t 3)⟩,⟨none, (some 15), .len (.t 14)⟩,⟨none, (some 16), .mov (.c (.int .i64 (0)))⟩]) (.block 0 (m 78 0) (F93L0))
def F93 : XF := ⟨9, 78, [], F93B⟩
def M93 : List (List Bool) := [(m 78 0), (m 78 98815), (m 78 0), (m 78 98815), (m 78 98815)]
def F94B : XC :=
 .seq (.reg [⟨none, (some 2), .mov (.c (.nils))⟩]) (.seq (.seq (.reg [⟨none, (some 3), .mov (.t 0)⟩,⟨none, (some 4), .eqn false (.t 3)⟩]) (.cond (.t 4) (.seq (.reg [⟨none, (some 2), .mov (.c (.nils))⟩]) (.ret (m 8 4))) (.skip))) (.seq (.reg [⟨none, (some 5), .bslice 2 0 [.int .i64 (0), .nils] []⟩,⟨none, (some 6), .mov (.t 0)⟩,⟨none, (some 7), .app 2 32 (.t 5) (.t 6)⟩,⟨none, (some 2), .mov (.t 7)⟩]) (.ret (m 8 4))))
def F94 : XF := ⟨1, 8, [.tmp 2], F94B⟩
def M94 : List (List Bool) := [(m 8 4), (m 8 4)]
def F95L0b : XC :=
 .seq (.seq (.reg [⟨none, (some 35), .mov (.t 9)⟩,⟨none, (some 36), .fieldA 1 (.t 3)⟩,⟨none, (some 37), .load none (.t 36)⟩,⟨none, (some 38), .len (.t 37)⟩,⟨none, (some 39), .bin .lss (.t 35) (.t 38)⟩,⟨none, (some 40), .mov (.t 39)⟩,⟨(some (40, false)), (some 41), .mov (.t 8)⟩,⟨(some (40, false)), (some 42), .bin .gtr (.t 41) (.c (.int .i64 (0)))⟩,⟨none, (some 43), .pick (.t 40) (.c (.bool true)) (.t 42)⟩]) (.cond (.t 43) (.skip) (.exit 2 (m 86 1879048252)))) (.seq (.block 3 (m 86 1879049212) (.seq (.reg [⟨none, (some 46), .mov (.t 5)⟩,⟨none, (some 47), .mov (.t 6)⟩,⟨none, (some 48), .mov (.t 9)⟩,⟨none, (some 49), .bin .add (.t 47) (.t 48)⟩,⟨none, (some 50), .indexA 1 (.t 46) (.t 49)⟩,⟨none, (some 51), .load none (.t 50)⟩,⟨none, (some 52), .mov (.t 8)⟩,⟨none, (some 53), .bin .add (.t 51) (.t 52)⟩,⟨none, (some 10), .mov (.t 53)⟩]) (.seq (.seq (.reg [⟨none, (some 54), .mov (.t 9)⟩,⟨none, (some 55), .fieldA 1 (.t 3)⟩,⟨none, (some 56), .load none (.t 55)⟩,⟨none, (some 57), .len (.t 56)⟩,⟨none, (some 58), .bin .lss (.t 54) (.t 57)⟩]) (.cond (.t 58) (.reg [⟨none, (some 59), .mov (.t 10)⟩,⟨none, (some 60), .mov (.t 7)⟩,⟨none, (some 61), .fieldA 1 (.t 3)⟩,⟨none, (some 62), .load none (.t 61)⟩,⟨none, (some 63), .mov (.t 9)⟩,⟨none, (some 64), .indexA 1 (.t 62) (.t 63)⟩,⟨none, (some 65), .load none (.t 64)⟩,⟨none, (some 66), .bin .mul (.t 60) (.t 65)⟩,⟨none, (some 67), .bin .add (.t 59) (.t 66)⟩,⟨none, (some 10), .mov (.t 67)⟩]) (.skip))) (.reg [⟨none, (some 68), .mov (.t 5)⟩,⟨none, (some 69), .mov (.t 6)⟩,⟨none, (some 70), .mov (.t 9)⟩,⟨none, (some 71), .bin .add (.t 69) (.t 70)⟩,⟨none, (some 72), .mov (.t 10)⟩,⟨none, (some 73), .bin .rem (.t 72) (.c (.int .i64 (2147483648)))⟩,⟨none, (some 74), .mov (.t 10)⟩,⟨none, (some 75), .bin .quo (.t 74) (.c (.int .i64 (2147483648)))⟩,⟨none, (some 76), .indexA 1 (.t 68) (.t 71)⟩,⟨none, none, .store 1 (.t 76) (.t 73)⟩,⟨none, (some 8), .mov (.t 75)⟩])))) (.reg [⟨none, (some 44), .mov (.t 9)⟩,⟨none, (some 45), .bin .add (.t 44) (.c (.int .i64 (1)))⟩,⟨none, (some 9), .mov (.t 45)⟩]))
def F95L0 : XC := .loop (m 86 1879049212) F95L0b
def F95T0 : XC :=
 .reg [⟨none, (some 77), .bin .add (.t 30) (.c (.int .i64 (1)))⟩,⟨none, (some 30), .mov (.t 77)⟩]
def F95L1b : XC :=
 .seq (.reg [⟨none, (some 31), .bin .lss (.t 30) (.t 29)⟩]) (.seq (.cond (.t 31) (.skip) (.exit 0 (m 86 60))) (.seq (.block 1 (m 86 1879048252) (.seq (.reg [⟨none, (some 32), .mov (.t 30)⟩,⟨none, (some 33), .indexA 1 (.t 28) (.t 30)⟩,⟨none, (some 34), .load none (.t 33)⟩,⟨none, (some 6), .mov (.t 32)⟩,⟨none, (some 7), .mov (.t 34)⟩]) (.seq (.reg [⟨none, (some 8), .mov (.c (.int .i64 (0)))⟩]) (.seq (.reg [⟨none, (some 9), .mov (.c (.int .i64 (0)))⟩]) (.block 2 (m 86 1879048252) (F95L0))))))
 F95T0))
def F95L1 : XC := .loop (m 86 1879048252) F95L1b
def F95T1 : XC :=
 .seq (.reg [⟨none, (some 78), .fieldA 0 (.t 2)⟩,⟨none, (some 79), .load none (.t 78)⟩,⟨none, (some 80), .fieldA 0 (.t 3)⟩,⟨none, (some 81), .load none (.t 80)⟩,⟨none, (some 82), .bin .mul (.t 79) (.t 81)⟩,⟨none, (some 83), .mov (.t 5)⟩,⟨none, (some 84), .call 3 106 [.t 83]⟩,⟨none, (some 85), .build [.int .i64 (0), .nils] [(0, 1, .t 82), (1, 1, .t 84)]⟩,⟨none, none, .store 2 (.t 4) (.t 85)⟩]) (.ret (m 86 16))
def F95B : XC :=
 .seq (.reg [⟨none, (some 2), .box (.t 0)⟩,⟨none, (some 3), .box (.t 1)⟩,⟨none, (some 4), .alloc [.int .i64 (0), .nils]⟩]) (.seq (.seq (.reg [⟨none, (some 11), .fieldA 0 (.t 2)⟩,⟨none, (some 12), .load none (.t 11)⟩,⟨none, (some 13), .fieldA 0 (.t 3)⟩,⟨none, (some 14), .load none (.t 13)⟩,⟨none, (some 15), .bin .mul (.t 12) (.t 14)⟩,⟨none, (some 16), .bin .eql (.t 15) (.c (.int .i64 (0)))⟩]) (.cond (.t 16) (.seq (.reg [⟨none, (some 17), .build [.int .i64 (0), .nils] []⟩,⟨none, none, .store 2 (.t 4) (.t 17)⟩]) (.ret (m 86 16))) (.skip))) (.seq (.reg [⟨none, (some 18), .fieldA 1 (.t 2)⟩,⟨none, (some 19), .load none (.t 18)⟩,⟨none, (some 20), .len (.t 19)⟩,⟨none, (some 21), .fieldA 1 (.t 3)⟩,⟨none, (some 22), .load none (.t 21)⟩,⟨none, (some 23), .len (.t 22)⟩,⟨none, (some 24), .bin .add (.t 20) (.t 23)⟩,⟨none, (some 25), .bin .add (.t 24) (.c (.int .i64 (1)))⟩,⟨none, (some 26), .mks 1 8 [.int .i64 (0)] (.t 25) (.t 25)⟩,⟨none, (some 5), .mov (.t 26)⟩]) (.seq (.seq (.reg [⟨none, (some 27), .fieldA 1 (.t 2)⟩,⟨none, (some 28), .load none (.t 27)⟩,⟨none, (some 29), .len (.t 28)⟩,⟨none, (some 30), .mov (.c (.int .i64 (0)))⟩]) (.block 0 (m 86 60) (F95L1)))
 F95T1)))
def F95 : XF := ⟨2, 86, [.cell 4 (some 2)], F95B⟩
def M95 : List (List Bool) := [(m 86 16), (m 86 60), (m 86 1879048252), (m 86 60), (m 86 1879048252), (m 86 1879048252), (m 86 1879049212), (m 86 1879048252), (m 86 1879049212), (m 86 16)]
def F96B : XC :=
 .seq (.reg [⟨none, (some 2), .box (.t 0)⟩,⟨none, (some 3), .box (.t 1)⟩,⟨none, (some 4), .alloc [.int .i64 (0), .nils]⟩]) (.seq (.block 0 (m 58 28) (.seq (.reg [⟨none, (some 7), .fieldA 0 (.t 2)⟩,⟨none, (some 8), .load none (.t 7)⟩,⟨none, (some 9), .bin .eql (.t 8) (.c (.int .i64 (0)))⟩,⟨none, (some 6), .mov (.t 9)⟩]) (.cond (.t 6) (.seq (.reg [⟨none, (some 10), .load (some 2) (.t 3)⟩,⟨none, none, .store 2 (.t 4) (.t 10)⟩]) (.ret (m 58 16))) (.seq (.reg [⟨none, (some 12), .fieldA 0 (.t 3)⟩,⟨none, (some 13), .load none (.t 12)⟩,⟨none, (some 14), .bin .eql (.t 13) (.c (.int .i64 (0)))⟩,⟨none, (some 11), .mov (.t 14)⟩]) (.cond (.t 11) (.seq (.reg [⟨none, (some 15), .load (some 2) (.t 2)⟩,⟨none, none, .store 2 (.t 4) (.t 15)⟩]) (.ret (m 58 16))) (.seq (.reg [⟨none, (some 17), .fieldA 0 (.t 2)⟩,⟨none, (some 18), .load none (.t 17)⟩,⟨none, (some 19), .fieldA 0 (.t 3)⟩,⟨none, (some 20), .load none (.t 19)⟩,⟨none, (some 21), .bin .eql (.t 18) (.t 20)⟩,⟨none, (some 16), .mov (.t 21)⟩]) (.cond (.t 16) (.seq (.reg [⟨none, (some 22), .fieldA 0 (.t 2)⟩,⟨none, (some 23), .load none (.t 22)⟩,⟨none, (some 24), .fieldA 1 (.t 2)⟩,⟨none, (some 25), .load none (.t 24)⟩,⟨none, (some 26), .fieldA 1 (.t 3)⟩,⟨none, (some 27), .load none (.t 26)⟩,⟨none, (some 28), .call 1 107 [.t 25, .t 27, .c (.int .i64 (1))]⟩,⟨none, (some 29), .build [.int .i64 (0), .nils] [(0, 1, .t 23), (1, 1, .t 28)]⟩,⟨none, none, .store 2 (.t 4) (.t 29)⟩]) (.ret (m 58 16))) (.skip)))))))) (.seq (.seq (.reg [⟨none, (some 30), .fieldA 1 (.t 2)⟩,⟨none, (some 31), .load none (.t 30)⟩,⟨none, (some 32), .fieldA 1 (.t 3)⟩,⟨none, (some 33), .load none (.t 32)⟩,⟨none, (some 34), .call 1 108 [.t 31, .t 33]⟩,⟨none, (some 5), .mov (.t 34)⟩]) (.block 1 (m 58 28) (.seq (.reg [⟨none, (some 36), .mov (.t 5)⟩,⟨none, (some 37), .bin .eql (.t 36) (.c (.int .i64 (0)))⟩,⟨none, (some 35), .mov (.t 37)⟩]) (.cond (.t 35) (.seq (.reg [⟨none, (some 38), .build [.int .i64 (0), .nils] []⟩,⟨none, none, .store 2 (.t 4) (.t 38)⟩]) (.ret (m 58 16))) (.seq (.reg [⟨none, (some 40), .mov (.t 5)⟩,⟨none, (some 41), .bin .lss (.t 40) (.c (.int .i64 (0)))⟩,⟨none, (some 39), .mov (.t 41)⟩]) (.cond (.t 39) (.seq (.reg [⟨none, (some 42), .fieldA 0 (.t 3)⟩,⟨none, (some 43), .load none (.t 42)⟩,⟨none, (some 44), .fieldA 1 (.t 3)⟩,⟨none, (some 45), .load none (.t 44)⟩,⟨none, (some 46), .fieldA 1 (.t 2)⟩,⟨none, (some 47), .load none (.t 46)⟩,⟨none, (some 48), .call 1 107 [.t 45, .t 47, .c (.int .i64 (-1))]⟩,⟨none, (some 49), .build [.int .i64 (0), .nils] [(0, 1, .t 43), (1, 1, .t 48)]⟩,⟨none, none, .store 2 (.t 4) (.t 49)⟩]) (.ret (m 58 16))) (.skip))))))) (.seq (.reg [⟨none, (some 50), .fieldA 0 (.t 2)⟩,⟨none, (some 51), .load none (.t 50)⟩,⟨none, (some 52), .fieldA 1 (.t 2)⟩,⟨none, (some 53), .load none (.t 52)⟩,⟨none, (some 54), .fieldA 1 (.t 3)⟩,⟨none, (some 55), .load none (.t 54)⟩,⟨none, (some 56), .call 1 107 [.t 53, .t 55, .c (.int .i64 (-1))]⟩,⟨none, (some 57), .build [.int .i64 (0), .nils] [(0, 1, .t 51), (1, 1, .t 56)]⟩,⟨none, none, .store 2 (.t 4) (.t 57)⟩]) (.ret (m 58 16)))))
def F96 : XF := ⟨2, 58, [.cell 4 (some 2)], F96B⟩
def M96 : List (List Bool) := [(m 58 28), (m 58 16), (m 58 16), (m 58 16), (m 58 28), (m 58 16), (m 58 16), (m 58 16)]
def F98B : XC :=
 .seq (.reg [⟨none, (some 4), .alloc [.bool false, .nils]⟩]) (.seq (.reg [⟨none, (some 6), .mov (.t 1)⟩,⟨none, (some 7), .call 0 110 [.t 6]⟩,⟨none, (some 5), .mov (.t 7)⟩]) (.seq (.reg [⟨none, (some 8), .mov (.t 0)⟩,⟨none, (some 9), .mov (.t 8)⟩,⟨(some (9, true)), (some 10), .mov (.t 5)⟩,⟨(some (9, true)), (some 11), .len (.t 10)⟩,⟨(some (9, true)), (some 12), .bin .gtr (.t 11) (.c (.int .i64 (0)))⟩,⟨none, (some 13), .pick (.t 9) (.t 12) (.c (.bool false))⟩,⟨none, (some 14), .mov (.t 5)⟩,⟨none, (some 15), .build [.bool false, .nils] [(0, 1, .t 13), (1, 1, .t 14)]⟩,⟨none, none, .store 2 (.t 4) (.t 15)⟩]) (.ret (m 16 16))))
def F98 : XF := ⟨2, 16, [.cell 4 (some 2)], F98B⟩
def M98 : List (List Bool) := [(m 16 16)]
def F99L0b : XC :=
 .seq (.seq (.reg [⟨none, (some 9), .load (some 2) (.t 3)⟩,⟨none, (some 10), .call 1 111 [.t 9]⟩,⟨none, (some 11), .un .not (.t 10)⟩]) (.cond (.t 11) (.skip) (.exit 0 (m 21 20)))) (.block 1 (m 21 28) (.seq (.reg [⟨none, (some 13), .load (some 2) (.t 2)⟩,⟨none, (some 14), .load (some 2) (.t 3)⟩,⟨none, (some 15), .call 1 112 [.t 13, .t 14]⟩,⟨none, (some 12), .mov (.t 15)⟩,⟨none, (some 16), .ext (.t 12) 0⟩,⟨none, (some 17), .ext (.t 12) 1⟩,⟨none, (some 5), .alloc [.bool false, .nils]⟩,⟨none, (some 6), .alloc [.bool false, .nils]⟩,⟨none, none, .store 2 (.t 5) (.t 16)⟩,⟨none, none, .store 2 (.t 6) (.t 17)⟩]) (.seq (.reg [⟨none, (some 18), .load (some 2) (.t 3)⟩,⟨none, none, .store 2 (.t 2) (.t 18)⟩]) (.reg [⟨none, (some 19), .load (some 2) (.t 6)⟩,⟨none, none, .store 2 (.t 3) (.t 19)⟩]))))
def F99L0 : XC := .loop (m 21 28) F99L0b
def F99T0 : XC :=
 .seq (.reg [⟨none, (some 20), .load (some 2) (.t 2)⟩,⟨none, none, .store 2 (.t 4) (.t 20)⟩]) (.ret (m 21 16))
def F99B : XC :=
 .seq (.reg [⟨none, (some 2), .box (.t 0)⟩,⟨none, (some 3), .box (.t 1)⟩,⟨none, (some 4), .alloc [.bool false, .nils]⟩]) (.seq (.reg [⟨none, (some 7), .fieldA 0 (.t 2)⟩,⟨none, none, .store 1 (.t 7) (.c (.bool false))⟩]) (.seq (.reg [⟨none, (some 8), .fieldA 0 (.t 3)⟩,⟨none, none, .store 1 (.t 8) (.c (.bool false))⟩]) (.seq (.block 0 (m 21 20) (F99L0))
 F99T0)))
def F99 : XF := ⟨2, 21, [.cell 4 (some 2)], F99B⟩
def M99 : List (List Bool) := [(m 21 20), (m 21 28), (m 21 20), (m 21 28), (m 21 16)]
def F100B : XC :=
 .seq (.reg [⟨none, (some 2), .box (.t 0)⟩,⟨none, (some 3), .box (.t 1)⟩,⟨none, (some 4), .alloc [.bool false, .nils]⟩]) (.seq (.reg [⟨none, (some 8), .fieldA 0 (.t 2)⟩,⟨none, (some 9), .load none (.t 8)⟩,⟨none, (some 10), .fieldA 0 (.t 3)⟩,⟨none, (some 11), .load none (.t 10)⟩,⟨none, (some 12), .eqb true (.t 9) (.t 11)⟩,⟨none, (some 5), .mov (.t 12)⟩]) (.seq (.reg [⟨none, (some 13), .fieldA 0 (.t 2)⟩,⟨none, none, .store 1 (.t 13) (.c (.bool false))⟩]) (.seq (.reg [⟨none, (some 14), .fieldA 0 (.t 3)⟩,⟨none, none, .store 1 (.t 14) (.c (.bool false))⟩]) (.seq (.reg [⟨none, (some 16), .load (some 2) (.t 2)⟩,⟨none, (some 17), .load (some 2) (.t 3)⟩,⟨none, (some 18), .call 1 112 [.t 16, .t 17]⟩,⟨none, (some 15), .mov (.t 18)⟩,⟨none, (some 19), .ext (.t 15) 0⟩,⟨none, (some 20), .ext (.t 15) 1⟩,⟨none, (some 6), .alloc [.bool false, .nils]⟩,⟨none, (some 7), .alloc [.bool false, .nils]⟩,⟨none, none, .store 2 (.t 6) (.t 19)⟩,⟨none, none, .store 2 (.t 7) (.t 20)⟩]) (.seq (.seq (.reg [⟨none, (some 21), .mov (.t 5)⟩]) (.cond (.t 21) (.seq (.reg [⟨none, (some 22), .load (some 2) (.t 6)⟩,⟨none, (some 23), .call 1 84 [.t 22]⟩,⟨none, none, .store 2 (.t 4) (.t 23)⟩]) (.ret (m 25 16))) (.skip))) (.seq (.reg [⟨none, (some 24), .load (some 2) (.t 6)⟩,⟨none, none, .store 2 (.t 4) (.t 24)⟩]) (.ret (m 25 16))))))))
def F100 : XF := ⟨2, 25, [.cell 4 (some 2)], F100B⟩
def M100 : List (List Bool) := [(m 25 16), (m 25 16)]
def F101L0b : XC :=
 .seq (.seq (.reg [⟨none, (some 6), .mov (.t 3)⟩,⟨none, (some 7), .bin .gtr (.t 6) (.c (.int .i64 (0)))⟩,⟨none, (some 8), .mov (.t 7)⟩,⟨(some (8, true)), (some 9), .mov (.t 0)⟩,⟨(some (8, true)), (some 10), .mov (.t 3)⟩,⟨(some (8, true)), (some 11), .bin .sub (.t 10) (.c (.int .i64 (1)))⟩,⟨(some (8, true)), (some 12), .indexA 2 (.t 9) (.t 11)⟩,⟨(some (8, true)), (some 13), .load (some 2) (.t 12)⟩,⟨(some (8, true)), (some 14), .call 1 111 [.t 13]⟩,⟨none, (some 15), .pick (.t 8) (.t 14) (.c (.bool false))⟩]) (.cond (.t 15) (.skip) (.exit 0 (m 22 9)))) (.block 1 (m 22 9) (.reg [⟨none, (some 16), .mov (.t 3)⟩,⟨none, (some 17), .bin .sub (.t 16) (.c (.int .i64 (1)))⟩,⟨none, (some 3), .mov (.t 17)⟩]))
def F101L0 : XC := .loop (m 22 9) F101L0b
def F101T0 : XC :=
 .seq (.reg [⟨none, (some 18), .mov (.t 0)⟩,⟨none, (some 19), .mov (.t 3)⟩,⟨none, (some 20), .mov (.t 3)⟩,⟨none, (some 21), .slice 2 (.t 18) none (some (.t 19)) (some (.t 20))⟩,⟨none, (some 2), .mov (.t 21)⟩]) (.ret (m 22 4))
def F101B : XC :=
 .seq (.reg [⟨none, (some 2), .mov (.c (.nils))⟩]) (.seq (.reg [⟨none, (some 4), .mov (.t 0)⟩,⟨none, (some 5), .len (.t 4)⟩,⟨none, (some 3), .mov (.t 5)⟩]) (.seq (.block 0 (m 22 9) (F101L0))
 F101T0))
def F101 : XF := ⟨1, 22, [.tmp 2], F101B⟩
def M101 : List (List Bool) := [(m 22 9), (m 22 9), (m 22 9), (m 22 9), (m 22 4)]
def F102B : XC :=
 .seq (.reg [⟨none, (some 2), .box (.t 0)⟩,⟨none, (some 3), .box (.t 1)⟩,⟨none, (some 4), .alloc [.bool false, .nils]⟩]) (.seq (.reg [⟨none, (some 5), .fieldA 0 (.t 2)⟩,⟨none, (some 6), .load none (.t 5)⟩,⟨none, (some 7), .fieldA 0 (.t 3)⟩,⟨none, (some 8), .load none (.t 7)⟩,⟨none, (some 9), .eqb true (.t 6) (.t 8)⟩,⟨none, (some 10), .fieldA 1 (.t 2)⟩,⟨none, (some 11), .load none (.t 10)⟩,⟨none, (some 12), .fieldA 1 (.t 3)⟩,⟨none, (some 13), .load none (.t 12)⟩,⟨none, (some 14), .call 1 113 [.t 11, .t 13]⟩,⟨none, (some 15), .call 1 98 [.t 9, .t 14]⟩,⟨none, none, .store 2 (.t 4) (.t 15)⟩]) (.ret (m 16 16)))
def F102 : XF := ⟨2, 16, [.cell 4 (some 2)], F102B⟩
def M102 : List (List Bool) := [(m 16 16)]
def F103B : XC :=
 .seq (.reg [⟨none, (some 2), .box (.t 0)⟩,⟨none, (some 3), .box (.t 1)⟩,⟨none, (some 4), .alloc [.bool false, .nils]⟩]) (.seq (.reg [⟨none, (some 5), .load (some 2) (.t 2)⟩,⟨none, (some 6), .load (some 2) (.t 3)⟩,⟨none, (some 7), .call 1 84 [.t 6]⟩,⟨none, (some 8), .call 1 114 [.t 5, .t 7]⟩,⟨none, none, .store 2 (.t 4) (.t 8)⟩]) (.ret (m 9 16)))
def F103 : XF := ⟨2, 9, [.cell 4 (some 2)], F103B⟩
def M103 : List (List Bool) := [(m 9 16)]
def F104L0b : XC :=
 .seq (.seq (.reg [⟨none, (some 11), .mov (.t 6)⟩,⟨none, (some 12), .bin .geq (.t 11) (.c (.int .i64 (0)))⟩]) (.cond (.t 12) (.skip) (.exit 0 (m 27 32)))) (.seq (.block 1 (m 27 99) (.reg [⟨none, (some 15), .load (some 2) (.t 5)⟩,⟨none, (some 16), .mov (.t 1)⟩,⟨none, (some 17), .call 1 80 [.t 16]⟩,⟨none, (some 18), .call 1 102 [.t 15, .t 17]⟩,⟨none, (some 19), .mov (.t 0)⟩,⟨none, (some 20), .mov (.t 6)⟩,⟨none, (some 21), .indexA 2 (.t 19) (.t 20)⟩,⟨none, (some 22), .load (some 2) (.t 21)⟩,⟨none, (some 23), .call 1 114 [.t 18, .t 22]⟩,⟨none, none, .store 2 (.t 5) (.t 23)⟩])) (.reg [⟨none, (some 13), .mov (.t 6)⟩,⟨none, (some 14), .bin .sub (.t 13) (.c (.int .i64 (1)))⟩,⟨none, (some 6), .mov (.t 14)⟩]))
def F104L0 : XC := .loop (m 27 99) F104L0b
def F104T0 : XC :=
 .seq (.reg [⟨none, (some 24), .load (some 2) (.t 5)⟩,⟨none, (some 25), .call 1 80 [.c (.int .i64 (0))]⟩,⟨none, (some 26), .call 1 115 [.t 24, .t 25]⟩,⟨none, (some 4), .mov (.t 26)⟩]) (.ret (m 27 16))
def F104B : XC :=
 .seq (.reg [⟨none, (some 4), .mov (.c (.int .i64 (0)))⟩]) (.seq (.reg [⟨none, (some 7), .call 1 80 [.c (.int .i64 (0))]⟩,⟨none, (some 5), .alloc [.bool false, .nils]⟩,⟨none, none, .store 2 (.t 5) (.t 7)⟩]) (.seq (.seq (.reg [⟨none, (some 8), .mov (.t 0)⟩,⟨none, (some 9), .len (.t 8)⟩,⟨none, (some 10), .bin .sub (.t 9) (.c (.int .i64 (1)))⟩,⟨none, (some 6), .mov (.t 10)⟩]) (.block 0 (m 27 32) (F104L0)))
 F104T0))
def F104 : XF := ⟨2, 27, [.tmp 4], F104B⟩
def M104 : List (List Bool) := [(m 27 32), (m 27 99), (m 27 32), (m 27 99), (m 27 16)]
def F105B : XC :=
 .seq (.reg [⟨none, (some 2), .mov (.c (.int .i64 (0)))⟩]) (.seq (.cond (.c (.bool false)) (.seq (.reg [⟨none, (some 3), .mov (.t 0)⟩,⟨none, (some 4), .conv .u32 (.t 3)⟩,⟨none, (some 5), .call 1 116 [.t 4]⟩,⟨none, (some 2), .mov (.t 5)⟩]) (.ret (m 8 4))) (.skip)) (.seq (.reg [⟨none, (some 6), .mov (.t 0)⟩,⟨none, (some 7), .call 1 117 [.t 6]⟩,⟨none, (some 2), .mov (.t 7)⟩]) (.ret (m 8 4))))
def F105 : XF := ⟨1, 8, [.tmp 2], F105B⟩
def M105 : List (List Bool) := [(m 8 4), (m 8 4)]
def F106L0b : XC :=
 .seq (.seq (.reg [⟨none, (some 3), .mov (.t 0)⟩,⟨none, (some 4), .len (.t 3)⟩,⟨none, (some 5), .bin .gtr (.t 4) (.c (.int .i64 (0)))⟩,⟨none, (some 6), .mov (.t 5)⟩,⟨(some (6, true)), (some 7), .mov (.t 0)⟩,⟨(some (6, true)), (some 8), .mov (.t 0)⟩,⟨(some (6, true)), (some 9), .len (.t 8)⟩,⟨(some (6, true)), (some 10), .bin .sub (.t 9) (.c (.int .i64 (1)))⟩,⟨(some (6, true)), (some 11), .indexA 1 (.t 7) (.t 10)⟩,⟨(some (6, true)), (some 12), .load none (.t 11)⟩,⟨(some (6, true)), (some 13), .bin .eql (.t 12) (.c (.int .i64 (0)))⟩,⟨none, (some 14), .pick (.t 6) (.t 13) (.c (.bool false))⟩]) (.cond (.t 14) (.skip) (.exit 0 (m 21 1)))) (.block 1 (m 21 1) (.reg [⟨none, (some 15), .mov (.t 0)⟩,⟨none, (some 16), .mov (.t 0)⟩,⟨none, (some 17), .len (.t 16)⟩,⟨none, (some 18), .bin .sub (.t 17) (.c (.int .i64 (1)))⟩,⟨none, (some 19), .slice 1 (.t 15) none (some (.t 18)) none⟩,⟨none, (some 0), .mov (.t 19)⟩]))
def F106L0 : XC := .loop (m 21 1) F106L0b
def F106T0 : XC :=
 .seq (.reg [⟨none, (some 20), .mov (.t 0)⟩,⟨none, (some 2), .mov (.t 20)⟩]) (.ret (m 21 4))
def F106B : XC :=
 .seq (.reg [⟨none, (some 2), .mov (.c (.nils))⟩]) (.seq (.block 0 (m 21 1) (F106L0))
 F106T0)
def F106 : XF := ⟨1, 21, [.tmp 2], F106B⟩
def M106 : List (List Bool) := [(m 21 1), (m 21 1), (m 21 1), (m 21 1), (m 21 4)]
def F107L0b : XC :=
 .seq (.seq (.reg [⟨none, (some 47), .mov (.t 10)⟩,⟨none, (some 48), .bin .lss (.t 47) (.c (.int .i64 (0)))⟩]) (.cond (.t 48) (.skip) (.exit 2 (m 64 1927)))) (.block 3 (m 64 1927) (.seq (.reg [⟨none, (some 49), .mov (.t 10)⟩,⟨none, (some 50), .bin .add (.t 49) (.c (.int .i64 (2147483648)))⟩,⟨none, (some 10), .mov (.t 50)⟩]) (.reg [⟨none, (some 51), .mov (.t 8)⟩,⟨none, (some 52), .bin .sub (.t 51) (.c (.int .i64 (1)))⟩,⟨none, (some 8), .mov (.t 52)⟩])))
def F107L0 : XC := .loop (m 64 1927) F107L0b
def F107T0 : XC :=
 .seq (.reg [⟨none, (some 53), .mov (.t 8)⟩,⟨none, (some 54), .mov (.t 10)⟩,⟨none, (some 55), .bin .quo (.t 54) (.c (.int .i64 (2147483648)))⟩,⟨none, (some 56), .bin .add (.t 53) (.t 55)⟩,⟨none, (some 8), .mov (.t 56)⟩]) (.reg [⟨none, (some 57), .mov (.t 7)⟩,⟨none, (some 58), .mov (.t 10)⟩,⟨none, (some 59), .bin .rem (.t 58) (.c (.int .i64 (2147483648)))⟩,⟨none, (some 60), .bslice 1 1 [.int .i64 (0)] [(0, 1, .t 59)]⟩,⟨none, (some 61), .app 1 8 (.t 57) (.t 60)⟩,⟨none, (some 7), .mov (.t 61)⟩])
def F107T1 : XC :=
 .reg [⟨none, (some 22), .mov (.t 9)⟩,⟨none, (some 23), .bin .add (.t 22) (.c (.int .i64 (1)))⟩,⟨none, (some 9), .mov (.t 23)⟩]
def F107L1b : XC :=
 .seq (.seq (.reg [⟨none, (some 11), .mov (.t 9)⟩,⟨none, (some 12), .mov (.t 0)⟩,⟨none, (some 13), .len (.t 12)⟩,⟨none, (some 14), .mov (.t 1)⟩,⟨none, (some 15), .len (.t 14)⟩,⟨none, (some 16), .mnx true [.t 13, .t 15]⟩,⟨none, (some 17), .bin .lss (.t 11) (.t 16)⟩,⟨none, (some 18), .mov (.t 17)⟩,⟨(some (18, false)), (some 19), .mov (.t 8)⟩,⟨(some (18, false)), (some 20), .bin .gtr (.t 19) (.c (.int .i64 (0)))⟩,⟨none, (some 21), .pick (.t 18) (.c (.bool true)) (.t 20)⟩]) (.cond (.t 21) (.skip) (.exit 0 (m 64 128)))) (.seq (.block 1 (m 64 903) (.seq (.reg [⟨none, (some 24), .mov (.t 8)⟩,⟨none, (some 10), .mov (.t 24)⟩]) (.seq (.seq (.reg [⟨none, (some 25), .mov (.t 9)⟩,⟨none, (some 26), .mov (.t 0)⟩,⟨none, (some 27), .len (.t 26)⟩,⟨none, (some 28), .bin .lss (.t 25) (.t 27)⟩]) (.cond (.t 28) (.reg [⟨none, (some 29), .mov (.t 10)⟩,⟨none, (some 30), .mov (.t 0)⟩,⟨none, (some 31), .mov (.t 9)⟩,⟨none, (some 32), .indexA 1 (.t 30) (.t 31)⟩,⟨none, (some 33), .load none (.t 32)⟩,⟨none, (some 34), .bin .add (.t 29) (.t 33)⟩,⟨none, (some 10), .mov (.t 34)⟩]) (.skip))) (.seq (.seq (.reg [⟨none, (some 35), .mov (.t 9)⟩,⟨none, (some 36), .mov (.t 1)⟩,⟨none, (some 37), .len (.t 36)⟩,⟨none, (some 38), .bin .lss (.t 35) (.t 37)⟩]) (.cond (.t 38) (.reg [⟨none, (some 39), .mov (.t 10)⟩,⟨none, (some 40), .mov (.t 2)⟩,⟨none, (some 41), .mov (.t 1)⟩,⟨none, (some 42), .mov (.t 9)⟩,⟨none, (some 43), .indexA 1 (.t 41) (.t 42)⟩,⟨none, (some 44), .load none (.t 43)⟩,⟨none, (some 45), .bin .mul (.t 40) (.t 44)⟩,⟨none, (some 46), .bin .add (.t 39) (.t 45)⟩,⟨none, (some 10), .mov (.t 46)⟩]) (.skip))) (.seq (.reg [⟨none, (some 8), .mov (.c (.int .i64 (0)))⟩]) (.seq (.block 2 (m 64 1927) (F107L0))
 F107T0))))))
 F107T1)
def F107L1 : XC := .loop (m 64 903) F107L1b
def F107T2 : XC :=
 .seq (.reg [⟨none, (some 62), .mov (.t 7)⟩,⟨none, (some 63), .call 0 106 [.t 62]⟩,⟨none, (some 6), .mov (.t 63)⟩]) (.ret (m 64 64))
def F107B : XC :=
 .seq (.reg [⟨none, (some 6), .mov (.c (.nils))⟩]) (.seq (.reg [⟨none, (some 7), .mov (.c (.nils))⟩]) (.seq (.reg [⟨none, (some 8), .mov (.c (.int .i64 (0)))⟩]) (.seq (.seq (.reg [⟨none, (some 9), .mov (.c (.int .i64 (0)))⟩]) (.block 0 (m 64 128) (F107L1)))
 F107T2)))
def F107 : XF := ⟨3, 64, [.tmp 6], F107B⟩
def M107 : List (List Bool) := [(m 64 128), (m 64 903), (m 64 128), (m 64 903), (m 64 1927), (m 64 1927), (m 64 1927), (m 64 1927), (m 64 64)]
def F108L0b : XC :=
 .seq (.seq (.reg [⟨none, (some 19), .mov (.t 5)⟩,⟨none, (some 20), .bin .geq (.t 19) (.c (.int .i64 (0)))⟩]) (.cond (.t 20) (.skip) (.exit 0 (m 41 0)))) (.seq (.block 1 (m 41 35) (.seq (.reg [⟨none, (some 23), .mov (.t 0)⟩,⟨none, (some 24), .mov (.t 5)⟩,⟨none, (some 25), .indexA 1 (.t 23) (.t 24)⟩,⟨none, (some 26), .load none (.t 25)⟩,⟨none, (some 27), .mov (.t 1)⟩,⟨none, (some 28), .mov (.t 5)⟩,⟨none, (some 29), .indexA 1 (.t 27) (.t 28)⟩,⟨none, (some 30), .load none (.t 29)⟩,⟨none, (some 31), .bin .neq (.t 26) (.t 30)⟩]) (.cond (.t 31) (.seq (.reg [⟨none, (some 32), .mov (.t 0)⟩,⟨none, (some 33), .mov (.t 5)⟩,⟨none, (some 34), .indexA 1 (.t 32) (.t 33)⟩,⟨none, (some 35), .load none (.t 34)⟩,⟨none, (some 36), .mov (.t 1)⟩,⟨none, (some 37), .mov (.t 5)⟩,⟨none, (some 38), .indexA 1 (.t 36) (.t 37)⟩,⟨none, (some 39), .load none (.t 38)⟩,⟨none, (some 40), .bin .sub (.t 35) (.t 39)⟩,⟨none, (some 4), .mov (.t 40)⟩]) (.ret (m 41 16))) (.skip)))) (.reg [⟨none, (some 21), .mov (.t 5)⟩,⟨none, (some 22), .bin .sub (.t 21) (.c (.int .i64 (1)))⟩,⟨none, (some 5), .mov (.t 22)⟩]))
def F108L0 : XC := .loop (m 41 35) F108L0b
def F108T0 : XC :=
 .seq (.reg [⟨none, (some 4), .mov (.c (.int .i64 (0)))⟩]) (.ret (m 41 16))
def F108B : XC :=
 .seq (.reg [⟨none, (some 4), .mov (.c (.int .i64 (0)))⟩]) (.seq (.seq (.reg [⟨none, (some 6), .mov (.t 0)⟩,⟨none, (some 7), .len (.t 6)⟩,⟨none, (some 8), .mov (.t 1)⟩,⟨none, (some 9), .len (.t 8)⟩,⟨none, (some 10), .bin .neq (.t 7) (.t 9)⟩]) (.cond (.t 10) (.seq (.reg [⟨none, (some 11), .mov (.t 0)⟩,⟨none, (some 12), .len (.t 11)⟩,⟨none, (some 13), .mov (.t 1)⟩,⟨none, (some 14), .len (.t 13)⟩,⟨none, (some 15), .bin .sub (.t 12) (.t 14)⟩,⟨none, (some 4), .mov (.t 15)⟩]) (.ret (m 41 16))) (.skip))) (.seq (.seq (.reg [⟨none, (some 16), .mov (.t 0)⟩,⟨none, (some 17), .len (.t 16)⟩,⟨none, (some 18), .bin .sub (.t 17) (.c (.int .i64 (1)))⟩,⟨none, (some 5), .mov (.t 18)⟩]) (.block 0 (m 41 0) (F108L0)))
 F108T0))
def F108 : XF := ⟨2, 41, [.tmp 4], F108B⟩
def M108 : List (List Bool) := [(m 41 16), (m 41 0), (m 41 35), (m 41 0), (m 41 35), (m 41 16), (m 41 16)]
def F110L0b : XC :=
 .seq (.seq (.reg [⟨none, (some 8), .mov (.t 3)⟩,⟨none, (some 9), .bin .gtr (.t 8) (.c (.int .i64 (0)))⟩,⟨none, (some 10), .mov (.t 9)⟩,⟨(some (10, true)), (some 11), .mov (.t 0)⟩,⟨(some (10, true)), (some 12), .mov (.t 3)⟩,⟨(some (10, true)), (some 13), .bin .sub (.t 12) (.c (.int .i64 (1)))⟩,⟨(some (10, true)), (some 14), .indexA 1 (.t 11) (.t 13)⟩,⟨(some (10, true)), (some 15), .load none (.t 14)⟩,⟨(some (10, true)), (some 16), .bin .eql (.t 15) (.c (.int .i64 (0)))⟩,⟨none, (some 17), .pick (.t 10) (.t 16) (.c (.bool false))⟩]) (.cond (.t 17) (.skip) (.exit 0 (m 33 9)))) (.block 1 (m 33 9) (.reg [⟨none, (some 18), .mov (.t 3)⟩,⟨none, (some 19), .bin .sub (.t 18) (.c (.int .i64 (1)))⟩,⟨none, (some 3), .mov (.t 19)⟩]))
def F110L0 : XC := .loop (m 33 9) F110L0b
def F110L1b : XC :=
 .seq (.seq (.reg [⟨none, (some 20), .mov (.t 5)⟩,⟨none, (some 21), .mov (.t 3)⟩,⟨none, (some 22), .bin .lss (.t 20) (.t 21)⟩]) (.cond (.t 22) (.skip) (.exit 2 (m 33 16)))) (.seq (.block 3 (m 33 57) (.reg [⟨none, (some 25), .mov (.t 4)⟩,⟨none, (some 26), .mov (.t 0)⟩,⟨none, (some 27), .mov (.t 5)⟩,⟨none, (some 28), .indexA 1 (.t 26) (.t 27)⟩,⟨none, (some 29), .load none (.t 28)⟩,⟨none, (some 30), .bslice 1 1 [.int .i64 (0)] [(0, 1, .t 29)]⟩,⟨none, (some 31), .app 1 8 (.t 25) (.t 30)⟩,⟨none, (some 4), .mov (.t 31)⟩])) (.reg [⟨none, (some 23), .mov (.t 5)⟩,⟨none, (some 24), .bin .add (.t 23) (.c (.int .i64 (1)))⟩,⟨none, (some 5), .mov (.t 24)⟩]))
def F110L1 : XC := .loop (m 33 57) F110L1b
def F110T0 : XC :=
 .seq (.reg [⟨none, (some 32), .mov (.t 4)⟩,⟨none, (some 2), .mov (.t 32)⟩]) (.ret (m 33 4))
def F110T1 : XC :=
 .seq (.reg [⟨none, (some 4), .mov (.c (.nils))⟩]) (.seq (.seq (.reg [⟨none, (some 5), .mov (.c (.int .i64 (0)))⟩]) (.block 2 (m 33 16) (F110L1)))
 F110T0)
def F110B : XC :=
 .seq (.reg [⟨none, (some 2), .mov (.c (.nils))⟩]) (.seq (.reg [⟨none, (some 6), .mov (.t 0)⟩,⟨none, (some 7), .len (.t 6)⟩,⟨none, (some 3), .mov (.t 7)⟩]) (.seq (.block 0 (m 33 9) (F110L0))
 F110T1))
def F110 : XF := ⟨1, 33, [.tmp 2], F110B⟩
def M110 : List (List Bool) := [(m 33 9), (m 33 9), (m 33 9), (m 33 9), (m 33 16), (m 33 57), (m 33 16), (m 33 57), (m 33 4)]
def F111B : XC :=
 .seq (.reg [⟨none, (some 1), .box (.t 0)⟩,⟨none, (some 2), .mov (.c (.bool false))⟩]) (.seq (.reg [⟨none, (some 3), .fieldA 1 (.t 1)⟩,⟨none, (some 4), .load none (.t 3)⟩,⟨none, (some 5), .len (.t 4)⟩,⟨none, (some 6), .bin .eql (.t 5) (.c (.int .i64 (0)))⟩,⟨none, (some 2), .mov (.t 6)⟩]) (.ret (m 7 4)))
def F111 : XF := ⟨1, 7, [.tmp 2], F111B⟩
def M111 : List (List Bool) := [(m 7 4)]
def F112B : XC :=
 .seq (.reg [⟨none, (some 2), .box (.t 0)⟩,⟨none, (some 3), .box (.t 1)⟩,⟨none, (some 4), .alloc [.bool false, .nils]⟩,⟨none, (some 5), .alloc [.bool false, .nils]⟩]) (.seq (.reg [⟨none, (some 9), .fieldA 1 (.t 2)⟩,⟨none, (some 10), .load none (.t 9)⟩,⟨none, (some 11), .fieldA 1 (.t 3)⟩,⟨none, (some 12), .load none (.t 11)⟩,⟨none, (some 13), .call 1 119 [.t 10, .t 12]⟩,⟨none, (some 8), .mov (.t 13)⟩,⟨none, (some 14), .ext (.t 8) 0⟩,⟨none, (some 15), .ext (.t 8) 1⟩,⟨none, (some 6), .mov (.t 14)⟩,⟨none, (some 7), .mov (.t 15)⟩]) (.seq (.seq (.reg [⟨none, (some 16), .fieldA 0 (.t 2)⟩,⟨none, (some 17), .load none (.t 16)⟩,⟨none, (some 18), .un .not (.t 17)⟩]) (.cond (.t 18) (.seq (.reg [⟨none, (some 19), .mov (.t 6)⟩,⟨none, (some 20), .call 1 98 [.c (.bool false), .t 19]⟩,⟨none, (some 21), .mov (.t 7)⟩,⟨none, (some 22), .call 1 98 [.c (.bool false), .t 21]⟩,⟨none, none, .store 2 (.t 4) (.t 20)⟩,⟨none, none, .store 2 (.t 5) (.t 22)⟩]) (.ret (m 38 48))) (.skip))) (.seq (.seq (.reg [⟨none, (some 23), .mov (.t 7)⟩,⟨none, (some 24), .len (.t 23)⟩,⟨none, (some 25), .bin .eql (.t 24) (.c (.int .i64 (0)))⟩]) (.cond (.t 25) (.seq (.reg [⟨none, (some 26), .mov (.t 6)⟩,⟨none, (some 27), .call 1 98 [.c (.bool true), .t 26]⟩,⟨none, (some 28), .build [.bool false, .nils] []⟩,⟨none, none, .store 2 (.t 4) (.t 27)⟩,⟨none, none, .store 2 (.t 5) (.t 28)⟩]) (.ret (m 38 48))) (.skip))) (.seq (.reg [⟨none, (some 29), .mov (.t 6)⟩,⟨none, (some 30), .bslice 1 1 [.int .i64 (0)] [(0, 1, .c (.int .i64 (1)))]⟩,⟨none, (some 31), .call 1 120 [.t 29, .t 30]⟩,⟨none, (some 32), .call 1 98 [.c (.bool true), .t 31]⟩,⟨none, (some 33), .fieldA 1 (.t 3)⟩,⟨none, (some 34), .load none (.t 33)⟩,⟨none, (some 35), .mov (.t 7)⟩,⟨none, (some 36), .call 1 121 [.t 34, .t 35]⟩,⟨none, (some 37), .call 1 98 [.c (.bool false), .t 36]⟩,⟨none, none, .store 2 (.t 4) (.t 32)⟩,⟨none, none, .store 2 (.t 5) (.t 37)⟩]) (.ret (m 38 48))))))
def F112 : XF := ⟨2, 38, [.cell 4 (some 2), .cell 5 (some 2)], F112B⟩
def M112 : List (List Bool) := [(m 38 48), (m 38 48), (m 38 48)]
def F113L0b : XC :=
 .seq (.seq (.reg [⟨none, (some 22), .mov (.t 8)⟩,⟨none, (some 23), .mov (.t 1)⟩,⟨none, (some 24), .len (.t 23)⟩,⟨none, (some 25), .bin .lss (.t 22) (.t 24)⟩]) (.cond (.t 25) (.skip) (.exit 2 (m 64 227)))) (.seq (.block 3 (m 64 483) (.seq (.reg [⟨none, (some 28), .mov (.t 5)⟩,⟨none, (some 29), .mov (.t 6)⟩,⟨none, (some 30), .mov (.t 8)⟩,⟨none, (some 31), .bin .add (.t 29) (.t 30)⟩,⟨none, (some 32), .indexA 1 (.t 28) (.t 31)⟩,⟨none, (some 33), .load none (.t 32)⟩,⟨none, (some 34), .mov (.t 0)⟩,⟨none, (some 35), .mov (.t 6)⟩,⟨none, (some 36), .indexA 1 (.t 34) (.t 35)⟩,⟨none, (some 37), .load none (.t 36)⟩,⟨none, (some 38), .mov (.t 1)⟩,⟨none, (some 39), .mov (.t 8)⟩,⟨none, (some 40), .indexA 1 (.t 38) (.t 39)⟩,⟨none, (some 41), .load none (.t 40)⟩,⟨none, (some 42), .bin .mul (.t 37) (.t 41)⟩,⟨none, (some 43), .bin .add (.t 33) (.t 42)⟩,⟨none, (some 44), .mov (.t 7)⟩,⟨none, (some 45), .bin .add (.t 43) (.t 44)⟩,⟨none, (some 9), .mov (.t 45)⟩]) (.seq (.reg [⟨none, (some 46), .mov (.t 5)⟩,⟨none, (some 47), .mov (.t 6)⟩,⟨none, (some 48), .mov (.t 8)⟩,⟨none, (some 49), .bin .add (.t 47) (.t 48)⟩,⟨none, (some 50), .mov (.t 9)⟩,⟨none, (some 51), .bin .rem (.t 50) (.c (.int .i64 (10000)))⟩,⟨none, (some 52), .indexA 1 (.t 46) (.t 49)⟩,⟨none, none, .store 1 (.t 52) (.t 51)⟩]) (.reg [⟨none, (some 53), .mov (.t 9)⟩,⟨none, (some 54), .bin .quo (.t 53) (.c (.int .i64 (10000)))⟩,⟨none, (some 7), .mov (.t 54)⟩])))) (.reg [⟨none, (some 26), .mov (.t 8)⟩,⟨none, (some 27), .bin .add (.t 26) (.c (.int .i64 (1)))⟩,⟨none, (some 8), .mov (.t 27)⟩]))
def F113L0 : XC := .loop (m 64 483) F113L0b
def F113T0 : XC :=
 .reg [⟨none, (some 55), .mov (.t 5)⟩,⟨none, (some 56), .mov (.t 6)⟩,⟨none, (some 57), .mov (.t 1)⟩,⟨none, (some 58), .len (.t 57)⟩,⟨none, (some 59), .bin .add (.t 56) (.t 58)⟩,⟨none, (some 60), .mov (.t 7)⟩,⟨none, (some 61), .indexA 1 (.t 55) (.t 59)⟩,⟨none, none, .store 1 (.t 61) (.t 60)⟩]
def F113T1 : XC :=
 .reg [⟨none, (some 20), .mov (.t 6)⟩,⟨none, (some 21), .bin .add (.t 20) (.c (.int .i64 (1)))⟩,⟨none, (some 6), .mov (.t 21)⟩]
def F113L1b : XC :=
 .seq (.seq (.reg [⟨none, (some 16), .mov (.t 6)⟩,⟨none, (some 17), .mov (.t 0)⟩,⟨none, (some 18), .len (.t 17)⟩,⟨none, (some 19), .bin .lss (.t 16) (.t 18)⟩]) (.cond (.t 19) (.skip) (.exit 0 (m 64 32)))) (.seq (.block 1 (m 64 99) (.seq (.reg [⟨none, (some 7), .mov (.c (.int .i64 (0)))⟩]) (.seq (.seq (.reg [⟨none, (some 8), .mov (.c (.int .i64 (0)))⟩]) (.block 2 (m 64 227) (F113L0)))
 F113T0)))
 F113T1)
def F113L1 : XC := .loop (m 64 99) F113L1b
def F113T2 : XC :=
 .seq (.reg [⟨none, (some 62), .mov (.t 5)⟩,⟨none, (some 63), .call 0 110 [.t 62]⟩,⟨none, (some 4), .mov (.t 63)⟩]) (.ret (m 64 16))
def F113B : XC :=
 .seq (.reg [⟨none, (some 4), .mov (.c (.nils))⟩]) (.seq (.reg [⟨none, (some 10), .mov (.t 0)⟩,⟨none, (some 11), .len (.t 10)⟩,⟨none, (some 12), .mov (.t 1)⟩,⟨none, (some 13), .len (.t 12)⟩,⟨none, (some 14), .bin .add (.t 11) (.t 13)⟩,⟨none, (some 15), .mks 1 8 [.int .i64 (0)] (.t 14) (.t 14)⟩,⟨none, (some 5), .mov (.t 15)⟩]) (.seq (.seq (.reg [⟨none, (some 6), .mov (.c (.int .i64 (0)))⟩]) (.block 0 (m 64 32) (F113L1)))
 F113T2))
def F113 : XF := ⟨2, 64, [.tmp 4], F113B⟩
def M113 : List (List Bool) := [(m 64 32), (m 64 99), (m 64 32), (m 64 99), (m 64 227), (m 64 483), (m 64 227), (m 64 483), (m 64 16)]
def F114B : XC :=
 .seq (.reg [⟨none, (some 2), .box (.t 0)⟩,⟨none, (some 3), .box (.t 1)⟩,⟨none, (some 4), .alloc [.bool false, .nils]⟩]) (.seq (.seq (.reg [⟨none, (some 5), .fieldA 0 (.t 2)⟩,⟨none, (some 6), .load none (.t 5)⟩,⟨none, (some 7), .fieldA 0 (.t 3)⟩,⟨none, (some 8), .load none (.t 7)⟩,⟨none, (some 9), .eqb false (.t 6) (.t 8)⟩]) (.cond (.t 9) (.seq (.reg [⟨none, (some 10), .fieldA 0 (.t 2)⟩,⟨none, (some 11), .load none (.t 10)⟩,⟨none, (some 12), .fieldA 1 (.t 2)⟩,⟨none, (some 13), .load none (.t 12)⟩,⟨none, (some 14), .fieldA 1 (.t 3)⟩,⟨none, (some 15), .load none (.t 14)⟩,⟨none, (some 16), .call 1 120 [.t 13, .t 15]⟩,⟨none, (some 17), .call 1 98 [.t 11, .t 16]⟩,⟨none, none, .store 2 (.t 4) (.t 17)⟩]) (.ret (m 40 16))) (.skip))) (.seq (.seq (.reg [⟨none, (some 18), .fieldA 1 (.t 2)⟩,⟨none, (some 19), .load none (.t 18)⟩,⟨none, (some 20), .fieldA 1 (.t 3)⟩,⟨none, (some 21), .load none (.t 20)⟩,⟨none, (some 22), .call 1 122 [.t 19, .t 21]⟩,⟨none, (some 23), .bin .geq (.t 22) (.c (.int .i64 (0)))⟩]) (.cond (.t 23) (.seq (.reg [⟨none, (some 24), .fieldA 0 (.t 2)⟩,⟨none, (some 25), .load none (.t 24)⟩,⟨none, (some 26), .fieldA 1 (.t 2)⟩,⟨none, (some 27), .load none (.t 26)⟩,⟨none, (some 28), .fieldA 1 (.t 3)⟩,⟨none, (some 29), .load none (.t 28)⟩,⟨none, (some 30), .call 1 121 [.t 27, .t 29]⟩,⟨none, (some 31), .call 1 98 [.t 25, .t 30]⟩,⟨none, none, .store 2 (.t 4) (.t 31)⟩]) (.ret (m 40 16))) (.skip))) (.seq (.reg [⟨none, (some 32), .fieldA 0 (.t 3)⟩,⟨none, (some 33), .load none (.t 32)⟩,⟨none, (some 34), .fieldA 1 (.t 3)⟩,⟨none, (some 35), .load none (.t 34)⟩,⟨none, (some 36), .fieldA 1 (.t 2)⟩,⟨none, (some 37), .load none (.t 36)⟩,⟨none, (some 38), .call 1 121 [.t 35, .t 37]⟩,⟨none, (some 39), .call 1 98 [.t 33, .t 38]⟩,⟨none, none, .store 2 (.t 4) (.t 39)⟩]) (.ret (m 40 16)))))
def F114 : XF := ⟨2, 40, [.cell 4 (some 2)], F114B⟩
def M114 : List (List Bool) := [(m 40 16), (m 40 16), (m 40 16)]
def F115B : XC :=
 .seq (.reg [⟨none, (some 2), .box (.t 0)⟩,⟨none, (some 3), .box (.t 1)⟩,⟨none, (some 4), .mov (.c (.int .i64 (0)))⟩]) (.seq (.seq (.reg [⟨none, (some 6), .fieldA 0 (.t 2)⟩,⟨none, (some 7), .load none (.t 6)⟩,⟨none, (some 8), .fieldA 0 (.t 3)⟩,⟨none, (some 9), .load none (.t 8)⟩,⟨none, (some 10), .eqb true (.t 7) (.t 9)⟩]) (.cond (.t 10) (.seq (.seq (.reg [⟨none, (some 11), .fieldA 0 (.t 2)⟩,⟨none, (some 12), .load none (.t 11)⟩]) (.cond (.t 12) (.seq (.reg [⟨none, (some 4), .mov (.c (.int .i64 (-1)))⟩]) (.ret (m 23 16))) (.skip))) (.seq (.reg [⟨none, (some 4), .mov (.c (.int .i64 (1)))⟩]) (.ret (m 23 16)))) (.skip))) (.seq (.reg [⟨none, (some 13), .fieldA 1 (.t 2)⟩,⟨none, (some 14), .load none (.t 13)⟩,⟨none, (some 15), .fieldA 1 (.t 3)⟩,⟨none, (some 16), .load none (.t 15)⟩,⟨none, (some 17), .call 1 122 [.t 14, .t 16]⟩,⟨none, (some 5), .mov (.t 17)⟩]) (.seq (.seq (.reg [⟨none, (some 18), .fieldA 0 (.t 2)⟩,⟨none, (some 19), .load none (.t 18)⟩]) (.cond (.t 19) (.seq (.reg [⟨none, (some 20), .mov (.t 5)⟩,⟨none, (some 21), .un .neg (.t 20)⟩,⟨none, (some 4), .mov (.t 21)⟩]) (.ret (m 23 16))) (.skip))) (.seq (.reg [⟨none, (some 22), .mov (.t 5)⟩,⟨none, (some 4), .mov (.t 22)⟩]) (.ret (m 23 16))))))
def F115 : XF := ⟨2, 23, [.tmp 4], F115B⟩
def M115 : List (List Bool) := [(m 23 16), (m 23 16), (m 23 16), (m 23 16)]
def F116B : XC :=
 .seq (.reg [⟨none, (some 2), .mov (.c (.int .i64 (0)))⟩]) (.seq (.seq (.reg [⟨none, (some 3), .mov (.t 0)⟩,⟨none, (some 4), .bin .eql (.t 3) (.c (.int .u32 (0)))⟩]) (.cond (.t 4) (.seq (.reg [⟨none, (some 2), .mov (.c (.int .i64 (32)))⟩]) (.ret (m 14 4))) (.skip))) (.seq (.reg [⟨none, (some 5), .mov (.t 0)⟩,⟨none, (some 6), .mov (.t 0)⟩,⟨none, (some 7), .un .neg (.t 6)⟩,⟨none, (some 8), .bin .and (.t 5) (.t 7)⟩,⟨none, (some 9), .bin .mul (.t 8) (.c (.int .u32 (125613361)))⟩,⟨none, (some 10), .bin .shr (.t 9) (.c (.int .u64 (27)))⟩,⟨none, (some 11), .indexP 1 32 (.c (.undef)) (.t 10)⟩,⟨none, (some 12), .load none (.t 11)⟩,⟨none, (some 13), .conv .i64 (.t 12)⟩,⟨none, (some 2), .mov (.t 13)⟩]) (.ret (m 14 4))))
def F116 : XF := ⟨1, 14, [.tmp 2], F116B⟩
def M116 : List (List Bool) := [(m 14 4), (m 14 4)]
def F117B : XC :=
 .seq (.reg [⟨none, (some 2), .mov (.c (.int .i64 (0)))⟩]) (.seq (.seq (.reg [⟨none, (some 3), .mov (.t 0)⟩,⟨none, (some 4), .bin .eql (.t 3) (.c (.int .u64 (0)))⟩]) (.cond (.t 4) (.seq (.reg [⟨none, (some 2), .mov (.c (.int .i64 (64)))⟩]) (.ret (m 14 4))) (.skip))) (.seq (.reg [⟨none, (some 5), .mov (.t 0)⟩,⟨none, (some 6), .mov (.t 0)⟩,⟨none, (some 7), .un .neg (.t 6)⟩,⟨none, (some 8), .bin .and (.t 5) (.t 7)⟩,⟨none, (some 9), .bin .mul (.t 8) (.c (.int .u64 (285870213051353865)))⟩,⟨none, (some 10), .bin .shr (.t 9) (.c (.int .u64 (58)))⟩,⟨none, (some 11), .indexP 1 64 (.c (.cptr false [.int .u8 (0), .int .u8 (1), .int .u8 (56), .int .u8 (2), .int .u8 (57), .int .u8 (49), .int .u8 (28), .int .u8 (3), .int .u8 (61), .int .u8 (58), .int .u8 (42), .int .u8 (50), .int .u8 (38), .int .u8 (29), .int .u8 (17), .int .u8 (4), .int .u8 (62), .int .u8 (47), .int .u8 (59), .int .u8 (36), .int .u8 (45), .int .u8 (43), .int .u8 (51), .int .u8 (22), .int .u8 (53), .int .u8 (39), .int .u8 (33), .int .u8 (30), .int .u8 (24), .int .u8 (18), .int .u8 (12), .int .u8 (5), .int .u8 (63), .int .u8 (55), .int .u8 (48), .int .u8 (27), .int .u8 (60), .int .u8 (41), .int .u8 (37), .int .u8 (16), .int .u8 (46), .int .u8 (35), .int .u8 (44), .int .u8 (21), .int .u8 (52), .int .u8 (32), .int .u8 (23), .int .u8 (11), .int .u8 (54), .int .u8 (26), .int .u8 (40), .int .u8 (15), .int .u8 (34), .int .u8 (20), .int .u8 (31), .int .u8 (10), .int .u8 (25), .int .u8 (14), .int .u8 (19), .int .u8 (9), .int .u8 (13), .int .u8 (8), .int .u8 (7), .int .u8 (6)])) (.t 10)⟩,⟨none, (some 12), .load none (.t 11)⟩,⟨none, (some 13), .conv .i64 (.t 12)⟩,⟨none, (some 2), .mov (.t 13)⟩]) (.ret (m 14 4))))
def F117 : XF := ⟨1, 14, [.tmp 2], F117B⟩
def M117 : List (List Bool) := [(m 14 4), (m 14 4)]
def F119L0b : XC :=
 .seq (.seq (.reg [⟨none, (some 36), .mov (.t 10)⟩,⟨none, (some 37), .mov (.t 11)⟩,⟨none, (some 38), .bin .lss (.t 36) (.t 37)⟩]) (.cond (.t 38) (.skip) (.exit 2 (m 70 1475)))) (.block 3 (m 70 3523) (.seq (.reg [⟨none, (some 39), .mov (.t 10)⟩,⟨none, (some 40), .mov (.t 11)⟩,⟨none, (some 41), .bin .add (.t 39) (.t 40)⟩,⟨none, (some 42), .bin .add (.t 41) (.c (.int .i64 (1)))⟩,⟨none, (some 43), .bin .quo (.t 42) (.c (.int .i64 (2)))⟩,⟨none, (some 12), .mov (.t 43)⟩]) (.seq (.reg [⟨none, (some 44), .mov (.t 1)⟩,⟨none, (some 45), .mov (.t 12)⟩,⟨none, (some 46), .bslice 1 1 [.int .i64 (0)] [(0, 1, .t 45)]⟩,⟨none, (some 47), .call 0 110 [.t 46]⟩,⟨none, (some 48), .call 1 113 [.t 44, .t 47]⟩,⟨none, (some 13), .mov (.t 48)⟩]) (.seq (.reg [⟨none, (some 49), .mov (.t 13)⟩,⟨none, (some 50), .mov (.t 7)⟩,⟨none, (some 51), .call 1 122 [.t 49, .t 50]⟩,⟨none, (some 52), .bin .leq (.t 51) (.c (.int .i64 (0)))⟩]) (.cond (.t 52) (.reg [⟨none, (some 53), .mov (.t 12)⟩,⟨none, (some 10), .mov (.t 53)⟩]) (.reg [⟨none, (some 54), .mov (.t 12)⟩,⟨none, (some 55), .bin .sub (.t 54) (.c (.int .i64 (1)))⟩,⟨none, (some 11), .mov (.t 55)⟩]))))))
def F119L0 : XC := .loop (m 70 3523) F119L0b
def F119T0 : XC :=
 .seq (.reg [⟨none, (some 56), .mov (.t 6)⟩,⟨none, (some 57), .mov (.t 8)⟩,⟨none, (some 58), .mov (.t 10)⟩,⟨none, (some 59), .indexA 1 (.t 56) (.t 57)⟩,⟨none, none, .store 1 (.t 59) (.t 58)⟩]) (.reg [⟨none, (some 60), .mov (.t 7)⟩,⟨none, (some 61), .mov (.t 1)⟩,⟨none, (some 62), .mov (.t 10)⟩,⟨none, (some 63), .bslice 1 1 [.int .i64 (0)] [(0, 1, .t 62)]⟩,⟨none, (some 64), .call 0 110 [.t 63]⟩,⟨none, (some 65), .call 1 113 [.t 61, .t 64]⟩,⟨none, (some 66), .call 1 121 [.t 60, .t 65]⟩,⟨none, (some 7), .mov (.t 66)⟩])
def F119T1 : XC :=
 .reg [⟨none, (some 25), .mov (.t 8)⟩,⟨none, (some 26), .bin .sub (.t 25) (.c (.int .i64 (1)))⟩,⟨none, (some 8), .mov (.t 26)⟩]
def F119L1b : XC :=
 .seq (.seq (.reg [⟨none, (some 23), .mov (.t 8)⟩,⟨none, (some 24), .bin .geq (.t 23) (.c (.int .i64 (0)))⟩]) (.cond (.t 24) (.skip) (.exit 0 (m 70 192)))) (.seq (.block 1 (m 70 451) (.seq (.reg [⟨none, (some 27), .mov (.t 0)⟩,⟨none, (some 28), .mov (.t 8)⟩,⟨none, (some 29), .indexA 1 (.t 27) (.t 28)⟩,⟨none, (some 30), .load none (.t 29)⟩,⟨none, (some 31), .bslice 1 1 [.int .i64 (0)] [(0, 1, .t 30)]⟩,⟨none, (some 9), .mov (.t 31)⟩]) (.seq (.reg [⟨none, (some 32), .mov (.t 9)⟩,⟨none, (some 33), .mov (.t 7)⟩,⟨none, (some 34), .app 1 8 (.t 32) (.t 33)⟩,⟨none, (some 35), .call 0 110 [.t 34]⟩,⟨none, (some 7), .mov (.t 35)⟩]) (.seq (.reg [⟨none, (some 10), .mov (.c (.int .i64 (0)))⟩,⟨none, (some 11), .mov (.c (.int .i64 (9999)))⟩]) (.seq (.block 2 (m 70 1475) (F119L0))
 F119T0)))))
 F119T1)
def F119L1 : XC := .loop (m 70 451) F119L1b
def F119T2 : XC :=
 .seq (.reg [⟨none, (some 67), .mov (.t 6)⟩,⟨none, (some 68), .call 0 110 [.t 67]⟩,⟨none, (some 69), .mov (.t 7)⟩,⟨none, (some 4), .mov (.t 68)⟩,⟨none, (some 5), .mov (.t 69)⟩]) (.ret (m 70 48))
def F119B : XC :=
 .seq (.reg [⟨none, (some 4), .mov (.c (.nils))⟩,⟨none, (some 5), .mov (.c (.nils))⟩]) (.seq (.seq (.reg [⟨none, (some 14), .mov (.t 1)⟩,⟨none, (some 15), .len (.t 14)⟩,⟨none, (some 16), .bin .eql (.t 15) (.c (.int .i64 (0)))⟩]) (.cond (.t 16) (.seq (.reg [⟨none, (some 4), .mov (.c (.nils))⟩,⟨none, (some 5), .mov (.c (.nils))⟩]) (.ret (m 70 48))) (.skip))) (.seq (.reg [⟨none, (some 17), .mov (.t 0)⟩,⟨none, (some 18), .len (.t 17)⟩,⟨none, (some 19), .mks 1 8 [.int .i64 (0)] (.t 18) (.t 18)⟩,⟨none, (some 6), .mov (.t 19)⟩]) (.seq (.reg [⟨none, (some 7), .mov (.c (.nils))⟩]) (.seq (.seq (.reg [⟨none, (some 20), .mov (.t 0)⟩,⟨none, (some 21), .len (.t 20)⟩,⟨none, (some 22), .bin .sub (.t 21) (.c (.int .i64 (1)))⟩,⟨none, (some 8), .mov (.t 22)⟩]) (.block 0 (m 70 192) (F119L1)))
 F119T2))))
def F119 : XF := ⟨2, 70, [.tmp 4, .tmp 5], F119B⟩
def M119 : List (List Bool) := [(m 70 48), (m 70 192), (m 70 451), (m 70 192), (m 70 451), (m 70 1475), (m 70 3523), (m 70 1475), (m 70 3523), (m 70 48)]
def F120L0b : XC :=
 .seq (.seq (.reg [⟨none, (some 9), .mov (.t 7)⟩,⟨none, (some 10), .mov (.t 0)⟩,⟨none, (some 11), .len (.t 10)⟩,⟨none, (some 12), .bin .lss (.t 9) (.t 11)⟩,⟨none, (some 13), .mov (.t 12)⟩,⟨(some (13, false)), (some 14), .mov (.t 7)⟩,⟨(some (13, false)), (some 15), .mov (.t 1)⟩,⟨(some (13, false)), (some 16), .len (.t 15)⟩,⟨(some (13, false)), (some 17), .bin .lss (.t 14) (.t 16)⟩,⟨none, (some 18), .pick (.t 13) (.c (.bool true)) (.t 17)⟩,⟨none, (some 19), .mov (.t 18)⟩,⟨(some (19, false)), (some 20), .mov (.t 6)⟩,⟨(some (19, false)), (some 21), .bin .gtr (.t 20) (.c (.int .i64 (0)))⟩,⟨none, (some 22), .pick (.t 19) (.c (.bool true)) (.t 21)⟩]) (.cond (.t 22) (.skip) (.exit 0 (m 54 32)))) (.seq (.block 1 (m 54 227) (.seq (.reg [⟨none, (some 25), .mov (.t 6)⟩,⟨none, (some 8), .mov (.t 25)⟩]) (.seq (.seq (.reg [⟨none, (some 26), .mov (.t 7)⟩,⟨none, (some 27), .mov (.t 0)⟩,⟨none, (some 28), .len (.t 27)⟩,⟨none, (some 29), .bin .lss (.t 26) (.t 28)⟩]) (.cond (.t 29) (.reg [⟨none, (some 30), .mov (.t 8)⟩,⟨none, (some 31), .mov (.t 0)⟩,⟨none, (some 32), .mov (.t 7)⟩,⟨none, (some 33), .indexA 1 (.t 31) (.t 32)⟩,⟨none, (some 34), .load none (.t 33)⟩,⟨none, (some 35), .bin .add (.t 30) (.t 34)⟩,⟨none, (some 8), .mov (.t 35)⟩]) (.skip))) (.seq (.seq (.reg [⟨none, (some 36), .mov (.t 7)⟩,⟨none, (some 37), .mov (.t 1)⟩,⟨none, (some 38), .len (.t 37)⟩,⟨none, (some 39), .bin .lss (.t 36) (.t 38)⟩]) (.cond (.t 39) (.reg [⟨none, (some 40), .mov (.t 8)⟩,⟨none, (some 41), .mov (.t 1)⟩,⟨none, (some 42), .mov (.t 7)⟩,⟨none, (some 43), .indexA 1 (.t 41) (.t 42)⟩,⟨none, (some 44), .load none (.t 43)⟩,⟨none, (some 45), .bin .add (.t 40) (.t 44)⟩,⟨none, (some 8), .mov (.t 45)⟩]) (.skip))) (.seq (.reg [⟨none, (some 46), .mov (.t 5)⟩,⟨none, (some 47), .mov (.t 8)⟩,⟨none, (some 48), .bin .rem (.t 47) (.c (.int .i64 (10000)))⟩,⟨none, (some 49), .bslice 1 1 [.int .i64 (0)] [(0, 1, .t 48)]⟩,⟨none, (some 50), .app 1 8 (.t 46) (.t 49)⟩,⟨none, (some 5), .mov (.t 50)⟩]) (.reg [⟨none, (some 51), .mov (.t 8)⟩,⟨none, (some 52), .bin .quo (.t 51) (.c (.int .i64 (10000)))⟩,⟨none, (some 6), .mov (.t 52)⟩])))))) (.reg [⟨none, (some 23), .mov (.t 7)⟩,⟨none, (some 24), .bin .add (.t 23) (.c (.int .i64 (1)))⟩,⟨none, (some 7), .mov (.t 24)⟩]))
def F120L0 : XC := .loop (m 54 227) F120L0b
def F120T0 : XC :=
 .seq (.reg [⟨none, (some 53), .mov (.t 5)⟩,⟨none, (some 4), .mov (.t 53)⟩]) (.ret (m 54 16))
def F120B : XC :=
 .seq (.reg [⟨none, (some 4), .mov (.c (.nils))⟩]) (.seq (.reg [⟨none, (some 5), .mov (.c (.nils))⟩]) (.seq (.reg [⟨none, (some 6), .mov (.c (.int .i64 (0)))⟩]) (.seq (.seq (.reg [⟨none, (some 7), .mov (.c (.int .i64 (0)))⟩]) (.block 0 (m 54 32) (F120L0)))
 F120T0)))
def F120 : XF := ⟨2, 54, [.tmp 4], F120B⟩
def M120 : List (List Bool) := [(m 54 32), (m 54 227), (m 54 32), (m 54 227), (m 54 16)]
def F121L0b : XC :=
 .seq (.seq (.reg [⟨none, (some 9), .mov (.t 7)⟩,⟨none, (some 10), .mov (.t 0)⟩,⟨none, (some 11), .len (.t 10)⟩,⟨none, (some 12), .bin .lss (.t 9) (.t 11)⟩]) (.cond (.t 12) (.skip) (.exit 0 (m 41 32)))) (.seq (.block 1 (m 41 227) (.seq (.reg [⟨none, (some 15), .mov (.t 0)⟩,⟨none, (some 16), .mov (.t 7)⟩,⟨none, (some 17), .indexA 1 (.t 15) (.t 16)⟩,⟨none, (some 18), .load none (.t 17)⟩,⟨none, (some 19), .mov (.t 6)⟩,⟨none, (some 20), .bin .sub (.t 18) (.t 19)⟩,⟨none, (some 8), .mov (.t 20)⟩]) (.seq (.seq (.reg [⟨none, (some 21), .mov (.t 7)⟩,⟨none, (some 22), .mov (.t 1)⟩,⟨none, (some 23), .len (.t 22)⟩,⟨none, (some 24), .bin .lss (.t 21) (.t 23)⟩]) (.cond (.t 24) (.reg [⟨none, (some 25), .mov (.t 8)⟩,⟨none, (some 26), .mov (.t 1)⟩,⟨none, (some 27), .mov (.t 7)⟩,⟨none, (some 28), .indexA 1 (.t 26) (.t 27)⟩,⟨none, (some 29), .load none (.t 28)⟩,⟨none, (some 30), .bin .sub (.t 25) (.t 29)⟩,⟨none, (some 8), .mov (.t 30)⟩]) (.skip))) (.seq (.reg [⟨none, (some 6), .mov (.c (.int .i64 (0)))⟩]) (.seq (.seq (.reg [⟨none, (some 31), .mov (.t 8)⟩,⟨none, (some 32), .bin .lss (.t 31) (.c (.int .i64 (0)))⟩]) (.cond (.t 32) (.seq (.reg [⟨none, (some 33), .mov (.t 8)⟩,⟨none, (some 34), .bin .add (.t 33) (.c (.int .i64 (10000)))⟩,⟨none, (some 8), .mov (.t 34)⟩]) (.reg [⟨none, (some 6), .mov (.c (.int .i64 (1)))⟩])) (.skip))) (.reg [⟨none, (some 35), .mov (.t 5)⟩,⟨none, (some 36), .mov (.t 8)⟩,⟨none, (some 37), .bslice 1 1 [.int .i64 (0)] [(0, 1, .t 36)]⟩,⟨none, (some 38), .app 1 8 (.t 35) (.t 37)⟩,⟨none, (some 5), .mov (.t 38)⟩])))))) (.reg [⟨none, (some 13), .mov (.t 7)⟩,⟨none, (some 14), .bin .add (.t 13) (.c (.int .i64 (1)))⟩,⟨none, (some 7), .mov (.t 14)⟩]))
def F121L0 : XC := .loop (m 41 227) F121L0b
def F121T0 : XC :=
 .seq (.reg [⟨none, (some 39), .mov (.t 5)⟩,⟨none, (some 40), .call 0 110 [.t 39]⟩,⟨none, (some 4), .mov (.t 40)⟩]) (.ret (m 41 16))
def F121B : XC :=
 .seq (.reg [⟨none, (some 4), .mov (.c (.nils))⟩]) (.seq (.reg [⟨none, (some 5), .mov (.c (.nils))⟩]) (.seq (.reg [⟨none, (some 6), .mov (.c (.int .i64 (0)))⟩]) (.seq (.seq (.reg [⟨none, (some 7), .mov (.c (.int .i64 (0)))⟩]) (.block 0 (m 41 32) (F121L0)))
 F121T0)))
def F121 : XF := ⟨2, 41, [.tmp 4], F121B⟩
def M121 : List (List Bool) := [(m 41 32), (m 41 227), (m 41 32), (m 41 227), (m 41 16)]
def F122L0b : XC :=
 .seq (.seq (.reg [⟨none, (some 19), .mov (.t 5)⟩,⟨none, (some 20), .bin .geq (.t 19) (.c (.int .i64 (0)))⟩]) (.cond (.t 20) (.skip) (.exit 0 (m 41 0)))) (.seq (.block 1 (m 41 35) (.seq (.seq (.reg [⟨none, (some 23), .mov (.t 0)⟩,⟨none, (some 24), .mov (.t 5)⟩,⟨none, (some 25), .indexA 1 (.t 23) (.t 24)⟩,⟨none, (some 26), .load none (.t 25)⟩,⟨none, (some 27), .mov (.t 1)⟩,⟨none, (some 28), .mov (.t 5)⟩,⟨none, (some 29), .indexA 1 (.t 27) (.t 28)⟩,⟨none, (some 30), .load none (.t 29)⟩,⟨none, (some 31), .bin .lss (.t 26) (.t 30)⟩]) (.cond (.t 31) (.seq (.reg [⟨none, (some 4), .mov (.c (.int .i64 (-1)))⟩]) (.ret (m 41 16))) (.skip))) (.seq (.reg [⟨none, (some 32), .mov (.t 0)⟩,⟨none, (some 33), .mov (.t 5)⟩,⟨none, (some 34), .indexA 1 (.t 32) (.t 33)⟩,⟨none, (some 35), .load none (.t 34)⟩,⟨none, (some 36), .mov (.t 1)⟩,⟨none, (some 37), .mov (.t 5)⟩,⟨none, (some 38), .indexA 1 (.t 36) (.t 37)⟩,⟨none, (some 39), .load none (.t 38)⟩,⟨none, (some 40), .bin .gtr (.t 35) (.t 39)⟩]) (.cond (.t 40) (.seq (.reg [⟨none, (some 4), .mov (.c (.int .i64 (1)))⟩]) (.ret (m 41 16))) (.skip))))) (.reg [⟨none, (some 21), .mov (.t 5)⟩,⟨none, (some 22), .bin .sub (.t 21) (.c (.int .i64 (1)))⟩,⟨none, (some 5), .mov (.t 22)⟩]))
def F122L0 : XC := .loop (m 41 35) F122L0b
def F122T0 : XC :=
 .seq (.reg [⟨none, (some 4), .mov (.c (.int .i64 (0)))⟩]) (.ret (m 41 16))
def F122B : XC :=
 .seq (.reg [⟨none, (some 4), .mov (.c (.int .i64 (0)))⟩]) (.seq (.seq (.reg [⟨none, (some 6), .mov (.t 0)⟩,⟨none, (some 7), .len (.t 6)⟩,⟨none, (some 8), .mov (.t 1)⟩,⟨none, (some 9), .len (.t 8)⟩,⟨none, (some 10), .bin .lss (.t 7) (.t 9)⟩]) (.cond (.t 10) (.seq (.reg [⟨none, (some 4), .mov (.c (.int .i64 (-1)))⟩]) (.ret (m 41 16))) (.skip))) (.seq (.seq (.reg [⟨none, (some 11), .mov (.t 0)⟩,⟨none, (some 12), .len (.t 11)⟩,⟨none, (some 13), .mov (.t 1)⟩,⟨none, (some 14), .len (.t 13)⟩,⟨none, (some 15), .bin .gtr (.t 12) (.t 14)⟩]) (.cond (.t 15) (.seq (.reg [⟨none, (some 4), .mov (.c (.int .i64 (1)))⟩]) (.ret (m 41 16))) (.skip))) (.seq (.seq (.reg [⟨none, (some 16), .mov (.t 0)⟩,⟨none, (some 17), .len (.t 16)⟩,⟨none, (some 18), .bin .sub (.t 17) (.c (.int .i64 (1)))⟩,⟨none, (some 5), .mov (.t 18)⟩]) (.block 0 (m 41 0) (F122L0)))
 F122T0)))
def F122 : XF := ⟨2, 41, [.tmp 4], F122B⟩
def M122 : List (List Bool) := [(m 41 16), (m 41 16), (m 41 0), (m 41 35), (m 41 0), (m 41 35), (m 41 16), (m 41 16), (m 41 16)]
def F139B : XC :=
 .seq (.reg [⟨none, (some 2), .mov (.c (.int .i64 (0)))⟩]) (.seq (.reg [⟨none, (some 3), .mov (.t 0)⟩,⟨none, (some 4), .un .neg (.t 3)⟩,⟨none, (some 2), .mov (.t 4)⟩]) (.ret (m 5 4)))
def F139 : XF := ⟨1, 5, [.tmp 2], F139B⟩
def M139 : List (List Bool) := [(m 5 4)]
def F140B : XC :=
 .seq (.reg [⟨none, (some 2), .mov (.c (.int .i64 (0)))⟩]) (.seq (.reg [⟨none, (some 3), .mov (.t 0)⟩,⟨none, (some 4), .bin .mul (.c (.int .i64 (-2))) (.t 3)⟩,⟨none, (some 2), .mov (.t 4)⟩]) (.ret (m 5 4)))
def F140 : XF := ⟨1, 5, [.tmp 2], F140B⟩
def M140 : List (List Bool) := [(m 5 4)]
def F141B : XC :=
 .seq (.reg [⟨none, (some 2), .mov (.c (.int .i64 (0)))⟩]) (.seq (.reg [⟨none, (some 3), .mov (.t 0)⟩,⟨none, (some 4), .un .neg (.t 3)⟩,⟨none, (some 2), .mov (.t 4)⟩]) (.ret (m 5 4)))
def F141 : XF := ⟨1, 5, [.tmp 2], F141B⟩
def M141 : List (List Bool) := [(m 5 4)]
def F142B : XC :=
 .seq (.reg [⟨none, (some 2), .mov (.c (.int .i64 (0)))⟩]) (.seq (.reg [⟨none, (some 2), .mov (.c (.int .i64 (0)))⟩]) (.ret (m 3 4)))
def F142 : XF := ⟨1, 3, [.tmp 2], F142B⟩
def M142 : List (List Bool) := [(m 3 4)]
def F143B : XC :=
 .seq (.reg [⟨none, (some 2), .mov (.c (.int .i64 (0)))⟩]) (.seq (.reg [⟨none, (some 3), .mov (.t 0)⟩,⟨none, (some 2), .mov (.t 3)⟩]) (.ret (m 4 4)))
def F143 : XF := ⟨1, 4, [.tmp 2], F143B⟩
def M143 : List (List Bool) := [(m 4 4)]
def F144B : XC :=
 .seq (.reg [⟨none, (some 2), .mov (.c (.int .i64 (0)))⟩]) (.seq (.reg [⟨none, (some 3), .mov (.t 0)⟩,⟨none, (some 2), .mov (.t 3)⟩]) (.ret (m 4 4)))
def F144 : XF := ⟨1, 4, [.tmp 2], F144B⟩
def M144 : List (List Bool) := [(m 4 4)]
def md0 (f : Nat) : Nat := if f = 51 ∨ f = 57 ∨ f = 77 ∨ f = 101 ∨ f = 106 ∨ f = 110 ∨ f = 70 ∨ f = 72 ∨ f = 73 ∨ f = 90 then 0 else if f = 71 ∨ f = 63 ∨ f = 94 ∨ f = 78 then 2 else 1
def mdc (f : Nat) : Nat := if f = 1000000 then 0 else md0 f
def md95 (f : Nat) : Nat := if f = 106 then 3 else md0 f
theorem ok3 : compF Go.Proofs.Tryd.prog md0 true M3 Go.Proofs.Tryd.f3 = some F3 := by kernel_rfl
theorem ok4 : compF Go.Proofs.Tryd.prog md0 true M4 Go.Proofs.Tryd.f4 = some F4 := by kernel_rfl
theorem ok5 : compF Go.Proofs.Tryd.prog md0 true M5 Go.Proofs.Tryd.f5 = some F5 := by kernel_rfl
theorem ok6 : compF Go.Proofs.Tryd.prog md0 true M6 Go.Proofs.Tryd.f6 = some F6 := by kernel_rfl
theorem ok7 : compF Go.Proofs.Tryd.prog md0 true M7 Go.Proofs.Tryd.f7 = some F7 := by kernel_rfl
theorem ok8 : compF Go.Proofs.Tryd.prog md0 true M8 Go.Proofs.Tryd.f8 = some F8 := by kernel_rfl
theorem ok9 : compF Go.Proofs.Tryd.prog md0 true M9 Go.Proofs.Tryd.f9 = some F9 := by kernel_rfl
theorem ok10 : compF Go.Proofs.Tryd.prog md0 true M10 Go.Proofs.Tryd.f10 = some F10 := by kernel_rfl
theorem ok11 : compF Go.Proofs.Tryd.prog md0 true M11 Go.Proofs.Tryd.f11 = some F11 := by kernel_rfl
theorem ok12 : compF Go.Proofs.Tryd.prog md0 true M12 Go.Proofs.Tryd.f12 = some F12 := by kernel_rfl
theorem ok13 : compF Go.Proofs.Tryd.prog md0 true M13 Go.Proofs.Tryd.f13 = some F13 := by kernel_rfl
theorem ok14 : compF Go.Proofs.Tryd.prog md0 true M14 Go.Proofs.Tryd.f14 = some F14 := by kernel_rfl
theorem ok15 : compF Go.Proofs.Tryd.prog md0 true M15 Go.Proofs.Tryd.f15 = some F15 := by kernel_rfl
theorem ok16 : compF Go.Proofs.Tryd.prog md0 true M16 Go.Proofs.Tryd.f16 = some F16 := by kernel_rfl
theorem ok17 : compF Go.Proofs.Tryd.prog md0 true M17 Go.Proofs.Tryd.f17 = some F17 := by kernel_rfl
theorem ok18 : compF Go.Proofs.Tryd.prog md0 true M18 Go.Proofs.Tryd.f18 = some F18 := by kernel_rfl
theorem ok19 : compF Go.Proofs.Tryd.prog md0 true M19 Go.Proofs.Tryd.f19 = some F19 := by kernel_rfl
theorem ok20 : compF Go.Proofs.Tryd.prog md0 true M20 Go.Proofs.Tryd.f20 = some F20 := by kernel_rfl
theorem ok21 : compF Go.Proofs.Tryd.prog md0 true M21 Go.Proofs.Tryd.f21 = some F21 := by kernel_rfl
theorem ok22 : compF Go.Proofs.Tryd.prog md0 true M22 Go.Proofs.Tryd.f22 = some F22 := by kernel_rfl
theorem ok23 : compF Go.Proofs.Tryd.prog md0 true M23 Go.Proofs.Tryd.f23 = some F23 := by kernel_rfl
theorem ok24 : compF Go.Proofs.Tryd.prog md0 true M24 Go.Proofs.Tryd.f24 = some F24 := by kernel_rfl
theorem ok25 : compF Go.Proofs.Tryd.prog md0 true M25 Go.Proofs.Tryd.f25 = some F25 := by kernel_rfl
theorem ok26 : compF Go.Proofs.Tryd.prog md0 true M26 Go.Proofs.Tryd.f26 = some F26 := by kernel_rfl
theorem ok27 : compF Go.Proofs.Tryd.prog md0 true M27 Go.Proofs.Tryd.f27 = some F27 := by kernel_rfl
theorem ok28 : compF Go.Proofs.Tryd.prog md0 true M28 Go.Proofs.Tryd.f28 = some F28 := by kernel_rfl
theorem ok29 : compF Go.Proofs.Tryd.prog md0 true M29 Go.Proofs.Tryd.f29 = some F29 := by kernel_rfl
theorem ok30 : compF Go.Proofs.Tryd.prog md0 true M30 Go.Proofs.Tryd.f30 = some F30 := by kernel_rfl
theorem ok31 : compF Go.Proofs.Tryd.prog md0 true M31 Go.Proofs.Tryd.f31 = some F31 := by kernel_rfl
theorem ok32 : compF Go.Proofs.Tryd.prog md0 true M32 Go.Proofs.Tryd.f32 = some F32 := by kernel_rfl
theorem ok33 : compF Go.Proofs.Tryd.prog md0 true M33 Go.Proofs.Tryd.f33 = some F33 := by kernel_rfl
theorem ok34 : compF Go.Proofs.Tryd.prog md0 true M34 Go.Proofs.Tryd.f34 = some F34 := by kernel_rfl
theorem ok35 : compF Go.Proofs.Tryd.prog md0 true M35 Go.Proofs.Tryd.f35 = some F35 := by kernel_rfl
theorem ok37 : compF Go.Proofs.Tryd.prog md0 true M37 Go.Proofs.Tryd.f37 = some F37 := by kernel_rfl
theorem ok38 : compF Go.Proofs.Tryd.prog md0 true M38 Go.Proofs.Tryd.f38 = some F38 := by kernel_rfl
theorem ok39 : compF Go.Proofs.Tryd.prog md0 true M39 Go.Proofs.Tryd.f39 = some F39 := by kernel_rfl
theorem ok40 : compF Go.Proofs.Tryd.prog md0 true M40 Go.Proofs.Tryd.f40 = some F40 := by kernel_rfl
theorem ok41 : compF Go.Proofs.Tryd.prog md0 true M41 Go.Proofs.Tryd.f41 = some F41 := by kernel_rfl
theorem ok42 : compF Go.Proofs.Tryd.prog md0 true M42 Go.Proofs.Tryd.f42 = some F42 := by kernel_rfl
theorem ok43 : compF Go.Proofs.Tryd.prog md0 true M43 Go.Proofs.Tryd.f43 = some F43 := by kernel_rfl
theorem ok44 : compF Go.Proofs.Tryd.prog md0 true M44 Go.Proofs.Tryd.f44 = some F44 := by kernel_rfl
theorem ok45 : compF Go.Proofs.Tryd.prog md0 true M45 Go.Proofs.Tryd.f45 = some F45 := by kernel_rfl
theorem ok46 : compF Go.Proofs.Tryd.prog md0 true M46 Go.Proofs.Tryd.f46 = some F46 := by kernel_rfl
theorem ok47 : compF Go.Proofs.Tryd.prog md0 true M47 Go.Proofs.Tryd.f47 = some F47 := by kernel_rfl
theorem ok48 : compF Go.Proofs.Tryd.prog md0 true M48 Go.Proofs.Tryd.f48 = some F48 := by kernel_rfl
theorem ok49 : compF Go.Proofs.Tryd.prog md0 true M49 Go.Proofs.Tryd.f49 = some F49 := by kernel_rfl
theorem ok50 : compF Go.Proofs.Tryd.prog md0 true M50 Go.Proofs.Tryd.f50 = some F50 := by kernel_rfl
theorem ok51 : compF Go.Proofs.Tryd.prog md0 true M51 Go.Proofs.Tryd.f51 = some F51 := by kernel_rfl
theorem ok52 : compF Go.Proofs.Tryd.prog md0 true M52 Go.Proofs.Tryd.f52 = some F52 := by kernel_rfl
theorem ok53 : compF Go.Proofs.Tryd.prog md0 true M53 Go.Proofs.Tryd.f53 = some F53 := by kernel_rfl
theorem ok54 : compF Go.Proofs.Tryd.prog md0 true M54 Go.Proofs.Tryd.f54 = some F54 := by kernel_rfl
theorem ok55 : compF Go.Proofs.Tryd.prog md0 true M55 Go.Proofs.Tryd.f55 = some F55 := by kernel_rfl
theorem ok56 : compF Go.Proofs.Tryd.prog md0 true M56 Go.Proofs.Tryd.f56 = some F56 := by kernel_rfl
theorem ok57 : compF Go.Proofs.Tryd.prog md0 true M57 Go.Proofs.Tryd.f57 = some F57 := by kernel_rfl
theorem ok58 : compF Go.Proofs.Tryd.prog md0 true M58 Go.Proofs.Tryd.f58 = some F58 := by kernel_rfl
theorem ok59 : compF Go.Proofs.Tryd.prog md0 true M59 Go.Proofs.Tryd.f59 = some F59 := by kernel_rfl
theorem ok60 : compF Go.Proofs.Tryd.prog md0 true M60 Go.Proofs.Tryd.f60 = some F60 := by kernel_rfl
theorem ok61 : compF Go.Proofs.Tryd.prog md0 true M61 Go.Proofs.Tryd.f61 = some F61 := by kernel_rfl
theorem ok62 : compF Go.Proofs.Tryd.prog md0 true M62 Go.Proofs.Tryd.f62 = some F62 := by kernel_rfl
theorem ok63 : compF Go.Proofs.Tryd.prog md0 true M63 Go.Proofs.Tryd.f63 = some F63 := by kernel_rfl
theorem ok64 : compF Go.Proofs.Tryd.prog md0 true M64 Go.Proofs.Tryd.f64 = some F64 := by kernel_rfl
theorem ok65 : compF Go.Proofs.Tryd.prog md0 true M65 Go.Proofs.Tryd.f65 = some F65 := by kernel_rfl
theorem ok67 : compF Go.Proofs.Tryd.prog md0 true M67 Go.Proofs.Tryd.f67 = some F67 := by kernel_rfl
theorem ok68 : compF Go.Proofs.Tryd.prog md0 true M68 Go.Proofs.Tryd.f68 = some F68 := by kernel_rfl
theorem ok69 : compF Go.Proofs.Tryd.prog md0 true M69 Go.Proofs.Tryd.f69 = some F69 := by kernel_rfl
theorem ok70 : compF Go.Proofs.Tryd.prog md0 true M70 Go.Proofs.Tryd.f70 = some F70 := by kernel_rfl
theorem ok71 : compF Go.Proofs.Tryd.prog mdc true M71 Go.Proofs.Tryd.f71 = some F71 := by kernel_rfl
theorem ok72 : compF Go.Proofs.Tryd.prog md0 true M72 Go.Proofs.Tryd.f72 = some F72 := by kernel_rfl
theorem ok73 : compF Go.Proofs.Tryd.prog md0 true M73 Go.Proofs.Tryd.f73 = some F73 := by kernel_rfl
theorem ok74 : compF Go.Proofs.Tryd.prog md0 true M74 Go.Proofs.Tryd.f74 = some F74 := by kernel_rfl
theorem ok75 : compF Go.Proofs.Tryd.prog md0 true M75 Go.Proofs.Tryd.f75 = some F75 := by kernel_rfl
theorem ok76 : compF Go.Proofs.Tryd.prog md0 true M76 Go.Proofs.Tryd.f76 = some F76 := by kernel_rfl
theorem ok77 : compF Go.Proofs.Tryd.prog md0 true M77 Go.Proofs.Tryd.f77 = some F77 := by kernel_rfl
theorem ok78 : compF Go.Proofs.Tryd.prog md0 true M78 Go.Proofs.Tryd.f78 = some F78 := by kernel_rfl
theorem ok79 : compF Go.Proofs.Tryd.prog md0 true M79 Go.Proofs.Tryd.f79 = some F79 := by kernel_rfl
theorem ok80 : compF Go.Proofs.Tryd.prog md0 true M80 Go.Proofs.Tryd.f80 = some F80 := by kernel_rfl
theorem ok81 : compF Go.Proofs.Tryd.prog md0 true M81 Go.Proofs.Tryd.f81 = some F81 := by kernel_rfl
theorem ok82 : compF Go.Proofs.Tryd.prog md0 true M82 Go.Proofs.Tryd.f82 = some F82 := by kernel_rfl
theorem ok83 : compF Go.Proofs.Tryd.prog md0 true M83 Go.Proofs.Tryd.f83 = some F83 := by kernel_rfl
theorem ok84 : compF Go.Proofs.Tryd.prog md0 true M84 Go.Proofs.Tryd.f84 = some F84 := by kernel_rfl
theorem ok85 : compF Go.Proofs.Tryd.prog md0 true M85 Go.Proofs.Tryd.f85 = some F85 := by kernel_rfl
theorem ok86 : compF Go.Proofs.Tryd.prog md0 true M86 Go.Proofs.Tryd.f86 = some F86 := by kernel_rfl
theorem ok88 : compF Go.Proofs.Tryd.prog md0 true M88 Go.Proofs.Tryd.f88 = some F88 := by kernel_rfl
theorem ok89 : compF Go.Proofs.Tryd.prog md0 true M89 Go.Proofs.Tryd.f89 = some F89 := by kernel_rfl
theorem ok90 : compF Go.Proofs.Tryd.prog md0 true M90 Go.Proofs.Tryd.f90 = some F90 := by kernel_rfl
theorem ok91 : compF Go.Proofs.Tryd.prog md0 true M91 Go.Proofs.Tryd.f91 = some F91 := by kernel_rfl
theorem ok92 : compF Go.Proofs.Tryd.prog md0 true M92 Go.Proofs.Tryd.f92 = some F92 := by kernel_rfl
theorem ok93 : compF Go.Proofs.Tryd.prog mdc true M93 Go.Proofs.Tryd.f93 = some F93 := by kernel_rfl
theorem ok94 : compF Go.Proofs.Tryd.prog md0 true M94 Go.Proofs.Tryd.f94 = some F94 := by kernel_rfl
theorem ok95 : compF Go.Proofs.Tryd.prog md95 true M95 Go.Proofs.Tryd.f95 = some F95 := by kernel_rfl
theorem ok96 : compF Go.Proofs.Tryd.prog md0 true M96 Go.Proofs.Tryd.f96 = some F96 := by kernel_rfl
theorem ok98 : compF Go.Proofs.Tryd.prog md0 true M98 Go.Proofs.Tryd.f98 = some F98 := by kernel_rfl
theorem ok99 : compF Go.Proofs.Tryd.prog md0 true M99 Go.Proofs.Tryd.f99 = some F99 := by kernel_rfl
theorem ok100 : compF Go.Proofs.Tryd.prog md0 true M100 Go.Proofs.Tryd.f100 = some F100 := by kernel_rfl
theorem ok101 : compF Go.Proofs.Tryd.prog md0 true M101 Go.Proofs.Tryd.f101 = some F101 := by kernel_rfl
theorem ok102 : compF Go.Proofs.Tryd.prog md0 true M102 Go.Proofs.Tryd.f102 = some F102 := by kernel_rfl
theorem ok103 : compF Go.Proofs.Tryd.prog md0 true M103 Go.Proofs.Tryd.f103 = some F103 := by kernel_rfl
theorem ok104 : compF Go.Proofs.Tryd.prog md0 true M104 Go.Proofs.Tryd.f104 = some F104 := by kernel_rfl
theorem ok105 : compF Go.Proofs.Tryd.prog md0 true M105 Go.Proofs.Tryd.f105 = some F105 := by kernel_rfl
theorem ok106 : compF Go.Proofs.Tryd.prog md0 true M106 Go.Proofs.Tryd.f106 = some F106 := by kernel_rfl
theorem ok107 : compF Go.Proofs.Tryd.prog md0 true M107 Go.Proofs.Tryd.f107 = some F107 := by kernel_rfl
theorem ok108 : compF Go.Proofs.Tryd.prog md0 true M108 Go.Proofs.Tryd.f108 = some F108 := by kernel_rfl
theorem ok110 : compF Go.Proofs.Tryd.prog md0 true M110 Go.Proofs.Tryd.f110 = some F110 := by kernel_rfl
theorem ok111 : compF Go.Proofs.Tryd.prog md0 true M111 Go.Proofs.Tryd.f111 = some F111 := by kernel_rfl
theorem ok112 : compF Go.Proofs.Tryd.prog md0 true M112 Go.Proofs.Tryd.f112 = some F112 := by kernel_rfl
theorem ok113 : compF Go.Proofs.Tryd.prog md0 true M113 Go.Proofs.Tryd.f113 = some F113 := by kernel_rfl
theorem ok114 : compF Go.Proofs.Tryd.prog md0 true M114 Go.Proofs.Tryd.f114 = some F114 := by kernel_rfl
theorem ok115 : compF Go.Proofs.Tryd.prog md0 true M115 Go.Proofs.Tryd.f115 = some F115 := by kernel_rfl
theorem ok116 : compF Go.Proofs.Tryd.prog md0 true M116 Go.Proofs.Tryd.f116 = some F116 := by kernel_rfl
theorem ok117 : compF Go.Proofs.Tryd.prog md0 true M117 Go.Proofs.Tryd.f117 = some F117 := by kernel_rfl
theorem ok119 : compF Go.Proofs.Tryd.prog md0 true M119 Go.Proofs.Tryd.f119 = some F119 := by kernel_rfl
theorem ok120 : compF Go.Proofs.Tryd.prog md0 true M120 Go.Proofs.Tryd.f120 = some F120 := by kernel_rfl
theorem ok121 : compF Go.Proofs.Tryd.prog md0 true M121 Go.Proofs.Tryd.f121 = some F121 := by kernel_rfl
theorem ok122 : compF Go.Proofs.Tryd.prog md0 true M122 Go.Proofs.Tryd.f122 = some F122 := by kernel_rfl
theorem ok139 : compF Go.Proofs.Tryd.prog md0 true M139 Go.Proofs.Tryd.f139 = some F139 := by kernel_rfl
theorem ok140 : compF Go.Proofs.Tryd.prog md0 true M140 Go.Proofs.Tryd.f140 = some F140 := by kernel_rfl
theorem ok141 : compF Go.Proofs.Tryd.prog md0 true M141 Go.Proofs.Tryd.f141 = some F141 := by kernel_rfl
theorem ok142 : compF Go.Proofs.Tryd.prog md0 true M142 Go.Proofs.Tryd.f142 = some F142 := by kernel_rfl
theorem ok143 : compF Go.Proofs.Tryd.prog md0 true M143 Go.Proofs.Tryd.f143 = some F143 := by kernel_rfl
theorem ok144 : compF Go.Proofs.Tryd.prog md0 true M144 Go.Proofs.Tryd.f144 = some F144 := by kernel_rfl
def ET (f : Nat) : Option XF := match f with
  | 3 => some F3
  | 4 => some F4
  | 5 => some F5
  | 6 => some F6
  | 7 => some F7
  | 8 => some F8
  | 9 => some F9
  | 10 => some F10
  | 11 => some F11
  | 12 => some F12
  | 13 => some F13
  | 14 => some F14
  | 15 => some F15
  | 16 => some F16
  | 17 => some F17
  | 18 => some F18
  | 19 => some F19
  | 20 => some F20
  | 21 => some F21
  | 22 => some F22
  | 23 => some F23
  | 24 => some F24
  | 25 => some F25
  | 26 => some F26
  | 27 => some F27
  | 28 => some F28
  | 29 => some F29
  | 30 => some F30
  | 31 => some F31
  | 32 => some F32
  | 33 => some F33
  | 34 => some F34
  | 35 => some F35
  | 37 => some F37
  | 38 => some F38
  | 39 => some F39
  | 40 => some F40
  | 41 => some F41
  | 42 => some F42
  | 43 => some F43
  | 44 => some F44
  | 45 => some F45
  | 46 => some F46
  | 47 => some F47
  | 48 => some F48
  | 49 => some F49
  | 50 => some F50
  | 51 => some F51
  | 52 => some F52
  | 53 => some F53
  | 54 => some F54
  | 55 => some F55
  | 56 => some F56
  | 57 => some F57
  | 58 => some F58
  | 59 => some F59
  | 60 => some F60
  | 61 => some F61
  | 62 => some F62
  | 63 => some F63
  | 64 => some F64
  | 65 => some F65
  | 67 => some F67
  | 68 => some F68
  | 69 => some F69
  | 70 => some F70
  | 71 => some F71
  | 72 => some F72
  | 73 => some F73
  | 74 => some F74
  | 75 => some F75
  | 76 => some F76
  | 77 => some F77
  | 78 => some F78
  | 79 => some F79
  | 80 => some F80
  | 81 => some F81
  | 82 => some F82
  | 83 => some F83
  | 84 => some F84
  | 85 => some F85
  | 86 => some F86
  | 88 => some F88
  | 89 => some F89
  | 90 => some F90
  | 91 => some F91
  | 92 => some F92
  | 93 => some F93
  | 94 => some F94
  | 95 => some F95
  | 96 => some F96
  | 98 => some F98
  | 99 => some F99
  | 100 => some F100
  | 101 => some F101
  | 102 => some F102
  | 103 => some F103
  | 104 => some F104
  | 105 => some F105
  | 106 => some F106
  | 107 => some F107
  | 108 => some F108
  | 110 => some F110
  | 111 => some F111
  | 112 => some F112
  | 113 => some F113
  | 114 => some F114
  | 115 => some F115
  | 116 => some F116
  | 117 => some F117
  | 119 => some F119
  | 120 => some F120
  | 121 => some F121
  | 122 => some F122
  | 139 => some F139
  | 140 => some F140
  | 141 => some F141
  | 142 => some F142
  | 143 => some F143
  | 144 => some F144
  | _ => none
section
variable {Y : Run} {fr : List AV} {H : Heap}
theorem call3 {x0 x1 : AV} (_h : 0 = 0) : callL ET Y 3 [x0, x1] H = endX [.tmp 4] (codeL ET Y F3B (sp 46 [(1, x1), (0, x0)]) H) := by
  rw [callL_eq (F := F3) rfl rfl, st_in2]; rfl
theorem in4_0 : codeL ET Y F4L0 fr H = lp ET Y F4L0 (keepA (m 87 89) fr) H := codeL_in rfl
theorem un4_0 : lp ET Y F4L0 fr H = thenX (codeL ET Y F4L0b (keepA (m 87 89) fr) H) (again ET Y F4L0 (m 87 89)) := lp_un rfl
theorem call4 {x0 : AV} (_h : 0 = 0) : callL ET Y 4 [x0] H = endX [.tmp 2] (codeL ET Y F4B (sp 87 [(0, x0)]) H) := by
  rw [callL_eq (F := F4) rfl rfl, st_in1]; rfl
theorem call5 {x0 : AV} (_h : 0 = 0) : callL ET Y 5 [x0] H = endX [.tmp 2] (codeL ET Y F5B (sp 104 [(0, x0)]) H) := by
  rw [callL_eq (F := F5) rfl rfl, st_in1]; rfl
theorem call6 {x0 : AV} (_h : 0 = 0) : callL ET Y 6 [x0] H = endX [.tmp 2] (codeL ET Y F6B (sp 65 [(0, x0)]) H) := by
  rw [callL_eq (F := F6) rfl rfl, st_in1]; rfl
theorem call7 {x0 x1 x2 : AV} (_h : 0 = 0) : callL ET Y 7 [x0, x1, x2] H = endX [.tmp 6] (codeL ET Y F7B (sp 118 [(2, x2), (1, x1), (0, x0)]) H) := by
  rw [callL_eq (F := F7) rfl rfl, st_in3]; rfl
theorem call8 {x0 x1 x2 : AV} (_h : 0 = 0) : callL ET Y 8 [x0, x1, x2] H = endX [.tmp 6] (codeL ET Y F8B (sp 69 [(2, x2), (1, x1), (0, x0)]) H) := by
  rw [callL_eq (F := F8) rfl rfl, st_in3]; rfl
theorem call9 {x0 x1 x2 x3 : AV} (_h : 0 = 0) : callL ET Y 9 [x0, x1, x2, x3] H = endX [.tmp 8] (codeL ET Y F9B (sp 180 [(3, x3), (2, x2), (1, x1), (0, x0)]) H) := by
  rw [callL_eq (F := F9) rfl rfl, st_in4]; rfl
theorem in10_0 : codeL ET Y F10L0 fr H = lp ET Y F10L0 (keepA (m 121 12385) fr) H := codeL_in rfl
theorem un10_0 : lp ET Y F10L0 fr H = thenX (codeL ET Y F10L0b (keepA (m 121 12385) fr) H) (again ET Y F10L0 (m 121 12385)) := lp_un rfl
theorem call10 {x0 x1 : AV} (_h : 0 = 0) : callL ET Y 10 [x0, x1] H = endX [.tmp 4] (codeL ET Y F10B (sp 121 [(1, x1), (0, x0)]) H) := by
  rw [callL_eq (F := F10) rfl rfl, st_in2]; rfl
theorem call11 {x0 : AV} (_h : 0 = 0) : callL ET Y 11 [x0] H = endX [.tmp 2] (codeL ET Y F11B (sp 70 [(0, x0)]) H) := by
  rw [callL_eq (F := F11) rfl rfl, st_in1]; rfl
theorem call12 {x0 x1 x2 : AV} (_h : 0 = 0) : callL ET Y 12 [x0, x1, x2] H = endX [.tmp 6] (codeL ET Y F12B (sp 67 [(2, x2), (1, x1), (0, x0)]) H) := by
  rw [callL_eq (F := F12) rfl rfl, st_in3]; rfl
theorem in13_0 : codeL ET Y F13L0 fr H = lp ET Y F13L0 (keepA (m 119 217) fr) H := codeL_in rfl
theorem un13_0 : lp ET Y F13L0 fr H = thenX (codeL ET Y F13L0b (keepA (m 119 217) fr) H) (again ET Y F13L0 (m 119 217)) := lp_un rfl
theorem in13_1 : codeL ET Y F13L1 fr H = lp ET Y F13L1 (keepA (m 119 7257) fr) H := codeL_in rfl
theorem un13_1 : lp ET Y F13L1 fr H = thenX (codeL ET Y F13L1b (keepA (m 119 7257) fr) H) (again ET Y F13L1 (m 119 7257)) := lp_un rfl
theorem in13_2 : codeL ET Y F13L2 fr H = lp ET Y F13L2 (keepA (m 119 1113) fr) H := codeL_in rfl
theorem un13_2 : lp ET Y F13L2 fr H = thenX (codeL ET Y F13L2b (keepA (m 119 1113) fr) H) (again ET Y F13L2 (m 119 1113)) := lp_un rfl
theorem call13 {x0 : AV} (_h : 0 = 0) : callL ET Y 13 [x0] H = endX [.tmp 2] (codeL ET Y F13B (sp 119 [(0, x0)]) H) := by
  rw [callL_eq (F := F13) rfl rfl, st_in1]; rfl
theorem in14_0 : codeL ET Y F14L0 fr H = lp ET Y F14L0 (keepA (m 157 391) fr) H := codeL_in rfl
theorem un14_0 : lp ET Y F14L0 fr H = thenX (codeL ET Y F14L0b (keepA (m 157 391) fr) H) (again ET Y F14L0 (m 157 391)) := lp_un rfl
theorem in14_1 : codeL ET Y F14L1 fr H = lp ET Y F14L1 (keepA (m 157 3591) fr) H := codeL_in rfl
theorem un14_1 : lp ET Y F14L1 fr H = thenX (codeL ET Y F14L1b (keepA (m 157 3591) fr) H) (again ET Y F14L1 (m 157 3591)) := lp_un rfl
theorem in14_2 : codeL ET Y F14L2 fr H = lp ET Y F14L2 (keepA (m 157 1543) fr) H := codeL_in rfl
theorem un14_2 : lp ET Y F14L2 fr H = thenX (codeL ET Y F14L2b (keepA (m 157 1543) fr) H) (again ET Y F14L2 (m 157 1543)) := lp_un rfl
theorem call14 {x0 x1 x2 : AV} (_h : 0 = 0) : callL ET Y 14 [x0, x1, x2] H = endX [.tmp 6] (codeL ET Y F14B (sp 157 [(2, x2), (1, x1), (0, x0)]) H) := by
  rw [callL_eq (F := F14) rfl rfl, st_in3]; rfl
theorem call15 {x0 x1 x2 : AV} (_h : 0 = 0) : callL ET Y 15 [x0, x1, x2] H = endX [.tmp 6] (codeL ET Y F15B (sp 91 [(2, x2), (1, x1), (0, x0)]) H) := by
  rw [callL_eq (F := F15) rfl rfl, st_in3]; rfl
theorem call16 {x0 x1 : AV} (_h : 0 = 0) : callL ET Y 16 [x0, x1] H = endX [.tmp 4] (codeL ET Y F16B (sp 13 [(1, x1), (0, x0)]) H) := by
  rw [callL_eq (F := F16) rfl rfl, st_in2]; rfl
theorem call17 (_h : 0 = 0) : callL ET Y 17 [] H = endX [.tmp 0] (codeL ET Y F17B (sp 104 []) H) := by
  rw [callL_eq (F := F17) rfl rfl, st_in0]; rfl
theorem call18 {x0 x1 : AV} (_h : 0 = 0) : callL ET Y 18 [x0, x1] H = endX [.tmp 4, .tmp 5, .tmp 6] (codeL ET Y F18B (sp 35 [(1, x1), (0, x0)]) H) := by
  rw [callL_eq (F := F18) rfl rfl, st_in2]; rfl
theorem call19 {x0 x1 : AV} (_h : 0 = 0) : callL ET Y 19 [x0, x1] H = endX [.tmp 4, .tmp 5, .tmp 6] (codeL ET Y F19B (sp 25 [(1, x1), (0, x0)]) H) := by
  rw [callL_eq (F := F19) rfl rfl, st_in2]; rfl
theorem in20_0 : codeL ET Y F20L0 fr H = lp ET Y F20L0 (keepA (m 69 25) fr) H := codeL_in rfl
theorem un20_0 : lp ET Y F20L0 fr H = thenX (codeL ET Y F20L0b (keepA (m 69 25) fr) H) (again ET Y F20L0 (m 69 25)) := lp_un rfl
theorem in20_1 : codeL ET Y F20L1 fr H = lp ET Y F20L1 (keepA (m 69 105) fr) H := codeL_in rfl
theorem un20_1 : lp ET Y F20L1 fr H = thenX (codeL ET Y F20L1b (keepA (m 69 105) fr) H) (again ET Y F20L1 (m 69 105)) := lp_un rfl
theorem in20_2 : codeL ET Y F20L2 fr H = lp ET Y F20L2 (keepA (m 69 41) fr) H := codeL_in rfl
theorem un20_2 : lp ET Y F20L2 fr H = thenX (codeL ET Y F20L2b (keepA (m 69 41) fr) H) (again ET Y F20L2 (m 69 41)) := lp_un rfl
theorem call20 {x0 : AV} (_h : 0 = 0) : callL ET Y 20 [x0] H = endX [.tmp 2] (codeL ET Y F20B (sp 69 [(0, x0)]) H) := by
  rw [callL_eq (F := F20) rfl rfl, st_in1]; rfl
theorem call21 {x0 : AV} (_h : 0 = 0) : callL ET Y 21 [x0] H = endX [.tmp 2, .tmp 3] (codeL ET Y F21B (sp 19 [(0, x0)]) H) := by
  rw [callL_eq (F := F21) rfl rfl, st_in1]; rfl
theorem call22 {x0 x1 : AV} (_h : 0 = 0) : callL ET Y 22 [x0, x1] H = endX [.tmp 4, .tmp 5, .tmp 6] (codeL ET Y F22B (sp 52 [(1, x1), (0, x0)]) H) := by
  rw [callL_eq (F := F22) rfl rfl, st_in2]; rfl
theorem call23 {x0 : AV} (_h : 0 = 0) : callL ET Y 23 [x0] H = endX [.tmp 2, .tmp 3] (codeL ET Y F23B (sp 19 [(0, x0)]) H) := by
  rw [callL_eq (F := F23) rfl rfl, st_in1]; rfl
theorem in24_0 : codeL ET Y F24L0 fr H = lp ET Y F24L0 (keepA (m 39 9) fr) H := codeL_in rfl
theorem un24_0 : lp ET Y F24L0 fr H = thenX (codeL ET Y F24L0b (keepA (m 39 9) fr) H) (again ET Y F24L0 (m 39 9)) := lp_un rfl
theorem call24 {x0 : AV} (_h : 0 = 0) : callL ET Y 24 [x0] H = endX [.tmp 2] (codeL ET Y F24B (sp 39 [(0, x0)]) H) := by
  rw [callL_eq (F := F24) rfl rfl, st_in1]; rfl
theorem call25 {x0 x1 x2 : AV} (_h : 0 = 0) : callL ET Y 25 [x0, x1, x2] H = endX [.tmp 6, .tmp 7] (codeL ET Y F25B (sp 41 [(2, x2), (1, x1), (0, x0)]) H) := by
  rw [callL_eq (F := F25) rfl rfl, st_in3]; rfl
theorem call26 {x0 : AV} (_h : 0 = 0) : callL ET Y 26 [x0] H = endX [.tmp 2] (codeL ET Y F26B (sp 14 [(0, x0)]) H) := by
  rw [callL_eq (F := F26) rfl rfl, st_in1]; rfl
theorem call27 {x0 : AV} (_h : 0 = 0) : callL ET Y 27 [x0] H = endX [.tmp 2] (codeL ET Y F27B (sp 11 [(0, x0)]) H) := by
  rw [callL_eq (F := F27) rfl rfl, st_in1]; rfl
theorem call28 {x0 : AV} (_h : 0 = 0) : callL ET Y 28 [x0] H = endX [.tmp 2, .tmp 3] (codeL ET Y F28B (sp 9 [(0, x0)]) H) := by
  rw [callL_eq (F := F28) rfl rfl, st_in1]; rfl
theorem in29_0 : codeL ET Y F29L0 fr H = lp ET Y F29L0 (keepA (m 26 35) fr) H := codeL_in rfl
theorem un29_0 : lp ET Y F29L0 fr H = thenX (codeL ET Y F29L0b (keepA (m 26 35) fr) H) (again ET Y F29L0 (m 26 35)) := lp_un rfl
theorem call29 {x0 x1 : AV} (_h : 0 = 0) : callL ET Y 29 [x0, x1] H = endX [.tmp 4] (codeL ET Y F29B (sp 26 [(1, x1), (0, x0)]) H) := by
  rw [callL_eq (F := F29) rfl rfl, st_in2]; rfl
theorem call30 {x0 : AV} (_h : 0 = 0) : callL ET Y 30 [x0] H = endX [.tmp 2, .tmp 3] (codeL ET Y F30B (sp 9 [(0, x0)]) H) := by
  rw [callL_eq (F := F30) rfl rfl, st_in1]; rfl
theorem call31 {x0 x1 x2 : AV} (_h : 0 = 0) : callL ET Y 31 [x0, x1, x2] H = endX [.tmp 6, .tmp 7] (codeL ET Y F31B (sp 61 [(2, x2), (1, x1), (0, x0)]) H) := by
  rw [callL_eq (F := F31) rfl rfl, st_in3]; rfl
theorem in32_0 : codeL ET Y F32L0 fr H = lp ET Y F32L0 (keepA (m 27 57) fr) H := codeL_in rfl
theorem un32_0 : lp ET Y F32L0 fr H = thenX (codeL ET Y F32L0b (keepA (m 27 57) fr) H) (again ET Y F32L0 (m 27 57)) := lp_un rfl
theorem in32_1 : codeL ET Y F32L1 fr H = lp ET Y F32L1 (keepA (m 27 25) fr) H := codeL_in rfl
theorem un32_1 : lp ET Y F32L1 fr H = thenX (codeL ET Y F32L1b (keepA (m 27 25) fr) H) (again ET Y F32L1 (m 27 25)) := lp_un rfl
theorem call32 {x0 : AV} (_h : 0 = 0) : callL ET Y 32 [x0] H = endX [.tmp 2] (codeL ET Y F32B (sp 27 [(0, x0)]) H) := by
  rw [callL_eq (F := F32) rfl rfl, st_in1]; rfl
theorem call33 {x0 x1 : AV} (_h : 0 = 0) : callL ET Y 33 [x0, x1] H = endX [.tmp 4, .tmp 5] (codeL ET Y F33B (sp 18 [(1, x1), (0, x0)]) H) := by
  rw [callL_eq (F := F33) rfl rfl, st_in2]; rfl
theorem in34_0 : codeL ET Y F34L0 fr H = lp ET Y F34L0 (keepA (m 45 391) fr) H := codeL_in rfl
theorem un34_0 : lp ET Y F34L0 fr H = thenX (codeL ET Y F34L0b (keepA (m 45 391) fr) H) (again ET Y F34L0 (m 45 391)) := lp_un rfl
theorem call34 {x0 x1 x2 : AV} (_h : 0 = 0) : callL ET Y 34 [x0, x1, x2] H = endX [.tmp 6] (codeL ET Y F34B (sp 45 [(2, x2), (1, x1), (0, x0)]) H) := by
  rw [callL_eq (F := F34) rfl rfl, st_in3]; rfl
theorem call35 {x0 x1 x2 : AV} (_h : 0 = 0) : callL ET Y 35 [x0, x1, x2] H = endX [.tmp 6, .tmp 7] (codeL ET Y F35B (sp 42 [(2, x2), (1, x1), (0, x0)]) H) := by
  rw [callL_eq (F := F35) rfl rfl, st_in3]; rfl
theorem call37 {x0 x1 : AV} (_h : 0 = 0) : callL ET Y 37 [x0, x1] H = endX [.tmp 4, .tmp 5] (codeL ET Y F37B (sp 22 [(1, x1), (0, x0)]) H) := by
  rw [callL_eq (F := F37) rfl rfl, st_in2]; rfl
theorem in38_0 : codeL ET Y F38L0 fr H = lp ET Y F38L0 (keepA (m 62 120259084546) fr) H := codeL_in rfl
theorem un38_0 : lp ET Y F38L0 fr H = thenX (codeL ET Y F38L0b (keepA (m 62 120259084546) fr) H) (again ET Y F38L0 (m 62 120259084546)) := lp_un rfl
theorem call38 {x0 x1 : AV} (_h : 0 = 0) : callL ET Y 38 [x0, x1] H = endX [.tmp 4, .tmp 5] (codeL ET Y F38B (sp 62 [(1, x1), (0, x0)]) H) := by
  rw [callL_eq (F := F38) rfl rfl, st_in2]; rfl
theorem in39_0 : codeL ET Y F39L0 fr H = lp ET Y F39L0 (keepA (m 50 995) fr) H := codeL_in rfl
theorem un39_0 : lp ET Y F39L0 fr H = thenX (codeL ET Y F39L0b (keepA (m 50 995) fr) H) (again ET Y F39L0 (m 50 995)) := lp_un rfl
theorem in39_1 : codeL ET Y F39L1 fr H = lp ET Y F39L1 (keepA (m 50 99) fr) H := codeL_in rfl
theorem un39_1 : lp ET Y F39L1 fr H = thenX (codeL ET Y F39L1b (keepA (m 50 99) fr) H) (again ET Y F39L1 (m 50 99)) := lp_un rfl
theorem call39 {x0 x1 : AV} (_h : 0 = 0) : callL ET Y 39 [x0, x1] H = endX [.tmp 4] (codeL ET Y F39B (sp 50 [(1, x1), (0, x0)]) H) := by
  rw [callL_eq (F := F39) rfl rfl, st_in2]; rfl
theorem call40 {x0 : AV} (_h : 0 = 0) : callL ET Y 40 [x0] H = endX [.tmp 2] (codeL ET Y F40B (sp 6 [(0, x0)]) H) := by
  rw [callL_eq (F := F40) rfl rfl, st_in1]; rfl
theorem in41_0 : codeL ET Y F41L0 fr H = lp ET Y F41L0 (keepA (m 64 61866192) fr) H := codeL_in rfl
theorem un41_0 : lp ET Y F41L0 fr H = thenX (codeL ET Y F41L0b (keepA (m 64 61866192) fr) H) (again ET Y F41L0 (m 64 61866192)) := lp_un rfl
theorem in41_1 : codeL ET Y F41L1 fr H = lp ET Y F41L1 (keepA (m 64 3145936) fr) H := codeL_in rfl
theorem un41_1 : lp ET Y F41L1 fr H = thenX (codeL ET Y F41L1b (keepA (m 64 3145936) fr) H) (again ET Y F41L1 (m 64 3145936)) := lp_un rfl
theorem in41_2 : codeL ET Y F41L2 fr H = lp ET Y F41L2 (keepA (m 64 7696581394640) fr) H := codeL_in rfl
theorem un41_2 : lp ET Y F41L2 fr H = thenX (codeL ET Y F41L2b (keepA (m 64 7696581394640) fr) H) (again ET Y F41L2 (m 64 7696581394640)) := lp_un rfl
theorem call41 {x0 : AV} (_h : 0 = 0) : callL ET Y 41 [x0] H = endX [.tmp 2, .tmp 3] (codeL ET Y F41B (sp 64 [(0, x0)]) H) := by
  rw [callL_eq (F := F41) rfl rfl, st_in1]; rfl
theorem in42_0 : codeL ET Y F42L0 fr H = lp ET Y F42L0 (keepA (m 51 249) fr) H := codeL_in rfl
theorem un42_0 : lp ET Y F42L0 fr H = thenX (codeL ET Y F42L0b (keepA (m 51 249) fr) H) (again ET Y F42L0 (m 51 249)) := lp_un rfl
theorem in42_1 : codeL ET Y F42L1 fr H = lp ET Y F42L1 (keepA (m 51 121) fr) H := codeL_in rfl
theorem un42_1 : lp ET Y F42L1 fr H = thenX (codeL ET Y F42L1b (keepA (m 51 121) fr) H) (again ET Y F42L1 (m 51 121)) := lp_un rfl
theorem in42_2 : codeL ET Y F42L2 fr H = lp ET Y F42L2 (keepA (m 51 25) fr) H := codeL_in rfl
theorem un42_2 : lp ET Y F42L2 fr H = thenX (codeL ET Y F42L2b (keepA (m 51 25) fr) H) (again ET Y F42L2 (m 51 25)) := lp_un rfl
theorem call42 {x0 : AV} (_h : 0 = 0) : callL ET Y 42 [x0] H = endX [.tmp 2] (codeL ET Y F42B (sp 51 [(0, x0)]) H) := by
  rw [callL_eq (F := F42) rfl rfl, st_in1]; rfl
theorem call43 {x0 x1 : AV} (_h : 0 = 0) : callL ET Y 43 [x0, x1] H = endX [.tmp 4, .tmp 5, .tmp 6] (codeL ET Y F43B (sp 46 [(1, x1), (0, x0)]) H) := by
  rw [callL_eq (F := F43) rfl rfl, st_in2]; rfl
theorem in44_0 : codeL ET Y F44L0 fr H = lp ET Y F44L0 (keepA (m 86 109078156987612994) fr) H := codeL_in rfl
theorem un44_0 : lp ET Y F44L0 fr H = thenX (codeL ET Y F44L0b (keepA (m 86 109078156987612994) fr) H) (again ET Y F44L0 (m 86 109078156987612994)) := lp_un rfl
theorem in44_1 : codeL ET Y F44L1 fr H = lp ET Y F44L1 (keepA (m 86 991765930708802) fr) H := codeL_in rfl
theorem un44_1 : lp ET Y F44L1 fr H = thenX (codeL ET Y F44L1b (keepA (m 86 991765930708802) fr) H) (again ET Y F44L1 (m 86 991765930708802)) := lp_un rfl
theorem in44_2 : codeL ET Y F44L2 fr H = lp ET Y F44L2 (keepA (m 86 6603512219458) fr) H := codeL_in rfl
theorem un44_2 : lp ET Y F44L2 fr H = thenX (codeL ET Y F44L2b (keepA (m 86 6603512219458) fr) H) (again ET Y F44L2 (m 86 6603512219458)) := lp_un rfl
theorem in44_3 : codeL ET Y F44L3 fr H = lp ET Y F44L3 (keepA (m 86 6442451266) fr) H := codeL_in rfl
theorem un44_3 : lp ET Y F44L3 fr H = thenX (codeL ET Y F44L3b (keepA (m 86 6442451266) fr) H) (again ET Y F44L3 (m 86 6442451266)) := lp_un rfl
theorem call44 {x0 x1 : AV} (_h : 0 = 0) : callL ET Y 44 [x0, x1] H = endX [.tmp 4, .tmp 5] (codeL ET Y F44B (sp 86 [(1, x1), (0, x0)]) H) := by
  rw [callL_eq (F := F44) rfl rfl, st_in2]; rfl
theorem in45_0 : codeL ET Y F45L0 fr H = lp ET Y F45L0 (keepA (m 82 8131) fr) H := codeL_in rfl
theorem un45_0 : lp ET Y F45L0 fr H = thenX (codeL ET Y F45L0b (keepA (m 82 8131) fr) H) (again ET Y F45L0 (m 82 8131)) := lp_un rfl
theorem in45_1 : codeL ET Y F45L1 fr H = lp ET Y F45L1 (keepA (m 82 4035) fr) H := codeL_in rfl
theorem un45_1 : lp ET Y F45L1 fr H = thenX (codeL ET Y F45L1b (keepA (m 82 4035) fr) H) (again ET Y F45L1 (m 82 4035)) := lp_un rfl
theorem in45_2 : codeL ET Y F45L2 fr H = lp ET Y F45L2 (keepA (m 82 963) fr) H := codeL_in rfl
theorem un45_2 : lp ET Y F45L2 fr H = thenX (codeL ET Y F45L2b (keepA (m 82 963) fr) H) (again ET Y F45L2 (m 82 963)) := lp_un rfl
theorem in45_3 : codeL ET Y F45L3 fr H = lp ET Y F45L3 (keepA (m 82 195) fr) H := codeL_in rfl
theorem un45_3 : lp ET Y F45L3 fr H = thenX (codeL ET Y F45L3b (keepA (m 82 195) fr) H) (again ET Y F45L3 (m 82 195)) := lp_un rfl
theorem call45 {x0 x1 : AV} (_h : 0 = 0) : callL ET Y 45 [x0, x1] H = endX [.tmp 4, .tmp 5] (codeL ET Y F45B (sp 82 [(1, x1), (0, x0)]) H) := by
  rw [callL_eq (F := F45) rfl rfl, st_in2]; rfl
theorem call46 {x0 x1 : AV} (_h : 0 = 0) : callL ET Y 46 [x0, x1] H = endX [.tmp 4, .tmp 5] (codeL ET Y F46B (sp 26 [(1, x1), (0, x0)]) H) := by
  rw [callL_eq (F := F46) rfl rfl, st_in2]; rfl
theorem call47 {x0 x1 x2 : AV} (_h : 0 = 0) : callL ET Y 47 [x0, x1, x2] H = endX [.tmp 6, .tmp 7] (codeL ET Y F47B (sp 60 [(2, x2), (1, x1), (0, x0)]) H) := by
  rw [callL_eq (F := F47) rfl rfl, st_in3]; rfl
theorem call48 {x0 : AV} (_h : 0 = 0) : callL ET Y 48 [x0] H = endX [.tmp 2, .tmp 3] (codeL ET Y F48B (sp 18 [(0, x0)]) H) := by
  rw [callL_eq (F := F48) rfl rfl, st_in1]; rfl
theorem call49 (_h : 0 = 0) : callL ET Y 49 [] H = endX [.tmp 0] (codeL ET Y F49B (sp 2 []) H) := by
  rw [callL_eq (F := F49) rfl rfl, st_in0]; rfl
theorem call50 (_h : 0 = 0) : callL ET Y 50 [] H = endX [.tmp 0] (codeL ET Y F50B (sp 2 []) H) := by
  rw [callL_eq (F := F50) rfl rfl, st_in0]; rfl
theorem in51_0 : codeL ET Y F51L0 fr H = lp ET Y F51L0 (keepA (m 58 3848291156017) fr) H := codeL_in rfl
theorem un51_0 : lp ET Y F51L0 fr H = thenX (codeL ET Y F51L0b (keepA (m 58 3848291156017) fr) H) (again ET Y F51L0 (m 58 3848291156017)) := lp_un rfl
theorem in51_1 : codeL ET Y F51L1 fr H = lp ET Y F51L1 (keepA (m 58 458753) fr) H := codeL_in rfl
theorem un51_1 : lp ET Y F51L1 fr H = thenX (codeL ET Y F51L1b (keepA (m 58 458753) fr) H) (again ET Y F51L1 (m 58 458753)) := lp_un rfl
theorem call51 {x0 : AV} (_h : 0 = 0) : callL ET Y 51 [x0] H = endX [.tmp 2, .tmp 3] (codeL ET Y F51B (sp 58 [(0, x0)]) H) := by
  rw [callL_eq (F := F51) rfl rfl, st_in1]; rfl
theorem call52 {x0 x1 x2 : AV} (_h : 0 = 0) : callL ET Y 52 [x0, x1, x2] H = endX [.tmp 4] (codeL ET Y F52B (sp 16 [(2, x2), (1, x1), (0, x0)]) H) := by
  rw [callL_eq (F := F52) rfl rfl, st_in3]; rfl
theorem in53_0 : codeL ET Y F53L0 fr H = lp ET Y F53L0 (keepA (m 26 12291) fr) H := codeL_in rfl
theorem un53_0 : lp ET Y F53L0 fr H = thenX (codeL ET Y F53L0b (keepA (m 26 12291) fr) H) (again ET Y F53L0 (m 26 12291)) := lp_un rfl
theorem call53 {x0 x1 : AV} (_h : 0 = 0) : callL ET Y 53 [x0, x1] H = endX [.tmp 4] (codeL ET Y F53B (sp 26 [(1, x1), (0, x0)]) H) := by
  rw [callL_eq (F := F53) rfl rfl, st_in2]; rfl
theorem in54_0 : codeL ET Y F54L0 fr H = lp ET Y F54L0 (keepA (m 36 458801) fr) H := codeL_in rfl
theorem un54_0 : lp ET Y F54L0 fr H = thenX (codeL ET Y F54L0b (keepA (m 36 458801) fr) H) (again ET Y F54L0 (m 36 458801)) := lp_un rfl
theorem call54 {x0 x1 : AV} (_h : 0 = 0) : callL ET Y 54 [x0, x1] H = endX [.cell 4 (some 2)] (codeL ET Y F54B (sp 36 [(1, x1), (0, x0)]) H) := by
  rw [callL_eq (F := F54) rfl rfl, st_in2]; rfl
theorem call55 {x0 : AV} (_h : 0 = 0) : callL ET Y 55 [x0] H = endX [.tmp 2] (codeL ET Y F55B (sp 12 [(0, x0)]) H) := by
  rw [callL_eq (F := F55) rfl rfl, st_in1]; rfl
theorem call56 {x0 : AV} (_h : 0 = 0) : callL ET Y 56 [x0] H = endX [.tmp 2] (codeL ET Y F56B (sp 18 [(0, x0)]) H) := by
  rw [callL_eq (F := F56) rfl rfl, st_in1]; rfl
theorem in57_0 : codeL ET Y F57L0 fr H = lp ET Y F57L0 (keepA (m 27 6) fr) H := codeL_in rfl
theorem un57_0 : lp ET Y F57L0 fr H = thenX (codeL ET Y F57L0b (keepA (m 27 6) fr) H) (again ET Y F57L0 (m 27 6)) := lp_un rfl
theorem call57 {x0 : AV} (_h : 0 = 0) : callL ET Y 57 [x0] H = endX [.cell 2 (some 1)] (codeL ET Y F57B (sp 27 [(0, x0)]) H) := by
  rw [callL_eq (F := F57) rfl rfl, st_in1]; rfl
theorem call58 {x0 : AV} (_h : 0 = 0) : callL ET Y 58 [x0] H = endX [.tmp 2] (codeL ET Y F58B (sp 30 [(0, x0)]) H) := by
  rw [callL_eq (F := F58) rfl rfl, st_in1]; rfl
theorem call59 {x0 : AV} (_h : 0 = 0) : callL ET Y 59 [x0] H = endX [.tmp 2] (codeL ET Y F59B (sp 9 [(0, x0)]) H) := by
  rw [callL_eq (F := F59) rfl rfl, st_in1]; rfl
theorem in60_0 : codeL ET Y F60L0 fr H = lp ET Y F60L0 (keepA (m 65 7192) fr) H := codeL_in rfl
theorem un60_0 : lp ET Y F60L0 fr H = thenX (codeL ET Y F60L0b (keepA (m 65 7192) fr) H) (again ET Y F60L0 (m 65 7192)) := lp_un rfl
theorem in60_1 : codeL ET Y F60L1 fr H = lp ET Y F60L1 (keepA (m 65 422212465066384) fr) H := codeL_in rfl
theorem un60_1 : lp ET Y F60L1 fr H = thenX (codeL ET Y F60L1b (keepA (m 65 422212465066384) fr) H) (again ET Y F60L1 (m 65 422212465066384)) := lp_un rfl
theorem in60_2 : codeL ET Y F60L2 fr H = lp ET Y F60L2 (keepA (m 65 152) fr) H := codeL_in rfl
theorem un60_2 : lp ET Y F60L2 fr H = thenX (codeL ET Y F60L2b (keepA (m 65 152) fr) H) (again ET Y F60L2 (m 65 152)) := lp_un rfl
theorem call60 {x0 : AV} (_h : 0 = 0) : callL ET Y 60 [x0] H = endX [.tmp 2] (codeL ET Y F60B (sp 65 [(0, x0)]) H) := by
  rw [callL_eq (F := F60) rfl rfl, st_in1]; rfl
theorem in61_0 : codeL ET Y F61L0 fr H = lp ET Y F61L0 (keepA (m 28 7266) fr) H := codeL_in rfl
theorem un61_0 : lp ET Y F61L0 fr H = thenX (codeL ET Y F61L0b (keepA (m 28 7266) fr) H) (again ET Y F61L0 (m 28 7266)) := lp_un rfl
theorem call61 {x0 x1 : AV} (_h : 0 = 0) : callL ET Y 61 [x0, x1] H = endX [.tmp 4] (codeL ET Y F61B (sp 28 [(1, x1), (0, x0)]) H) := by
  rw [callL_eq (F := F61) rfl rfl, st_in2]; rfl
theorem in62_0 : codeL ET Y F62L0 fr H = lp ET Y F62L0 (keepA (m 58 25) fr) H := codeL_in rfl
theorem un62_0 : lp ET Y F62L0 fr H = thenX (codeL ET Y F62L0b (keepA (m 58 25) fr) H) (again ET Y F62L0 (m 58 25)) := lp_un rfl
theorem in62_1 : codeL ET Y F62L1 fr H = lp ET Y F62L1 (keepA (m 58 488) fr) H := codeL_in rfl
theorem un62_1 : lp ET Y F62L1 fr H = thenX (codeL ET Y F62L1b (keepA (m 58 488) fr) H) (again ET Y F62L1 (m 58 488)) := lp_un rfl
theorem in62_2 : codeL ET Y F62L2 fr H = lp ET Y F62L2 (keepA (m 58 104) fr) H := codeL_in rfl
theorem un62_2 : lp ET Y F62L2 fr H = thenX (codeL ET Y F62L2b (keepA (m 58 104) fr) H) (again ET Y F62L2 (m 58 104)) := lp_un rfl
theorem call62 {x0 : AV} (_h : 0 = 0) : callL ET Y 62 [x0] H = endX [.tmp 2] (codeL ET Y F62B (sp 58 [(0, x0)]) H) := by
  rw [callL_eq (F := F62) rfl rfl, st_in1]; rfl
theorem call63 {x0 : AV} (_h : 0 = 0) : callL ET Y 63 [x0] H = endX [.tmp 2] (codeL ET Y F63B (sp 8 [(0, x0)]) H) := by
  rw [callL_eq (F := F63) rfl rfl, st_in1]; rfl
theorem call64 {x0 : AV} (_h : 0 = 0) : callL ET Y 64 [x0] H = endX [.tmp 2] (codeL ET Y F64B (sp 9 [(0, x0)]) H) := by
  rw [callL_eq (F := F64) rfl rfl, st_in1]; rfl
theorem in65_0 : codeL ET Y F65L0 fr H = lp ET Y F65L0 (keepA (m 41 1926) fr) H := codeL_in rfl
theorem un65_0 : lp ET Y F65L0 fr H = thenX (codeL ET Y F65L0b (keepA (m 41 1926) fr) H) (again ET Y F65L0 (m 41 1926)) := lp_un rfl
theorem call65 {x0 x1 x2 : AV} (_h : 0 = 0) : callL ET Y 65 [x0, x1, x2] H = endX [.tmp 6] (codeL ET Y F65B (sp 41 [(2, x2), (1, x1), (0, x0)]) H) := by
  rw [callL_eq (F := F65) rfl rfl, st_in3]; rfl
theorem in67_0 : codeL ET Y F67L0 fr H = lp ET Y F67L0 (keepA (m 23 99) fr) H := codeL_in rfl
theorem un67_0 : lp ET Y F67L0 fr H = thenX (codeL ET Y F67L0b (keepA (m 23 99) fr) H) (again ET Y F67L0 (m 23 99)) := lp_un rfl
theorem call67 {x0 x1 : AV} (_h : 0 = 0) : callL ET Y 67 [x0, x1] H = endX [.tmp 4] (codeL ET Y F67B (sp 23 [(1, x1), (0, x0)]) H) := by
  rw [callL_eq (F := F67) rfl rfl, st_in2]; rfl
theorem call68 {x0 : AV} (_h : 0 = 0) : callL ET Y 68 [x0] H = endX [.tmp 2] (codeL ET Y F68B (sp 8 [(0, x0)]) H) := by
  rw [callL_eq (F := F68) rfl rfl, st_in1]; rfl
theorem call69 {x0 : AV} (_h : 0 = 0) : callL ET Y 69 [x0] H = endX [.tmp 2] (codeL ET Y F69B (sp 7 [(0, x0)]) H) := by
  rw [callL_eq (F := F69) rfl rfl, st_in1]; rfl
theorem in70_0 : codeL ET Y F70L0 fr H = lp ET Y F70L0 (keepA (m 89 4159) fr) H := codeL_in rfl
theorem un70_0 : lp ET Y F70L0 fr H = thenX (codeL ET Y F70L0b (keepA (m 89 4159) fr) H) (again ET Y F70L0 (m 89 4159)) := lp_un rfl
theorem in70_1 : codeL ET Y F70L1 fr H = lp ET Y F70L1 (keepA (m 89 28733) fr) H := codeL_in rfl
theorem un70_1 : lp ET Y F70L1 fr H = thenX (codeL ET Y F70L1b (keepA (m 89 28733) fr) H) (again ET Y F70L1 (m 89 28733)) := lp_un rfl
theorem call70 {x0 x1 x2 x3 x4 x5 : AV} (_h : 0 = 0) : callL ET Y 70 [x0, x1, x2, x3, x4, x5] H = endX [] (codeL ET Y F70B (sp 89 [(5, x5), (4, x4), (3, x3), (2, x2), (1, x1), (0, x0)]) H) := by
  rw [callL_eq (F := F70) rfl rfl, st_in6]; rfl
theorem in71_0 : codeL ET Y F71L0 fr H = lp ET Y F71L0 (keepA (m 58 402654136) fr) H := codeL_in rfl
theorem un71_0 : lp ET Y F71L0 fr H = thenX (codeL ET Y F71L0b (keepA (m 58 402654136) fr) H) (again ET Y F71L0 (m 58 402654136)) := lp_un rfl
theorem call71 {x0 x1 x2 : AV} (_h : 0 = 0) : callL ET Y 71 [x0, x1, x2] H = endX [.tmp 6] (codeL ET Y F71B (sp 58 [(2, x2), (1, x1), (0, x0)]) H) := by
  rw [callL_eq (F := F71) rfl rfl, st_in3]; rfl
theorem in72_0 : codeL ET Y F72L0 fr H = lp ET Y F72L0 (keepA (m 95 28735) fr) H := codeL_in rfl
theorem un72_0 : lp ET Y F72L0 fr H = thenX (codeL ET Y F72L0b (keepA (m 95 28735) fr) H) (again ET Y F72L0 (m 95 28735)) := lp_un rfl
theorem in72_1 : codeL ET Y F72L1 fr H = lp ET Y F72L1 (keepA (m 95 4159) fr) H := codeL_in rfl
theorem un72_1 : lp ET Y F72L1 fr H = thenX (codeL ET Y F72L1b (keepA (m 95 4159) fr) H) (again ET Y F72L1 (m 95 4159)) := lp_un rfl
theorem call72 {x0 x1 x2 x3 x4 x5 : AV} (_h : 0 = 0) : callL ET Y 72 [x0, x1, x2, x3, x4, x5] H = endX [] (codeL ET Y F72B (sp 95 [(5, x5), (4, x4), (3, x3), (2, x2), (1, x1), (0, x0)]) H) := by
  rw [callL_eq (F := F72) rfl rfl, st_in6]; rfl
theorem in73_0 : codeL ET Y F73L0 fr H = lp ET Y F73L0 (keepA (m 66 1055) fr) H := codeL_in rfl
theorem un73_0 : lp ET Y F73L0 fr H = thenX (codeL ET Y F73L0b (keepA (m 66 1055) fr) H) (again ET Y F73L0 (m 66 1055)) := lp_un rfl
theorem in73_1 : codeL ET Y F73L1 fr H = lp ET Y F73L1 (keepA (m 66 7197) fr) H := codeL_in rfl
theorem un73_1 : lp ET Y F73L1 fr H = thenX (codeL ET Y F73L1b (keepA (m 66 7197) fr) H) (again ET Y F73L1 (m 66 7197)) := lp_un rfl
theorem call73 {x0 x1 x2 x3 x4 : AV} (_h : 0 = 0) : callL ET Y 73 [x0, x1, x2, x3, x4] H = endX [] (codeL ET Y F73B (sp 66 [(4, x4), (3, x3), (2, x2), (1, x1), (0, x0)]) H) := by
  rw [callL_eq (F := F73) rfl rfl, st_in5]; rfl
theorem in74_0 : codeL ET Y F74L0 fr H = lp ET Y F74L0 (keepA (m 25 25) fr) H := codeL_in rfl
theorem un74_0 : lp ET Y F74L0 fr H = thenX (codeL ET Y F74L0b (keepA (m 25 25) fr) H) (again ET Y F74L0 (m 25 25)) := lp_un rfl
theorem call74 {x0 : AV} (_h : 0 = 0) : callL ET Y 74 [x0] H = endX [.tmp 2] (codeL ET Y F74B (sp 25 [(0, x0)]) H) := by
  rw [callL_eq (F := F74) rfl rfl, st_in1]; rfl
theorem in75_0 : codeL ET Y F75L0 fr H = lp ET Y F75L0 (keepA (m 25 25) fr) H := codeL_in rfl
theorem un75_0 : lp ET Y F75L0 fr H = thenX (codeL ET Y F75L0b (keepA (m 25 25) fr) H) (again ET Y F75L0 (m 25 25)) := lp_un rfl
theorem call75 {x0 : AV} (_h : 0 = 0) : callL ET Y 75 [x0] H = endX [.tmp 2] (codeL ET Y F75B (sp 25 [(0, x0)]) H) := by
  rw [callL_eq (F := F75) rfl rfl, st_in1]; rfl
theorem in76_0 : codeL ET Y F76L0 fr H = lp ET Y F76L0 (keepA (m 28 21) fr) H := codeL_in rfl
theorem un76_0 : lp ET Y F76L0 fr H = thenX (codeL ET Y F76L0b (keepA (m 28 21) fr) H) (again ET Y F76L0 (m 28 21)) := lp_un rfl
theorem call76 {x0 : AV} (_h : 0 = 0) : callL ET Y 76 [x0] H = endX [.cell 2 (some 2)] (codeL ET Y F76B (sp 28 [(0, x0)]) H) := by
  rw [callL_eq (F := F76) rfl rfl, st_in1]; rfl
theorem in77_0 : codeL ET Y F77L0 fr H = lp ET Y F77L0 (keepA (m 22 1) fr) H := codeL_in rfl
theorem un77_0 : lp ET Y F77L0 fr H = thenX (codeL ET Y F77L0b (keepA (m 22 1) fr) H) (again ET Y F77L0 (m 22 1)) := lp_un rfl
theorem call77 {x0 : AV} (_h : 0 = 0) : callL ET Y 77 [x0] H = endX [.tmp 2] (codeL ET Y F77B (sp 22 [(0, x0)]) H) := by
  rw [callL_eq (F := F77) rfl rfl, st_in1]; rfl
theorem in78_0 : codeL ET Y F78L0 fr H = lp ET Y F78L0 (keepA (m 80 52776558133731) fr) H := codeL_in rfl
theorem un78_0 : lp ET Y F78L0 fr H = thenX (codeL ET Y F78L0b (keepA (m 80 52776558133731) fr) H) (again ET Y F78L0 (m 80 52776558133731)) := lp_un rfl
theorem in78_1 : codeL ET Y F78L1 fr H = lp ET Y F78L1 (keepA (m 80 99) fr) H := codeL_in rfl
theorem un78_1 : lp ET Y F78L1 fr H = thenX (codeL ET Y F78L1b (keepA (m 80 99) fr) H) (again ET Y F78L1 (m 80 99)) := lp_un rfl
theorem call78 {x0 x1 : AV} (_h : 0 = 0) : callL ET Y 78 [x0, x1] H = endX [.tmp 4] (codeL ET Y F78B (sp 80 [(1, x1), (0, x0)]) H) := by
  rw [callL_eq (F := F78) rfl rfl, st_in2]; rfl
theorem in79_0 : codeL ET Y F79L0 fr H = lp ET Y F79L0 (keepA (m 36 1835074) fr) H := codeL_in rfl
theorem un79_0 : lp ET Y F79L0 fr H = thenX (codeL ET Y F79L0b (keepA (m 36 1835074) fr) H) (again ET Y F79L0 (m 36 1835074)) := lp_un rfl
theorem in79_1 : codeL ET Y F79L1 fr H = lp ET Y F79L1 (keepA (m 36 3) fr) H := codeL_in rfl
theorem un79_1 : lp ET Y F79L1 fr H = thenX (codeL ET Y F79L1b (keepA (m 36 3) fr) H) (again ET Y F79L1 (m 36 3)) := lp_un rfl
theorem call79 {x0 x1 : AV} (_h : 0 = 0) : callL ET Y 79 [x0, x1] H = endX [.tmp 4] (codeL ET Y F79B (sp 36 [(1, x1), (0, x0)]) H) := by
  rw [callL_eq (F := F79) rfl rfl, st_in2]; rfl
theorem in80_0 : codeL ET Y F80L0 fr H = lp ET Y F80L0 (keepA (m 25 29) fr) H := codeL_in rfl
theorem un80_0 : lp ET Y F80L0 fr H = thenX (codeL ET Y F80L0b (keepA (m 25 29) fr) H) (again ET Y F80L0 (m 25 29)) := lp_un rfl
theorem call80 {x0 : AV} (_h : 0 = 0) : callL ET Y 80 [x0] H = endX [.cell 2 (some 2)] (codeL ET Y F80B (sp 25 [(0, x0)]) H) := by
  rw [callL_eq (F := F80) rfl rfl, st_in1]; rfl
theorem in81_0 : codeL ET Y F81L0 fr H = lp ET Y F81L0 (keepA (m 37 25) fr) H := codeL_in rfl
theorem un81_0 : lp ET Y F81L0 fr H = thenX (codeL ET Y F81L0b (keepA (m 37 25) fr) H) (again ET Y F81L0 (m 37 25)) := lp_un rfl
theorem in81_1 : codeL ET Y F81L1 fr H = lp ET Y F81L1 (keepA (m 37 105) fr) H := codeL_in rfl
theorem un81_1 : lp ET Y F81L1 fr H = thenX (codeL ET Y F81L1b (keepA (m 37 105) fr) H) (again ET Y F81L1 (m 37 105)) := lp_un rfl
theorem call81 {x0 : AV} (_h : 0 = 0) : callL ET Y 81 [x0] H = endX [.tmp 2] (codeL ET Y F81B (sp 37 [(0, x0)]) H) := by
  rw [callL_eq (F := F81) rfl rfl, st_in1]; rfl
theorem in82_0 : codeL ET Y F82L0 fr H = lp ET Y F82L0 (keepA (m 22 25) fr) H := codeL_in rfl
theorem un82_0 : lp ET Y F82L0 fr H = thenX (codeL ET Y F82L0b (keepA (m 22 25) fr) H) (again ET Y F82L0 (m 22 25)) := lp_un rfl
theorem call82 {x0 : AV} (_h : 0 = 0) : callL ET Y 82 [x0] H = endX [.tmp 2] (codeL ET Y F82B (sp 22 [(0, x0)]) H) := by
  rw [callL_eq (F := F82) rfl rfl, st_in1]; rfl
theorem in83_0 : codeL ET Y F83L0 fr H = lp ET Y F83L0 (keepA (m 69 483) fr) H := codeL_in rfl
theorem un83_0 : lp ET Y F83L0 fr H = thenX (codeL ET Y F83L0b (keepA (m 69 483) fr) H) (again ET Y F83L0 (m 69 483)) := lp_un rfl
theorem in83_1 : codeL ET Y F83L1 fr H = lp ET Y F83L1 (keepA (m 69 35) fr) H := codeL_in rfl
theorem un83_1 : lp ET Y F83L1 fr H = thenX (codeL ET Y F83L1b (keepA (m 69 35) fr) H) (again ET Y F83L1 (m 69 35)) := lp_un rfl
theorem call83 {x0 x1 : AV} (_h : 0 = 0) : callL ET Y 83 [x0, x1] H = endX [.tmp 4] (codeL ET Y F83B (sp 69 [(1, x1), (0, x0)]) H) := by
  rw [callL_eq (F := F83) rfl rfl, st_in2]; rfl
theorem call84 {x0 : AV} (_h : 0 = 0) : callL ET Y 84 [x0] H = endX [.cell 2 (some 2)] (codeL ET Y F84B (sp 9 [(0, x0)]) H) := by
  rw [callL_eq (F := F84) rfl rfl, st_in1]; rfl
theorem in85_0 : codeL ET Y F85L0 fr H = lp ET Y F85L0 (keepA (m 83 995) fr) H := codeL_in rfl
theorem un85_0 : lp ET Y F85L0 fr H = thenX (codeL ET Y F85L0b (keepA (m 83 995) fr) H) (again ET Y F85L0 (m 83 995)) := lp_un rfl
theorem in85_1 : codeL ET Y F85L1 fr H = lp ET Y F85L1 (keepA (m 83 99) fr) H := codeL_in rfl
theorem un85_1 : lp ET Y F85L1 fr H = thenX (codeL ET Y F85L1b (keepA (m 83 99) fr) H) (again ET Y F85L1 (m 83 99)) := lp_un rfl
theorem call85 {x0 x1 : AV} (_h : 0 = 0) : callL ET Y 85 [x0, x1] H = endX [.tmp 4] (codeL ET Y F85B (sp 83 [(1, x1), (0, x0)]) H) := by
  rw [callL_eq (F := F85) rfl rfl, st_in2]; rfl
theorem in86_0 : codeL ET Y F86L0 fr H = lp ET Y F86L0 (keepA (m 38 227) fr) H := codeL_in rfl
theorem un86_0 : lp ET Y F86L0 fr H = thenX (codeL ET Y F86L0b (keepA (m 38 227) fr) H) (again ET Y F86L0 (m 38 227)) := lp_un rfl
theorem call86 {x0 x1 : AV} (_h : 0 = 0) : callL ET Y 86 [x0, x1] H = endX [.tmp 4] (codeL ET Y F86B (sp 38 [(1, x1), (0, x0)]) H) := by
  rw [callL_eq (F := F86) rfl rfl, st_in2]; rfl
theorem call88 {x0 : AV} (_h : 0 = 0) : callL ET Y 88 [x0] H = endX [.tmp 2] (codeL ET Y F88B (sp 21 [(0, x0)]) H) := by
  rw [callL_eq (F := F88) rfl rfl, st_in1]; rfl
theorem call89 {x0 : AV} (_h : 0 = 0) : callL ET Y 89 [x0] H = endX [.tmp 2] (codeL ET Y F89B (sp 35 [(0, x0)]) H) := by
  rw [callL_eq (F := F89) rfl rfl, st_in1]; rfl
theorem in90_0 : codeL ET Y F90L0 fr H = lp ET Y F90L0 (keepA (m 90 49279) fr) H := codeL_in rfl
theorem un90_0 : lp ET Y F90L0 fr H = thenX (codeL ET Y F90L0b (keepA (m 90 49279) fr) H) (again ET Y F90L0 (m 90 49279)) := lp_un rfl
theorem call90 {x0 x1 x2 x3 x4 x5 x6 : AV} (_h : 0 = 0) : callL ET Y 90 [x0, x1, x2, x3, x4, x5, x6] H = endX [] (codeL ET Y F90B (sp 90 [(6, x6), (5, x5), (4, x4), (3, x3), (2, x2), (1, x1), (0, x0)]) H) := by
  rw [callL_eq (F := F90) rfl rfl, st_in7]; rfl
theorem call91 {x0 : AV} (_h : 0 = 0) : callL ET Y 91 [x0] H = endX [.tmp 2] (codeL ET Y F91B (sp 6 [(0, x0)]) H) := by
  rw [callL_eq (F := F91) rfl rfl, st_in1]; rfl
theorem in92_0 : codeL ET Y F92L0 fr H = lp ET Y F92L0 (keepA (m 37 3981) fr) H := codeL_in rfl
theorem un92_0 : lp ET Y F92L0 fr H = thenX (codeL ET Y F92L0b (keepA (m 37 3981) fr) H) (again ET Y F92L0 (m 37 3981)) := lp_un rfl
theorem in92_1 : codeL ET Y F92L1 fr H = lp ET Y F92L1 (keepA (m 37 3597) fr) H := codeL_in rfl
theorem un92_1 : lp ET Y F92L1 fr H = thenX (codeL ET Y F92L1b (keepA (m 37 3597) fr) H) (again ET Y F92L1 (m 37 3597)) := lp_un rfl
theorem call92 {x0 x1 x2 x3 : AV} (_h : 0 = 0) : callL ET Y 92 [x0, x1, x2, x3] H = endX [] (codeL ET Y F92B (sp 37 [(3, x3), (2, x2), (1, x1), (0, x0)]) H) := by
  rw [callL_eq (F := F92) rfl rfl, st_in4]; rfl
theorem in93_0 : codeL ET Y F93L0 fr H = lp ET Y F93L0 (keepA (m 78 98815) fr) H := codeL_in rfl
theorem un93_0 : lp ET Y F93L0 fr H = thenX (codeL ET Y F93L0b (keepA (m 78 98815) fr) H) (again ET Y F93L0 (m 78 98815)) := lp_un rfl
theorem call93 {x0 x1 x2 x3 x4 x5 x6 x7 x8 : AV} (_h : 0 = 0) : callL ET Y 93 [x0, x1, x2, x3, x4, x5, x6, x7, x8] H = endX [] (codeL ET Y F93B (sp 78 [(8, x8), (7, x7), (6, x6), (5, x5), (4, x4), (3, x3), (2, x2), (1, x1), (0, x0)]) H) := by
  rw [callL_eq (F := F93) rfl rfl, st_in9]; rfl
theorem call94 {x0 : AV} (_h : 0 = 0) : callL ET Y 94 [x0] H = endX [.tmp 2] (codeL ET Y F94B (sp 8 [(0, x0)]) H) := by
  rw [callL_eq (F := F94) rfl rfl, st_in1]; rfl
theorem in95_0 : codeL ET Y F95L0 fr H = lp ET Y F95L0 (keepA (m 86 1879049212) fr) H := codeL_in rfl
theorem un95_0 : lp ET Y F95L0 fr H = thenX (codeL ET Y F95L0b (keepA (m 86 1879049212) fr) H) (again ET Y F95L0 (m 86 1879049212)) := lp_un rfl
theorem in95_1 : codeL ET Y F95L1 fr H = lp ET Y F95L1 (keepA (m 86 1879048252) fr) H := codeL_in rfl
theorem un95_1 : lp ET Y F95L1 fr H = thenX (codeL ET Y F95L1b (keepA (m 86 1879048252) fr) H) (again ET Y F95L1 (m 86 1879048252)) := lp_un rfl
theorem call95 {x0 x1 : AV} (_h : 0 = 0) : callL ET Y 95 [x0, x1] H = endX [.cell 4 (some 2)] (codeL ET Y F95B (sp 86 [(1, x1), (0, x0)]) H) := by
  rw [callL_eq (F := F95) rfl rfl, st_in2]; rfl
theorem call96 {x0 x1 : AV} (_h : 0 = 0) : callL ET Y 96 [x0, x1] H = endX [.cell 4 (some 2)] (codeL ET Y F96B (sp 58 [(1, x1), (0, x0)]) H) := by
  rw [callL_eq (F := F96) rfl rfl, st_in2]; rfl
theorem call98 {x0 x1 : AV} (_h : 0 = 0) : callL ET Y 98 [x0, x1] H = endX [.cell 4 (some 2)] (codeL ET Y F98B (sp 16 [(1, x1), (0, x0)]) H) := by
  rw [callL_eq (F := F98) rfl rfl, st_in2]; rfl
theorem in99_0 : codeL ET Y F99L0 fr H = lp ET Y F99L0 (keepA (m 21 28) fr) H := codeL_in rfl
theorem un99_0 : lp ET Y F99L0 fr H = thenX (codeL ET Y F99L0b (keepA (m 21 28) fr) H) (again ET Y F99L0 (m 21 28)) := lp_un rfl
theorem call99 {x0 x1 : AV} (_h : 0 = 0) : callL ET Y 99 [x0, x1] H = endX [.cell 4 (some 2)] (codeL ET Y F99B (sp 21 [(1, x1), (0, x0)]) H) := by
  rw [callL_eq (F := F99) rfl rfl, st_in2]; rfl
theorem call100 {x0 x1 : AV} (_h : 0 = 0) : callL ET Y 100 [x0, x1] H = endX [.cell 4 (some 2)] (codeL ET Y F100B (sp 25 [(1, x1), (0, x0)]) H) := by
  rw [callL_eq (F := F100) rfl rfl, st_in2]; rfl
theorem in101_0 : codeL ET Y F101L0 fr H = lp ET Y F101L0 (keepA (m 22 9) fr) H := codeL_in rfl
theorem un101_0 : lp ET Y F101L0 fr H = thenX (codeL ET Y F101L0b (keepA (m 22 9) fr) H) (again ET Y F101L0 (m 22 9)) := lp_un rfl
theorem call101 {x0 : AV} (_h : 0 = 0) : callL ET Y 101 [x0] H = endX [.tmp 2] (codeL ET Y F101B (sp 22 [(0, x0)]) H) := by
  rw [callL_eq (F := F101) rfl rfl, st_in1]; rfl
theorem call102 {x0 x1 : AV} (_h : 0 = 0) : callL ET Y 102 [x0, x1] H = endX [.cell 4 (some 2)] (codeL ET Y F102B (sp 16 [(1, x1), (0, x0)]) H) := by
  rw [callL_eq (F := F102) rfl rfl, st_in2]; rfl
theorem call103 {x0 x1 : AV} (_h : 0 = 0) : callL ET Y 103 [x0, x1] H = endX [.cell 4 (some 2)] (codeL ET Y F103B (sp 9 [(1, x1), (0, x0)]) H) := by
  rw [callL_eq (F := F103) rfl rfl, st_in2]; rfl
theorem in104_0 : codeL ET Y F104L0 fr H = lp ET Y F104L0 (keepA (m 27 99) fr) H := codeL_in rfl
theorem un104_0 : lp ET Y F104L0 fr H = thenX (codeL ET Y F104L0b (keepA (m 27 99) fr) H) (again ET Y F104L0 (m 27 99)) := lp_un rfl
theorem call104 {x0 x1 : AV} (_h : 0 = 0) : callL ET Y 104 [x0, x1] H = endX [.tmp 4] (codeL ET Y F104B (sp 27 [(1, x1), (0, x0)]) H) := by
  rw [callL_eq (F := F104) rfl rfl, st_in2]; rfl
theorem call105 {x0 : AV} (_h : 0 = 0) : callL ET Y 105 [x0] H = endX [.tmp 2] (codeL ET Y F105B (sp 8 [(0, x0)]) H) := by
  rw [callL_eq (F := F105) rfl rfl, st_in1]; rfl
theorem in106_0 : codeL ET Y F106L0 fr H = lp ET Y F106L0 (keepA (m 21 1) fr) H := codeL_in rfl
theorem un106_0 : lp ET Y F106L0 fr H = thenX (codeL ET Y F106L0b (keepA (m 21 1) fr) H) (again ET Y F106L0 (m 21 1)) := lp_un rfl
theorem call106 {x0 : AV} (_h : 0 = 0) : callL ET Y 106 [x0] H = endX [.tmp 2] (codeL ET Y F106B (sp 21 [(0, x0)]) H) := by
  rw [callL_eq (F := F106) rfl rfl, st_in1]; rfl
theorem in107_0 : codeL ET Y F107L0 fr H = lp ET Y F107L0 (keepA (m 64 1927) fr) H := codeL_in rfl
theorem un107_0 : lp ET Y F107L0 fr H = thenX (codeL ET Y F107L0b (keepA (m 64 1927) fr) H) (again ET Y F107L0 (m 64 1927)) := lp_un rfl
theorem in107_1 : codeL ET Y F107L1 fr H = lp ET Y F107L1 (keepA (m 64 903) fr) H := codeL_in rfl
theorem un107_1 : lp ET Y F107L1 fr H = thenX (codeL ET Y F107L1b (keepA (m 64 903) fr) H) (again ET Y F107L1 (m 64 903)) := lp_un rfl
theorem call107 {x0 x1 x2 : AV} (_h : 0 = 0) : callL ET Y 107 [x0, x1, x2] H = endX [.tmp 6] (codeL ET Y F107B (sp 64 [(2, x2), (1, x1), (0, x0)]) H) := by
  rw [callL_eq (F := F107) rfl rfl, st_in3]; rfl
theorem in108_0 : codeL ET Y F108L0 fr H = lp ET Y F108L0 (keepA (m 41 35) fr) H := codeL_in rfl
theorem un108_0 : lp ET Y F108L0 fr H = thenX (codeL ET Y F108L0b (keepA (m 41 35) fr) H) (again ET Y F108L0 (m 41 35)) := lp_un rfl
theorem call108 {x0 x1 : AV} (_h : 0 = 0) : callL ET Y 108 [x0, x1] H = endX [.tmp 4] (codeL ET Y F108B (sp 41 [(1, x1), (0, x0)]) H) := by
  rw [callL_eq (F := F108) rfl rfl, st_in2]; rfl
theorem in110_0 : codeL ET Y F110L0 fr H = lp ET Y F110L0 (keepA (m 33 9) fr) H := codeL_in rfl
theorem un110_0 : lp ET Y F110L0 fr H = thenX (codeL ET Y F110L0b (keepA (m 33 9) fr) H) (again ET Y F110L0 (m 33 9)) := lp_un rfl
theorem in110_1 : codeL ET Y F110L1 fr H = lp ET Y F110L1 (keepA (m 33 57) fr) H := codeL_in rfl
theorem un110_1 : lp ET Y F110L1 fr H = thenX (codeL ET Y F110L1b (keepA (m 33 57) fr) H) (again ET Y F110L1 (m 33 57)) := lp_un rfl
theorem call110 {x0 : AV} (_h : 0 = 0) : callL ET Y 110 [x0] H = endX [.tmp 2] (codeL ET Y F110B (sp 33 [(0, x0)]) H) := by
  rw [callL_eq (F := F110) rfl rfl, st_in1]; rfl
theorem call111 {x0 : AV} (_h : 0 = 0) : callL ET Y 111 [x0] H = endX [.tmp 2] (codeL ET Y F111B (sp 7 [(0, x0)]) H) := by
  rw [callL_eq (F := F111) rfl rfl, st_in1]; rfl
theorem call112 {x0 x1 : AV} (_h : 0 = 0) : callL ET Y 112 [x0, x1] H = endX [.cell 4 (some 2), .cell 5 (some 2)] (codeL ET Y F112B (sp 38 [(1, x1), (0, x0)]) H) := by
  rw [callL_eq (F := F112) rfl rfl, st_in2]; rfl
theorem in113_0 : codeL ET Y F113L0 fr H = lp ET Y F113L0 (keepA (m 64 483) fr) H := codeL_in rfl
theorem un113_0 : lp ET Y F113L0 fr H = thenX (codeL ET Y F113L0b (keepA (m 64 483) fr) H) (again ET Y F113L0 (m 64 483)) := lp_un rfl
theorem in113_1 : codeL ET Y F113L1 fr H = lp ET Y F113L1 (keepA (m 64 99) fr) H := codeL_in rfl
theorem un113_1 : lp ET Y F113L1 fr H = thenX (codeL ET Y F113L1b (keepA (m 64 99) fr) H) (again ET Y F113L1 (m 64 99)) := lp_un rfl
theorem call113 {x0 x1 : AV} (_h : 0 = 0) : callL ET Y 113 [x0, x1] H = endX [.tmp 4] (codeL ET Y F113B (sp 64 [(1, x1), (0, x0)]) H) := by
  rw [callL_eq (F := F113) rfl rfl, st_in2]; rfl
theorem call114 {x0 x1 : AV} (_h : 0 = 0) : callL ET Y 114 [x0, x1] H = endX [.cell 4 (some 2)] (codeL ET Y F114B (sp 40 [(1, x1), (0, x0)]) H) := by
  rw [callL_eq (F := F114) rfl rfl, st_in2]; rfl
theorem call115 {x0 x1 : AV} (_h : 0 = 0) : callL ET Y 115 [x0, x1] H = endX [.tmp 4] (codeL ET Y F115B (sp 23 [(1, x1), (0, x0)]) H) := by
  rw [callL_eq (F := F115) rfl rfl, st_in2]; rfl
theorem call116 {x0 : AV} (_h : 0 = 0) : callL ET Y 116 [x0] H = endX [.tmp 2] (codeL ET Y F116B (sp 14 [(0, x0)]) H) := by
  rw [callL_eq (F := F116) rfl rfl, st_in1]; rfl
theorem call117 {x0 : AV} (_h : 0 = 0) : callL ET Y 117 [x0] H = endX [.tmp 2] (codeL ET Y F117B (sp 14 [(0, x0)]) H) := by
  rw [callL_eq (F := F117) rfl rfl, st_in1]; rfl
theorem in119_0 : codeL ET Y F119L0 fr H = lp ET Y F119L0 (keepA (m 70 3523) fr) H := codeL_in rfl
theorem un119_0 : lp ET Y F119L0 fr H = thenX (codeL ET Y F119L0b (keepA (m 70 3523) fr) H) (again ET Y F119L0 (m 70 3523)) := lp_un rfl
theorem in119_1 : codeL ET Y F119L1 fr H = lp ET Y F119L1 (keepA (m 70 451) fr) H := codeL_in rfl
theorem un119_1 : lp ET Y F119L1 fr H = thenX (codeL ET Y F119L1b (keepA (m 70 451) fr) H) (again ET Y F119L1 (m 70 451)) := lp_un rfl
theorem call119 {x0 x1 : AV} (_h : 0 = 0) : callL ET Y 119 [x0, x1] H = endX [.tmp 4, .tmp 5] (codeL ET Y F119B (sp 70 [(1, x1), (0, x0)]) H) := by
  rw [callL_eq (F := F119) rfl rfl, st_in2]; rfl
theorem in120_0 : codeL ET Y F120L0 fr H = lp ET Y F120L0 (keepA (m 54 227) fr) H := codeL_in rfl
theorem un120_0 : lp ET Y F120L0 fr H = thenX (codeL ET Y F120L0b (keepA (m 54 227) fr) H) (again ET Y F120L0 (m 54 227)) := lp_un rfl
theorem call120 {x0 x1 : AV} (_h : 0 = 0) : callL ET Y 120 [x0, x1] H = endX [.tmp 4] (codeL ET Y F120B (sp 54 [(1, x1), (0, x0)]) H) := by
  rw [callL_eq (F := F120) rfl rfl, st_in2]; rfl
theorem in121_0 : codeL ET Y F121L0 fr H = lp ET Y F121L0 (keepA (m 41 227) fr) H := codeL_in rfl
theorem un121_0 : lp ET Y F121L0 fr H = thenX (codeL ET Y F121L0b (keepA (m 41 227) fr) H) (again ET Y F121L0 (m 41 227)) := lp_un rfl
theorem call121 {x0 x1 : AV} (_h : 0 = 0) : callL ET Y 121 [x0, x1] H = endX [.tmp 4] (codeL ET Y F121B (sp 41 [(1, x1), (0, x0)]) H) := by
  rw [callL_eq (F := F121) rfl rfl, st_in2]; rfl
theorem in122_0 : codeL ET Y F122L0 fr H = lp ET Y F122L0 (keepA (m 41 35) fr) H := codeL_in rfl
theorem un122_0 : lp ET Y F122L0 fr H = thenX (codeL ET Y F122L0b (keepA (m 41 35) fr) H) (again ET Y F122L0 (m 41 35)) := lp_un rfl
theorem call122 {x0 x1 : AV} (_h : 0 = 0) : callL ET Y 122 [x0, x1] H = endX [.tmp 4] (codeL ET Y F122B (sp 41 [(1, x1), (0, x0)]) H) := by
  rw [callL_eq (F := F122) rfl rfl, st_in2]; rfl
theorem call139 {x0 : AV} (_h : 0 = 0) : callL ET Y 139 [x0] H = endX [.tmp 2] (codeL ET Y F139B (sp 5 [(0, x0)]) H) := by
  rw [callL_eq (F := F139) rfl rfl, st_in1]; rfl
theorem call140 {x0 : AV} (_h : 0 = 0) : callL ET Y 140 [x0] H = endX [.tmp 2] (codeL ET Y F140B (sp 5 [(0, x0)]) H) := by
  rw [callL_eq (F := F140) rfl rfl, st_in1]; rfl
theorem call141 {x0 : AV} (_h : 0 = 0) : callL ET Y 141 [x0] H = endX [.tmp 2] (codeL ET Y F141B (sp 5 [(0, x0)]) H) := by
  rw [callL_eq (F := F141) rfl rfl, st_in1]; rfl
theorem call142 {x0 : AV} (_h : 0 = 0) : callL ET Y 142 [x0] H = endX [.tmp 2] (codeL ET Y F142B (sp 3 [(0, x0)]) H) := by
  rw [callL_eq (F := F142) rfl rfl, st_in1]; rfl
theorem call143 {x0 : AV} (_h : 0 = 0) : callL ET Y 143 [x0] H = endX [.tmp 2] (codeL ET Y F143B (sp 4 [(0, x0)]) H) := by
  rw [callL_eq (F := F143) rfl rfl, st_in1]; rfl
theorem call144 {x0 : AV} (_h : 0 = 0) : callL ET Y 144 [x0] H = endX [.tmp 2] (codeL ET Y F144B (sp 4 [(0, x0)]) H) := by
  rw [callL_eq (F := F144) rfl rfl, st_in1]; rfl
end
theorem ET_known : Known Go.Proofs.Tryd.prog ET := by
  refine Known.of (fun f F h hs => ?_) (by kernel_rfl) fun f F h => ?_
  · have hf : f = 106 := by simpa [gstill] using hs
    subst hf; cases h; rfl
  unfold ET at h
  split at h
  · cases h; exact ⟨_, _, _, Go.Proofs.Tryd.func3, by decide, ok3⟩
  · cases h; exact ⟨_, _, _, Go.Proofs.Tryd.func4, by decide, ok4⟩
  · cases h; exact ⟨_, _, _, Go.Proofs.Tryd.func5, by decide, ok5⟩
  · cases h; exact ⟨_, _, _, Go.Proofs.Tryd.func6, by decide, ok6⟩
  · cases h; exact ⟨_, _, _, Go.Proofs.Tryd.func7, by decide, ok7⟩
  · cases h; exact ⟨_, _, _, Go.Proofs.Tryd.func8, by decide, ok8⟩
  · cases h; exact ⟨_, _, _, Go.Proofs.Tryd.func9, by decide, ok9⟩
  · cases h; exact ⟨_, _, _, Go.Proofs.Tryd.func10, by decide, ok10⟩
  · cases h; exact ⟨_, _, _, Go.Proofs.Tryd.func11, by decide, ok11⟩
  · cases h; exact ⟨_, _, _, Go.Proofs.Tryd.func12, by decide, ok12⟩
  · cases h; exact ⟨_, _, _, Go.Proofs.Tryd.func13, by decide, ok13⟩
  · cases h; exact ⟨_, _, _, Go.Proofs.Tryd.func14, by decide, ok14⟩
  · cases h; exact ⟨_, _, _, Go.Proofs.Tryd.func15, by decide, ok15⟩
  · cases h; exact ⟨_, _, _, Go.Proofs.Tryd.func16, by decide, ok16⟩
  · cases h; exact ⟨_, _, _, Go.Proofs.Tryd.func17, by decide, ok17⟩
  · cases h; exact ⟨_, _, _, Go.Proofs.Tryd.func18, by decide, ok18⟩
  · cases h; exact ⟨_, _, _, Go.Proofs.Tryd.func19, by decide, ok19⟩
  · cases h; exact ⟨_, _, _, Go.Proofs.Tryd.func20, by decide, ok20⟩
  · cases h; exact ⟨_, _, _, Go.Proofs.Tryd.func21, by decide, ok21⟩
  · cases h; exact ⟨_, _, _, Go.Proofs.Tryd.func22, by decide, ok22⟩
  · cases h; exact ⟨_, _, _, Go.Proofs.Tryd.func23, by decide, ok23⟩
  · cases h; exact ⟨_, _, _, Go.Proofs.Tryd.func24, by decide, ok24⟩
  · cases h; exact ⟨_, _, _, Go.Proofs.Tryd.func25, by decide, ok25⟩
  · cases h; exact ⟨_, _, _, Go.Proofs.Tryd.func26, by decide, ok26⟩
  · cases h; exact ⟨_, _, _, Go.Proofs.Tryd.func27, by decide, ok27⟩
  · cases h; exact ⟨_, _, _, Go.Proofs.Tryd.func28, by decide, ok28⟩
  · cases h; exact ⟨_, _, _, Go.Proofs.Tryd.func29, by decide, ok29⟩
  · cases h; exact ⟨_, _, _, Go.Proofs.Tryd.func30, by decide, ok30⟩
  · cases h; exact ⟨_, _, _, Go.Proofs.Tryd.func31, by decide, ok31⟩
  · cases h; exact ⟨_, _, _, Go.Proofs.Tryd.func32, by decide, ok32⟩
  · cases h; exact ⟨_, _, _, Go.Proofs.Tryd.func33, by decide, ok33⟩
  · cases h; exact ⟨_, _, _, Go.Proofs.Tryd.func34, by decide, ok34⟩
  · cases h; exact ⟨_, _, _, Go.Proofs.Tryd.func35, by decide, ok35⟩
  · cases h; exact ⟨_, _, _, Go.Proofs.Tryd.func37, by decide, ok37⟩
  · cases h; exact ⟨_, _, _, Go.Proofs.Tryd.func38, by decide, ok38⟩
  · cases h; exact ⟨_, _, _, Go.Proofs.Tryd.func39, by decide, ok39⟩
  · cases h; exact ⟨_, _, _, Go.Proofs.Tryd.func40, by decide, ok40⟩
  · cases h; exact ⟨_, _, _, Go.Proofs.Tryd.func41, by decide, ok41⟩
  · cases h; exact ⟨_, _, _, Go.Proofs.Tryd.func42, by decide, ok42⟩
  · cases h; exact ⟨_, _, _, Go.Proofs.Tryd.func43, by decide, ok43⟩
  · cases h; exact ⟨_, _, _, Go.Proofs.Tryd.func44, by decide, ok44⟩
  · cases h; exact ⟨_, _, _, Go.Proofs.Tryd.func45, by decide, ok45⟩
  · cases h; exact ⟨_, _, _, Go.Proofs.Tryd.func46, by decide, ok46⟩
  · cases h; exact ⟨_, _, _, Go.Proofs.Tryd.func47, by decide, ok47⟩
  · cases h; exact ⟨_, _, _, Go.Proofs.Tryd.func48, by decide, ok48⟩
  · cases h; exact ⟨_, _, _, Go.Proofs.Tryd.func49, by decide, ok49⟩
  · cases h; exact ⟨_, _, _, Go.Proofs.Tryd.func50, by decide, ok50⟩
  · cases h; exact ⟨_, _, _, Go.Proofs.Tryd.func51, by decide, ok51⟩
  · cases h; exact ⟨_, _, _, Go.Proofs.Tryd.func52, by decide, ok52⟩
  · cases h; exact ⟨_, _, _, Go.Proofs.Tryd.func53, by decide, ok53⟩
  · cases h; exact ⟨_, _, _, Go.Proofs.Tryd.func54, by decide, ok54⟩
  · cases h; exact ⟨_, _, _, Go.Proofs.Tryd.func55, by decide, ok55⟩
  · cases h; exact ⟨_, _, _, Go.Proofs.Tryd.func56, by decide, ok56⟩
  · cases h; exact ⟨_, _, _, Go.Proofs.Tryd.func57, by decide, ok57⟩
  · cases h; exact ⟨_, _, _, Go.Proofs.Tryd.func58, by decide, ok58⟩
  · cases h; exact ⟨_, _, _, Go.Proofs.Tryd.func59, by decide, ok59⟩
  · cases h; exact ⟨_, _, _, Go.Proofs.Tryd.func60, by decide, ok60⟩
  · cases h; exact ⟨_, _, _, Go.Proofs.Tryd.func61, by decide, ok61⟩
  · cases h; exact ⟨_, _, _, Go.Proofs.Tryd.func62, by decide, ok62⟩
  · cases h; exact ⟨_, _, _, Go.Proofs.Tryd.func63, by decide, ok63⟩
  · cases h; exact ⟨_, _, _, Go.Proofs.Tryd.func64, by decide, ok64⟩
  · cases h; exact ⟨_, _, _, Go.Proofs.Tryd.func65, by decide, ok65⟩
  · cases h; exact ⟨_, _, _, Go.Proofs.Tryd.func67, by decide, ok67⟩
  · cases h; exact ⟨_, _, _, Go.Proofs.Tryd.func68, by decide, ok68⟩
  · cases h; exact ⟨_, _, _, Go.Proofs.Tryd.func69, by decide, ok69⟩
  · cases h; exact ⟨_, _, _, Go.Proofs.Tryd.func70, by decide, ok70⟩
  · cases h; exact ⟨_, _, _, Go.Proofs.Tryd.func71, by decide, ok71⟩
  · cases h; exact ⟨_, _, _, Go.Proofs.Tryd.func72, by decide, ok72⟩
  · cases h; exact ⟨_, _, _, Go.Proofs.Tryd.func73, by decide, ok73⟩
  · cases h; exact ⟨_, _, _, Go.Proofs.Tryd.func74, by decide, ok74⟩
  · cases h; exact ⟨_, _, _, Go.Proofs.Tryd.func75, by decide, ok75⟩
  · cases h; exact ⟨_, _, _, Go.Proofs.Tryd.func76, by decide, ok76⟩
  · cases h; exact ⟨_, _, _, Go.Proofs.Tryd.func77, by decide, ok77⟩
  · cases h; exact ⟨_, _, _, Go.Proofs.Tryd.func78, by decide, ok78⟩
  · cases h; exact ⟨_, _, _, Go.Proofs.Tryd.func79, by decide, ok79⟩
  · cases h; exact ⟨_, _, _, Go.Proofs.Tryd.func80, by decide, ok80⟩
  · cases h; exact ⟨_, _, _, Go.Proofs.Tryd.func81, by decide, ok81⟩
  · cases h; exact ⟨_, _, _, Go.Proofs.Tryd.func82, by decide, ok82⟩
  · cases h; exact ⟨_, _, _, Go.Proofs.Tryd.func83, by decide, ok83⟩
  · cases h; exact ⟨_, _, _, Go.Proofs.Tryd.func84, by decide, ok84⟩
  · cases h; exact ⟨_, _, _, Go.Proofs.Tryd.func85, by decide, ok85⟩
  · cases h; exact ⟨_, _, _, Go.Proofs.Tryd.func86, by decide, ok86⟩
  · cases h; exact ⟨_, _, _, Go.Proofs.Tryd.func88, by decide, ok88⟩
  · cases h; exact ⟨_, _, _, Go.Proofs.Tryd.func89, by decide, ok89⟩
  · cases h; exact ⟨_, _, _, Go.Proofs.Tryd.func90, by decide, ok90⟩
  · cases h; exact ⟨_, _, _, Go.Proofs.Tryd.func91, by decide, ok91⟩
  · cases h; exact ⟨_, _, _, Go.Proofs.Tryd.func92, by decide, ok92⟩
  · cases h; exact ⟨_, _, _, Go.Proofs.Tryd.func93, by decide, ok93⟩
  · cases h; exact ⟨_, _, _, Go.Proofs.Tryd.func94, by decide, ok94⟩
  · cases h; exact ⟨_, _, _, Go.Proofs.Tryd.func95, by decide, ok95⟩
  · cases h; exact ⟨_, _, _, Go.Proofs.Tryd.func96, by decide, ok96⟩
  · cases h; exact ⟨_, _, _, Go.Proofs.Tryd.func98, by decide, ok98⟩
  · cases h; exact ⟨_, _, _, Go.Proofs.Tryd.func99, by decide, ok99⟩
  · cases h; exact ⟨_, _, _, Go.Proofs.Tryd.func100, by decide, ok100⟩
  · cases h; exact ⟨_, _, _, Go.Proofs.Tryd.func101, by decide, ok101⟩
  · cases h; exact ⟨_, _, _, Go.Proofs.Tryd.func102, by decide, ok102⟩
  · cases h; exact ⟨_, _, _, Go.Proofs.Tryd.func103, by decide, ok103⟩
  · cases h; exact ⟨_, _, _, Go.Proofs.Tryd.func104, by decide, ok104⟩
  · cases h; exact ⟨_, _, _, Go.Proofs.Tryd.func105, by decide, ok105⟩
  · cases h; exact ⟨_, _, _, Go.Proofs.Tryd.func106, by decide, ok106⟩
  · cases h; exact ⟨_, _, _, Go.Proofs.Tryd.func107, by decide, ok107⟩
  · cases h; exact ⟨_, _, _, Go.Proofs.Tryd.func108, by decide, ok108⟩
  · cases h; exact ⟨_, _, _, Go.Proofs.Tryd.func110, by decide, ok110⟩
  · cases h; exact ⟨_, _, _, Go.Proofs.Tryd.func111, by decide, ok111⟩
  · cases h; exact ⟨_, _, _, Go.Proofs.Tryd.func112, by decide, ok112⟩
  · cases h; exact ⟨_, _, _, Go.Proofs.Tryd.func113, by decide, ok113⟩
  · cases h; exact ⟨_, _, _, Go.Proofs.Tryd.func114, by decide, ok114⟩
  · cases h; exact ⟨_, _, _, Go.Proofs.Tryd.func115, by decide, ok115⟩
  · cases h; exact ⟨_, _, _, Go.Proofs.Tryd.func116, by decide, ok116⟩
  · cases h; exact ⟨_, _, _, Go.Proofs.Tryd.func117, by decide, ok117⟩
  · cases h; exact ⟨_, _, _, Go.Proofs.Tryd.func119, by decide, ok119⟩
  · cases h; exact ⟨_, _, _, Go.Proofs.Tryd.func120, by decide, ok120⟩
  · cases h; exact ⟨_, _, _, Go.Proofs.Tryd.func121, by decide, ok121⟩
  · cases h; exact ⟨_, _, _, Go.Proofs.Tryd.func122, by decide, ok122⟩
  · cases h; exact ⟨_, _, _, Go.Proofs.Tryd.func139, by decide, ok139⟩
  · cases h; exact ⟨_, _, _, Go.Proofs.Tryd.func140, by decide, ok140⟩
  · cases h; exact ⟨_, _, _, Go.Proofs.Tryd.func141, by decide, ok141⟩
  · cases h; exact ⟨_, _, _, Go.Proofs.Tryd.func142, by decide, ok142⟩
  · cases h; exact ⟨_, _, _, Go.Proofs.Tryd.func143, by decide, ok143⟩
  · cases h; exact ⟨_, _, _, Go.Proofs.Tryd.func144, by decide, ok144⟩
  · cases h
end Go.X
