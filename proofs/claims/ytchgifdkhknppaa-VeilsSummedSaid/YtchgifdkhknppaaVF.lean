import Derived.Test.YtchgifdkhknppaaXE
import Derived.Test.YtchgifdkhknppaaProg
import Derived.KernelRfl
/-! The functions of the program that are met, as the small machine has them. Printed by a program of our own. -/
namespace Go.X
theorem st_in7 {a0 a1 a2 a3 a4 a5 a6 : AV} {n : Nat} : [a0, a1, a2, a3, a4, a5, a6] ++ List.replicate n .undef = sp (7 + n) [(6, a6), (5, a5), (4, a4), (3, a3), (2, a2), (1, a1), (0, a0)] := by
  apply List.ext_getElem
  · simp [sp]; try omega
  · intro t h1 h2
    rw [st_get]
    match t with
    | 0 => rfl
    | 1 => rfl
    | 2 => rfl
    | 3 => rfl
    | 4 => rfl
    | 5 => rfl
    | 6 => rfl
    | t + 7 => simp [fget]
def F4L0b : XC :=
 .seq (.seq (.reg [⟨none, (some 27), .mov (.t 7)⟩,⟨none, (some 28), .mov (.t 6)⟩,⟨none, (some 29), .len (.t 28)⟩,⟨none, (some 30), .bin .lss (.t 27) (.t 29)⟩]) (.cond (.t 30) (.skip) (.exit 0 (m 68 80)))) (.seq (.block 1 (m 68 208) (.reg [⟨none, (some 33), .mov (.t 6)⟩,⟨none, (some 34), .mov (.t 7)⟩,⟨none, (some 35), .indexA 1 (.t 33) (.t 34)⟩,⟨none, none, .store 1 (.t 35) (.c (.int .i64 (-1)))⟩])) (.reg [⟨none, (some 31), .mov (.t 7)⟩,⟨none, (some 32), .bin .add (.t 31) (.c (.int .i64 (1)))⟩,⟨none, (some 7), .mov (.t 32)⟩]))
def F4L0 : XC := .loop (m 68 208) F4L0b
def F4L1b : XC :=
 .seq (.seq (.reg [⟨none, (some 38), .mov (.t 10)⟩,⟨none, (some 39), .mov (.t 8)⟩,⟨none, (some 40), .len (.t 39)⟩,⟨none, (some 41), .bin .lss (.t 38) (.t 40)⟩]) (.cond (.t 41) (.skip) (.exit 2 (m 68 528)))) (.seq (.block 3 (m 68 1808) (.seq (.reg [⟨none, (some 45), .mov (.t 8)⟩,⟨none, (some 46), .mov (.t 10)⟩,⟨none, (some 47), .indexA 1 (.t 45) (.t 46)⟩,⟨none, (some 48), .load none (.t 47)⟩,⟨none, (some 49), .call 1 22 [.t 48]⟩,⟨none, (some 44), .mov (.t 49)⟩,⟨none, (some 50), .ext (.t 44) 0⟩,⟨none, (some 51), .ext (.t 44) 1⟩,⟨none, (some 11), .mov (.t 50)⟩,⟨none, (some 12), .mov (.t 51)⟩]) (.seq (.seq (.reg [⟨none, (some 52), .mov (.t 12)⟩,⟨none, (some 53), .bin .neq (.t 52) (.c (.int .i64 (0)))⟩,⟨none, (some 54), .mov (.t 53)⟩,⟨(some (54, false)), (some 55), .mov (.t 11)⟩,⟨(some (54, false)), (some 56), .bin .lss (.t 55) (.c (.int .i64 (1)))⟩,⟨none, (some 57), .pick (.t 54) (.c (.bool true)) (.t 56)⟩]) (.cond (.t 57) (.seq (.reg [⟨none, (some 2), .mov (.c (.bool false))⟩]) (.ret (m 68 4))) (.skip))) (.reg [⟨none, (some 58), .mov (.t 9)⟩,⟨none, (some 59), .mov (.t 11)⟩,⟨none, (some 60), .bin .add (.t 58) (.t 59)⟩,⟨none, (some 9), .mov (.t 60)⟩])))) (.reg [⟨none, (some 42), .mov (.t 10)⟩,⟨none, (some 43), .bin .add (.t 42) (.c (.int .i64 (1)))⟩,⟨none, (some 10), .mov (.t 43)⟩]))
def F4L1 : XC := .loop (m 68 1808) F4L1b
def F4T0 : XC :=
 .seq (.reg [⟨none, (some 61), .mov (.t 9)⟩,⟨none, (some 62), .mov (.t 4)⟩,⟨none, (some 63), .len (.t 62)⟩,⟨none, (some 64), .bin .eql (.t 61) (.t 63)⟩,⟨none, (some 65), .mov (.t 64)⟩,⟨(some (65, true)), (some 66), .call 1 20 []⟩,⟨none, (some 67), .pick (.t 65) (.t 66) (.c (.bool false))⟩,⟨none, (some 2), .mov (.t 67)⟩]) (.ret (m 68 4))
def F4T1 : XC :=
 .seq (.reg [⟨none, (some 36), .mov (.t 6)⟩,⟨none, (some 37), .call 0 21 [.t 36, .c (.int .i64 (0)), .c (.nils)]⟩,⟨none, (some 8), .mov (.t 37)⟩]) (.seq (.reg [⟨none, (some 9), .mov (.c (.int .i64 (0)))⟩]) (.seq (.seq (.reg [⟨none, (some 10), .mov (.c (.int .i64 (0)))⟩]) (.block 2 (m 68 528) (F4L1)))
 F4T0))
def F4B : XC :=
 .seq (.reg [⟨none, (some 2), .mov (.c (.bool false))⟩]) (.seq (.reg [⟨none, (some 13), .mov (.t 0)⟩,⟨none, (some 14), .bin .rem (.t 13) (.c (.int .u8 (4)))⟩,⟨none, (some 15), .conv .i64 (.t 14)⟩,⟨none, (some 16), .bin .add (.c (.int .i64 (1))) (.t 15)⟩,⟨none, (some 3), .mov (.t 16)⟩]) (.seq (.reg [⟨none, (some 18), .mov (.t 3)⟩,⟨none, (some 19), .call 2 18 [.t 18]⟩,⟨none, (some 17), .mov (.t 19)⟩,⟨none, (some 20), .ext (.t 17) 0⟩,⟨none, (some 21), .ext (.t 17) 1⟩,⟨none, (some 4), .mov (.t 20)⟩,⟨none, (some 5), .mov (.t 21)⟩]) (.seq (.seq (.reg [⟨none, (some 22), .mov (.t 5)⟩,⟨none, (some 23), .bin .neq (.t 22) (.c (.int .i64 (0)))⟩]) (.cond (.t 23) (.seq (.reg [⟨none, (some 2), .mov (.c (.bool false))⟩]) (.ret (m 68 4))) (.skip))) (.seq (.reg [⟨none, (some 24), .mov (.t 3)⟩,⟨none, (some 25), .bin .mul (.c (.int .i64 (2))) (.t 24)⟩,⟨none, (some 26), .mks 1 8 [.int .i64 (0)] (.t 25) (.t 25)⟩,⟨none, (some 6), .mov (.t 26)⟩]) (.seq (.seq (.reg [⟨none, (some 7), .mov (.c (.int .i64 (0)))⟩]) (.block 0 (m 68 80) (F4L0)))
 F4T1)))))
def F4 : XF := ⟨1, 68, [.tmp 2], F4B⟩
def M4 : List (List Bool) := [(m 68 4), (m 68 80), (m 68 208), (m 68 80), (m 68 208), (m 68 528), (m 68 1808), (m 68 528), (m 68 1808), (m 68 4), (m 68 4)]
def F7B : XC :=
 .seq (.reg [⟨none, (some 4), .mov (.c (.bool false))⟩]) (.seq (.seq (.reg [⟨none, (some 11), .mov (.t 0)⟩,⟨none, (some 12), .bslice 1 1 [.nils] [(0, 1, .t 11)]⟩,⟨none, (some 13), .call 1 23 [.t 12]⟩,⟨none, (some 14), .un .not (.t 13)⟩,⟨none, (some 15), .mov (.t 14)⟩,⟨(some (15, false)), (some 16), .mov (.t 1)⟩,⟨(some (15, false)), (some 17), .len (.t 16)⟩,⟨(some (15, false)), (some 18), .bin .gtr (.t 17) (.c (.int .i64 (40)))⟩,⟨none, (some 19), .pick (.t 15) (.c (.bool true)) (.t 18)⟩]) (.cond (.t 19) (.seq (.reg [⟨none, (some 20), .call 1 20 []⟩,⟨none, (some 4), .mov (.t 20)⟩]) (.ret (m 61 16))) (.skip))) (.seq (.reg [⟨none, (some 22), .mov (.t 0)⟩,⟨none, (some 23), .call 1 34 [.t 22]⟩,⟨none, (some 21), .mov (.t 23)⟩,⟨none, (some 24), .ext (.t 21) 0⟩,⟨none, (some 25), .ext (.t 21) 1⟩,⟨none, (some 5), .mov (.t 24)⟩,⟨none, (some 6), .mov (.t 25)⟩]) (.seq (.reg [⟨none, (some 27), .mov (.t 0)⟩,⟨none, (some 28), .call 1 35 [.t 27]⟩,⟨none, (some 26), .mov (.t 28)⟩,⟨none, (some 29), .ext (.t 26) 0⟩,⟨none, (some 30), .ext (.t 26) 1⟩,⟨none, (some 7), .mov (.t 29)⟩,⟨none, (some 8), .mov (.t 30)⟩]) (.seq (.seq (.reg [⟨none, (some 31), .mov (.t 5)⟩,⟨none, (some 32), .mov (.t 7)⟩,⟨none, (some 33), .call 1 36 [.t 31, .t 32]⟩,⟨none, (some 34), .un .not (.t 33)⟩,⟨none, (some 35), .mov (.t 34)⟩,⟨(some (35, false)), (some 36), .mov (.t 6)⟩,⟨(some (35, false)), (some 37), .mov (.t 8)⟩,⟨(some (35, false)), (some 38), .bin .neq (.t 36) (.t 37)⟩,⟨none, (some 39), .pick (.t 35) (.c (.bool true)) (.t 38)⟩]) (.cond (.t 39) (.seq (.reg [⟨none, (some 4), .mov (.c (.bool false))⟩]) (.ret (m 61 16))) (.skip))) (.seq (.reg [⟨none, (some 41), .mov (.t 1)⟩,⟨none, (some 42), .call 1 22 [.t 41]⟩,⟨none, (some 40), .mov (.t 42)⟩,⟨none, (some 43), .ext (.t 40) 0⟩,⟨none, (some 44), .ext (.t 40) 1⟩,⟨none, (some 9), .mov (.t 43)⟩,⟨none, (some 6), .mov (.t 44)⟩]) (.seq (.reg [⟨none, (some 46), .mov (.t 1)⟩,⟨none, (some 47), .call 1 37 [.t 46]⟩,⟨none, (some 45), .mov (.t 47)⟩,⟨none, (some 48), .ext (.t 45) 0⟩,⟨none, (some 49), .ext (.t 45) 1⟩,⟨none, (some 10), .mov (.t 48)⟩,⟨none, (some 8), .mov (.t 49)⟩]) (.seq (.reg [⟨none, (some 50), .mov (.t 9)⟩,⟨none, (some 51), .mov (.t 10)⟩,⟨none, (some 52), .bin .eql (.t 50) (.t 51)⟩,⟨none, (some 53), .mov (.t 52)⟩,⟨(some (53, true)), (some 54), .mov (.t 6)⟩,⟨(some (53, true)), (some 55), .mov (.t 8)⟩,⟨(some (53, true)), (some 56), .bin .eql (.t 54) (.t 55)⟩,⟨none, (some 57), .pick (.t 53) (.t 56) (.c (.bool false))⟩,⟨none, (some 58), .mov (.t 57)⟩,⟨(some (58, true)), (some 59), .call 1 20 []⟩,⟨none, (some 60), .pick (.t 58) (.t 59) (.c (.bool false))⟩,⟨none, (some 4), .mov (.t 60)⟩]) (.ret (m 61 16)))))))))
def F7 : XF := ⟨2, 61, [.tmp 4], F7B⟩
def M7 : List (List Bool) := [(m 61 16), (m 61 16), (m 61 16)]
def F8B : XC :=
 .seq (.reg [⟨none, (some 4), .mov (.c (.bool false))⟩]) (.seq (.seq (.reg [⟨none, (some 10), .mov (.t 0)⟩,⟨none, (some 11), .bslice 1 1 [.nils] [(0, 1, .t 10)]⟩,⟨none, (some 12), .call 1 23 [.t 11]⟩,⟨none, (some 13), .un .not (.t 12)⟩,⟨none, (some 14), .mov (.t 13)⟩,⟨(some (14, false)), (some 15), .mov (.t 1)⟩,⟨(some (14, false)), (some 16), .len (.t 15)⟩,⟨(some (14, false)), (some 17), .bin .gtr (.t 16) (.c (.int .i64 (40)))⟩,⟨none, (some 18), .pick (.t 14) (.c (.bool true)) (.t 17)⟩]) (.cond (.t 18) (.seq (.reg [⟨none, (some 19), .call 1 20 []⟩,⟨none, (some 4), .mov (.t 19)⟩]) (.ret (m 82 16))) (.skip))) (.seq (.seq (.reg [⟨none, (some 20), .mov (.t 0)⟩,⟨none, (some 21), .call 1 26 [.t 20]⟩]) (.cond (.t 21) (.seq (.reg [⟨none, (some 23), .mov (.t 0)⟩,⟨none, (some 24), .call 1 34 [.t 23]⟩,⟨none, (some 22), .mov (.t 24)⟩,⟨none, (some 25), .ext (.t 22) 0⟩,⟨none, (some 26), .ext (.t 22) 1⟩,⟨none, (some 5), .mov (.t 25)⟩,⟨none, (some 6), .mov (.t 26)⟩]) (.seq (.seq (.reg [⟨none, (some 27), .mov (.t 6)⟩,⟨none, (some 28), .bin .neq (.t 27) (.c (.int .i64 (0)))⟩,⟨none, (some 29), .mov (.t 28)⟩,⟨(some (29, false)), (some 30), .mov (.t 5)⟩,⟨(some (29, false)), (some 31), .len (.t 30)⟩,⟨(some (29, false)), (some 32), .mov (.t 0)⟩,⟨(some (29, false)), (some 33), .len (.t 32)⟩,⟨(some (29, false)), (some 34), .bin .mul (.c (.int .i64 (2))) (.t 33)⟩,⟨(some (29, false)), (some 35), .bin .neq (.t 31) (.t 34)⟩,⟨none, (some 36), .pick (.t 29) (.c (.bool true)) (.t 35)⟩,⟨none, (some 37), .mov (.t 36)⟩,⟨(some (37, false)), (some 38), .mov (.t 5)⟩,⟨(some (37, false)), (some 39), .call 1 38 [.t 38]⟩,⟨(some (37, false)), (some 40), .un .not (.t 39)⟩,⟨none, (some 41), .pick (.t 37) (.c (.bool true)) (.t 40)⟩,⟨none, (some 42), .mov (.t 41)⟩,⟨(some (42, false)), (some 43), .mov (.t 5)⟩,⟨(some (42, false)), (some 44), .call 1 39 [.t 43]⟩,⟨none, (some 45), .pick (.t 42) (.c (.bool true)) (.t 44)⟩]) (.cond (.t 45) (.seq (.reg [⟨none, (some 4), .mov (.c (.bool false))⟩]) (.ret (m 82 16))) (.skip))) (.seq (.reg [⟨none, (some 47), .mov (.t 5)⟩,⟨none, (some 48), .call 1 22 [.t 47]⟩,⟨none, (some 46), .mov (.t 48)⟩,⟨none, (some 49), .ext (.t 46) 0⟩,⟨none, (some 50), .ext (.t 46) 1⟩,⟨none, (some 7), .mov (.t 49)⟩,⟨none, (some 6), .mov (.t 50)⟩]) (.seq (.reg [⟨none, (some 51), .mov (.t 6)⟩,⟨none, (some 52), .bin .neq (.t 51) (.c (.int .i64 (0)))⟩,⟨none, (some 53), .mov (.t 52)⟩,⟨(some (53, false)), (some 54), .mov (.t 7)⟩,⟨(some (53, false)), (some 55), .bin .lss (.t 54) (.c (.int .i64 (1)))⟩,⟨none, (some 56), .pick (.t 53) (.c (.bool true)) (.t 55)⟩]) (.cond (.t 56) (.seq (.reg [⟨none, (some 4), .mov (.c (.bool false))⟩]) (.ret (m 82 16))) (.skip)))))) (.skip))) (.seq (.seq (.reg [⟨none, (some 57), .mov (.t 1)⟩,⟨none, (some 58), .call 1 38 [.t 57]⟩,⟨none, (some 59), .un .not (.t 58)⟩]) (.cond (.t 59) (.seq (.reg [⟨none, (some 60), .call 1 20 []⟩,⟨none, (some 4), .mov (.t 60)⟩]) (.ret (m 82 16))) (.skip))) (.seq (.reg [⟨none, (some 62), .mov (.t 1)⟩,⟨none, (some 63), .call 1 22 [.t 62]⟩,⟨none, (some 61), .mov (.t 63)⟩,⟨none, (some 64), .ext (.t 61) 0⟩,⟨none, (some 65), .ext (.t 61) 1⟩,⟨none, (some 8), .mov (.t 64)⟩,⟨none, (some 9), .mov (.t 65)⟩]) (.seq (.reg [⟨none, (some 66), .mov (.t 9)⟩,⟨none, (some 67), .bin .eql (.t 66) (.c (.int .i64 (0)))⟩,⟨none, (some 68), .mov (.t 67)⟩,⟨(some (68, true)), (some 69), .mov (.t 8)⟩,⟨(some (68, true)), (some 70), .bin .eql (.t 69) (.c (.int .i64 (0)))⟩,⟨(some (68, true)), (some 71), .mov (.t 1)⟩,⟨(some (68, true)), (some 72), .call 1 39 [.t 71]⟩,⟨(some (68, true)), (some 73), .eqb false (.t 70) (.t 72)⟩,⟨none, (some 74), .pick (.t 68) (.t 73) (.c (.bool false))⟩,⟨none, (some 75), .mov (.t 74)⟩,⟨(some (75, true)), (some 76), .mov (.t 8)⟩,⟨(some (75, true)), (some 77), .bin .geq (.t 76) (.c (.int .i64 (0)))⟩,⟨none, (some 78), .pick (.t 75) (.t 77) (.c (.bool false))⟩,⟨none, (some 79), .mov (.t 78)⟩,⟨(some (79, true)), (some 80), .call 1 20 []⟩,⟨none, (some 81), .pick (.t 79) (.t 80) (.c (.bool false))⟩,⟨none, (some 4), .mov (.t 81)⟩]) (.ret (m 82 16)))))))
def F8 : XF := ⟨2, 82, [.tmp 4], F8B⟩
def M8 : List (List Bool) := [(m 82 16), (m 82 16), (m 82 16), (m 82 16), (m 82 16)]
def F14B : XC :=
 .seq (.reg [⟨none, (some 4), .mov (.c (.bool false))⟩]) (.seq (.seq (.reg [⟨none, (some 14), .mov (.t 0)⟩,⟨none, (some 15), .bslice 1 1 [.nils] [(0, 1, .t 14)]⟩,⟨none, (some 16), .call 1 23 [.t 15]⟩,⟨none, (some 17), .un .not (.t 16)⟩,⟨none, (some 18), .mov (.t 17)⟩,⟨(some (18, false)), (some 19), .mov (.t 1)⟩,⟨(some (18, false)), (some 20), .len (.t 19)⟩,⟨(some (18, false)), (some 21), .bin .gtr (.t 20) (.c (.int .i64 (40)))⟩,⟨none, (some 22), .pick (.t 18) (.c (.bool true)) (.t 21)⟩]) (.cond (.t 22) (.seq (.reg [⟨none, (some 23), .call 1 20 []⟩,⟨none, (some 4), .mov (.t 23)⟩]) (.ret (m 103 16))) (.skip))) (.seq (.seq (.reg [⟨none, (some 24), .mov (.t 0)⟩,⟨none, (some 25), .call 1 26 [.t 24]⟩]) (.cond (.t 25) (.seq (.reg [⟨none, (some 27), .mov (.t 0)⟩,⟨none, (some 28), .call 1 47 [.t 27]⟩,⟨none, (some 26), .mov (.t 28)⟩,⟨none, (some 29), .ext (.t 26) 0⟩,⟨none, (some 30), .ext (.t 26) 1⟩,⟨none, (some 5), .mov (.t 29)⟩,⟨none, (some 6), .mov (.t 30)⟩]) (.seq (.reg [⟨none, (some 32), .mov (.t 0)⟩,⟨none, (some 33), .call 1 34 [.t 32]⟩,⟨none, (some 31), .mov (.t 33)⟩,⟨none, (some 34), .ext (.t 31) 0⟩,⟨none, (some 35), .ext (.t 31) 1⟩,⟨none, (some 7), .mov (.t 34)⟩,⟨none, (some 8), .mov (.t 35)⟩]) (.seq (.seq (.reg [⟨none, (some 36), .mov (.t 6)⟩,⟨none, (some 37), .bin .neq (.t 36) (.c (.int .i64 (0)))⟩,⟨none, (some 38), .mov (.t 37)⟩,⟨(some (38, false)), (some 39), .mov (.t 8)⟩,⟨(some (38, false)), (some 40), .bin .neq (.t 39) (.c (.int .i64 (0)))⟩,⟨none, (some 41), .pick (.t 38) (.c (.bool true)) (.t 40)⟩,⟨none, (some 42), .mov (.t 41)⟩,⟨(some (42, false)), (some 43), .mov (.t 5)⟩,⟨(some (42, false)), (some 44), .call 1 26 [.t 43]⟩,⟨(some (42, false)), (some 45), .un .not (.t 44)⟩,⟨none, (some 46), .pick (.t 42) (.c (.bool true)) (.t 45)⟩,⟨none, (some 47), .mov (.t 46)⟩,⟨(some (47, false)), (some 48), .mov (.t 7)⟩,⟨(some (47, false)), (some 49), .len (.t 48)⟩,⟨(some (47, false)), (some 50), .mov (.t 0)⟩,⟨(some (47, false)), (some 51), .len (.t 50)⟩,⟨(some (47, false)), (some 52), .bin .mul (.c (.int .i64 (2))) (.t 51)⟩,⟨(some (47, false)), (some 53), .bin .neq (.t 49) (.t 52)⟩,⟨none, (some 54), .pick (.t 47) (.c (.bool true)) (.t 53)⟩,⟨none, (some 55), .mov (.t 54)⟩,⟨(some (55, false)), (some 56), .mov (.t 7)⟩,⟨(some (55, false)), (some 57), .call 1 38 [.t 56]⟩,⟨(some (55, false)), (some 58), .un .not (.t 57)⟩,⟨none, (some 59), .pick (.t 55) (.c (.bool true)) (.t 58)⟩]) (.cond (.t 59) (.seq (.reg [⟨none, (some 4), .mov (.c (.bool false))⟩]) (.ret (m 103 16))) (.skip))) (.seq (.reg [⟨none, (some 61), .mov (.t 5)⟩,⟨none, (some 62), .call 1 34 [.t 61]⟩,⟨none, (some 60), .mov (.t 62)⟩,⟨none, (some 63), .ext (.t 60) 0⟩,⟨none, (some 64), .ext (.t 60) 1⟩,⟨none, (some 9), .mov (.t 63)⟩,⟨none, (some 6), .mov (.t 64)⟩]) (.seq (.reg [⟨none, (some 65), .mov (.t 6)⟩,⟨none, (some 66), .bin .neq (.t 65) (.c (.int .i64 (0)))⟩,⟨none, (some 67), .mov (.t 66)⟩,⟨(some (67, false)), (some 68), .mov (.t 9)⟩,⟨(some (67, false)), (some 69), .mov (.t 7)⟩,⟨(some (67, false)), (some 70), .call 1 48 [.t 69]⟩,⟨(some (67, false)), (some 71), .call 1 36 [.t 68, .t 70]⟩,⟨(some (67, false)), (some 72), .un .not (.t 71)⟩,⟨none, (some 73), .pick (.t 67) (.c (.bool true)) (.t 72)⟩]) (.cond (.t 73) (.seq (.reg [⟨none, (some 4), .mov (.c (.bool false))⟩]) (.ret (m 103 16))) (.skip))))))) (.skip))) (.seq (.seq (.reg [⟨none, (some 74), .mov (.t 1)⟩,⟨none, (some 75), .call 1 38 [.t 74]⟩,⟨none, (some 76), .un .not (.t 75)⟩]) (.cond (.t 76) (.seq (.reg [⟨none, (some 77), .call 1 20 []⟩,⟨none, (some 4), .mov (.t 77)⟩]) (.ret (m 103 16))) (.skip))) (.seq (.reg [⟨none, (some 79), .mov (.t 1)⟩,⟨none, (some 80), .call 1 22 [.t 79]⟩,⟨none, (some 78), .mov (.t 80)⟩,⟨none, (some 81), .ext (.t 78) 0⟩,⟨none, (some 82), .ext (.t 78) 1⟩,⟨none, (some 10), .mov (.t 81)⟩,⟨none, (some 11), .mov (.t 82)⟩]) (.seq (.reg [⟨none, (some 84), .mov (.t 1)⟩,⟨none, (some 85), .call 1 48 [.t 84]⟩,⟨none, (some 86), .call 1 22 [.t 85]⟩,⟨none, (some 83), .mov (.t 86)⟩,⟨none, (some 87), .ext (.t 83) 0⟩,⟨none, (some 88), .ext (.t 83) 1⟩,⟨none, (some 12), .mov (.t 87)⟩,⟨none, (some 13), .mov (.t 88)⟩]) (.seq (.reg [⟨none, (some 89), .mov (.t 11)⟩,⟨none, (some 90), .bin .eql (.t 89) (.c (.int .i64 (0)))⟩,⟨none, (some 91), .mov (.t 90)⟩,⟨(some (91, true)), (some 92), .mov (.t 13)⟩,⟨(some (91, true)), (some 93), .bin .eql (.t 92) (.c (.int .i64 (0)))⟩,⟨none, (some 94), .pick (.t 91) (.t 93) (.c (.bool false))⟩,⟨none, (some 95), .mov (.t 94)⟩,⟨(some (95, true)), (some 96), .mov (.t 10)⟩,⟨(some (95, true)), (some 97), .mov (.t 12)⟩,⟨(some (95, true)), (some 98), .bin .eql (.t 96) (.t 97)⟩,⟨none, (some 99), .pick (.t 95) (.t 98) (.c (.bool false))⟩,⟨none, (some 100), .mov (.t 99)⟩,⟨(some (100, true)), (some 101), .call 1 20 []⟩,⟨none, (some 102), .pick (.t 100) (.t 101) (.c (.bool false))⟩,⟨none, (some 4), .mov (.t 102)⟩]) (.ret (m 103 16))))))))
def F14 : XF := ⟨2, 103, [.tmp 4], F14B⟩
def M14 : List (List Bool) := [(m 103 16), (m 103 16), (m 103 16), (m 103 16), (m 103 16)]
def F17B : XC :=
 .seq (.reg [⟨none, (some 2), .mov (.c (.nils))⟩,⟨none, (some 3), .mov (.c (.int .i64 (0)))⟩]) (.seq (.seq (.reg [⟨none, (some 4), .mov (.t 0)⟩,⟨none, (some 5), .bin .lss (.t 4) (.c (.int .i64 (1)))⟩,⟨none, (some 6), .mov (.t 5)⟩,⟨(some (6, false)), (some 7), .mov (.t 0)⟩,⟨(some (6, false)), (some 8), .bin .gtr (.t 7) (.c (.int .i64 (5)))⟩,⟨none, (some 9), .pick (.t 6) (.c (.bool true)) (.t 8)⟩]) (.cond (.t 9) (.seq (.reg [⟨none, (some 2), .mov (.c (.nils))⟩,⟨none, (some 3), .mov (.c (.int .i64 (2)))⟩]) (.ret (m 13 12))) (.skip))) (.seq (.reg [⟨none, (some 10), .mov (.t 0)⟩,⟨none, (some 11), .call 2 54 [.t 10]⟩,⟨none, (some 12), .call 0 53 [.t 11, .c (.int .i64 (0)), .c (.nils)]⟩,⟨none, (some 2), .mov (.t 12)⟩,⟨none, (some 3), .mov (.c (.int .i64 (0)))⟩]) (.ret (m 13 12))))
def F17 : XF := ⟨1, 13, [.tmp 2, .tmp 3], F17B⟩
def M17 : List (List Bool) := [(m 13 12), (m 13 12)]
def F18B : XC :=
 .seq (.reg [⟨none, (some 2), .mov (.c (.nils))⟩,⟨none, (some 3), .mov (.c (.int .i64 (0)))⟩]) (.seq (.seq (.reg [⟨none, (some 5), .mov (.t 0)⟩,⟨none, (some 6), .bin .lss (.t 5) (.c (.int .i64 (1)))⟩,⟨none, (some 7), .mov (.t 6)⟩,⟨(some (7, false)), (some 8), .mov (.t 0)⟩,⟨(some (7, false)), (some 9), .bin .gtr (.t 8) (.c (.int .i64 (5)))⟩,⟨none, (some 10), .pick (.t 7) (.c (.bool true)) (.t 9)⟩]) (.cond (.t 10) (.seq (.reg [⟨none, (some 2), .mov (.c (.nils))⟩,⟨none, (some 3), .mov (.c (.int .i64 (2)))⟩]) (.ret (m 15 12))) (.skip))) (.seq (.reg [⟨none, (some 4), .alloc [.nils]⟩]) (.seq (.reg [⟨none, (some 11), .mov (.t 0)⟩,⟨none, (some 12), .mkf 56 [.t 4]⟩,⟨none, (some 13), .call 0 55 [.t 11, .t 12]⟩]) (.seq (.reg [⟨none, (some 14), .load none (.t 4)⟩,⟨none, (some 2), .mov (.t 14)⟩,⟨none, (some 3), .mov (.c (.int .i64 (0)))⟩]) (.ret (m 15 12))))))
def F18 : XF := ⟨1, 15, [.tmp 2, .tmp 3], F18B⟩
def M18 : List (List Bool) := [(m 15 12), (m 15 12)]
def F19L0b : XC :=
 .seq (.seq (.reg [⟨none, (some 29), .mov (.t 6)⟩,⟨none, (some 30), .mov (.t 0)⟩,⟨none, (some 31), .mov (.t 5)⟩,⟨none, (some 32), .indexA 1 (.t 30) (.t 31)⟩,⟨none, (some 33), .load none (.t 32)⟩,⟨none, (some 34), .len (.t 33)⟩,⟨none, (some 35), .bin .lss (.t 29) (.t 34)⟩]) (.cond (.t 35) (.skip) (.exit 2 (m 53 35)))) (.seq (.block 3 (m 53 99) (.seq (.reg [⟨none, (some 38), .mov (.t 0)⟩,⟨none, (some 39), .mov (.t 5)⟩,⟨none, (some 40), .indexA 1 (.t 38) (.t 39)⟩,⟨none, (some 41), .load none (.t 40)⟩,⟨none, (some 42), .mov (.t 6)⟩,⟨none, (some 43), .indexA 1 (.t 41) (.t 42)⟩,⟨none, (some 44), .load none (.t 43)⟩,⟨none, (some 45), .mov (.t 1)⟩,⟨none, (some 46), .mov (.t 5)⟩,⟨none, (some 47), .indexA 1 (.t 45) (.t 46)⟩,⟨none, (some 48), .load none (.t 47)⟩,⟨none, (some 49), .mov (.t 6)⟩,⟨none, (some 50), .indexA 1 (.t 48) (.t 49)⟩,⟨none, (some 51), .load none (.t 50)⟩,⟨none, (some 52), .bin .neq (.t 44) (.t 51)⟩]) (.cond (.t 52) (.seq (.reg [⟨none, (some 4), .mov (.c (.bool false))⟩]) (.ret (m 53 16))) (.skip)))) (.reg [⟨none, (some 36), .mov (.t 6)⟩,⟨none, (some 37), .bin .add (.t 36) (.c (.int .i64 (1)))⟩,⟨none, (some 6), .mov (.t 37)⟩]))
def F19L0 : XC := .loop (m 53 99) F19L0b
def F19T0 : XC :=
 .reg [⟨none, (some 16), .mov (.t 5)⟩,⟨none, (some 17), .bin .add (.t 16) (.c (.int .i64 (1)))⟩,⟨none, (some 5), .mov (.t 17)⟩]
def F19L1b : XC :=
 .seq (.seq (.reg [⟨none, (some 12), .mov (.t 5)⟩,⟨none, (some 13), .mov (.t 0)⟩,⟨none, (some 14), .len (.t 13)⟩,⟨none, (some 15), .bin .lss (.t 12) (.t 14)⟩]) (.cond (.t 15) (.skip) (.exit 0 (m 53 0)))) (.seq (.block 1 (m 53 35) (.seq (.seq (.reg [⟨none, (some 18), .mov (.t 0)⟩,⟨none, (some 19), .mov (.t 5)⟩,⟨none, (some 20), .indexA 1 (.t 18) (.t 19)⟩,⟨none, (some 21), .load none (.t 20)⟩,⟨none, (some 22), .len (.t 21)⟩,⟨none, (some 23), .mov (.t 1)⟩,⟨none, (some 24), .mov (.t 5)⟩,⟨none, (some 25), .indexA 1 (.t 23) (.t 24)⟩,⟨none, (some 26), .load none (.t 25)⟩,⟨none, (some 27), .len (.t 26)⟩,⟨none, (some 28), .bin .neq (.t 22) (.t 27)⟩]) (.cond (.t 28) (.seq (.reg [⟨none, (some 4), .mov (.c (.bool false))⟩]) (.ret (m 53 16))) (.skip))) (.seq (.reg [⟨none, (some 6), .mov (.c (.int .i64 (0)))⟩]) (.block 2 (m 53 35) (F19L0)))))
 F19T0)
def F19L1 : XC := .loop (m 53 35) F19L1b
def F19T1 : XC :=
 .seq (.reg [⟨none, (some 4), .mov (.c (.bool true))⟩]) (.ret (m 53 16))
def F19B : XC :=
 .seq (.reg [⟨none, (some 4), .mov (.c (.bool false))⟩]) (.seq (.seq (.reg [⟨none, (some 7), .mov (.t 0)⟩,⟨none, (some 8), .len (.t 7)⟩,⟨none, (some 9), .mov (.t 1)⟩,⟨none, (some 10), .len (.t 9)⟩,⟨none, (some 11), .bin .neq (.t 8) (.t 10)⟩]) (.cond (.t 11) (.seq (.reg [⟨none, (some 4), .mov (.c (.bool false))⟩]) (.ret (m 53 16))) (.skip))) (.seq (.seq (.reg [⟨none, (some 5), .mov (.c (.int .i64 (0)))⟩]) (.block 0 (m 53 0) (F19L1)))
 F19T1))
def F19 : XF := ⟨2, 53, [.tmp 4], F19B⟩
def M19 : List (List Bool) := [(m 53 16), (m 53 0), (m 53 35), (m 53 0), (m 53 35), (m 53 16), (m 53 35), (m 53 99), (m 53 35), (m 53 99), (m 53 16), (m 53 16)]
def F20B : XC :=
 .seq (.reg [⟨none, (some 0), .mov (.c (.bool false))⟩]) (.seq (.reg [⟨none, (some 13), .call 1 58 []⟩,⟨none, (some 14), .call 1 27 [.t 13]⟩,⟨none, (some 12), .mov (.t 14)⟩,⟨none, (some 15), .ext (.t 12) 0⟩,⟨none, (some 16), .ext (.t 12) 1⟩,⟨none, (some 1), .mov (.t 15)⟩,⟨none, (some 2), .mov (.t 16)⟩]) (.seq (.reg [⟨none, (some 18), .call 1 58 []⟩,⟨none, (some 19), .call 1 29 [.t 18]⟩,⟨none, (some 17), .mov (.t 19)⟩,⟨none, (some 20), .ext (.t 17) 0⟩,⟨none, (some 21), .ext (.t 17) 1⟩,⟨none, (some 3), .mov (.t 20)⟩,⟨none, (some 4), .mov (.t 21)⟩]) (.seq (.reg [⟨none, (some 23), .call 1 58 []⟩,⟨none, (some 24), .call 1 31 [.t 23]⟩,⟨none, (some 22), .mov (.t 24)⟩,⟨none, (some 25), .ext (.t 22) 0⟩,⟨none, (some 26), .ext (.t 22) 1⟩,⟨none, (some 27), .ext (.t 22) 2⟩,⟨none, (some 5), .mov (.t 25)⟩,⟨none, (some 6), .mov (.t 26)⟩,⟨none, (some 7), .mov (.t 27)⟩]) (.seq (.reg [⟨none, (some 29), .bslice 1 6 [.int .i64 (0)] [(0, 1, .c (.int .i64 (1))), (1, 1, .c (.int .i64 (0))), (2, 1, .c (.int .i64 (3))), (3, 1, .c (.int .i64 (2))), (4, 1, .c (.int .i64 (5))), (5, 1, .c (.int .i64 (4)))]⟩,⟨none, (some 30), .call 1 22 [.t 29]⟩,⟨none, (some 28), .mov (.t 30)⟩,⟨none, (some 31), .ext (.t 28) 0⟩,⟨none, (some 32), .ext (.t 28) 1⟩,⟨none, (some 8), .mov (.t 31)⟩,⟨none, (some 9), .mov (.t 32)⟩]) (.seq (.reg [⟨none, (some 34), .call 2 18 [.c (.int .i64 (2))]⟩,⟨none, (some 33), .mov (.t 34)⟩,⟨none, (some 35), .ext (.t 33) 0⟩,⟨none, (some 36), .ext (.t 33) 1⟩,⟨none, (some 10), .mov (.t 35)⟩,⟨none, (some 11), .mov (.t 36)⟩]) (.seq (.reg [⟨none, (some 37), .mov (.t 2)⟩,⟨none, (some 38), .bin .eql (.t 37) (.c (.int .i64 (0)))⟩,⟨none, (some 39), .mov (.t 38)⟩,⟨(some (39, true)), (some 40), .mov (.t 1)⟩,⟨(some (39, true)), (some 41), .bslice 1 4 [.int .i64 (0)] [(0, 1, .c (.int .i64 (0))), (1, 1, .c (.int .i64 (1))), (2, 1, .c (.int .i64 (2))), (3, 1, .c (.int .i64 (3)))]⟩,⟨(some (39, true)), (some 42), .bslice 1 4 [.int .i64 (0)] [(0, 1, .c (.int .i64 (1))), (1, 1, .c (.int .i64 (2))), (2, 1, .c (.int .i64 (1))), (3, 1, .c (.int .i64 (2)))]⟩,⟨(some (39, true)), (some 43), .bslice 1 4 [.int .i64 (0)] [(0, 1, .c (.int .i64 (2))), (1, 1, .c (.int .i64 (1))), (2, 1, .c (.int .i64 (2))), (3, 1, .c (.int .i64 (1)))]⟩,⟨(some (39, true)), (some 44), .bslice 1 4 [.int .i64 (0)] [(0, 1, .c (.int .i64 (3))), (1, 1, .c (.int .i64 (2))), (2, 1, .c (.int .i64 (1))), (3, 1, .c (.int .i64 (0)))]⟩,⟨(some (39, true)), (some 45), .bslice 1 4 [.nils] [(0, 1, .t 41), (1, 1, .t 42), (2, 1, .t 43), (3, 1, .t 44)]⟩,⟨(some (39, true)), (some 46), .call 1 19 [.t 40, .t 45]⟩,⟨none, (some 47), .pick (.t 39) (.t 46) (.c (.bool false))⟩,⟨none, (some 48), .mov (.t 47)⟩,⟨(some (48, true)), (some 49), .mov (.t 4)⟩,⟨(some (48, true)), (some 50), .bin .eql (.t 49) (.c (.int .i64 (0)))⟩,⟨none, (some 51), .pick (.t 48) (.t 50) (.c (.bool false))⟩,⟨none, (some 52), .mov (.t 51)⟩,⟨(some (52, true)), (some 53), .mov (.t 3)⟩,⟨(some (52, true)), (some 54), .bslice 1 1 [.int .i64 (0)] [(0, 1, .c (.int .i64 (2)))]⟩,⟨(some (52, true)), (some 55), .bslice 1 2 [.int .i64 (0)] [(0, 1, .c (.int .i64 (1))), (1, 1, .c (.int .i64 (3)))]⟩,⟨(some (52, true)), (some 56), .bslice 1 3 [.int .i64 (0)] [(0, 1, .c (.int .i64 (1))), (1, 1, .c (.int .i64 (2))), (2, 1, .c (.int .i64 (3)))]⟩,⟨(some (52, true)), (some 57), .bslice 1 3 [.nils] [(0, 1, .t 54), (1, 1, .t 55), (2, 1, .t 56)]⟩,⟨(some (52, true)), (some 58), .call 1 19 [.t 53, .t 57]⟩,⟨none, (some 59), .pick (.t 52) (.t 58) (.c (.bool false))⟩,⟨none, (some 60), .mov (.t 59)⟩,⟨(some (60, true)), (some 61), .mov (.t 7)⟩,⟨(some (60, true)), (some 62), .bin .eql (.t 61) (.c (.int .i64 (0)))⟩,⟨none, (some 63), .pick (.t 60) (.t 62) (.c (.bool false))⟩,⟨none, (some 64), .mov (.t 63)⟩,⟨(some (64, true)), (some 65), .mov (.t 5)⟩,⟨(some (64, true)), (some 66), .bin .eql (.t 65) (.c (.int .i64 (1)))⟩,⟨none, (some 67), .pick (.t 64) (.t 66) (.c (.bool false))⟩,⟨none, (some 68), .mov (.t 67)⟩,⟨(some (68, true)), (some 69), .mov (.t 6)⟩,⟨(some (68, true)), (some 70), .bin .eql (.t 69) (.c (.int .i64 (2)))⟩,⟨none, (some 71), .pick (.t 68) (.t 70) (.c (.bool false))⟩,⟨none, (some 72), .mov (.t 71)⟩,⟨(some (72, true)), (some 73), .mov (.t 9)⟩,⟨(some (72, true)), (some 74), .bin .eql (.t 73) (.c (.int .i64 (0)))⟩,⟨none, (some 75), .pick (.t 72) (.t 74) (.c (.bool false))⟩,⟨none, (some 76), .mov (.t 75)⟩,⟨(some (76, true)), (some 77), .mov (.t 8)⟩,⟨(some (76, true)), (some 78), .bin .eql (.t 77) (.c (.int .i64 (2)))⟩,⟨none, (some 79), .pick (.t 76) (.t 78) (.c (.bool false))⟩,⟨none, (some 80), .mov (.t 79)⟩,⟨(some (80, true)), (some 81), .mov (.t 11)⟩,⟨(some (80, true)), (some 82), .bin .eql (.t 81) (.c (.int .i64 (0)))⟩,⟨none, (some 83), .pick (.t 80) (.t 82) (.c (.bool false))⟩,⟨none, (some 84), .mov (.t 83)⟩,⟨(some (84, true)), (some 85), .mov (.t 10)⟩,⟨(some (84, true)), (some 86), .len (.t 85)⟩,⟨(some (84, true)), (some 87), .bin .eql (.t 86) (.c (.int .i64 (2)))⟩,⟨none, (some 88), .pick (.t 84) (.t 87) (.c (.bool false))⟩,⟨none, (some 89), .mov (.t 88)⟩,⟨(some (89, true)), (some 90), .mov (.t 10)⟩,⟨(some (89, true)), (some 91), .indexA 1 (.t 90) (.c (.int .i64 (0)))⟩,⟨(some (89, true)), (some 92), .load none (.t 91)⟩,⟨(some (89, true)), (some 93), .bslice 1 2 [.int .i64 (0)] [(0, 1, .c (.int .i64 (0))), (1, 1, .c (.int .i64 (1)))]⟩,⟨(some (89, true)), (some 94), .bslice 1 2 [.int .i64 (0)] [(0, 1, .c (.int .i64 (1))), (1, 1, .c (.int .i64 (0)))]⟩,⟨(some (89, true)), (some 95), .bslice 1 2 [.nils] [(0, 1, .t 93), (1, 1, .t 94)]⟩,⟨(some (89, true)), (some 96), .call 1 19 [.t 92, .t 95]⟩,⟨none, (some 97), .pick (.t 89) (.t 96) (.c (.bool false))⟩,⟨none, (some 0), .mov (.t 97)⟩]) (.ret (m 98 1))))))))
def F20 : XF := ⟨0, 98, [.tmp 0], F20B⟩
def M20 : List (List Bool) := [(m 98 1)]
def F21L0b : XC :=
 .seq (.seq (.reg [⟨none, (some 8), .mov (.t 1)⟩,⟨none, (some 9), .mov (.t 0)⟩,⟨none, (some 10), .len (.t 9)⟩,⟨none, (some 11), .bin .lss (.t 8) (.t 10)⟩,⟨none, (some 12), .mov (.t 11)⟩,⟨(some (12, true)), (some 13), .mov (.t 0)⟩,⟨(some (12, true)), (some 14), .mov (.t 1)⟩,⟨(some (12, true)), (some 15), .indexA 1 (.t 13) (.t 14)⟩,⟨(some (12, true)), (some 16), .load none (.t 15)⟩,⟨(some (12, true)), (some 17), .bin .geq (.t 16) (.c (.int .i64 (0)))⟩,⟨none, (some 18), .pick (.t 12) (.t 17) (.c (.bool false))⟩]) (.cond (.t 18) (.skip) (.exit 0 (m 67 7)))) (.block 1 (m 67 7) (.reg [⟨none, (some 19), .mov (.t 1)⟩,⟨none, (some 20), .bin .add (.t 19) (.c (.int .i64 (1)))⟩,⟨none, (some 1), .mov (.t 20)⟩]))
def F21L0 : XC := .loop (m 67 7) F21L0b
def F21L1b : XC :=
 .seq (.seq (.reg [⟨none, (some 33), .mov (.t 7)⟩,⟨none, (some 34), .mov (.t 0)⟩,⟨none, (some 35), .len (.t 34)⟩,⟨none, (some 36), .bin .lss (.t 33) (.t 35)⟩]) (.cond (.t 36) (.skip) (.exit 2 (m 67 4)))) (.seq (.block 3 (m 67 135) (.seq (.seq (.reg [⟨none, (some 39), .mov (.t 0)⟩,⟨none, (some 40), .mov (.t 7)⟩,⟨none, (some 41), .indexA 1 (.t 39) (.t 40)⟩,⟨none, (some 42), .load none (.t 41)⟩,⟨none, (some 43), .bin .geq (.t 42) (.c (.int .i64 (0)))⟩]) (.cond (.t 43) (.exit 3 (m 67 135)) (.skip))) (.seq (.reg [⟨none, (some 44), .mov (.t 0)⟩,⟨none, (some 45), .mov (.t 1)⟩,⟨none, (some 46), .mov (.t 7)⟩,⟨none, (some 47), .indexA 1 (.t 44) (.t 45)⟩,⟨none, none, .store 1 (.t 47) (.t 46)⟩]) (.seq (.reg [⟨none, (some 48), .mov (.t 0)⟩,⟨none, (some 49), .mov (.t 7)⟩,⟨none, (some 50), .mov (.t 1)⟩,⟨none, (some 51), .indexA 1 (.t 48) (.t 49)⟩,⟨none, none, .store 1 (.t 51) (.t 50)⟩]) (.seq (.seq (.reg [⟨none, (some 52), .mov (.t 0)⟩,⟨none, (some 53), .call 1 59 [.t 52]⟩,⟨none, (some 54), .un .not (.t 53)⟩]) (.cond (.t 54) (.reg [⟨none, (some 55), .mov (.t 0)⟩,⟨none, (some 56), .mov (.t 1)⟩,⟨none, (some 57), .bin .add (.t 56) (.c (.int .i64 (1)))⟩,⟨none, (some 58), .mov (.t 2)⟩,⟨none, (some 59), .call 0 21 [.t 55, .t 57, .t 58]⟩,⟨none, (some 2), .mov (.t 59)⟩]) (.skip))) (.seq (.reg [⟨none, (some 60), .mov (.t 0)⟩,⟨none, (some 61), .mov (.t 1)⟩,⟨none, (some 62), .indexA 1 (.t 60) (.t 61)⟩,⟨none, none, .store 1 (.t 62) (.c (.int .i64 (-1)))⟩]) (.reg [⟨none, (some 63), .mov (.t 0)⟩,⟨none, (some 64), .mov (.t 7)⟩,⟨none, (some 65), .indexA 1 (.t 63) (.t 64)⟩,⟨none, none, .store 1 (.t 65) (.c (.int .i64 (-1)))⟩]))))))) (.reg [⟨none, (some 37), .mov (.t 7)⟩,⟨none, (some 38), .bin .add (.t 37) (.c (.int .i64 (1)))⟩,⟨none, (some 7), .mov (.t 38)⟩]))
def F21L1 : XC := .loop (m 67 135) F21L1b
def F21T0 : XC :=
 .seq (.reg [⟨none, (some 66), .mov (.t 2)⟩,⟨none, (some 6), .mov (.t 66)⟩]) (.ret (m 67 64))
def F21T1 : XC :=
 .seq (.seq (.reg [⟨none, (some 21), .mov (.t 1)⟩,⟨none, (some 22), .mov (.t 0)⟩,⟨none, (some 23), .len (.t 22)⟩,⟨none, (some 24), .bin .eql (.t 21) (.t 23)⟩]) (.cond (.t 24) (.seq (.reg [⟨none, (some 25), .mov (.t 2)⟩,⟨none, (some 26), .bslice 1 0 [.int .i64 (0)] []⟩,⟨none, (some 27), .mov (.t 0)⟩,⟨none, (some 28), .app 1 8 (.t 26) (.t 27)⟩,⟨none, (some 29), .bslice 1 1 [.nils] [(0, 1, .t 28)]⟩,⟨none, (some 30), .app 1 24 (.t 25) (.t 29)⟩,⟨none, (some 6), .mov (.t 30)⟩]) (.ret (m 67 64))) (.skip))) (.seq (.seq (.reg [⟨none, (some 31), .mov (.t 1)⟩,⟨none, (some 32), .bin .add (.t 31) (.c (.int .i64 (1)))⟩,⟨none, (some 7), .mov (.t 32)⟩]) (.block 2 (m 67 4) (F21L1)))
 F21T0)
def F21B : XC :=
 .seq (.reg [⟨none, (some 6), .mov (.c (.nils))⟩]) (.seq (.block 0 (m 67 7) (F21L0))
 F21T1)
def F21 : XF := ⟨3, 67, [.tmp 6], F21B⟩
def M21 : List (List Bool) := [(m 67 7), (m 67 7), (m 67 7), (m 67 7), (m 67 64), (m 67 4), (m 67 135), (m 67 4), (m 67 135), (m 67 135), (m 67 64)]
def F22L0b : XC :=
 .seq (.reg [⟨none, (some 26), .bin .lss (.t 25) (.t 24)⟩]) (.seq (.cond (.t 26) (.skip) (.exit 0 (m 56 18))) (.seq (.block 1 (m 56 58720274) (.seq (.reg [⟨none, (some 27), .mov (.t 25)⟩,⟨none, (some 28), .indexA 1 (.t 23) (.t 25)⟩,⟨none, (some 29), .load none (.t 28)⟩,⟨none, (some 5), .mov (.t 27)⟩,⟨none, (some 6), .mov (.t 29)⟩]) (.seq (.reg [⟨none, (some 30), .mov (.t 6)⟩,⟨none, (some 31), .bin .lss (.t 30) (.c (.int .i64 (0)))⟩,⟨none, (some 32), .mov (.t 31)⟩,⟨(some (32, false)), (some 33), .mov (.t 6)⟩,⟨(some (32, false)), (some 34), .load none (.t 1)⟩,⟨(some (32, false)), (some 35), .len (.t 34)⟩,⟨(some (32, false)), (some 36), .bin .geq (.t 33) (.t 35)⟩,⟨none, (some 37), .pick (.t 32) (.c (.bool true)) (.t 36)⟩,⟨none, (some 38), .mov (.t 37)⟩,⟨(some (38, false)), (some 39), .mov (.t 6)⟩,⟨(some (38, false)), (some 40), .mov (.t 5)⟩,⟨(some (38, false)), (some 41), .bin .eql (.t 39) (.t 40)⟩,⟨none, (some 42), .pick (.t 38) (.c (.bool true)) (.t 41)⟩,⟨none, (some 43), .mov (.t 42)⟩,⟨(some (43, false)), (some 44), .load none (.t 1)⟩,⟨(some (43, false)), (some 45), .mov (.t 6)⟩,⟨(some (43, false)), (some 46), .indexA 1 (.t 44) (.t 45)⟩,⟨(some (43, false)), (some 47), .load none (.t 46)⟩,⟨(some (43, false)), (some 48), .mov (.t 5)⟩,⟨(some (43, false)), (some 49), .bin .neq (.t 47) (.t 48)⟩,⟨none, (some 50), .pick (.t 43) (.c (.bool true)) (.t 49)⟩]) (.cond (.t 50) (.seq (.reg [⟨none, (some 2), .mov (.c (.int .i64 (0)))⟩,⟨none, (some 3), .mov (.c (.int .i64 (2)))⟩]) (.ret (m 56 12))) (.skip))))) (.reg [⟨none, (some 51), .bin .add (.t 25) (.c (.int .i64 (1)))⟩,⟨none, (some 25), .mov (.t 51)⟩])))
def F22L0 : XC := .loop (m 56 58720274) F22L0b
def F22T0 : XC :=
 .seq (.reg [⟨none, (some 7), .alloc [.int .i64 (0)]⟩,⟨none, none, .store 1 (.t 7) (.c (.int .i64 (0)))⟩]) (.seq (.reg [⟨none, (some 52), .mov (.t 4)⟩,⟨none, (some 53), .mkf 60 [.t 1, .t 7]⟩,⟨none, (some 54), .call 0 55 [.t 52, .t 53]⟩]) (.seq (.reg [⟨none, (some 55), .load none (.t 7)⟩,⟨none, (some 2), .mov (.t 55)⟩,⟨none, (some 3), .mov (.c (.int .i64 (0)))⟩]) (.ret (m 56 12))))
def F22B : XC :=
 .seq (.reg [⟨none, (some 1), .box (.t 0)⟩,⟨none, (some 2), .mov (.c (.int .i64 (0)))⟩,⟨none, (some 3), .mov (.c (.int .i64 (0)))⟩]) (.seq (.reg [⟨none, (some 8), .load none (.t 1)⟩,⟨none, (some 9), .len (.t 8)⟩,⟨none, (some 10), .bin .quo (.t 9) (.c (.int .i64 (2)))⟩,⟨none, (some 4), .mov (.t 10)⟩]) (.seq (.seq (.reg [⟨none, (some 11), .load none (.t 1)⟩,⟨none, (some 12), .len (.t 11)⟩,⟨none, (some 13), .bin .rem (.t 12) (.c (.int .i64 (2)))⟩,⟨none, (some 14), .bin .eql (.t 13) (.c (.int .i64 (1)))⟩,⟨none, (some 15), .mov (.t 14)⟩,⟨(some (15, false)), (some 16), .mov (.t 4)⟩,⟨(some (15, false)), (some 17), .bin .lss (.t 16) (.c (.int .i64 (1)))⟩,⟨none, (some 18), .pick (.t 15) (.c (.bool true)) (.t 17)⟩,⟨none, (some 19), .mov (.t 18)⟩,⟨(some (19, false)), (some 20), .mov (.t 4)⟩,⟨(some (19, false)), (some 21), .bin .gtr (.t 20) (.c (.int .i64 (5)))⟩,⟨none, (some 22), .pick (.t 19) (.c (.bool true)) (.t 21)⟩]) (.cond (.t 22) (.seq (.reg [⟨none, (some 2), .mov (.c (.int .i64 (0)))⟩,⟨none, (some 3), .mov (.c (.int .i64 (2)))⟩]) (.ret (m 56 12))) (.skip))) (.seq (.seq (.reg [⟨none, (some 23), .load none (.t 1)⟩,⟨none, (some 24), .len (.t 23)⟩,⟨none, (some 25), .mov (.c (.int .i64 (0)))⟩]) (.block 0 (m 56 18) (F22L0)))
 F22T0)))
def F22 : XF := ⟨1, 56, [.tmp 2, .tmp 3], F22B⟩
def M22 : List (List Bool) := [(m 56 12), (m 56 18), (m 56 58720274), (m 56 18), (m 56 58720274), (m 56 12), (m 56 12)]
def F23L0b : XC :=
 .seq (.seq (.reg [⟨none, (some 17), .mov (.t 4)⟩,⟨none, (some 18), .mov (.t 0)⟩,⟨none, (some 19), .mov (.t 3)⟩,⟨none, (some 20), .indexA 1 (.t 18) (.t 19)⟩,⟨none, (some 21), .load none (.t 20)⟩,⟨none, (some 22), .len (.t 21)⟩,⟨none, (some 23), .bin .lss (.t 17) (.t 22)⟩]) (.cond (.t 23) (.skip) (.exit 2 (m 35 9)))) (.seq (.block 3 (m 35 25) (.seq (.reg [⟨none, (some 26), .mov (.t 0)⟩,⟨none, (some 27), .mov (.t 3)⟩,⟨none, (some 28), .indexA 1 (.t 26) (.t 27)⟩,⟨none, (some 29), .load none (.t 28)⟩,⟨none, (some 30), .mov (.t 4)⟩,⟨none, (some 31), .indexA 1 (.t 29) (.t 30)⟩,⟨none, (some 32), .load none (.t 31)⟩,⟨none, (some 33), .len (.t 32)⟩,⟨none, (some 34), .bin .gtr (.t 33) (.c (.int .i64 (20)))⟩]) (.cond (.t 34) (.seq (.reg [⟨none, (some 2), .mov (.c (.bool false))⟩]) (.ret (m 35 4))) (.skip)))) (.reg [⟨none, (some 24), .mov (.t 4)⟩,⟨none, (some 25), .bin .add (.t 24) (.c (.int .i64 (1)))⟩,⟨none, (some 4), .mov (.t 25)⟩]))
def F23L0 : XC := .loop (m 35 25) F23L0b
def F23T0 : XC :=
 .reg [⟨none, (some 9), .mov (.t 3)⟩,⟨none, (some 10), .bin .add (.t 9) (.c (.int .i64 (1)))⟩,⟨none, (some 3), .mov (.t 10)⟩]
def F23L1b : XC :=
 .seq (.seq (.reg [⟨none, (some 5), .mov (.t 3)⟩,⟨none, (some 6), .mov (.t 0)⟩,⟨none, (some 7), .len (.t 6)⟩,⟨none, (some 8), .bin .lss (.t 5) (.t 7)⟩]) (.cond (.t 8) (.skip) (.exit 0 (m 35 0)))) (.seq (.block 1 (m 35 9) (.seq (.seq (.reg [⟨none, (some 11), .mov (.t 0)⟩,⟨none, (some 12), .mov (.t 3)⟩,⟨none, (some 13), .indexA 1 (.t 11) (.t 12)⟩,⟨none, (some 14), .load none (.t 13)⟩,⟨none, (some 15), .len (.t 14)⟩,⟨none, (some 16), .bin .gtr (.t 15) (.c (.int .i64 (20)))⟩]) (.cond (.t 16) (.seq (.reg [⟨none, (some 2), .mov (.c (.bool false))⟩]) (.ret (m 35 4))) (.skip))) (.seq (.reg [⟨none, (some 4), .mov (.c (.int .i64 (0)))⟩]) (.block 2 (m 35 9) (F23L0)))))
 F23T0)
def F23L1 : XC := .loop (m 35 9) F23L1b
def F23T1 : XC :=
 .seq (.reg [⟨none, (some 2), .mov (.c (.bool true))⟩]) (.ret (m 35 4))
def F23B : XC :=
 .seq (.reg [⟨none, (some 2), .mov (.c (.bool false))⟩]) (.seq (.seq (.reg [⟨none, (some 3), .mov (.c (.int .i64 (0)))⟩]) (.block 0 (m 35 0) (F23L1)))
 F23T1)
def F23 : XF := ⟨1, 35, [.tmp 2], F23B⟩
def M23 : List (List Bool) := [(m 35 0), (m 35 9), (m 35 0), (m 35 9), (m 35 4), (m 35 9), (m 35 25), (m 35 9), (m 35 25), (m 35 4), (m 35 4)]
def F24L0b : XC :=
 .seq (.seq (.reg [⟨none, (some 6), .mov (.t 4)⟩,⟨none, (some 7), .mov (.t 0)⟩,⟨none, (some 8), .len (.t 7)⟩,⟨none, (some 9), .bin .lss (.t 6) (.t 8)⟩]) (.cond (.t 9) (.skip) (.exit 0 (m 23 8)))) (.seq (.block 1 (m 23 25) (.seq (.reg [⟨none, (some 5), .mov (.c (.nils))⟩]) (.seq (.reg [⟨none, (some 12), .mov (.t 5)⟩,⟨none, (some 13), .mov (.t 0)⟩,⟨none, (some 14), .mov (.t 4)⟩,⟨none, (some 15), .indexA 1 (.t 13) (.t 14)⟩,⟨none, (some 16), .load none (.t 15)⟩,⟨none, (some 17), .app 1 8 (.t 12) (.t 16)⟩,⟨none, (some 5), .mov (.t 17)⟩]) (.reg [⟨none, (some 18), .mov (.t 3)⟩,⟨none, (some 19), .mov (.t 5)⟩,⟨none, (some 20), .bslice 1 1 [.nils] [(0, 1, .t 19)]⟩,⟨none, (some 21), .app 1 24 (.t 18) (.t 20)⟩,⟨none, (some 3), .mov (.t 21)⟩])))) (.reg [⟨none, (some 10), .mov (.t 4)⟩,⟨none, (some 11), .bin .add (.t 10) (.c (.int .i64 (1)))⟩,⟨none, (some 4), .mov (.t 11)⟩]))
def F24L0 : XC := .loop (m 23 25) F24L0b
def F24T0 : XC :=
 .seq (.reg [⟨none, (some 22), .mov (.t 3)⟩,⟨none, (some 2), .mov (.t 22)⟩]) (.ret (m 23 4))
def F24B : XC :=
 .seq (.reg [⟨none, (some 2), .mov (.c (.nils))⟩]) (.seq (.reg [⟨none, (some 3), .mov (.c (.nils))⟩]) (.seq (.seq (.reg [⟨none, (some 4), .mov (.c (.int .i64 (0)))⟩]) (.block 0 (m 23 8) (F24L0)))
 F24T0))
def F24 : XF := ⟨1, 23, [.tmp 2], F24B⟩
def M24 : List (List Bool) := [(m 23 8), (m 23 25), (m 23 8), (m 23 25), (m 23 4)]
def F25B : XC :=
 .seq (.reg [⟨none, (some 2), .mov (.c (.bool false))⟩]) (.seq (.reg [⟨none, (some 6), .mov (.t 0)⟩,⟨none, (some 7), .call 0 64 [.t 6]⟩,⟨none, (some 5), .mov (.t 7)⟩,⟨none, (some 8), .ext (.t 5) 0⟩,⟨none, (some 9), .ext (.t 5) 1⟩,⟨none, (some 3), .mov (.t 8)⟩,⟨none, (some 4), .mov (.t 9)⟩]) (.seq (.reg [⟨none, (some 10), .mov (.t 4)⟩,⟨none, (some 2), .mov (.t 10)⟩]) (.ret (m 11 4))))
def F25 : XF := ⟨1, 11, [.tmp 2], F25B⟩
def M25 : List (List Bool) := [(m 11 4)]
def F26L0b : XC :=
 .seq (.seq (.reg [⟨none, (some 30), .mov (.t 5)⟩,⟨none, (some 31), .mov (.t 3)⟩,⟨none, (some 32), .bin .lss (.t 30) (.t 31)⟩]) (.cond (.t 32) (.skip) (.exit 2 (m 101 25)))) (.seq (.block 3 (m 101 57) (.seq (.reg [⟨none, (some 35), .mov (.t 0)⟩,⟨none, (some 36), .mov (.t 4)⟩,⟨none, (some 37), .indexA 1 (.t 35) (.t 36)⟩,⟨none, (some 38), .load none (.t 37)⟩,⟨none, (some 39), .mov (.t 5)⟩,⟨none, (some 40), .indexA 1 (.t 38) (.t 39)⟩,⟨none, (some 41), .load none (.t 40)⟩,⟨none, (some 42), .bin .lss (.t 41) (.c (.int .i64 (-1)))⟩,⟨none, (some 43), .mov (.t 42)⟩,⟨(some (43, false)), (some 44), .mov (.t 0)⟩,⟨(some (43, false)), (some 45), .mov (.t 4)⟩,⟨(some (43, false)), (some 46), .indexA 1 (.t 44) (.t 45)⟩,⟨(some (43, false)), (some 47), .load none (.t 46)⟩,⟨(some (43, false)), (some 48), .mov (.t 5)⟩,⟨(some (43, false)), (some 49), .indexA 1 (.t 47) (.t 48)⟩,⟨(some (43, false)), (some 50), .load none (.t 49)⟩,⟨(some (43, false)), (some 51), .bin .gtr (.t 50) (.c (.int .i64 (1)))⟩,⟨none, (some 52), .pick (.t 43) (.c (.bool true)) (.t 51)⟩]) (.cond (.t 52) (.seq (.reg [⟨none, (some 2), .mov (.c (.bool false))⟩]) (.ret (m 101 4))) (.skip)))) (.reg [⟨none, (some 33), .mov (.t 5)⟩,⟨none, (some 34), .bin .add (.t 33) (.c (.int .i64 (1)))⟩,⟨none, (some 5), .mov (.t 34)⟩]))
def F26L0 : XC := .loop (m 101 57) F26L0b
def F26T0 : XC :=
 .reg [⟨none, (some 21), .mov (.t 4)⟩,⟨none, (some 22), .bin .add (.t 21) (.c (.int .i64 (1)))⟩,⟨none, (some 4), .mov (.t 22)⟩]
def F26L1b : XC :=
 .seq (.seq (.reg [⟨none, (some 18), .mov (.t 4)⟩,⟨none, (some 19), .mov (.t 3)⟩,⟨none, (some 20), .bin .lss (.t 18) (.t 19)⟩]) (.cond (.t 20) (.skip) (.exit 0 (m 101 9)))) (.seq (.block 1 (m 101 25) (.seq (.seq (.reg [⟨none, (some 23), .mov (.t 0)⟩,⟨none, (some 24), .mov (.t 4)⟩,⟨none, (some 25), .indexA 1 (.t 23) (.t 24)⟩,⟨none, (some 26), .load none (.t 25)⟩,⟨none, (some 27), .len (.t 26)⟩,⟨none, (some 28), .mov (.t 3)⟩,⟨none, (some 29), .bin .neq (.t 27) (.t 28)⟩]) (.cond (.t 29) (.seq (.reg [⟨none, (some 2), .mov (.c (.bool false))⟩]) (.ret (m 101 4))) (.skip))) (.seq (.reg [⟨none, (some 5), .mov (.c (.int .i64 (0)))⟩]) (.block 2 (m 101 25) (F26L0)))))
 F26T0)
def F26L1 : XC := .loop (m 101 25) F26L1b
def F26L2b : XC :=
 .seq (.seq (.reg [⟨none, (some 58), .mov (.t 9)⟩,⟨none, (some 59), .mov (.t 3)⟩,⟨none, (some 60), .bin .lss (.t 58) (.t 59)⟩]) (.cond (.t 60) (.skip) (.exit 6 (m 101 457)))) (.seq (.block 7 (m 101 969) (.seq (.reg [⟨none, (some 63), .mov (.t 7)⟩,⟨none, (some 64), .mov (.t 0)⟩,⟨none, (some 65), .mov (.t 6)⟩,⟨none, (some 66), .indexA 1 (.t 64) (.t 65)⟩,⟨none, (some 67), .load none (.t 66)⟩,⟨none, (some 68), .mov (.t 9)⟩,⟨none, (some 69), .indexA 1 (.t 67) (.t 68)⟩,⟨none, (some 70), .load none (.t 69)⟩,⟨none, (some 71), .bin .add (.t 63) (.t 70)⟩,⟨none, (some 7), .mov (.t 71)⟩]) (.seq (.reg [⟨none, (some 72), .mov (.t 8)⟩,⟨none, (some 73), .mov (.t 0)⟩,⟨none, (some 74), .mov (.t 9)⟩,⟨none, (some 75), .indexA 1 (.t 73) (.t 74)⟩,⟨none, (some 76), .load none (.t 75)⟩,⟨none, (some 77), .mov (.t 6)⟩,⟨none, (some 78), .indexA 1 (.t 76) (.t 77)⟩,⟨none, (some 79), .load none (.t 78)⟩,⟨none, (some 80), .bin .add (.t 72) (.t 79)⟩,⟨none, (some 8), .mov (.t 80)⟩]) (.seq (.reg [⟨none, (some 81), .mov (.t 7)⟩,⟨none, (some 82), .bin .lss (.t 81) (.c (.int .i64 (0)))⟩,⟨none, (some 83), .mov (.t 82)⟩,⟨(some (83, false)), (some 84), .mov (.t 7)⟩,⟨(some (83, false)), (some 85), .bin .gtr (.t 84) (.c (.int .i64 (1)))⟩,⟨none, (some 86), .pick (.t 83) (.c (.bool true)) (.t 85)⟩,⟨none, (some 87), .mov (.t 86)⟩,⟨(some (87, false)), (some 88), .mov (.t 8)⟩,⟨(some (87, false)), (some 89), .bin .lss (.t 88) (.c (.int .i64 (0)))⟩,⟨none, (some 90), .pick (.t 87) (.c (.bool true)) (.t 89)⟩,⟨none, (some 91), .mov (.t 90)⟩,⟨(some (91, false)), (some 92), .mov (.t 8)⟩,⟨(some (91, false)), (some 93), .bin .gtr (.t 92) (.c (.int .i64 (1)))⟩,⟨none, (some 94), .pick (.t 91) (.c (.bool true)) (.t 93)⟩]) (.cond (.t 94) (.seq (.reg [⟨none, (some 2), .mov (.c (.bool false))⟩]) (.ret (m 101 4))) (.skip)))))) (.reg [⟨none, (some 61), .mov (.t 9)⟩,⟨none, (some 62), .bin .add (.t 61) (.c (.int .i64 (1)))⟩,⟨none, (some 9), .mov (.t 62)⟩]))
def F26L2 : XC := .loop (m 101 969) F26L2b
def F26T1 : XC :=
 .seq (.reg [⟨none, (some 95), .mov (.t 7)⟩,⟨none, (some 96), .bin .neq (.t 95) (.c (.int .i64 (1)))⟩,⟨none, (some 97), .mov (.t 96)⟩,⟨(some (97, false)), (some 98), .mov (.t 8)⟩,⟨(some (97, false)), (some 99), .bin .neq (.t 98) (.c (.int .i64 (1)))⟩,⟨none, (some 100), .pick (.t 97) (.c (.bool true)) (.t 99)⟩]) (.cond (.t 100) (.seq (.reg [⟨none, (some 2), .mov (.c (.bool false))⟩]) (.ret (m 101 4))) (.skip))
def F26T2 : XC :=
 .reg [⟨none, (some 56), .mov (.t 6)⟩,⟨none, (some 57), .bin .add (.t 56) (.c (.int .i64 (1)))⟩,⟨none, (some 6), .mov (.t 57)⟩]
def F26L3b : XC :=
 .seq (.seq (.reg [⟨none, (some 53), .mov (.t 6)⟩,⟨none, (some 54), .mov (.t 3)⟩,⟨none, (some 55), .bin .lss (.t 53) (.t 54)⟩]) (.cond (.t 55) (.skip) (.exit 4 (m 101 0)))) (.seq (.block 5 (m 101 73) (.seq (.reg [⟨none, (some 7), .mov (.c (.int .i64 (0)))⟩,⟨none, (some 8), .mov (.c (.int .i64 (0)))⟩]) (.seq (.seq (.reg [⟨none, (some 9), .mov (.c (.int .i64 (0)))⟩]) (.block 6 (m 101 457) (F26L2)))
 F26T1)))
 F26T2)
def F26L3 : XC := .loop (m 101 73) F26L3b
def F26T3 : XC :=
 .seq (.reg [⟨none, (some 2), .mov (.c (.bool true))⟩]) (.ret (m 101 4))
def F26T4 : XC :=
 .seq (.seq (.reg [⟨none, (some 6), .mov (.c (.int .i64 (0)))⟩]) (.block 4 (m 101 0) (F26L3)))
 F26T3
def F26B : XC :=
 .seq (.reg [⟨none, (some 2), .mov (.c (.bool false))⟩]) (.seq (.reg [⟨none, (some 10), .mov (.t 0)⟩,⟨none, (some 11), .len (.t 10)⟩,⟨none, (some 3), .mov (.t 11)⟩]) (.seq (.seq (.reg [⟨none, (some 12), .mov (.t 3)⟩,⟨none, (some 13), .bin .lss (.t 12) (.c (.int .i64 (1)))⟩,⟨none, (some 14), .mov (.t 13)⟩,⟨(some (14, false)), (some 15), .mov (.t 3)⟩,⟨(some (14, false)), (some 16), .bin .gtr (.t 15) (.c (.int .i64 (5)))⟩,⟨none, (some 17), .pick (.t 14) (.c (.bool true)) (.t 16)⟩]) (.cond (.t 17) (.seq (.reg [⟨none, (some 2), .mov (.c (.bool false))⟩]) (.ret (m 101 4))) (.skip))) (.seq (.seq (.reg [⟨none, (some 4), .mov (.c (.int .i64 (0)))⟩]) (.block 0 (m 101 9) (F26L1)))
 F26T4)))
def F26 : XF := ⟨1, 101, [.tmp 2], F26B⟩
def M26 : List (List Bool) := [(m 101 4), (m 101 9), (m 101 25), (m 101 9), (m 101 25), (m 101 4), (m 101 25), (m 101 57), (m 101 25), (m 101 57), (m 101 4), (m 101 0), (m 101 73), (m 101 0), (m 101 73), (m 101 457), (m 101 969), (m 101 457), (m 101 969), (m 101 4), (m 101 4), (m 101 4)]
def F27B : XC :=
 .seq (.reg [⟨none, (some 2), .mov (.c (.nils))⟩,⟨none, (some 3), .mov (.c (.int .i64 (0)))⟩]) (.seq (.reg [⟨none, (some 7), .mov (.t 0)⟩,⟨none, (some 8), .call 0 64 [.t 7]⟩,⟨none, (some 6), .mov (.t 8)⟩,⟨none, (some 9), .ext (.t 6) 0⟩,⟨none, (some 10), .ext (.t 6) 1⟩,⟨none, (some 4), .mov (.t 9)⟩,⟨none, (some 5), .mov (.t 10)⟩]) (.seq (.seq (.reg [⟨none, (some 11), .mov (.t 5)⟩,⟨none, (some 12), .un .not (.t 11)⟩]) (.cond (.t 12) (.seq (.reg [⟨none, (some 2), .mov (.c (.nils))⟩,⟨none, (some 3), .mov (.c (.int .i64 (2)))⟩]) (.ret (m 16 12))) (.skip))) (.seq (.reg [⟨none, (some 13), .mov (.t 4)⟩,⟨none, (some 14), .mki 56 (.t 13)⟩,⟨none, (some 15), .call 2 62 [.t 14]⟩,⟨none, (some 2), .mov (.t 15)⟩,⟨none, (some 3), .mov (.c (.int .i64 (0)))⟩]) (.ret (m 16 12)))))
def F27 : XF := ⟨1, 16, [.tmp 2, .tmp 3], F27B⟩
def M27 : List (List Bool) := [(m 16 12), (m 16 12)]
def F28B : XC :=
 .seq (.reg [⟨none, (some 2), .mov (.c (.nils))⟩,⟨none, (some 3), .mov (.c (.int .i64 (0)))⟩]) (.seq (.seq (.reg [⟨none, (some 4), .mov (.t 0)⟩,⟨none, (some 5), .call 1 26 [.t 4]⟩,⟨none, (some 6), .un .not (.t 5)⟩]) (.cond (.t 6) (.seq (.reg [⟨none, (some 2), .mov (.c (.nils))⟩,⟨none, (some 3), .mov (.c (.int .i64 (2)))⟩]) (.ret (m 9 12))) (.skip))) (.seq (.reg [⟨none, (some 7), .mov (.t 0)⟩,⟨none, (some 8), .call 2 65 [.t 7]⟩,⟨none, (some 2), .mov (.t 8)⟩,⟨none, (some 3), .mov (.c (.int .i64 (0)))⟩]) (.ret (m 9 12))))
def F28 : XF := ⟨1, 9, [.tmp 2, .tmp 3], F28B⟩
def M28 : List (List Bool) := [(m 9 12), (m 9 12)]
def F29L0b : XC :=
 .seq (.reg [⟨none, (some 25), .bin .lss (.t 24) (.t 23)⟩]) (.seq (.cond (.t 25) (.skip) (.exit 2 (m 51 786768))) (.seq (.block 3 (m 51 25952720) (.seq (.reg [⟨none, (some 26), .mov (.t 24)⟩,⟨none, (some 9), .mov (.t 26)⟩]) (.seq (.reg [⟨none, (some 27), .mov (.t 4)⟩,⟨none, (some 28), .mov (.t 7)⟩,⟨none, (some 29), .bin .add (.t 28) (.c (.int .i64 (1)))⟩,⟨none, (some 30), .mov (.t 9)⟩,⟨none, (some 31), .bin .add (.t 30) (.c (.int .i64 (1)))⟩,⟨none, (some 32), .call 1 66 [.t 27, .t 29, .t 31]⟩,⟨none, (some 33), .mov (.t 4)⟩,⟨none, (some 34), .mov (.t 7)⟩,⟨none, (some 35), .bin .add (.t 34) (.c (.int .i64 (1)))⟩,⟨none, (some 36), .mov (.t 9)⟩,⟨none, (some 37), .call 1 66 [.t 33, .t 35, .t 36]⟩,⟨none, (some 38), .bin .gtr (.t 32) (.t 37)⟩]) (.cond (.t 38) (.reg [⟨none, (some 39), .mov (.t 8)⟩,⟨none, (some 40), .mov (.t 9)⟩,⟨none, (some 41), .bin .add (.t 40) (.c (.int .i64 (1)))⟩,⟨none, (some 42), .bslice 1 1 [.int .i64 (0)] [(0, 1, .t 41)]⟩,⟨none, (some 43), .app 1 8 (.t 39) (.t 42)⟩,⟨none, (some 8), .mov (.t 43)⟩]) (.skip))))) (.reg [⟨none, (some 44), .bin .add (.t 24) (.c (.int .i64 (1)))⟩,⟨none, (some 24), .mov (.t 44)⟩])))
def F29L0 : XC := .loop (m 51 25952720) F29L0b
def F29T0 : XC :=
 .reg [⟨none, (some 45), .mov (.t 6)⟩,⟨none, (some 46), .mov (.t 8)⟩,⟨none, (some 47), .bslice 1 1 [.nils] [(0, 1, .t 46)]⟩,⟨none, (some 48), .app 1 24 (.t 45) (.t 47)⟩,⟨none, (some 6), .mov (.t 48)⟩]
def F29T1 : XC :=
 .reg [⟨none, (some 49), .bin .add (.t 19) (.c (.int .i64 (1)))⟩,⟨none, (some 19), .mov (.t 49)⟩]
def F29L1b : XC :=
 .seq (.reg [⟨none, (some 20), .bin .lss (.t 19) (.t 18)⟩]) (.seq (.cond (.t 20) (.skip) (.exit 0 (m 51 64))) (.seq (.block 1 (m 51 786512) (.seq (.reg [⟨none, (some 21), .mov (.t 19)⟩,⟨none, (some 7), .mov (.t 21)⟩]) (.seq (.reg [⟨none, (some 8), .mov (.c (.nils))⟩]) (.seq (.seq (.reg [⟨none, (some 22), .mov (.t 4)⟩,⟨none, (some 23), .len (.t 22)⟩,⟨none, (some 24), .mov (.c (.int .i64 (0)))⟩]) (.block 2 (m 51 786768) (F29L0)))
 F29T0))))
 F29T1))
def F29L1 : XC := .loop (m 51 786512) F29L1b
def F29T2 : XC :=
 .seq (.reg [⟨none, (some 50), .mov (.t 6)⟩,⟨none, (some 2), .mov (.t 50)⟩,⟨none, (some 3), .mov (.c (.int .i64 (0)))⟩]) (.ret (m 51 12))
def F29B : XC :=
 .seq (.reg [⟨none, (some 2), .mov (.c (.nils))⟩,⟨none, (some 3), .mov (.c (.int .i64 (0)))⟩]) (.seq (.reg [⟨none, (some 11), .mov (.t 0)⟩,⟨none, (some 12), .call 0 64 [.t 11]⟩,⟨none, (some 10), .mov (.t 12)⟩,⟨none, (some 13), .ext (.t 10) 0⟩,⟨none, (some 14), .ext (.t 10) 1⟩,⟨none, (some 4), .mov (.t 13)⟩,⟨none, (some 5), .mov (.t 14)⟩]) (.seq (.seq (.reg [⟨none, (some 15), .mov (.t 5)⟩,⟨none, (some 16), .un .not (.t 15)⟩]) (.cond (.t 16) (.seq (.reg [⟨none, (some 2), .mov (.c (.nils))⟩,⟨none, (some 3), .mov (.c (.int .i64 (2)))⟩]) (.ret (m 51 12))) (.skip))) (.seq (.reg [⟨none, (some 6), .mov (.c (.nils))⟩]) (.seq (.seq (.reg [⟨none, (some 17), .mov (.t 4)⟩,⟨none, (some 18), .len (.t 17)⟩,⟨none, (some 19), .mov (.c (.int .i64 (0)))⟩]) (.block 0 (m 51 64) (F29L1)))
 F29T2))))
def F29 : XF := ⟨1, 51, [.tmp 2, .tmp 3], F29B⟩
def M29 : List (List Bool) := [(m 51 12), (m 51 64), (m 51 786512), (m 51 64), (m 51 786512), (m 51 786768), (m 51 25952720), (m 51 786768), (m 51 25952720), (m 51 12)]
def F30B : XC :=
 .seq (.reg [⟨none, (some 2), .mov (.c (.nils))⟩,⟨none, (some 3), .mov (.c (.int .i64 (0)))⟩]) (.seq (.seq (.reg [⟨none, (some 4), .mov (.t 0)⟩,⟨none, (some 5), .call 1 26 [.t 4]⟩,⟨none, (some 6), .un .not (.t 5)⟩]) (.cond (.t 6) (.seq (.reg [⟨none, (some 2), .mov (.c (.nils))⟩,⟨none, (some 3), .mov (.c (.int .i64 (2)))⟩]) (.ret (m 9 12))) (.skip))) (.seq (.reg [⟨none, (some 7), .mov (.t 0)⟩,⟨none, (some 8), .call 1 67 [.t 7]⟩,⟨none, (some 2), .mov (.t 8)⟩,⟨none, (some 3), .mov (.c (.int .i64 (0)))⟩]) (.ret (m 9 12))))
def F30 : XF := ⟨1, 9, [.tmp 2, .tmp 3], F30B⟩
def M30 : List (List Bool) := [(m 9 12), (m 9 12)]
def F31L0b : XC :=
 .seq (.reg [⟨none, (some 30), .bin .lss (.t 29) (.t 28)⟩]) (.seq (.cond (.t 30) (.skip) (.exit 2 (m 57 7340448))) (.seq (.block 3 (m 57 946865056) (.seq (.reg [⟨none, (some 31), .mov (.t 29)⟩,⟨none, (some 32), .indexA 1 (.t 27) (.t 29)⟩,⟨none, (some 33), .load none (.t 32)⟩,⟨none, (some 11), .mov (.t 31)⟩,⟨none, (some 12), .mov (.t 33)⟩]) (.seq (.seq (.reg [⟨none, (some 34), .mov (.t 12)⟩,⟨none, (some 35), .bin .lss (.t 34) (.c (.int .i64 (0)))⟩]) (.cond (.t 35) (.reg [⟨none, (some 36), .mov (.t 7)⟩,⟨none, (some 37), .bin .add (.t 36) (.c (.int .i64 (1)))⟩,⟨none, (some 7), .mov (.t 37)⟩]) (.skip))) (.reg [⟨none, (some 38), .mov (.t 8)⟩,⟨none, (some 39), .mov (.t 12)⟩,⟨none, (some 40), .mov (.t 5)⟩,⟨none, (some 41), .mov (.t 5)⟩,⟨none, (some 42), .len (.t 41)⟩,⟨none, (some 43), .mov (.t 11)⟩,⟨none, (some 44), .call 1 66 [.t 40, .t 42, .t 43]⟩,⟨none, (some 45), .mov (.t 5)⟩,⟨none, (some 46), .mov (.t 9)⟩,⟨none, (some 47), .bin .add (.t 46) (.c (.int .i64 (1)))⟩,⟨none, (some 48), .mov (.t 11)⟩,⟨none, (some 49), .call 1 66 [.t 45, .t 47, .t 48]⟩,⟨none, (some 50), .bin .sub (.t 44) (.t 49)⟩,⟨none, (some 51), .bin .mul (.t 39) (.t 50)⟩,⟨none, (some 52), .bin .add (.t 38) (.t 51)⟩,⟨none, (some 8), .mov (.t 52)⟩])))) (.reg [⟨none, (some 53), .bin .add (.t 29) (.c (.int .i64 (1)))⟩,⟨none, (some 29), .mov (.t 53)⟩])))
def F31L0 : XC := .loop (m 57 946865056) F31L0b
def F31T0 : XC :=
 .reg [⟨none, (some 54), .bin .add (.t 22) (.c (.int .i64 (1)))⟩,⟨none, (some 22), .mov (.t 54)⟩]
def F31L1b : XC :=
 .seq (.reg [⟨none, (some 23), .bin .lss (.t 22) (.t 21)⟩]) (.seq (.cond (.t 23) (.skip) (.exit 0 (m 57 384))) (.seq (.block 1 (m 57 7340448) (.seq (.reg [⟨none, (some 24), .mov (.t 22)⟩,⟨none, (some 25), .indexA 1 (.t 20) (.t 22)⟩,⟨none, (some 26), .load none (.t 25)⟩,⟨none, (some 9), .mov (.t 24)⟩,⟨none, (some 10), .mov (.t 26)⟩]) (.seq (.reg [⟨none, (some 27), .mov (.t 10)⟩,⟨none, (some 28), .len (.t 27)⟩,⟨none, (some 29), .mov (.c (.int .i64 (0)))⟩]) (.block 2 (m 57 7340448) (F31L0)))))
 F31T0))
def F31L1 : XC := .loop (m 57 7340448) F31L1b
def F31T1 : XC :=
 .seq (.reg [⟨none, (some 55), .mov (.t 7)⟩,⟨none, (some 56), .mov (.t 8)⟩,⟨none, (some 2), .mov (.t 55)⟩,⟨none, (some 3), .mov (.t 56)⟩,⟨none, (some 4), .mov (.c (.int .i64 (0)))⟩]) (.ret (m 57 28))
def F31B : XC :=
 .seq (.reg [⟨none, (some 2), .mov (.c (.int .i64 (0)))⟩,⟨none, (some 3), .mov (.c (.int .i64 (0)))⟩,⟨none, (some 4), .mov (.c (.int .i64 (0)))⟩]) (.seq (.reg [⟨none, (some 14), .mov (.t 0)⟩,⟨none, (some 15), .call 0 64 [.t 14]⟩,⟨none, (some 13), .mov (.t 15)⟩,⟨none, (some 16), .ext (.t 13) 0⟩,⟨none, (some 17), .ext (.t 13) 1⟩,⟨none, (some 5), .mov (.t 16)⟩,⟨none, (some 6), .mov (.t 17)⟩]) (.seq (.seq (.reg [⟨none, (some 18), .mov (.t 6)⟩,⟨none, (some 19), .un .not (.t 18)⟩]) (.cond (.t 19) (.seq (.reg [⟨none, (some 2), .mov (.c (.int .i64 (0)))⟩,⟨none, (some 3), .mov (.c (.int .i64 (0)))⟩,⟨none, (some 4), .mov (.c (.int .i64 (2)))⟩]) (.ret (m 57 28))) (.skip))) (.seq (.reg [⟨none, (some 7), .mov (.c (.int .i64 (0)))⟩,⟨none, (some 8), .mov (.c (.int .i64 (0)))⟩]) (.seq (.seq (.reg [⟨none, (some 20), .mov (.t 5)⟩,⟨none, (some 21), .len (.t 20)⟩,⟨none, (some 22), .mov (.c (.int .i64 (0)))⟩]) (.block 0 (m 57 384) (F31L1)))
 F31T1))))
def F31 : XF := ⟨1, 57, [.tmp 2, .tmp 3, .tmp 4], F31B⟩
def M31 : List (List Bool) := [(m 57 28), (m 57 384), (m 57 7340448), (m 57 384), (m 57 7340448), (m 57 7340448), (m 57 946865056), (m 57 7340448), (m 57 946865056), (m 57 28)]
def F34B : XC :=
 .seq (.reg [⟨none, (some 2), .mov (.c (.nils))⟩,⟨none, (some 3), .mov (.c (.int .i64 (0)))⟩]) (.seq (.reg [⟨none, (some 7), .mov (.t 0)⟩,⟨none, (some 8), .call 0 64 [.t 7]⟩,⟨none, (some 6), .mov (.t 8)⟩,⟨none, (some 9), .ext (.t 6) 0⟩,⟨none, (some 10), .ext (.t 6) 1⟩,⟨none, (some 4), .mov (.t 9)⟩,⟨none, (some 5), .mov (.t 10)⟩]) (.seq (.seq (.reg [⟨none, (some 11), .mov (.t 5)⟩,⟨none, (some 12), .un .not (.t 11)⟩]) (.cond (.t 12) (.seq (.reg [⟨none, (some 2), .mov (.c (.nils))⟩,⟨none, (some 3), .mov (.c (.int .i64 (2)))⟩]) (.ret (m 17 12))) (.skip))) (.seq (.reg [⟨none, (some 13), .mov (.t 4)⟩,⟨none, (some 14), .mki 56 (.t 13)⟩,⟨none, (some 15), .call 2 62 [.t 14]⟩,⟨none, (some 16), .call 1 63 [.t 15]⟩,⟨none, (some 2), .mov (.t 16)⟩,⟨none, (some 3), .mov (.c (.int .i64 (0)))⟩]) (.ret (m 17 12)))))
def F34 : XF := ⟨1, 17, [.tmp 2, .tmp 3], F34B⟩
def M34 : List (List Bool) := [(m 17 12), (m 17 12)]
def F35B : XC :=
 .seq (.reg [⟨none, (some 2), .mov (.c (.nils))⟩,⟨none, (some 3), .mov (.c (.int .i64 (0)))⟩]) (.seq (.seq (.reg [⟨none, (some 4), .mov (.t 0)⟩,⟨none, (some 5), .call 1 26 [.t 4]⟩,⟨none, (some 6), .un .not (.t 5)⟩]) (.cond (.t 6) (.seq (.reg [⟨none, (some 2), .mov (.c (.nils))⟩,⟨none, (some 3), .mov (.c (.int .i64 (2)))⟩]) (.ret (m 9 12))) (.skip))) (.seq (.reg [⟨none, (some 7), .mov (.t 0)⟩,⟨none, (some 8), .call 1 68 [.t 7]⟩,⟨none, (some 2), .mov (.t 8)⟩,⟨none, (some 3), .mov (.c (.int .i64 (0)))⟩]) (.ret (m 9 12))))
def F35 : XF := ⟨1, 9, [.tmp 2, .tmp 3], F35B⟩
def M35 : List (List Bool) := [(m 9 12), (m 9 12)]
def F36L0b : XC :=
 .seq (.seq (.reg [⟨none, (some 11), .mov (.t 5)⟩,⟨none, (some 12), .mov (.t 0)⟩,⟨none, (some 13), .len (.t 12)⟩,⟨none, (some 14), .bin .lss (.t 11) (.t 13)⟩]) (.cond (.t 14) (.skip) (.exit 0 (m 26 0)))) (.seq (.block 1 (m 26 35) (.seq (.reg [⟨none, (some 17), .mov (.t 0)⟩,⟨none, (some 18), .mov (.t 5)⟩,⟨none, (some 19), .indexA 1 (.t 17) (.t 18)⟩,⟨none, (some 20), .load none (.t 19)⟩,⟨none, (some 21), .mov (.t 1)⟩,⟨none, (some 22), .mov (.t 5)⟩,⟨none, (some 23), .indexA 1 (.t 21) (.t 22)⟩,⟨none, (some 24), .load none (.t 23)⟩,⟨none, (some 25), .bin .neq (.t 20) (.t 24)⟩]) (.cond (.t 25) (.seq (.reg [⟨none, (some 4), .mov (.c (.bool false))⟩]) (.ret (m 26 16))) (.skip)))) (.reg [⟨none, (some 15), .mov (.t 5)⟩,⟨none, (some 16), .bin .add (.t 15) (.c (.int .i64 (1)))⟩,⟨none, (some 5), .mov (.t 16)⟩]))
def F36L0 : XC := .loop (m 26 35) F36L0b
def F36T0 : XC :=
 .seq (.reg [⟨none, (some 4), .mov (.c (.bool true))⟩]) (.ret (m 26 16))
def F36B : XC :=
 .seq (.reg [⟨none, (some 4), .mov (.c (.bool false))⟩]) (.seq (.seq (.reg [⟨none, (some 6), .mov (.t 0)⟩,⟨none, (some 7), .len (.t 6)⟩,⟨none, (some 8), .mov (.t 1)⟩,⟨none, (some 9), .len (.t 8)⟩,⟨none, (some 10), .bin .neq (.t 7) (.t 9)⟩]) (.cond (.t 10) (.seq (.reg [⟨none, (some 4), .mov (.c (.bool false))⟩]) (.ret (m 26 16))) (.skip))) (.seq (.seq (.reg [⟨none, (some 5), .mov (.c (.int .i64 (0)))⟩]) (.block 0 (m 26 0) (F36L0)))
 F36T0))
def F36 : XF := ⟨2, 26, [.tmp 4], F36B⟩
def M36 : List (List Bool) := [(m 26 16), (m 26 0), (m 26 35), (m 26 0), (m 26 35), (m 26 16), (m 26 16)]
def F37L0b : XC :=
 .seq (.seq (.reg [⟨none, (some 34), .mov (.t 9)⟩,⟨none, (some 35), .mov (.t 7)⟩,⟨none, (some 36), .len (.t 35)⟩,⟨none, (some 37), .bin .lss (.t 34) (.t 36)⟩,⟨none, (some 38), .mov (.t 37)⟩,⟨(some (38, true)), (some 39), .mov (.t 8)⟩,⟨none, (some 40), .pick (.t 38) (.t 39) (.c (.bool false))⟩]) (.cond (.t 40) (.skip) (.exit 2 (m 56 369)))) (.seq (.block 3 (m 56 1009) (.reg [⟨none, (some 43), .mov (.t 7)⟩,⟨none, (some 44), .mov (.t 9)⟩,⟨none, (some 45), .indexA 1 (.t 43) (.t 44)⟩,⟨none, (some 46), .load none (.t 45)⟩,⟨none, (some 47), .mov (.t 0)⟩,⟨none, (some 48), .mov (.t 9)⟩,⟨none, (some 49), .indexA 1 (.t 47) (.t 48)⟩,⟨none, (some 50), .load none (.t 49)⟩,⟨none, (some 51), .bin .eql (.t 46) (.t 50)⟩,⟨none, (some 8), .mov (.t 51)⟩])) (.reg [⟨none, (some 41), .mov (.t 9)⟩,⟨none, (some 42), .bin .add (.t 41) (.c (.int .i64 (1)))⟩,⟨none, (some 9), .mov (.t 42)⟩]))
def F37L0 : XC := .loop (m 56 1009) F37L0b
def F37T0 : XC :=
 .seq (.reg [⟨none, (some 52), .mov (.t 8)⟩]) (.cond (.t 52) (.reg [⟨none, (some 53), .mov (.t 5)⟩,⟨none, (some 54), .bin .add (.t 53) (.c (.int .i64 (1)))⟩,⟨none, (some 5), .mov (.t 54)⟩]) (.skip))
def F37T1 : XC :=
 .reg [⟨none, (some 22), .mov (.t 6)⟩,⟨none, (some 23), .bin .add (.t 22) (.c (.int .i64 (1)))⟩,⟨none, (some 6), .mov (.t 23)⟩]
def F37L1b : XC :=
 .seq (.seq (.reg [⟨none, (some 18), .mov (.t 6)⟩,⟨none, (some 19), .mov (.t 4)⟩,⟨none, (some 20), .len (.t 19)⟩,⟨none, (some 21), .bin .lss (.t 18) (.t 20)⟩]) (.cond (.t 21) (.skip) (.exit 0 (m 56 32)))) (.seq (.block 1 (m 56 113) (.seq (.reg [⟨none, (some 24), .mov (.t 4)⟩,⟨none, (some 25), .mov (.t 6)⟩,⟨none, (some 26), .indexA 1 (.t 24) (.t 25)⟩,⟨none, (some 27), .load none (.t 26)⟩,⟨none, (some 28), .call 1 68 [.t 27]⟩,⟨none, (some 7), .mov (.t 28)⟩]) (.seq (.reg [⟨none, (some 29), .mov (.t 7)⟩,⟨none, (some 30), .len (.t 29)⟩,⟨none, (some 31), .mov (.t 0)⟩,⟨none, (some 32), .len (.t 31)⟩,⟨none, (some 33), .bin .eql (.t 30) (.t 32)⟩,⟨none, (some 8), .mov (.t 33)⟩]) (.seq (.seq (.reg [⟨none, (some 9), .mov (.c (.int .i64 (0)))⟩]) (.block 2 (m 56 369) (F37L0)))
 F37T0))))
 F37T1)
def F37L1 : XC := .loop (m 56 113) F37L1b
def F37T2 : XC :=
 .seq (.reg [⟨none, (some 55), .mov (.t 5)⟩,⟨none, (some 2), .mov (.t 55)⟩,⟨none, (some 3), .mov (.c (.int .i64 (0)))⟩]) (.ret (m 56 12))
def F37B : XC :=
 .seq (.reg [⟨none, (some 2), .mov (.c (.int .i64 (0)))⟩,⟨none, (some 3), .mov (.c (.int .i64 (0)))⟩]) (.seq (.seq (.reg [⟨none, (some 10), .mov (.t 0)⟩,⟨none, (some 11), .call 1 38 [.t 10]⟩,⟨none, (some 12), .un .not (.t 11)⟩]) (.cond (.t 12) (.seq (.reg [⟨none, (some 2), .mov (.c (.int .i64 (0)))⟩,⟨none, (some 3), .mov (.c (.int .i64 (2)))⟩]) (.ret (m 56 12))) (.skip))) (.seq (.reg [⟨none, (some 13), .mov (.t 0)⟩,⟨none, (some 14), .len (.t 13)⟩,⟨none, (some 15), .bin .quo (.t 14) (.c (.int .i64 (2)))⟩,⟨none, (some 16), .call 2 54 [.t 15]⟩,⟨none, (some 17), .call 0 53 [.t 16, .c (.int .i64 (0)), .c (.nils)]⟩,⟨none, (some 4), .mov (.t 17)⟩]) (.seq (.reg [⟨none, (some 5), .mov (.c (.int .i64 (0)))⟩]) (.seq (.seq (.reg [⟨none, (some 6), .mov (.c (.int .i64 (0)))⟩]) (.block 0 (m 56 32) (F37L1)))
 F37T2))))
def F37 : XF := ⟨1, 56, [.tmp 2, .tmp 3], F37B⟩
def M37 : List (List Bool) := [(m 56 12), (m 56 32), (m 56 113), (m 56 32), (m 56 113), (m 56 369), (m 56 1009), (m 56 369), (m 56 1009), (m 56 12)]
def F38L0b : XC :=
 .seq (.seq (.reg [⟨none, (some 18), .mov (.t 3)⟩,⟨none, (some 19), .mov (.t 0)⟩,⟨none, (some 20), .len (.t 19)⟩,⟨none, (some 21), .bin .lss (.t 18) (.t 20)⟩]) (.cond (.t 21) (.skip) (.exit 0 (m 57 0)))) (.seq (.block 1 (m 57 9) (.seq (.reg [⟨none, (some 24), .mov (.t 0)⟩,⟨none, (some 25), .mov (.t 3)⟩,⟨none, (some 26), .indexA 1 (.t 24) (.t 25)⟩,⟨none, (some 27), .load none (.t 26)⟩,⟨none, (some 28), .bin .lss (.t 27) (.c (.int .i64 (0)))⟩,⟨none, (some 29), .mov (.t 28)⟩,⟨(some (29, false)), (some 30), .mov (.t 0)⟩,⟨(some (29, false)), (some 31), .mov (.t 3)⟩,⟨(some (29, false)), (some 32), .indexA 1 (.t 30) (.t 31)⟩,⟨(some (29, false)), (some 33), .load none (.t 32)⟩,⟨(some (29, false)), (some 34), .mov (.t 0)⟩,⟨(some (29, false)), (some 35), .len (.t 34)⟩,⟨(some (29, false)), (some 36), .bin .geq (.t 33) (.t 35)⟩,⟨none, (some 37), .pick (.t 29) (.c (.bool true)) (.t 36)⟩,⟨none, (some 38), .mov (.t 37)⟩,⟨(some (38, false)), (some 39), .mov (.t 0)⟩,⟨(some (38, false)), (some 40), .mov (.t 3)⟩,⟨(some (38, false)), (some 41), .indexA 1 (.t 39) (.t 40)⟩,⟨(some (38, false)), (some 42), .load none (.t 41)⟩,⟨(some (38, false)), (some 43), .mov (.t 3)⟩,⟨(some (38, false)), (some 44), .bin .eql (.t 42) (.t 43)⟩,⟨none, (some 45), .pick (.t 38) (.c (.bool true)) (.t 44)⟩,⟨none, (some 46), .mov (.t 45)⟩,⟨(some (46, false)), (some 47), .mov (.t 0)⟩,⟨(some (46, false)), (some 48), .mov (.t 0)⟩,⟨(some (46, false)), (some 49), .mov (.t 3)⟩,⟨(some (46, false)), (some 50), .indexA 1 (.t 48) (.t 49)⟩,⟨(some (46, false)), (some 51), .load none (.t 50)⟩,⟨(some (46, false)), (some 52), .indexA 1 (.t 47) (.t 51)⟩,⟨(some (46, false)), (some 53), .load none (.t 52)⟩,⟨(some (46, false)), (some 54), .mov (.t 3)⟩,⟨(some (46, false)), (some 55), .bin .neq (.t 53) (.t 54)⟩,⟨none, (some 56), .pick (.t 46) (.c (.bool true)) (.t 55)⟩]) (.cond (.t 56) (.seq (.reg [⟨none, (some 2), .mov (.c (.bool false))⟩]) (.ret (m 57 4))) (.skip)))) (.reg [⟨none, (some 22), .mov (.t 3)⟩,⟨none, (some 23), .bin .add (.t 22) (.c (.int .i64 (1)))⟩,⟨none, (some 3), .mov (.t 23)⟩]))
def F38L0 : XC := .loop (m 57 9) F38L0b
def F38T0 : XC :=
 .seq (.reg [⟨none, (some 2), .mov (.c (.bool true))⟩]) (.ret (m 57 4))
def F38B : XC :=
 .seq (.reg [⟨none, (some 2), .mov (.c (.bool false))⟩]) (.seq (.seq (.reg [⟨none, (some 4), .mov (.t 0)⟩,⟨none, (some 5), .len (.t 4)⟩,⟨none, (some 6), .bin .lss (.t 5) (.c (.int .i64 (2)))⟩,⟨none, (some 7), .mov (.t 6)⟩,⟨(some (7, false)), (some 8), .mov (.t 0)⟩,⟨(some (7, false)), (some 9), .len (.t 8)⟩,⟨(some (7, false)), (some 10), .bin .gtr (.t 9) (.c (.int .i64 (10)))⟩,⟨none, (some 11), .pick (.t 7) (.c (.bool true)) (.t 10)⟩,⟨none, (some 12), .mov (.t 11)⟩,⟨(some (12, false)), (some 13), .mov (.t 0)⟩,⟨(some (12, false)), (some 14), .len (.t 13)⟩,⟨(some (12, false)), (some 15), .bin .rem (.t 14) (.c (.int .i64 (2)))⟩,⟨(some (12, false)), (some 16), .bin .eql (.t 15) (.c (.int .i64 (1)))⟩,⟨none, (some 17), .pick (.t 12) (.c (.bool true)) (.t 16)⟩]) (.cond (.t 17) (.seq (.reg [⟨none, (some 2), .mov (.c (.bool false))⟩]) (.ret (m 57 4))) (.skip))) (.seq (.seq (.reg [⟨none, (some 3), .mov (.c (.int .i64 (0)))⟩]) (.block 0 (m 57 0) (F38L0)))
 F38T0))
def F38 : XF := ⟨1, 57, [.tmp 2], F38B⟩
def M38 : List (List Bool) := [(m 57 4), (m 57 0), (m 57 9), (m 57 0), (m 57 9), (m 57 4), (m 57 4)]
def F39L0b : XC :=
 .seq (.seq (.reg [⟨none, (some 13), .mov (.t 4)⟩,⟨none, (some 14), .mov (.t 0)⟩,⟨none, (some 15), .mov (.t 3)⟩,⟨none, (some 16), .indexA 1 (.t 14) (.t 15)⟩,⟨none, (some 17), .load none (.t 16)⟩,⟨none, (some 18), .bin .lss (.t 13) (.t 17)⟩]) (.cond (.t 18) (.skip) (.exit 2 (m 30 9)))) (.seq (.block 3 (m 30 25) (.seq (.reg [⟨none, (some 21), .mov (.t 0)⟩,⟨none, (some 22), .mov (.t 4)⟩,⟨none, (some 23), .indexA 1 (.t 21) (.t 22)⟩,⟨none, (some 24), .load none (.t 23)⟩,⟨none, (some 25), .mov (.t 0)⟩,⟨none, (some 26), .mov (.t 3)⟩,⟨none, (some 27), .indexA 1 (.t 25) (.t 26)⟩,⟨none, (some 28), .load none (.t 27)⟩,⟨none, (some 29), .bin .gtr (.t 24) (.t 28)⟩]) (.cond (.t 29) (.seq (.reg [⟨none, (some 2), .mov (.c (.bool true))⟩]) (.ret (m 30 4))) (.skip)))) (.reg [⟨none, (some 19), .mov (.t 4)⟩,⟨none, (some 20), .bin .add (.t 19) (.c (.int .i64 (1)))⟩,⟨none, (some 4), .mov (.t 20)⟩]))
def F39L0 : XC := .loop (m 30 25) F39L0b
def F39T0 : XC :=
 .reg [⟨none, (some 9), .mov (.t 3)⟩,⟨none, (some 10), .bin .add (.t 9) (.c (.int .i64 (1)))⟩,⟨none, (some 3), .mov (.t 10)⟩]
def F39L1b : XC :=
 .seq (.seq (.reg [⟨none, (some 5), .mov (.t 3)⟩,⟨none, (some 6), .mov (.t 0)⟩,⟨none, (some 7), .len (.t 6)⟩,⟨none, (some 8), .bin .lss (.t 5) (.t 7)⟩]) (.cond (.t 8) (.skip) (.exit 0 (m 30 0)))) (.seq (.block 1 (m 30 9) (.seq (.reg [⟨none, (some 11), .mov (.t 3)⟩,⟨none, (some 12), .bin .add (.t 11) (.c (.int .i64 (1)))⟩,⟨none, (some 4), .mov (.t 12)⟩]) (.block 2 (m 30 9) (F39L0))))
 F39T0)
def F39L1 : XC := .loop (m 30 9) F39L1b
def F39T1 : XC :=
 .seq (.reg [⟨none, (some 2), .mov (.c (.bool false))⟩]) (.ret (m 30 4))
def F39B : XC :=
 .seq (.reg [⟨none, (some 2), .mov (.c (.bool false))⟩]) (.seq (.seq (.reg [⟨none, (some 3), .mov (.c (.int .i64 (0)))⟩]) (.block 0 (m 30 0) (F39L1)))
 F39T1)
def F39 : XF := ⟨1, 30, [.tmp 2], F39B⟩
def M39 : List (List Bool) := [(m 30 0), (m 30 9), (m 30 0), (m 30 9), (m 30 9), (m 30 25), (m 30 9), (m 30 25), (m 30 4), (m 30 4)]
def F46B : XC :=
 .seq (.reg [⟨none, (some 6), .mov (.c (.nils))⟩,⟨none, (some 7), .mov (.c (.int .i64 (0)))⟩]) (.seq (.reg [⟨none, (some 13), .mov (.t 0)⟩,⟨none, (some 14), .call 0 64 [.t 13]⟩,⟨none, (some 12), .mov (.t 14)⟩,⟨none, (some 15), .ext (.t 12) 0⟩,⟨none, (some 16), .ext (.t 12) 1⟩,⟨none, (some 8), .mov (.t 15)⟩,⟨none, (some 9), .mov (.t 16)⟩]) (.seq (.seq (.reg [⟨none, (some 17), .mov (.t 9)⟩,⟨none, (some 18), .un .not (.t 17)⟩,⟨none, (some 19), .mov (.t 18)⟩,⟨(some (19, false)), (some 20), .mov (.t 1)⟩,⟨(some (19, false)), (some 21), .mov (.t 2)⟩,⟨(some (19, false)), (some 22), .mnx false [.t 20, .t 21]⟩,⟨(some (19, false)), (some 23), .bin .lss (.t 22) (.c (.int .i64 (1)))⟩,⟨none, (some 24), .pick (.t 19) (.c (.bool true)) (.t 23)⟩,⟨none, (some 25), .mov (.t 24)⟩,⟨(some (25, false)), (some 26), .mov (.t 1)⟩,⟨(some (25, false)), (some 27), .mov (.t 2)⟩,⟨(some (25, false)), (some 28), .mnx true [.t 26, .t 27]⟩,⟨(some (25, false)), (some 29), .mov (.t 0)⟩,⟨(some (25, false)), (some 30), .len (.t 29)⟩,⟨(some (25, false)), (some 31), .bin .geq (.t 28) (.t 30)⟩,⟨none, (some 32), .pick (.t 25) (.c (.bool true)) (.t 31)⟩]) (.cond (.t 32) (.seq (.reg [⟨none, (some 6), .mov (.c (.nils))⟩,⟨none, (some 7), .mov (.c (.int .i64 (2)))⟩]) (.ret (m 55 192))) (.skip))) (.seq (.reg [⟨none, (some 33), .mov (.t 8)⟩,⟨none, (some 34), .mki 56 (.t 33)⟩,⟨none, (some 35), .call 2 62 [.t 34]⟩,⟨none, (some 10), .mov (.t 35)⟩]) (.seq (.reg [⟨none, (some 37), .mov (.t 10)⟩,⟨none, (some 38), .mov (.t 1)⟩,⟨none, (some 39), .mov (.t 2)⟩,⟨none, (some 40), .call 1 74 [.t 37, .t 38, .t 39]⟩,⟨none, (some 36), .mov (.t 40)⟩,⟨none, (some 41), .ext (.t 36) 0⟩,⟨none, (some 42), .ext (.t 36) 1⟩,⟨none, (some 11), .mov (.t 41)⟩,⟨none, (some 9), .mov (.t 42)⟩]) (.seq (.seq (.reg [⟨none, (some 43), .mov (.t 9)⟩,⟨none, (some 44), .un .not (.t 43)⟩]) (.cond (.t 44) (.seq (.reg [⟨none, (some 6), .mov (.c (.nils))⟩,⟨none, (some 7), .mov (.c (.int .i64 (9)))⟩]) (.ret (m 55 192))) (.skip))) (.seq (.reg [⟨none, (some 45), .mov (.t 10)⟩,⟨none, (some 46), .mov (.t 1)⟩,⟨none, (some 47), .indexA 1 (.t 45) (.t 46)⟩,⟨none, (some 48), .load none (.t 47)⟩,⟨none, (some 49), .mov (.t 2)⟩,⟨none, (some 50), .mov (.t 11)⟩,⟨none, (some 51), .indexA 1 (.t 48) (.t 49)⟩,⟨none, none, .store 1 (.t 51) (.t 50)⟩]) (.seq (.reg [⟨none, (some 52), .mov (.t 10)⟩,⟨none, (some 53), .mki 59 (.t 52)⟩,⟨none, (some 54), .call 1 72 [.t 53]⟩,⟨none, (some 6), .mov (.t 54)⟩,⟨none, (some 7), .mov (.c (.int .i64 (0)))⟩]) (.ret (m 55 192)))))))))
def F46 : XF := ⟨3, 55, [.tmp 6, .tmp 7], F46B⟩
def M46 : List (List Bool) := [(m 55 192), (m 55 192), (m 55 192)]
def F47B : XC :=
 .seq (.reg [⟨none, (some 2), .mov (.c (.nils))⟩,⟨none, (some 3), .mov (.c (.int .i64 (0)))⟩]) (.seq (.reg [⟨none, (some 8), .mov (.t 0)⟩,⟨none, (some 9), .call 0 64 [.t 8]⟩,⟨none, (some 7), .mov (.t 9)⟩,⟨none, (some 10), .ext (.t 7) 0⟩,⟨none, (some 11), .ext (.t 7) 1⟩,⟨none, (some 4), .mov (.t 10)⟩,⟨none, (some 5), .mov (.t 11)⟩]) (.seq (.seq (.reg [⟨none, (some 12), .mov (.t 5)⟩,⟨none, (some 13), .un .not (.t 12)⟩]) (.cond (.t 13) (.seq (.reg [⟨none, (some 2), .mov (.c (.nils))⟩,⟨none, (some 3), .mov (.c (.int .i64 (2)))⟩]) (.ret (m 22 12))) (.skip))) (.seq (.reg [⟨none, (some 14), .mov (.t 4)⟩,⟨none, (some 15), .mki 56 (.t 14)⟩,⟨none, (some 16), .call 2 62 [.t 15]⟩,⟨none, (some 6), .mov (.t 16)⟩]) (.seq (.reg [⟨none, (some 17), .mov (.t 6)⟩,⟨none, (some 18), .call 0 75 [.t 17]⟩]) (.seq (.reg [⟨none, (some 19), .mov (.t 6)⟩,⟨none, (some 20), .mki 59 (.t 19)⟩,⟨none, (some 21), .call 1 72 [.t 20]⟩,⟨none, (some 2), .mov (.t 21)⟩,⟨none, (some 3), .mov (.c (.int .i64 (0)))⟩]) (.ret (m 22 12)))))))
def F47 : XF := ⟨1, 22, [.tmp 2, .tmp 3], F47B⟩
def M47 : List (List Bool) := [(m 22 12), (m 22 12)]
def F48L0b : XC :=
 .seq (.seq (.reg [⟨none, (some 8), .mov (.t 4)⟩,⟨none, (some 9), .mov (.t 0)⟩,⟨none, (some 10), .len (.t 9)⟩,⟨none, (some 11), .bin .lss (.t 8) (.t 10)⟩]) (.cond (.t 11) (.skip) (.exit 0 (m 30 8)))) (.seq (.block 1 (m 30 25) (.reg [⟨none, (some 14), .mov (.t 3)⟩,⟨none, (some 15), .mov (.t 4)⟩,⟨none, (some 16), .bin .add (.t 15) (.c (.int .i64 (1)))⟩,⟨none, (some 17), .mov (.t 0)⟩,⟨none, (some 18), .len (.t 17)⟩,⟨none, (some 19), .bin .rem (.t 16) (.t 18)⟩,⟨none, (some 20), .mov (.t 0)⟩,⟨none, (some 21), .mov (.t 4)⟩,⟨none, (some 22), .indexA 1 (.t 20) (.t 21)⟩,⟨none, (some 23), .load none (.t 22)⟩,⟨none, (some 24), .bin .add (.t 23) (.c (.int .i64 (1)))⟩,⟨none, (some 25), .mov (.t 0)⟩,⟨none, (some 26), .len (.t 25)⟩,⟨none, (some 27), .bin .rem (.t 24) (.t 26)⟩,⟨none, (some 28), .indexA 1 (.t 14) (.t 19)⟩,⟨none, none, .store 1 (.t 28) (.t 27)⟩])) (.reg [⟨none, (some 12), .mov (.t 4)⟩,⟨none, (some 13), .bin .add (.t 12) (.c (.int .i64 (1)))⟩,⟨none, (some 4), .mov (.t 13)⟩]))
def F48L0 : XC := .loop (m 30 25) F48L0b
def F48T0 : XC :=
 .seq (.reg [⟨none, (some 29), .mov (.t 3)⟩,⟨none, (some 2), .mov (.t 29)⟩]) (.ret (m 30 4))
def F48B : XC :=
 .seq (.reg [⟨none, (some 2), .mov (.c (.nils))⟩]) (.seq (.reg [⟨none, (some 5), .mov (.t 0)⟩,⟨none, (some 6), .len (.t 5)⟩,⟨none, (some 7), .mks 1 8 [.int .i64 (0)] (.t 6) (.t 6)⟩,⟨none, (some 3), .mov (.t 7)⟩]) (.seq (.seq (.reg [⟨none, (some 4), .mov (.c (.int .i64 (0)))⟩]) (.block 0 (m 30 8) (F48L0)))
 F48T0))
def F48 : XF := ⟨1, 30, [.tmp 2], F48B⟩
def M48 : List (List Bool) := [(m 30 8), (m 30 25), (m 30 8), (m 30 25), (m 30 4)]
def F51B : XC :=
 .seq (.reg [⟨none, (some 6), .mov (.c (.nils))⟩,⟨none, (some 7), .mov (.c (.int .i64 (0)))⟩]) (.seq (.seq (.reg [⟨none, (some 11), .mov (.t 0)⟩,⟨none, (some 12), .call 1 26 [.t 11]⟩,⟨none, (some 13), .un .not (.t 12)⟩,⟨none, (some 14), .mov (.t 13)⟩,⟨(some (14, false)), (some 15), .mov (.t 1)⟩,⟨(some (14, false)), (some 16), .bin .lss (.t 15) (.c (.int .i64 (1)))⟩,⟨none, (some 17), .pick (.t 14) (.c (.bool true)) (.t 16)⟩,⟨none, (some 18), .mov (.t 17)⟩,⟨(some (18, false)), (some 19), .mov (.t 1)⟩,⟨(some (18, false)), (some 20), .mov (.t 0)⟩,⟨(some (18, false)), (some 21), .len (.t 20)⟩,⟨(some (18, false)), (some 22), .bin .geq (.t 19) (.t 21)⟩,⟨none, (some 23), .pick (.t 18) (.c (.bool true)) (.t 22)⟩,⟨none, (some 24), .mov (.t 23)⟩,⟨(some (24, false)), (some 25), .mov (.t 2)⟩,⟨(some (24, false)), (some 26), .bin .lss (.t 25) (.c (.int .i64 (1)))⟩,⟨none, (some 27), .pick (.t 24) (.c (.bool true)) (.t 26)⟩,⟨none, (some 28), .mov (.t 27)⟩,⟨(some (28, false)), (some 29), .mov (.t 2)⟩,⟨(some (28, false)), (some 30), .mov (.t 0)⟩,⟨(some (28, false)), (some 31), .len (.t 30)⟩,⟨(some (28, false)), (some 32), .bin .geq (.t 29) (.t 31)⟩,⟨none, (some 33), .pick (.t 28) (.c (.bool true)) (.t 32)⟩]) (.cond (.t 33) (.seq (.reg [⟨none, (some 6), .mov (.c (.nils))⟩,⟨none, (some 7), .mov (.c (.int .i64 (2)))⟩]) (.ret (m 54 192))) (.skip))) (.seq (.reg [⟨none, (some 34), .mov (.t 0)⟩,⟨none, (some 35), .call 2 65 [.t 34]⟩,⟨none, (some 8), .mov (.t 35)⟩]) (.seq (.reg [⟨none, (some 37), .mov (.t 8)⟩,⟨none, (some 38), .mov (.t 1)⟩,⟨none, (some 39), .mov (.t 2)⟩,⟨none, (some 40), .call 1 76 [.t 37, .t 38, .t 39]⟩,⟨none, (some 36), .mov (.t 40)⟩,⟨none, (some 41), .ext (.t 36) 0⟩,⟨none, (some 42), .ext (.t 36) 1⟩,⟨none, (some 9), .mov (.t 41)⟩,⟨none, (some 10), .mov (.t 42)⟩]) (.seq (.seq (.reg [⟨none, (some 43), .mov (.t 10)⟩,⟨none, (some 44), .un .not (.t 43)⟩]) (.cond (.t 44) (.seq (.reg [⟨none, (some 6), .mov (.c (.nils))⟩,⟨none, (some 7), .mov (.c (.int .i64 (9)))⟩]) (.ret (m 54 192))) (.skip))) (.seq (.reg [⟨none, (some 45), .mov (.t 8)⟩,⟨none, (some 46), .mov (.t 1)⟩,⟨none, (some 47), .indexA 1 (.t 45) (.t 46)⟩,⟨none, (some 48), .load none (.t 47)⟩,⟨none, (some 49), .mov (.t 2)⟩,⟨none, (some 50), .mov (.t 9)⟩,⟨none, (some 51), .indexA 1 (.t 48) (.t 49)⟩,⟨none, none, .store 1 (.t 51) (.t 50)⟩]) (.seq (.reg [⟨none, (some 52), .mov (.t 8)⟩,⟨none, (some 53), .call 1 73 [.t 52]⟩,⟨none, (some 6), .mov (.t 53)⟩,⟨none, (some 7), .mov (.c (.int .i64 (0)))⟩]) (.ret (m 54 192))))))))
def F51 : XF := ⟨3, 54, [.tmp 6, .tmp 7], F51B⟩
def M51 : List (List Bool) := [(m 54 192), (m 54 192), (m 54 192)]
def F52L0b : XC :=
 .seq (.seq (.reg [⟨none, (some 25), .mov (.t 7)⟩,⟨none, (some 26), .mov (.t 0)⟩,⟨none, (some 27), .len (.t 26)⟩,⟨none, (some 28), .bin .lss (.t 25) (.t 27)⟩]) (.cond (.t 28) (.skip) (.exit 4 (m 56 113)))) (.seq (.block 5 (m 56 241) (.seq (.reg [⟨none, (some 32), .mov (.t 4)⟩,⟨none, (some 33), .mov (.t 6)⟩,⟨none, (some 34), .mov (.t 7)⟩,⟨none, (some 35), .call 1 76 [.t 32, .t 33, .t 34]⟩,⟨none, (some 31), .mov (.t 35)⟩,⟨none, (some 36), .ext (.t 31) 0⟩,⟨none, (some 37), .ext (.t 31) 1⟩,⟨none, (some 8), .mov (.t 36)⟩,⟨none, (some 9), .mov (.t 37)⟩]) (.seq (.reg [⟨none, (some 38), .mov (.t 9)⟩,⟨none, (some 39), .mov (.t 38)⟩,⟨(some (39, true)), (some 40), .mov (.t 6)⟩,⟨(some (39, true)), (some 41), .mov (.t 7)⟩,⟨(some (39, true)), (some 42), .bin .add (.t 40) (.t 41)⟩,⟨(some (39, true)), (some 43), .bin .rem (.t 42) (.c (.int .i64 (2)))⟩,⟨(some (39, true)), (some 44), .mov (.t 5)⟩,⟨(some (39, true)), (some 45), .bin .eql (.t 43) (.t 44)⟩,⟨none, (some 46), .pick (.t 39) (.t 45) (.c (.bool false))⟩]) (.cond (.t 46) (.reg [⟨none, (some 47), .mov (.t 4)⟩,⟨none, (some 48), .mov (.t 6)⟩,⟨none, (some 49), .indexA 1 (.t 47) (.t 48)⟩,⟨none, (some 50), .load none (.t 49)⟩,⟨none, (some 51), .mov (.t 7)⟩,⟨none, (some 52), .mov (.t 8)⟩,⟨none, (some 53), .indexA 1 (.t 50) (.t 51)⟩,⟨none, none, .store 1 (.t 53) (.t 52)⟩]) (.skip))))) (.reg [⟨none, (some 29), .mov (.t 7)⟩,⟨none, (some 30), .bin .add (.t 29) (.c (.int .i64 (1)))⟩,⟨none, (some 7), .mov (.t 30)⟩]))
def F52L0 : XC := .loop (m 56 241) F52L0b
def F52T0 : XC :=
 .reg [⟨none, (some 23), .mov (.t 6)⟩,⟨none, (some 24), .bin .add (.t 23) (.c (.int .i64 (1)))⟩,⟨none, (some 6), .mov (.t 24)⟩]
def F52L1b : XC :=
 .seq (.seq (.reg [⟨none, (some 19), .mov (.t 6)⟩,⟨none, (some 20), .mov (.t 0)⟩,⟨none, (some 21), .len (.t 20)⟩,⟨none, (some 22), .bin .lss (.t 19) (.t 21)⟩]) (.cond (.t 22) (.skip) (.exit 2 (m 56 49)))) (.seq (.block 3 (m 56 113) (.seq (.reg [⟨none, (some 7), .mov (.c (.int .i64 (1)))⟩]) (.block 4 (m 56 113) (F52L0))))
 F52T0)
def F52L1 : XC := .loop (m 56 113) F52L1b
def F52T1 : XC :=
 .reg [⟨none, (some 17), .mov (.t 5)⟩,⟨none, (some 18), .bin .sub (.t 17) (.c (.int .i64 (1)))⟩,⟨none, (some 5), .mov (.t 18)⟩]
def F52L2b : XC :=
 .seq (.seq (.reg [⟨none, (some 15), .mov (.t 5)⟩,⟨none, (some 16), .bin .geq (.t 15) (.c (.int .i64 (0)))⟩]) (.cond (.t 16) (.skip) (.exit 0 (m 56 16)))) (.seq (.block 1 (m 56 49) (.seq (.reg [⟨none, (some 6), .mov (.c (.int .i64 (1)))⟩]) (.block 2 (m 56 49) (F52L1))))
 F52T1)
def F52L2 : XC := .loop (m 56 49) F52L2b
def F52T2 : XC :=
 .seq (.reg [⟨none, (some 54), .mov (.t 4)⟩,⟨none, (some 55), .call 1 73 [.t 54]⟩,⟨none, (some 2), .mov (.t 55)⟩,⟨none, (some 3), .mov (.c (.int .i64 (0)))⟩]) (.ret (m 56 12))
def F52B : XC :=
 .seq (.reg [⟨none, (some 2), .mov (.c (.nils))⟩,⟨none, (some 3), .mov (.c (.int .i64 (0)))⟩]) (.seq (.seq (.reg [⟨none, (some 10), .mov (.t 0)⟩,⟨none, (some 11), .call 1 26 [.t 10]⟩,⟨none, (some 12), .un .not (.t 11)⟩]) (.cond (.t 12) (.seq (.reg [⟨none, (some 2), .mov (.c (.nils))⟩,⟨none, (some 3), .mov (.c (.int .i64 (2)))⟩]) (.ret (m 56 12))) (.skip))) (.seq (.reg [⟨none, (some 13), .mov (.t 0)⟩,⟨none, (some 14), .call 2 65 [.t 13]⟩,⟨none, (some 4), .mov (.t 14)⟩]) (.seq (.seq (.reg [⟨none, (some 5), .mov (.c (.int .i64 (1)))⟩]) (.block 0 (m 56 16) (F52L2)))
 F52T2)))
def F52 : XF := ⟨1, 56, [.tmp 2, .tmp 3], F52B⟩
def M52 : List (List Bool) := [(m 56 12), (m 56 16), (m 56 49), (m 56 16), (m 56 49), (m 56 49), (m 56 113), (m 56 49), (m 56 113), (m 56 113), (m 56 241), (m 56 113), (m 56 241), (m 56 12)]
def F53L0b : XC :=
 .seq (.seq (.reg [⟨none, (some 33), .mov (.t 12)⟩,⟨none, (some 34), .mov (.t 9)⟩,⟨none, (some 35), .bin .lss (.t 33) (.t 34)⟩]) (.cond (.t 35) (.skip) (.exit 0 (m 130 3975)))) (.seq (.block 1 (m 130 8071) (.reg [⟨none, (some 38), .mov (.t 10)⟩,⟨none, (some 39), .mov (.t 0)⟩,⟨none, (some 40), .mov (.t 8)⟩,⟨none, (some 41), .indexA 1 (.t 39) (.t 40)⟩,⟨none, (some 42), .load none (.t 41)⟩,⟨none, (some 43), .mov (.t 12)⟩,⟨none, (some 44), .indexA 1 (.t 42) (.t 43)⟩,⟨none, (some 45), .load none (.t 44)⟩,⟨none, (some 46), .bin .add (.t 38) (.t 45)⟩,⟨none, (some 10), .mov (.t 46)⟩])) (.reg [⟨none, (some 36), .mov (.t 12)⟩,⟨none, (some 37), .bin .add (.t 36) (.c (.int .i64 (1)))⟩,⟨none, (some 12), .mov (.t 37)⟩]))
def F53L0 : XC := .loop (m 130 8071) F53L0b
def F53L1b : XC :=
 .seq (.seq (.reg [⟨none, (some 47), .mov (.t 13)⟩,⟨none, (some 48), .mov (.t 8)⟩,⟨none, (some 49), .bin .lss (.t 47) (.t 48)⟩]) (.cond (.t 49) (.skip) (.exit 2 (m 130 3975)))) (.seq (.block 3 (m 130 12167) (.reg [⟨none, (some 52), .mov (.t 11)⟩,⟨none, (some 53), .mov (.t 0)⟩,⟨none, (some 54), .mov (.t 13)⟩,⟨none, (some 55), .indexA 1 (.t 53) (.t 54)⟩,⟨none, (some 56), .load none (.t 55)⟩,⟨none, (some 57), .mov (.t 9)⟩,⟨none, (some 58), .indexA 1 (.t 56) (.t 57)⟩,⟨none, (some 59), .load none (.t 58)⟩,⟨none, (some 60), .bin .add (.t 52) (.t 59)⟩,⟨none, (some 11), .mov (.t 60)⟩])) (.reg [⟨none, (some 50), .mov (.t 13)⟩,⟨none, (some 51), .bin .add (.t 50) (.c (.int .i64 (1)))⟩,⟨none, (some 13), .mov (.t 51)⟩]))
def F53L1 : XC := .loop (m 130 12167) F53L1b
def F53L2b : XC :=
 .seq (.seq (.reg [⟨none, (some 61), .mov (.t 14)⟩,⟨none, (some 62), .bin .leq (.t 61) (.c (.int .i64 (1)))⟩]) (.cond (.t 62) (.skip) (.exit 4 (m 130 773)))) (.seq (.block 5 (m 130 20359) (.seq (.seq (.reg [⟨none, (some 65), .mov (.t 10)⟩,⟨none, (some 66), .mov (.t 14)⟩,⟨none, (some 67), .bin .add (.t 65) (.t 66)⟩,⟨none, (some 68), .bin .lss (.t 67) (.c (.int .i64 (0)))⟩,⟨none, (some 69), .mov (.t 68)⟩,⟨(some (69, false)), (some 70), .mov (.t 10)⟩,⟨(some (69, false)), (some 71), .mov (.t 14)⟩,⟨(some (69, false)), (some 72), .bin .add (.t 70) (.t 71)⟩,⟨(some (69, false)), (some 73), .bin .gtr (.t 72) (.c (.int .i64 (1)))⟩,⟨none, (some 74), .pick (.t 69) (.c (.bool true)) (.t 73)⟩,⟨none, (some 75), .mov (.t 74)⟩,⟨(some (75, false)), (some 76), .mov (.t 11)⟩,⟨(some (75, false)), (some 77), .mov (.t 14)⟩,⟨(some (75, false)), (some 78), .bin .add (.t 76) (.t 77)⟩,⟨(some (75, false)), (some 79), .bin .lss (.t 78) (.c (.int .i64 (0)))⟩,⟨none, (some 80), .pick (.t 75) (.c (.bool true)) (.t 79)⟩,⟨none, (some 81), .mov (.t 80)⟩,⟨(some (81, false)), (some 82), .mov (.t 11)⟩,⟨(some (81, false)), (some 83), .mov (.t 14)⟩,⟨(some (81, false)), (some 84), .bin .add (.t 82) (.t 83)⟩,⟨(some (81, false)), (some 85), .bin .gtr (.t 84) (.c (.int .i64 (1)))⟩,⟨none, (some 86), .pick (.t 81) (.c (.bool true)) (.t 85)⟩,⟨none, (some 87), .mov (.t 86)⟩,⟨(some (87, false)), (some 88), .mov (.t 9)⟩,⟨(some (87, false)), (some 89), .mov (.t 7)⟩,⟨(some (87, false)), (some 90), .bin .sub (.t 89) (.c (.int .i64 (1)))⟩,⟨(some (87, false)), (some 91), .bin .eql (.t 88) (.t 90)⟩,⟨(some (87, false)), (some 92), .mov (.t 91)⟩,⟨(some (92, true)), (some 93), .mov (.t 10)⟩,⟨(some (92, true)), (some 94), .mov (.t 14)⟩,⟨(some (92, true)), (some 95), .bin .add (.t 93) (.t 94)⟩,⟨(some (92, true)), (some 96), .bin .neq (.t 95) (.c (.int .i64 (1)))⟩,⟨(some (87, false)), (some 97), .pick (.t 92) (.t 96) (.c (.bool false))⟩,⟨none, (some 98), .pick (.t 87) (.c (.bool true)) (.t 97)⟩,⟨none, (some 99), .mov (.t 98)⟩,⟨(some (99, false)), (some 100), .mov (.t 8)⟩,⟨(some (99, false)), (some 101), .mov (.t 7)⟩,⟨(some (99, false)), (some 102), .bin .sub (.t 101) (.c (.int .i64 (1)))⟩,⟨(some (99, false)), (some 103), .bin .eql (.t 100) (.t 102)⟩,⟨(some (99, false)), (some 104), .mov (.t 103)⟩,⟨(some (104, true)), (some 105), .mov (.t 11)⟩,⟨(some (104, true)), (some 106), .mov (.t 14)⟩,⟨(some (104, true)), (some 107), .bin .add (.t 105) (.t 106)⟩,⟨(some (104, true)), (some 108), .bin .neq (.t 107) (.c (.int .i64 (1)))⟩,⟨(some (99, false)), (some 109), .pick (.t 104) (.t 108) (.c (.bool false))⟩,⟨none, (some 110), .pick (.t 99) (.c (.bool true)) (.t 109)⟩]) (.cond (.t 110) (.exit 5 (m 130 20359)) (.skip))) (.seq (.reg [⟨none, (some 111), .mov (.t 0)⟩,⟨none, (some 112), .mov (.t 8)⟩,⟨none, (some 113), .indexA 1 (.t 111) (.t 112)⟩,⟨none, (some 114), .load none (.t 113)⟩,⟨none, (some 115), .mov (.t 9)⟩,⟨none, (some 116), .mov (.t 14)⟩,⟨none, (some 117), .indexA 1 (.t 114) (.t 115)⟩,⟨none, none, .store 1 (.t 117) (.t 116)⟩]) (.reg [⟨none, (some 118), .mov (.t 0)⟩,⟨none, (some 119), .mov (.t 1)⟩,⟨none, (some 120), .bin .add (.t 119) (.c (.int .i64 (1)))⟩,⟨none, (some 121), .mov (.t 2)⟩,⟨none, (some 122), .call 0 53 [.t 118, .t 120, .t 121]⟩,⟨none, (some 2), .mov (.t 122)⟩])))) (.reg [⟨none, (some 63), .mov (.t 14)⟩,⟨none, (some 64), .bin .add (.t 63) (.c (.int .i64 (1)))⟩,⟨none, (some 14), .mov (.t 64)⟩]))
def F53L2 : XC := .loop (m 130 20359) F53L2b
def F53T0 : XC :=
 .seq (.reg [⟨none, (some 123), .mov (.t 0)⟩,⟨none, (some 124), .mov (.t 8)⟩,⟨none, (some 125), .indexA 1 (.t 123) (.t 124)⟩,⟨none, (some 126), .load none (.t 125)⟩,⟨none, (some 127), .mov (.t 9)⟩,⟨none, (some 128), .indexA 1 (.t 126) (.t 127)⟩,⟨none, none, .store 1 (.t 128) (.c (.int .i64 (0)))⟩]) (.seq (.reg [⟨none, (some 129), .mov (.t 2)⟩,⟨none, (some 6), .mov (.t 129)⟩]) (.ret (m 130 64)))
def F53T1 : XC :=
 .seq (.seq (.reg [⟨none, (some 14), .mov (.c (.int .i64 (-1)))⟩]) (.block 4 (m 130 773) (F53L2)))
 F53T0
def F53T2 : XC :=
 .seq (.seq (.reg [⟨none, (some 13), .mov (.c (.int .i64 (0)))⟩]) (.block 2 (m 130 3975) (F53L1)))
 F53T1
def F53B : XC :=
 .seq (.reg [⟨none, (some 6), .mov (.c (.nils))⟩]) (.seq (.reg [⟨none, (some 15), .mov (.t 0)⟩,⟨none, (some 16), .len (.t 15)⟩,⟨none, (some 7), .mov (.t 16)⟩]) (.seq (.seq (.reg [⟨none, (some 17), .mov (.t 1)⟩,⟨none, (some 18), .mov (.t 7)⟩,⟨none, (some 19), .mov (.t 7)⟩,⟨none, (some 20), .bin .mul (.t 18) (.t 19)⟩,⟨none, (some 21), .bin .eql (.t 17) (.t 20)⟩]) (.cond (.t 21) (.seq (.reg [⟨none, (some 22), .mov (.t 2)⟩,⟨none, (some 23), .mov (.t 0)⟩,⟨none, (some 24), .call 1 24 [.t 23]⟩,⟨none, (some 25), .bslice 1 1 [.nils] [(0, 1, .t 24)]⟩,⟨none, (some 26), .app 1 24 (.t 22) (.t 25)⟩,⟨none, (some 6), .mov (.t 26)⟩]) (.ret (m 130 64))) (.skip))) (.seq (.reg [⟨none, (some 27), .mov (.t 1)⟩,⟨none, (some 28), .mov (.t 7)⟩,⟨none, (some 29), .bin .quo (.t 27) (.t 28)⟩,⟨none, (some 30), .mov (.t 1)⟩,⟨none, (some 31), .mov (.t 7)⟩,⟨none, (some 32), .bin .rem (.t 30) (.t 31)⟩,⟨none, (some 8), .mov (.t 29)⟩,⟨none, (some 9), .mov (.t 32)⟩]) (.seq (.reg [⟨none, (some 10), .mov (.c (.int .i64 (0)))⟩,⟨none, (some 11), .mov (.c (.int .i64 (0)))⟩]) (.seq (.seq (.reg [⟨none, (some 12), .mov (.c (.int .i64 (0)))⟩]) (.block 0 (m 130 3975) (F53L0)))
 F53T2)))))
def F53 : XF := ⟨3, 130, [.tmp 6], F53B⟩
def M53 : List (List Bool) := [(m 130 64), (m 130 3975), (m 130 8071), (m 130 3975), (m 130 8071), (m 130 3975), (m 130 12167), (m 130 3975), (m 130 12167), (m 130 773), (m 130 20359), (m 130 773), (m 130 20359), (m 130 20359), (m 130 64)]
def F54L0b : XC :=
 .seq (.seq (.reg [⟨none, (some 5), .mov (.t 4)⟩,⟨none, (some 6), .mov (.t 0)⟩,⟨none, (some 7), .bin .lss (.t 5) (.t 6)⟩]) (.cond (.t 7) (.skip) (.exit 0 (m 16 8)))) (.seq (.block 1 (m 16 25) (.reg [⟨none, (some 10), .mov (.t 3)⟩,⟨none, (some 11), .mov (.t 0)⟩,⟨none, (some 12), .mks 1 8 [.int .i64 (0)] (.t 11) (.t 11)⟩,⟨none, (some 13), .bslice 1 1 [.nils] [(0, 1, .t 12)]⟩,⟨none, (some 14), .app 1 24 (.t 10) (.t 13)⟩,⟨none, (some 3), .mov (.t 14)⟩])) (.reg [⟨none, (some 8), .mov (.t 4)⟩,⟨none, (some 9), .bin .add (.t 8) (.c (.int .i64 (1)))⟩,⟨none, (some 4), .mov (.t 9)⟩]))
def F54L0 : XC := .loop (m 16 25) F54L0b
def F54T0 : XC :=
 .seq (.reg [⟨none, (some 15), .mov (.t 3)⟩,⟨none, (some 2), .mov (.t 15)⟩]) (.ret (m 16 4))
def F54B : XC :=
 .seq (.reg [⟨none, (some 2), .mov (.c (.nils))⟩]) (.seq (.reg [⟨none, (some 3), .mov (.c (.nils))⟩]) (.seq (.seq (.reg [⟨none, (some 4), .mov (.c (.int .i64 (0)))⟩]) (.block 0 (m 16 8) (F54L0)))
 F54T0))
def F54 : XF := ⟨1, 16, [.tmp 2], F54B⟩
def M54 : List (List Bool) := [(m 16 8), (m 16 25), (m 16 8), (m 16 25), (m 16 4)]
def F55B : XC :=
 .seq (.reg [⟨none, (some 2), .box (.t 0)⟩,⟨none, (some 3), .box (.t 1)⟩]) (.seq (.reg [⟨none, (some 8), .load none (.t 2)⟩,⟨none, (some 9), .call 2 69 [.t 8, .c (.fn 77 [])]⟩,⟨none, (some 4), .alloc [.nils]⟩,⟨none, none, .store 1 (.t 4) (.t 9)⟩]) (.seq (.reg [⟨none, (some 10), .load none (.t 2)⟩,⟨none, (some 11), .mks 1 8 [.int .i64 (0)] (.t 10) (.t 10)⟩,⟨none, (some 12), .load none (.t 2)⟩,⟨none, (some 13), .mks 1 8 [.int .i64 (0)] (.t 12) (.t 12)⟩,⟨none, (some 5), .alloc [.nils]⟩,⟨none, (some 6), .alloc [.nils]⟩,⟨none, none, .store 1 (.t 5) (.t 11)⟩,⟨none, none, .store 1 (.t 6) (.t 13)⟩,⟨none, none, .apt (.t 2) (.t 5)⟩]) (.seq (.reg [⟨none, (some 7), .alloc [.nilf]⟩]) (.seq (.reg [⟨none, (some 14), .mkf 78 [.t 2, .t 6, .t 3, .t 4, .t 5, .t 7]⟩,⟨none, none, .store 1 (.t 7) (.t 14)⟩]) (.reg [⟨none, (some 15), .load none (.t 7)⟩,⟨none, (some 16), .calld 0 (.t 15) [.c (.int .i64 (0))]⟩])))))
def F55 : XF := ⟨2, 17, [], F55B⟩
def M55 : List (List Bool) := []
def F56B : XC :=
 .reg [⟨none, (some 3), .load none (.t 1)⟩,⟨none, (some 4), .mov (.t 0)⟩,⟨none, (some 5), .call 2 57 [.t 4]⟩,⟨none, (some 6), .bslice 1 1 [.nils] [(0, 1, .t 5)]⟩,⟨none, (some 7), .app 1 24 (.t 3) (.t 6)⟩,⟨none, none, .store 1 (.t 1) (.t 7)⟩]
def F56 : XF := ⟨2, 8, [], F56B⟩
def M56 : List (List Bool) := []
def F57L0b : XC :=
 .seq (.reg [⟨none, (some 9), .bin .lss (.t 8) (.t 7)⟩]) (.seq (.cond (.t 9) (.skip) (.exit 0 (m 19 8))) (.seq (.block 1 (m 19 456) (.seq (.reg [⟨none, (some 10), .indexA 1 (.t 6) (.t 8)⟩,⟨none, (some 11), .load none (.t 10)⟩,⟨none, (some 5), .mov (.t 11)⟩]) (.reg [⟨none, (some 12), .mov (.t 3)⟩,⟨none, (some 13), .mov (.t 5)⟩,⟨none, (some 14), .call 2 80 [.t 13]⟩,⟨none, (some 15), .bslice 1 1 [.nils] [(0, 1, .t 14)]⟩,⟨none, (some 16), .app 1 24 (.t 12) (.t 15)⟩,⟨none, (some 3), .mov (.t 16)⟩]))) (.reg [⟨none, (some 17), .bin .add (.t 8) (.c (.int .i64 (1)))⟩,⟨none, (some 8), .mov (.t 17)⟩])))
def F57L0 : XC := .loop (m 19 456) F57L0b
def F57T0 : XC :=
 .seq (.reg [⟨none, (some 18), .mov (.t 3)⟩,⟨none, (some 2), .mov (.t 18)⟩]) (.ret (m 19 4))
def F57B : XC :=
 .seq (.reg [⟨none, (some 2), .mov (.c (.nils))⟩]) (.seq (.reg [⟨none, (some 3), .mov (.c (.nils))⟩]) (.seq (.seq (.reg [⟨none, (some 6), .mov (.t 0)⟩,⟨none, (some 7), .len (.t 6)⟩,⟨none, (some 8), .mov (.c (.int .i64 (0)))⟩]) (.block 0 (m 19 8) (F57L0)))
 F57T0))
def F57 : XF := ⟨1, 19, [.tmp 2], F57B⟩
def M57 : List (List Bool) := [(m 19 8), (m 19 456), (m 19 8), (m 19 456), (m 19 4)]
def F58B : XC :=
 .seq (.reg [⟨none, (some 0), .mov (.c (.nils))⟩]) (.seq (.reg [⟨none, (some 1), .bslice 1 3 [.int .i64 (0)] [(0, 1, .c (.int .i64 (0))), (1, 1, .c (.int .i64 (1))), (2, 1, .c (.int .i64 (0)))]⟩,⟨none, (some 2), .bslice 1 3 [.int .i64 (0)] [(0, 1, .c (.int .i64 (1))), (1, 1, .c (.int .i64 (-1))), (2, 1, .c (.int .i64 (1)))]⟩,⟨none, (some 3), .bslice 1 3 [.int .i64 (0)] [(0, 1, .c (.int .i64 (0))), (1, 1, .c (.int .i64 (1))), (2, 1, .c (.int .i64 (0)))]⟩,⟨none, (some 4), .bslice 1 3 [.nils] [(0, 1, .t 1), (1, 1, .t 2), (2, 1, .t 3)]⟩,⟨none, (some 0), .mov (.t 4)⟩]) (.ret (m 5 1)))
def F58 : XF := ⟨0, 5, [.tmp 0], F58B⟩
def M58 : List (List Bool) := [(m 5 1)]
def F59L0b : XC :=
 .seq (.seq (.reg [⟨none, (some 13), .mov (.t 4)⟩,⟨none, (some 14), .mov (.t 0)⟩,⟨none, (some 15), .mov (.t 3)⟩,⟨none, (some 16), .indexA 1 (.t 14) (.t 15)⟩,⟨none, (some 17), .load none (.t 16)⟩,⟨none, (some 18), .bin .lss (.t 13) (.t 17)⟩]) (.cond (.t 18) (.skip) (.exit 2 (m 45 9)))) (.seq (.block 3 (m 45 25) (.seq (.reg [⟨none, (some 21), .mov (.t 0)⟩,⟨none, (some 22), .mov (.t 4)⟩,⟨none, (some 23), .indexA 1 (.t 21) (.t 22)⟩,⟨none, (some 24), .load none (.t 23)⟩,⟨none, (some 25), .bin .geq (.t 24) (.c (.int .i64 (0)))⟩,⟨none, (some 26), .mov (.t 25)⟩,⟨(some (26, true)), (some 27), .mov (.t 0)⟩,⟨(some (26, true)), (some 28), .mov (.t 4)⟩,⟨(some (26, true)), (some 29), .indexA 1 (.t 27) (.t 28)⟩,⟨(some (26, true)), (some 30), .load none (.t 29)⟩,⟨(some (26, true)), (some 31), .mov (.t 0)⟩,⟨(some (26, true)), (some 32), .mov (.t 3)⟩,⟨(some (26, true)), (some 33), .indexA 1 (.t 31) (.t 32)⟩,⟨(some (26, true)), (some 34), .load none (.t 33)⟩,⟨(some (26, true)), (some 35), .bin .gtr (.t 30) (.t 34)⟩,⟨(some (26, true)), (some 36), .mov (.t 35)⟩,⟨(some (36, false)), (some 37), .mov (.t 0)⟩,⟨(some (36, false)), (some 38), .mov (.t 4)⟩,⟨(some (36, false)), (some 39), .indexA 1 (.t 37) (.t 38)⟩,⟨(some (36, false)), (some 40), .load none (.t 39)⟩,⟨(some (36, false)), (some 41), .mov (.t 3)⟩,⟨(some (36, false)), (some 42), .bin .lss (.t 40) (.t 41)⟩,⟨(some (26, true)), (some 43), .pick (.t 36) (.c (.bool true)) (.t 42)⟩,⟨none, (some 44), .pick (.t 26) (.t 43) (.c (.bool false))⟩]) (.cond (.t 44) (.seq (.reg [⟨none, (some 2), .mov (.c (.bool true))⟩]) (.ret (m 45 4))) (.skip)))) (.reg [⟨none, (some 19), .mov (.t 4)⟩,⟨none, (some 20), .bin .add (.t 19) (.c (.int .i64 (1)))⟩,⟨none, (some 4), .mov (.t 20)⟩]))
def F59L0 : XC := .loop (m 45 25) F59L0b
def F59T0 : XC :=
 .reg [⟨none, (some 9), .mov (.t 3)⟩,⟨none, (some 10), .bin .add (.t 9) (.c (.int .i64 (1)))⟩,⟨none, (some 3), .mov (.t 10)⟩]
def F59L1b : XC :=
 .seq (.seq (.reg [⟨none, (some 5), .mov (.t 3)⟩,⟨none, (some 6), .mov (.t 0)⟩,⟨none, (some 7), .len (.t 6)⟩,⟨none, (some 8), .bin .lss (.t 5) (.t 7)⟩]) (.cond (.t 8) (.skip) (.exit 0 (m 45 0)))) (.seq (.block 1 (m 45 9) (.seq (.reg [⟨none, (some 11), .mov (.t 3)⟩,⟨none, (some 12), .bin .add (.t 11) (.c (.int .i64 (1)))⟩,⟨none, (some 4), .mov (.t 12)⟩]) (.block 2 (m 45 9) (F59L0))))
 F59T0)
def F59L1 : XC := .loop (m 45 9) F59L1b
def F59T1 : XC :=
 .seq (.reg [⟨none, (some 2), .mov (.c (.bool false))⟩]) (.ret (m 45 4))
def F59B : XC :=
 .seq (.reg [⟨none, (some 2), .mov (.c (.bool false))⟩]) (.seq (.seq (.reg [⟨none, (some 3), .mov (.c (.int .i64 (0)))⟩]) (.block 0 (m 45 0) (F59L1)))
 F59T1)
def F59 : XF := ⟨1, 45, [.tmp 2], F59B⟩
def M59 : List (List Bool) := [(m 45 0), (m 45 9), (m 45 0), (m 45 9), (m 45 9), (m 45 25), (m 45 9), (m 45 25), (m 45 4), (m 45 4)]
def F60B : XC :=
 .seq (.reg [⟨none, (some 4), .mov (.t 0)⟩,⟨none, (some 5), .mki 56 (.t 4)⟩,⟨none, (some 6), .call 2 62 [.t 5]⟩,⟨none, (some 7), .call 1 63 [.t 6]⟩,⟨none, (some 8), .load none (.t 1)⟩,⟨none, (some 9), .call 1 61 [.t 7, .t 8]⟩]) (.cond (.t 9) (.reg [⟨none, (some 10), .load none (.t 2)⟩,⟨none, (some 11), .bin .add (.t 10) (.c (.int .i64 (1)))⟩,⟨none, none, .store 1 (.t 2) (.t 11)⟩]) (.skip))
def F60 : XF := ⟨3, 12, [], F60B⟩
def M60 : List (List Bool) := []
def F61L0b : XC :=
 .seq (.reg [⟨none, (some 14), .bin .lss (.t 13) (.t 12)⟩]) (.seq (.cond (.t 14) (.skip) (.exit 0 (m 26 0))) (.seq (.block 1 (m 26 12291) (.seq (.reg [⟨none, (some 15), .mov (.t 13)⟩,⟨none, (some 5), .mov (.t 15)⟩]) (.seq (.reg [⟨none, (some 16), .mov (.t 0)⟩,⟨none, (some 17), .mov (.t 5)⟩,⟨none, (some 18), .indexA 1 (.t 16) (.t 17)⟩,⟨none, (some 19), .load none (.t 18)⟩,⟨none, (some 20), .mov (.t 1)⟩,⟨none, (some 21), .mov (.t 5)⟩,⟨none, (some 22), .indexA 1 (.t 20) (.t 21)⟩,⟨none, (some 23), .load none (.t 22)⟩,⟨none, (some 24), .bin .neq (.t 19) (.t 23)⟩]) (.cond (.t 24) (.seq (.reg [⟨none, (some 4), .mov (.c (.bool false))⟩]) (.ret (m 26 16))) (.skip))))) (.reg [⟨none, (some 25), .bin .add (.t 13) (.c (.int .i64 (1)))⟩,⟨none, (some 13), .mov (.t 25)⟩])))
def F61L0 : XC := .loop (m 26 12291) F61L0b
def F61T0 : XC :=
 .seq (.reg [⟨none, (some 4), .mov (.c (.bool true))⟩]) (.ret (m 26 16))
def F61B : XC :=
 .seq (.reg [⟨none, (some 4), .mov (.c (.bool false))⟩]) (.seq (.seq (.reg [⟨none, (some 6), .mov (.t 0)⟩,⟨none, (some 7), .len (.t 6)⟩,⟨none, (some 8), .mov (.t 1)⟩,⟨none, (some 9), .len (.t 8)⟩,⟨none, (some 10), .bin .neq (.t 7) (.t 9)⟩]) (.cond (.t 10) (.seq (.reg [⟨none, (some 4), .mov (.c (.bool false))⟩]) (.ret (m 26 16))) (.skip))) (.seq (.seq (.reg [⟨none, (some 11), .mov (.t 0)⟩,⟨none, (some 12), .len (.t 11)⟩,⟨none, (some 13), .mov (.c (.int .i64 (0)))⟩]) (.block 0 (m 26 0) (F61L0)))
 F61T0))
def F61 : XF := ⟨2, 26, [.tmp 4], F61B⟩
def M61 : List (List Bool) := [(m 26 16), (m 26 0), (m 26 12291), (m 26 0), (m 26 12291), (m 26 16), (m 26 16)]
def F62B : XC :=
 .seq (.reg [⟨none, (some 1), .box (.t 0)⟩,⟨none, (some 2), .mov (.c (.nils))⟩]) (.seq (.reg [⟨none, (some 3), .load none (.t 1)⟩,⟨none, (some 4), .callm 1 [(56, 114), (59, 91), (69, 116)] (.t 3) []⟩,⟨none, (some 5), .bin .add (.t 4) (.c (.int .i64 (1)))⟩,⟨none, (some 6), .mkf 81 [.t 1]⟩,⟨none, (some 7), .call 2 69 [.t 5, .t 6]⟩,⟨none, (some 2), .mov (.t 7)⟩]) (.ret (m 8 4)))
def F62 : XF := ⟨1, 8, [.tmp 2], F62B⟩
def M62 : List (List Bool) := [(m 8 4)]
def F63L0b : XC :=
 .seq (.reg [⟨none, (some 12), .bin .lss (.t 11) (.t 10)⟩]) (.seq (.cond (.t 12) (.skip) (.exit 0 (m 25 16))) (.seq (.block 1 (m 25 3609) (.seq (.reg [⟨none, (some 13), .indexA 3 (.t 9) (.t 11)⟩,⟨none, (some 14), .load (some 3) (.t 13)⟩,⟨none, (some 6), .alloc [.int .i64 (0), .int .i64 (0), .int .i64 (0)]⟩,⟨none, none, .store 3 (.t 6) (.t 14)⟩]) (.reg [⟨none, (some 15), .mov (.t 4)⟩,⟨none, (some 16), .mov (.t 3)⟩,⟨none, (some 17), .mov (.t 0)⟩,⟨none, (some 18), .load (some 3) (.t 6)⟩,⟨none, (some 19), .call 1 84 [.t 17, .t 18]⟩,⟨none, (some 20), .call 1 83 [.t 16, .t 19]⟩,⟨none, (some 21), .bslice 1 1 [.int .i64 (0)] [(0, 1, .t 20)]⟩,⟨none, (some 22), .app 1 8 (.t 15) (.t 21)⟩,⟨none, (some 4), .mov (.t 22)⟩]))) (.reg [⟨none, (some 23), .bin .add (.t 11) (.c (.int .i64 (1)))⟩,⟨none, (some 11), .mov (.t 23)⟩])))
def F63L0 : XC := .loop (m 25 3609) F63L0b
def F63T0 : XC :=
 .seq (.reg [⟨none, (some 24), .mov (.t 4)⟩,⟨none, (some 2), .mov (.t 24)⟩]) (.ret (m 25 4))
def F63B : XC :=
 .seq (.reg [⟨none, (some 2), .mov (.c (.nils))⟩]) (.seq (.reg [⟨none, (some 7), .mov (.t 0)⟩,⟨none, (some 8), .call 1 82 [.t 7]⟩,⟨none, (some 3), .mov (.t 8)⟩]) (.seq (.reg [⟨none, (some 4), .mov (.c (.nils))⟩]) (.seq (.seq (.reg [⟨none, (some 9), .mov (.t 3)⟩,⟨none, (some 10), .len (.t 9)⟩,⟨none, (some 11), .mov (.c (.int .i64 (0)))⟩]) (.block 0 (m 25 16) (F63L0)))
 F63T0)))
def F63 : XF := ⟨1, 25, [.tmp 2], F63B⟩
def M63 : List (List Bool) := [(m 25 16), (m 25 3609), (m 25 16), (m 25 3609), (m 25 4)]
def F64L0b : XC :=
 .seq (.reg [⟨none, (some 29), .bin .lss (.t 28) (.t 27)⟩]) (.seq (.cond (.t 29) (.skip) (.exit 2 (m 45 12582946))) (.seq (.block 3 (m 45 482345010) (.seq (.reg [⟨none, (some 30), .indexA 1 (.t 26) (.t 28)⟩,⟨none, (some 31), .load none (.t 30)⟩,⟨none, (some 7), .mov (.t 31)⟩]) (.reg [⟨none, (some 32), .mov (.t 5)⟩,⟨none, (some 33), .mov (.t 7)⟩,⟨none, (some 34), .mov (.t 4)⟩,⟨none, (some 35), .indexA 1 (.t 33) (.t 34)⟩,⟨none, (some 36), .load none (.t 35)⟩,⟨none, (some 37), .bslice 1 1 [.int .i64 (0)] [(0, 1, .t 36)]⟩,⟨none, (some 38), .app 1 8 (.t 32) (.t 37)⟩,⟨none, (some 5), .mov (.t 38)⟩]))) (.reg [⟨none, (some 39), .bin .add (.t 28) (.c (.int .i64 (1)))⟩,⟨none, (some 28), .mov (.t 39)⟩])))
def F64L0 : XC := .loop (m 45 482345010) F64L0b
def F64T0 : XC :=
 .seq (.reg [⟨none, (some 40), .mov (.t 5)⟩,⟨none, (some 41), .call 1 87 [.t 40]⟩,⟨none, (some 42), .un .not (.t 41)⟩]) (.cond (.t 42) (.seq (.reg [⟨none, (some 2), .mov (.c (.nils))⟩,⟨none, (some 3), .mov (.c (.bool false))⟩]) (.ret (m 45 12))) (.skip))
def F64T1 : XC :=
 .reg [⟨none, (some 43), .bin .add (.t 23) (.c (.int .i64 (1)))⟩,⟨none, (some 23), .mov (.t 43)⟩]
def F64L1b : XC :=
 .seq (.reg [⟨none, (some 24), .bin .lss (.t 23) (.t 22)⟩]) (.seq (.cond (.t 24) (.skip) (.exit 0 (m 45 2))) (.seq (.block 1 (m 45 12582914) (.seq (.reg [⟨none, (some 25), .mov (.t 23)⟩,⟨none, (some 4), .mov (.t 25)⟩]) (.seq (.reg [⟨none, (some 5), .mov (.c (.nils))⟩]) (.seq (.seq (.reg [⟨none, (some 26), .load none (.t 1)⟩,⟨none, (some 27), .len (.t 26)⟩,⟨none, (some 28), .mov (.c (.int .i64 (0)))⟩]) (.block 2 (m 45 12582946) (F64L0)))
 F64T0))))
 F64T1))
def F64L1 : XC := .loop (m 45 12582914) F64L1b
def F64T2 : XC :=
 .seq (.reg [⟨none, (some 44), .load none (.t 1)⟩,⟨none, (some 2), .mov (.t 44)⟩,⟨none, (some 3), .mov (.c (.bool true))⟩]) (.ret (m 45 12))
def F64B : XC :=
 .seq (.reg [⟨none, (some 1), .box (.t 0)⟩,⟨none, (some 2), .mov (.c (.nils))⟩,⟨none, (some 3), .mov (.c (.bool false))⟩]) (.seq (.seq (.reg [⟨none, (some 8), .load none (.t 1)⟩,⟨none, (some 9), .len (.t 8)⟩,⟨none, (some 10), .bin .lss (.t 9) (.c (.int .i64 (1)))⟩,⟨none, (some 11), .mov (.t 10)⟩,⟨(some (11, false)), (some 12), .load none (.t 1)⟩,⟨(some (11, false)), (some 13), .len (.t 12)⟩,⟨(some (11, false)), (some 14), .bin .gtr (.t 13) (.c (.int .i64 (5)))⟩,⟨none, (some 15), .pick (.t 11) (.c (.bool true)) (.t 14)⟩,⟨none, (some 16), .mov (.t 15)⟩,⟨(some (16, false)), (some 17), .load none (.t 1)⟩,⟨(some (16, false)), (some 18), .mkf 86 [.t 1]⟩,⟨(some (16, false)), (some 19), .call 1 85 [.t 17, .t 18]⟩,⟨none, (some 20), .pick (.t 16) (.c (.bool true)) (.t 19)⟩]) (.cond (.t 20) (.seq (.reg [⟨none, (some 2), .mov (.c (.nils))⟩,⟨none, (some 3), .mov (.c (.bool false))⟩]) (.ret (m 45 12))) (.skip))) (.seq (.seq (.reg [⟨none, (some 21), .load none (.t 1)⟩,⟨none, (some 22), .len (.t 21)⟩,⟨none, (some 23), .mov (.c (.int .i64 (0)))⟩]) (.block 0 (m 45 2) (F64L1)))
 F64T2))
def F64 : XF := ⟨1, 45, [.tmp 2, .tmp 3], F64B⟩
def M64 : List (List Bool) := [(m 45 12), (m 45 2), (m 45 12582914), (m 45 2), (m 45 12582914), (m 45 12582946), (m 45 482345010), (m 45 12582946), (m 45 482345010), (m 45 12), (m 45 12)]
def F65L0b : XC :=
 .seq (.seq (.reg [⟨none, (some 30), .mov (.t 9)⟩,⟨none, (some 31), .mov (.t 6)⟩,⟨none, (some 32), .bin .lss (.t 30) (.t 31)⟩]) (.cond (.t 32) (.skip) (.exit 6 (m 57 505)))) (.seq (.block 7 (m 57 1017) (.reg [⟨none, (some 35), .mov (.t 7)⟩,⟨none, (some 36), .mov (.t 0)⟩,⟨none, (some 37), .mov (.t 8)⟩,⟨none, (some 38), .indexA 1 (.t 36) (.t 37)⟩,⟨none, (some 39), .load none (.t 38)⟩,⟨none, (some 40), .mov (.t 9)⟩,⟨none, (some 41), .indexA 1 (.t 39) (.t 40)⟩,⟨none, (some 42), .load none (.t 41)⟩,⟨none, (some 43), .bin .add (.t 35) (.t 42)⟩,⟨none, (some 7), .mov (.t 43)⟩])) (.reg [⟨none, (some 33), .mov (.t 9)⟩,⟨none, (some 34), .bin .add (.t 33) (.c (.int .i64 (1)))⟩,⟨none, (some 9), .mov (.t 34)⟩]))
def F65L0 : XC := .loop (m 57 1017) F65L0b
def F65T0 : XC :=
 .reg [⟨none, (some 28), .mov (.t 8)⟩,⟨none, (some 29), .bin .add (.t 28) (.c (.int .i64 (1)))⟩,⟨none, (some 8), .mov (.t 29)⟩]
def F65L1b : XC :=
 .seq (.seq (.reg [⟨none, (some 25), .mov (.t 8)⟩,⟨none, (some 26), .mov (.t 5)⟩,⟨none, (some 27), .bin .lss (.t 25) (.t 26)⟩]) (.cond (.t 27) (.skip) (.exit 4 (m 57 249)))) (.seq (.block 5 (m 57 505) (.seq (.reg [⟨none, (some 9), .mov (.c (.int .i64 (0)))⟩]) (.block 6 (m 57 505) (F65L0))))
 F65T0)
def F65L1 : XC := .loop (m 57 505) F65L1b
def F65T1 : XC :=
 .reg [⟨none, (some 44), .mov (.t 4)⟩,⟨none, (some 45), .mov (.t 5)⟩,⟨none, (some 46), .indexA 1 (.t 44) (.t 45)⟩,⟨none, (some 47), .load none (.t 46)⟩,⟨none, (some 48), .mov (.t 6)⟩,⟨none, (some 49), .mov (.t 5)⟩,⟨none, (some 50), .mov (.t 6)⟩,⟨none, (some 51), .bin .add (.t 49) (.t 50)⟩,⟨none, (some 52), .mov (.t 7)⟩,⟨none, (some 53), .bin .mul (.c (.int .i64 (2))) (.t 52)⟩,⟨none, (some 54), .bin .sub (.t 51) (.t 53)⟩,⟨none, (some 55), .indexA 1 (.t 47) (.t 48)⟩,⟨none, none, .store 1 (.t 55) (.t 54)⟩]
def F65T2 : XC :=
 .reg [⟨none, (some 23), .mov (.t 6)⟩,⟨none, (some 24), .bin .add (.t 23) (.c (.int .i64 (1)))⟩,⟨none, (some 6), .mov (.t 24)⟩]
def F65L2b : XC :=
 .seq (.seq (.reg [⟨none, (some 20), .mov (.t 6)⟩,⟨none, (some 21), .mov (.t 3)⟩,⟨none, (some 22), .bin .leq (.t 20) (.t 21)⟩]) (.cond (.t 22) (.skip) (.exit 2 (m 57 57)))) (.seq (.block 3 (m 57 121) (.seq (.reg [⟨none, (some 7), .mov (.c (.int .i64 (0)))⟩]) (.seq (.seq (.reg [⟨none, (some 8), .mov (.c (.int .i64 (0)))⟩]) (.block 4 (m 57 249) (F65L1)))
 F65T1)))
 F65T2)
def F65L2 : XC := .loop (m 57 121) F65L2b
def F65T3 : XC :=
 .reg [⟨none, (some 18), .mov (.t 5)⟩,⟨none, (some 19), .bin .add (.t 18) (.c (.int .i64 (1)))⟩,⟨none, (some 5), .mov (.t 19)⟩]
def F65L3b : XC :=
 .seq (.seq (.reg [⟨none, (some 15), .mov (.t 5)⟩,⟨none, (some 16), .mov (.t 3)⟩,⟨none, (some 17), .bin .leq (.t 15) (.t 16)⟩]) (.cond (.t 17) (.skip) (.exit 0 (m 57 16)))) (.seq (.block 1 (m 57 57) (.seq (.reg [⟨none, (some 6), .mov (.c (.int .i64 (0)))⟩]) (.block 2 (m 57 57) (F65L2))))
 F65T3)
def F65L3 : XC := .loop (m 57 57) F65L3b
def F65T4 : XC :=
 .seq (.reg [⟨none, (some 56), .mov (.t 4)⟩,⟨none, (some 2), .mov (.t 56)⟩]) (.ret (m 57 4))
def F65B : XC :=
 .seq (.reg [⟨none, (some 2), .mov (.c (.nils))⟩]) (.seq (.reg [⟨none, (some 10), .mov (.t 0)⟩,⟨none, (some 11), .len (.t 10)⟩,⟨none, (some 3), .mov (.t 11)⟩]) (.seq (.reg [⟨none, (some 12), .mov (.t 3)⟩,⟨none, (some 13), .bin .add (.t 12) (.c (.int .i64 (1)))⟩,⟨none, (some 14), .call 2 54 [.t 13]⟩,⟨none, (some 4), .mov (.t 14)⟩]) (.seq (.seq (.reg [⟨none, (some 5), .mov (.c (.int .i64 (0)))⟩]) (.block 0 (m 57 16) (F65L3)))
 F65T4)))
def F65 : XF := ⟨1, 57, [.tmp 2], F65B⟩
def M65 : List (List Bool) := [(m 57 16), (m 57 57), (m 57 16), (m 57 57), (m 57 57), (m 57 121), (m 57 57), (m 57 121), (m 57 249), (m 57 505), (m 57 249), (m 57 505), (m 57 505), (m 57 1017), (m 57 505), (m 57 1017), (m 57 4)]
def F66L0b : XC :=
 .seq (.reg [⟨none, (some 25), .bin .lss (.t 24) (.t 23)⟩]) (.seq (.cond (.t 25) (.skip) (.exit 2 (m 34 114820))) (.seq (.block 3 (m 34 29474948) (.seq (.reg [⟨none, (some 26), .indexA 1 (.t 22) (.t 24)⟩,⟨none, (some 27), .load none (.t 26)⟩,⟨none, (some 11), .mov (.t 27)⟩]) (.reg [⟨none, (some 28), .mov (.t 7)⟩,⟨none, (some 29), .mov (.t 11)⟩,⟨none, (some 30), .bin .add (.t 28) (.t 29)⟩,⟨none, (some 7), .mov (.t 30)⟩]))) (.reg [⟨none, (some 31), .bin .add (.t 24) (.c (.int .i64 (1)))⟩,⟨none, (some 24), .mov (.t 31)⟩])))
def F66L0 : XC := .loop (m 34 29474948) F66L0b
def F66T0 : XC :=
 .reg [⟨none, (some 32), .bin .add (.t 16) (.c (.int .i64 (1)))⟩,⟨none, (some 16), .mov (.t 32)⟩]
def F66L1b : XC :=
 .seq (.reg [⟨none, (some 17), .bin .lss (.t 16) (.t 15)⟩]) (.seq (.cond (.t 17) (.skip) (.exit 0 (m 34 128))) (.seq (.block 1 (m 34 114820) (.seq (.reg [⟨none, (some 18), .indexA 1 (.t 14) (.t 16)⟩,⟨none, (some 19), .load none (.t 18)⟩,⟨none, (some 9), .mov (.t 19)⟩]) (.seq (.reg [⟨none, (some 20), .mov (.t 9)⟩,⟨none, (some 21), .mov (.t 2)⟩,⟨none, (some 22), .slice 1 (.t 20) none (some (.t 21)) none⟩,⟨none, (some 23), .len (.t 22)⟩,⟨none, (some 24), .mov (.c (.int .i64 (0)))⟩]) (.block 2 (m 34 114820) (F66L0)))))
 F66T0))
def F66L1 : XC := .loop (m 34 114820) F66L1b
def F66T1 : XC :=
 .seq (.reg [⟨none, (some 33), .mov (.t 7)⟩,⟨none, (some 6), .mov (.t 33)⟩]) (.ret (m 34 64))
def F66B : XC :=
 .seq (.reg [⟨none, (some 6), .mov (.c (.int .i64 (0)))⟩]) (.seq (.reg [⟨none, (some 7), .mov (.c (.int .i64 (0)))⟩]) (.seq (.seq (.reg [⟨none, (some 12), .mov (.t 0)⟩,⟨none, (some 13), .mov (.t 1)⟩,⟨none, (some 14), .slice 1 (.t 12) none (some (.t 13)) none⟩,⟨none, (some 15), .len (.t 14)⟩,⟨none, (some 16), .mov (.c (.int .i64 (0)))⟩]) (.block 0 (m 34 128) (F66L1)))
 F66T1))
def F66 : XF := ⟨3, 34, [.tmp 6], F66B⟩
def M66 : List (List Bool) := [(m 34 128), (m 34 114820), (m 34 128), (m 34 114820), (m 34 114820), (m 34 29474948), (m 34 114820), (m 34 29474948), (m 34 64)]
def F67L0b : XC :=
 .seq (.seq (.reg [⟨none, (some 21), .mov (.t 8)⟩,⟨none, (some 22), .mov (.t 4)⟩,⟨none, (some 23), .bin .leq (.t 21) (.t 22)⟩]) (.cond (.t 23) (.skip) (.exit 4 (m 47 249)))) (.seq (.block 5 (m 47 505) (.reg [⟨none, (some 26), .mov (.t 7)⟩,⟨none, (some 27), .mov (.t 0)⟩,⟨none, (some 28), .mov (.t 8)⟩,⟨none, (some 29), .indexA 1 (.t 27) (.t 28)⟩,⟨none, (some 30), .load none (.t 29)⟩,⟨none, (some 31), .mov (.t 6)⟩,⟨none, (some 32), .indexA 1 (.t 30) (.t 31)⟩,⟨none, (some 33), .load none (.t 32)⟩,⟨none, (some 34), .bin .add (.t 26) (.t 33)⟩,⟨none, (some 7), .mov (.t 34)⟩])) (.reg [⟨none, (some 24), .mov (.t 8)⟩,⟨none, (some 25), .bin .add (.t 24) (.c (.int .i64 (1)))⟩,⟨none, (some 8), .mov (.t 25)⟩]))
def F67L0 : XC := .loop (m 47 505) F67L0b
def F67T0 : XC :=
 .seq (.reg [⟨none, (some 35), .mov (.t 7)⟩,⟨none, (some 36), .bin .eql (.t 35) (.c (.int .i64 (1)))⟩]) (.cond (.t 36) (.reg [⟨none, (some 37), .mov (.t 5)⟩,⟨none, (some 38), .mov (.t 6)⟩,⟨none, (some 39), .bin .add (.t 38) (.c (.int .i64 (1)))⟩,⟨none, (some 40), .bslice 1 1 [.int .i64 (0)] [(0, 1, .t 39)]⟩,⟨none, (some 41), .app 1 8 (.t 37) (.t 40)⟩,⟨none, (some 5), .mov (.t 41)⟩]) (.skip))
def F67T1 : XC :=
 .reg [⟨none, (some 19), .mov (.t 6)⟩,⟨none, (some 20), .bin .add (.t 19) (.c (.int .i64 (1)))⟩,⟨none, (some 6), .mov (.t 20)⟩]
def F67L1b : XC :=
 .seq (.seq (.reg [⟨none, (some 15), .mov (.t 6)⟩,⟨none, (some 16), .mov (.t 0)⟩,⟨none, (some 17), .len (.t 16)⟩,⟨none, (some 18), .bin .lss (.t 15) (.t 17)⟩]) (.cond (.t 18) (.skip) (.exit 2 (m 47 57)))) (.seq (.block 3 (m 47 121) (.seq (.reg [⟨none, (some 7), .mov (.c (.int .i64 (0)))⟩]) (.seq (.seq (.reg [⟨none, (some 8), .mov (.c (.int .i64 (0)))⟩]) (.block 4 (m 47 249) (F67L0)))
 F67T0)))
 F67T1)
def F67L1 : XC := .loop (m 47 121) F67L1b
def F67T2 : XC :=
 .reg [⟨none, (some 42), .mov (.t 3)⟩,⟨none, (some 43), .mov (.t 5)⟩,⟨none, (some 44), .bslice 1 1 [.nils] [(0, 1, .t 43)]⟩,⟨none, (some 45), .app 1 24 (.t 42) (.t 44)⟩,⟨none, (some 3), .mov (.t 45)⟩]
def F67T3 : XC :=
 .reg [⟨none, (some 13), .mov (.t 4)⟩,⟨none, (some 14), .bin .add (.t 13) (.c (.int .i64 (1)))⟩,⟨none, (some 4), .mov (.t 14)⟩]
def F67L2b : XC :=
 .seq (.seq (.reg [⟨none, (some 9), .mov (.t 4)⟩,⟨none, (some 10), .mov (.t 0)⟩,⟨none, (some 11), .len (.t 10)⟩,⟨none, (some 12), .bin .lss (.t 9) (.t 11)⟩]) (.cond (.t 12) (.skip) (.exit 0 (m 47 8)))) (.seq (.block 1 (m 47 25) (.seq (.reg [⟨none, (some 5), .mov (.c (.nils))⟩]) (.seq (.seq (.reg [⟨none, (some 6), .mov (.c (.int .i64 (0)))⟩]) (.block 2 (m 47 57) (F67L1)))
 F67T2)))
 F67T3)
def F67L2 : XC := .loop (m 47 25) F67L2b
def F67T4 : XC :=
 .seq (.reg [⟨none, (some 46), .mov (.t 3)⟩,⟨none, (some 2), .mov (.t 46)⟩]) (.ret (m 47 4))
def F67B : XC :=
 .seq (.reg [⟨none, (some 2), .mov (.c (.nils))⟩]) (.seq (.reg [⟨none, (some 3), .mov (.c (.nils))⟩]) (.seq (.seq (.reg [⟨none, (some 4), .mov (.c (.int .i64 (0)))⟩]) (.block 0 (m 47 8) (F67L2)))
 F67T4))
def F67 : XF := ⟨1, 47, [.tmp 2], F67B⟩
def M67 : List (List Bool) := [(m 47 8), (m 47 25), (m 47 8), (m 47 25), (m 47 57), (m 47 121), (m 47 57), (m 47 121), (m 47 249), (m 47 505), (m 47 249), (m 47 505), (m 47 4)]
def F68L0b : XC :=
 .seq (.seq (.reg [⟨none, (some 31), .mov (.t 10)⟩,⟨none, (some 32), .mov (.t 4)⟩,⟨none, (some 33), .len (.t 32)⟩,⟨none, (some 34), .bin .lss (.t 31) (.t 33)⟩]) (.cond (.t 34) (.skip) (.exit 2 (m 69 120)))) (.seq (.block 3 (m 69 2040) (.seq (.reg [⟨none, (some 37), .mov (.t 4)⟩,⟨none, (some 38), .mov (.t 10)⟩,⟨none, (some 39), .indexA 3 (.t 37) (.t 38)⟩,⟨none, (some 40), .fieldA 0 (.t 39)⟩,⟨none, (some 41), .load none (.t 40)⟩,⟨none, (some 42), .mov (.t 7)⟩,⟨none, (some 43), .bin .eql (.t 41) (.t 42)⟩,⟨none, (some 44), .mov (.t 43)⟩,⟨(some (44, true)), (some 45), .mov (.t 4)⟩,⟨(some (44, true)), (some 46), .mov (.t 10)⟩,⟨(some (44, true)), (some 47), .indexA 3 (.t 45) (.t 46)⟩,⟨(some (44, true)), (some 48), .fieldA 1 (.t 47)⟩,⟨(some (44, true)), (some 49), .load none (.t 48)⟩,⟨(some (44, true)), (some 50), .mov (.t 8)⟩,⟨(some (44, true)), (some 51), .bin .eql (.t 49) (.t 50)⟩,⟨none, (some 52), .pick (.t 44) (.t 51) (.c (.bool false))⟩,⟨none, (some 53), .mov (.t 52)⟩,⟨(some (53, true)), (some 54), .mov (.t 4)⟩,⟨(some (53, true)), (some 55), .mov (.t 10)⟩,⟨(some (53, true)), (some 56), .indexA 3 (.t 54) (.t 55)⟩,⟨(some (53, true)), (some 57), .fieldA 2 (.t 56)⟩,⟨(some (53, true)), (some 58), .load none (.t 57)⟩,⟨(some (53, true)), (some 59), .bin .add (.t 58) (.c (.int .i64 (2)))⟩,⟨(some (53, true)), (some 60), .bin .rem (.t 59) (.c (.int .i64 (4)))⟩,⟨(some (53, true)), (some 61), .mov (.t 9)⟩,⟨(some (53, true)), (some 62), .bin .eql (.t 60) (.t 61)⟩,⟨none, (some 63), .pick (.t 53) (.t 62) (.c (.bool false))⟩]) (.cond (.t 63) (.reg [⟨none, (some 64), .mov (.t 5)⟩,⟨none, (some 65), .mov (.t 10)⟩,⟨none, (some 66), .bslice 1 1 [.int .i64 (0)] [(0, 1, .t 65)]⟩,⟨none, (some 67), .app 1 8 (.t 64) (.t 66)⟩,⟨none, (some 5), .mov (.t 67)⟩]) (.skip)))) (.reg [⟨none, (some 35), .mov (.t 10)⟩,⟨none, (some 36), .bin .add (.t 35) (.c (.int .i64 (1)))⟩,⟨none, (some 10), .mov (.t 36)⟩]))
def F68L0 : XC := .loop (m 69 2040) F68L0b
def F68T0 : XC :=
 .reg [⟨none, (some 19), .mov (.t 6)⟩,⟨none, (some 20), .bin .add (.t 19) (.c (.int .i64 (1)))⟩,⟨none, (some 6), .mov (.t 20)⟩]
def F68L1b : XC :=
 .seq (.seq (.reg [⟨none, (some 15), .mov (.t 6)⟩,⟨none, (some 16), .mov (.t 4)⟩,⟨none, (some 17), .len (.t 16)⟩,⟨none, (some 18), .bin .lss (.t 15) (.t 17)⟩]) (.cond (.t 18) (.skip) (.exit 0 (m 69 32)))) (.seq (.block 1 (m 69 120) (.seq (.reg [⟨none, (some 22), .mov (.t 3)⟩,⟨none, (some 23), .mov (.t 4)⟩,⟨none, (some 24), .mov (.t 6)⟩,⟨none, (some 25), .indexA 3 (.t 23) (.t 24)⟩,⟨none, (some 26), .load (some 3) (.t 25)⟩,⟨none, (some 27), .call 1 89 [.t 22, .t 26]⟩,⟨none, (some 21), .mov (.t 27)⟩,⟨none, (some 28), .ext (.t 21) 0⟩,⟨none, (some 29), .ext (.t 21) 1⟩,⟨none, (some 30), .ext (.t 21) 2⟩,⟨none, (some 7), .mov (.t 28)⟩,⟨none, (some 8), .mov (.t 29)⟩,⟨none, (some 9), .mov (.t 30)⟩]) (.seq (.reg [⟨none, (some 10), .mov (.c (.int .i64 (0)))⟩]) (.block 2 (m 69 120) (F68L0)))))
 F68T0)
def F68L1 : XC := .loop (m 69 120) F68L1b
def F68T1 : XC :=
 .seq (.reg [⟨none, (some 68), .mov (.t 5)⟩,⟨none, (some 2), .mov (.t 68)⟩]) (.ret (m 69 4))
def F68B : XC :=
 .seq (.reg [⟨none, (some 2), .mov (.c (.nils))⟩]) (.seq (.reg [⟨none, (some 11), .mov (.t 0)⟩,⟨none, (some 12), .call 2 65 [.t 11]⟩,⟨none, (some 3), .mov (.t 12)⟩]) (.seq (.reg [⟨none, (some 13), .mov (.t 3)⟩,⟨none, (some 14), .call 1 88 [.t 13]⟩,⟨none, (some 4), .mov (.t 14)⟩]) (.seq (.reg [⟨none, (some 5), .mov (.c (.nils))⟩]) (.seq (.seq (.reg [⟨none, (some 6), .mov (.c (.int .i64 (0)))⟩]) (.block 0 (m 69 32) (F68L1)))
 F68T1))))
def F68 : XF := ⟨1, 69, [.tmp 2], F68B⟩
def M68 : List (List Bool) := [(m 69 32), (m 69 120), (m 69 32), (m 69 120), (m 69 120), (m 69 2040), (m 69 120), (m 69 2040), (m 69 4)]
def F69L0b : XC :=
 .seq (.reg [⟨none, (some 17), .bin .lss (.t 16) (.t 15)⟩]) (.seq (.cond (.t 17) (.skip) (.exit 2 (m 35 6179))) (.seq (.block 3 (m 35 104547) (.seq (.reg [⟨none, (some 18), .mov (.t 16)⟩,⟨none, (some 7), .mov (.t 18)⟩]) (.reg [⟨none, (some 19), .mov (.t 5)⟩,⟨none, (some 20), .mov (.t 6)⟩,⟨none, (some 21), .mov (.t 5)⟩,⟨none, (some 22), .mov (.t 6)⟩,⟨none, (some 23), .indexA 1 (.t 21) (.t 22)⟩,⟨none, (some 24), .load none (.t 23)⟩,⟨none, (some 25), .mov (.t 1)⟩,⟨none, (some 26), .mov (.t 6)⟩,⟨none, (some 27), .mov (.t 7)⟩,⟨none, (some 28), .calld 1 (.t 25) [.t 26, .t 27]⟩,⟨none, (some 29), .bslice 1 1 [.int .i64 (0)] [(0, 1, .t 28)]⟩,⟨none, (some 30), .app 1 8 (.t 24) (.t 29)⟩,⟨none, (some 31), .indexA 1 (.t 19) (.t 20)⟩,⟨none, none, .store 1 (.t 31) (.t 30)⟩]))) (.reg [⟨none, (some 32), .bin .add (.t 16) (.c (.int .i64 (1)))⟩,⟨none, (some 16), .mov (.t 32)⟩])))
def F69L0 : XC := .loop (m 35 104547) F69L0b
def F69T0 : XC :=
 .reg [⟨none, (some 33), .bin .add (.t 12) (.c (.int .i64 (1)))⟩,⟨none, (some 12), .mov (.t 33)⟩]
def F69L1b : XC :=
 .seq (.reg [⟨none, (some 13), .bin .lss (.t 12) (.t 11)⟩]) (.seq (.cond (.t 13) (.skip) (.exit 0 (m 35 32))) (.seq (.block 1 (m 35 6179) (.seq (.reg [⟨none, (some 14), .mov (.t 12)⟩,⟨none, (some 6), .mov (.t 14)⟩]) (.seq (.reg [⟨none, (some 15), .mov (.t 0)⟩,⟨none, (some 16), .mov (.c (.int .i64 (0)))⟩]) (.block 2 (m 35 6179) (F69L0)))))
 F69T0))
def F69L1 : XC := .loop (m 35 6179) F69L1b
def F69T1 : XC :=
 .seq (.reg [⟨none, (some 34), .mov (.t 5)⟩,⟨none, (some 4), .mov (.t 34)⟩]) (.ret (m 35 16))
def F69B : XC :=
 .seq (.reg [⟨none, (some 4), .mov (.c (.nils))⟩]) (.seq (.reg [⟨none, (some 8), .mov (.t 0)⟩,⟨none, (some 9), .mks 1 24 [.nils] (.t 8) (.t 8)⟩,⟨none, (some 5), .mov (.t 9)⟩]) (.seq (.seq (.reg [⟨none, (some 10), .mov (.t 5)⟩,⟨none, (some 11), .len (.t 10)⟩,⟨none, (some 12), .mov (.c (.int .i64 (0)))⟩]) (.block 0 (m 35 32) (F69L1)))
 F69T1))
def F69 : XF := ⟨2, 35, [.tmp 4], F69B⟩
def M69 : List (List Bool) := [(m 35 32), (m 35 6179), (m 35 32), (m 35 6179), (m 35 6179), (m 35 104547), (m 35 6179), (m 35 104547), (m 35 16)]
def F72B : XC :=
 .seq (.reg [⟨none, (some 1), .box (.t 0)⟩,⟨none, (some 2), .mov (.c (.nils))⟩]) (.seq (.reg [⟨none, (some 3), .load none (.t 1)⟩,⟨none, (some 4), .callm 1 [(56, 114), (59, 91), (69, 116)] (.t 3) []⟩,⟨none, (some 5), .mkf 90 [.t 1]⟩,⟨none, (some 6), .call 2 69 [.t 4, .t 5]⟩,⟨none, (some 2), .mov (.t 6)⟩]) (.ret (m 7 4)))
def F72 : XF := ⟨1, 7, [.tmp 2], F72B⟩
def M72 : List (List Bool) := [(m 7 4)]
def F73L0b : XC :=
 .seq (.seq (.reg [⟨none, (some 17), .mov (.t 6)⟩,⟨none, (some 18), .mov (.t 3)⟩,⟨none, (some 19), .bin .lss (.t 17) (.t 18)⟩]) (.cond (.t 19) (.skip) (.exit 2 (m 65 57)))) (.seq (.block 3 (m 65 121) (.reg [⟨none, (some 22), .mov (.t 4)⟩,⟨none, (some 23), .mov (.t 5)⟩,⟨none, (some 24), .indexA 1 (.t 22) (.t 23)⟩,⟨none, (some 25), .load none (.t 24)⟩,⟨none, (some 26), .mov (.t 6)⟩,⟨none, (some 27), .mov (.t 0)⟩,⟨none, (some 28), .mov (.t 5)⟩,⟨none, (some 29), .indexA 1 (.t 27) (.t 28)⟩,⟨none, (some 30), .load none (.t 29)⟩,⟨none, (some 31), .mov (.t 6)⟩,⟨none, (some 32), .bin .add (.t 31) (.c (.int .i64 (1)))⟩,⟨none, (some 33), .indexA 1 (.t 30) (.t 32)⟩,⟨none, (some 34), .load none (.t 33)⟩,⟨none, (some 35), .mov (.t 0)⟩,⟨none, (some 36), .mov (.t 5)⟩,⟨none, (some 37), .bin .add (.t 36) (.c (.int .i64 (1)))⟩,⟨none, (some 38), .indexA 1 (.t 35) (.t 37)⟩,⟨none, (some 39), .load none (.t 38)⟩,⟨none, (some 40), .mov (.t 6)⟩,⟨none, (some 41), .indexA 1 (.t 39) (.t 40)⟩,⟨none, (some 42), .load none (.t 41)⟩,⟨none, (some 43), .bin .add (.t 34) (.t 42)⟩,⟨none, (some 44), .mov (.t 0)⟩,⟨none, (some 45), .mov (.t 5)⟩,⟨none, (some 46), .indexA 1 (.t 44) (.t 45)⟩,⟨none, (some 47), .load none (.t 46)⟩,⟨none, (some 48), .mov (.t 6)⟩,⟨none, (some 49), .indexA 1 (.t 47) (.t 48)⟩,⟨none, (some 50), .load none (.t 49)⟩,⟨none, (some 51), .bin .sub (.t 43) (.t 50)⟩,⟨none, (some 52), .mov (.t 0)⟩,⟨none, (some 53), .mov (.t 5)⟩,⟨none, (some 54), .bin .add (.t 53) (.c (.int .i64 (1)))⟩,⟨none, (some 55), .indexA 1 (.t 52) (.t 54)⟩,⟨none, (some 56), .load none (.t 55)⟩,⟨none, (some 57), .mov (.t 6)⟩,⟨none, (some 58), .bin .add (.t 57) (.c (.int .i64 (1)))⟩,⟨none, (some 59), .indexA 1 (.t 56) (.t 58)⟩,⟨none, (some 60), .load none (.t 59)⟩,⟨none, (some 61), .bin .sub (.t 51) (.t 60)⟩,⟨none, (some 62), .bin .quo (.t 61) (.c (.int .i64 (2)))⟩,⟨none, (some 63), .indexA 1 (.t 25) (.t 26)⟩,⟨none, none, .store 1 (.t 63) (.t 62)⟩])) (.reg [⟨none, (some 20), .mov (.t 6)⟩,⟨none, (some 21), .bin .add (.t 20) (.c (.int .i64 (1)))⟩,⟨none, (some 6), .mov (.t 21)⟩]))
def F73L0 : XC := .loop (m 65 121) F73L0b
def F73T0 : XC :=
 .reg [⟨none, (some 15), .mov (.t 5)⟩,⟨none, (some 16), .bin .add (.t 15) (.c (.int .i64 (1)))⟩,⟨none, (some 5), .mov (.t 16)⟩]
def F73L1b : XC :=
 .seq (.seq (.reg [⟨none, (some 12), .mov (.t 5)⟩,⟨none, (some 13), .mov (.t 3)⟩,⟨none, (some 14), .bin .lss (.t 12) (.t 13)⟩]) (.cond (.t 14) (.skip) (.exit 0 (m 65 16)))) (.seq (.block 1 (m 65 57) (.seq (.reg [⟨none, (some 6), .mov (.c (.int .i64 (0)))⟩]) (.block 2 (m 65 57) (F73L0))))
 F73T0)
def F73L1 : XC := .loop (m 65 57) F73L1b
def F73T1 : XC :=
 .seq (.reg [⟨none, (some 64), .mov (.t 4)⟩,⟨none, (some 2), .mov (.t 64)⟩]) (.ret (m 65 4))
def F73B : XC :=
 .seq (.reg [⟨none, (some 2), .mov (.c (.nils))⟩]) (.seq (.reg [⟨none, (some 7), .mov (.t 0)⟩,⟨none, (some 8), .len (.t 7)⟩,⟨none, (some 9), .bin .sub (.t 8) (.c (.int .i64 (1)))⟩,⟨none, (some 3), .mov (.t 9)⟩]) (.seq (.reg [⟨none, (some 10), .mov (.t 3)⟩,⟨none, (some 11), .call 2 54 [.t 10]⟩,⟨none, (some 4), .mov (.t 11)⟩]) (.seq (.seq (.reg [⟨none, (some 5), .mov (.c (.int .i64 (0)))⟩]) (.block 0 (m 65 16) (F73L1)))
 F73T1)))
def F73 : XF := ⟨1, 65, [.tmp 2], F73B⟩
def M73 : List (List Bool) := [(m 65 16), (m 65 57), (m 65 16), (m 65 57), (m 65 57), (m 65 121), (m 65 57), (m 65 121), (m 65 4)]
def F74B : XC :=
 .seq (.reg [⟨none, (some 6), .mov (.c (.int .i64 (0)))⟩,⟨none, (some 7), .mov (.c (.bool false))⟩]) (.seq (.reg [⟨none, (some 9), .mov (.t 0)⟩,⟨none, (some 10), .mov (.t 1)⟩,⟨none, (some 11), .bin .sub (.t 10) (.c (.int .i64 (1)))⟩,⟨none, (some 12), .indexA 1 (.t 9) (.t 11)⟩,⟨none, (some 13), .load none (.t 12)⟩,⟨none, (some 14), .mov (.t 2)⟩,⟨none, (some 15), .indexA 1 (.t 13) (.t 14)⟩,⟨none, (some 16), .load none (.t 15)⟩,⟨none, (some 8), .mov (.t 16)⟩]) (.seq (.seq (.reg [⟨none, (some 17), .mov (.t 0)⟩,⟨none, (some 18), .mov (.t 1)⟩,⟨none, (some 19), .bin .add (.t 18) (.c (.int .i64 (1)))⟩,⟨none, (some 20), .indexA 1 (.t 17) (.t 19)⟩,⟨none, (some 21), .load none (.t 20)⟩,⟨none, (some 22), .mov (.t 2)⟩,⟨none, (some 23), .indexA 1 (.t 21) (.t 22)⟩,⟨none, (some 24), .load none (.t 23)⟩,⟨none, (some 25), .mov (.t 8)⟩,⟨none, (some 26), .bin .neq (.t 24) (.t 25)⟩,⟨none, (some 27), .mov (.t 26)⟩,⟨(some (27, false)), (some 28), .mov (.t 0)⟩,⟨(some (27, false)), (some 29), .mov (.t 1)⟩,⟨(some (27, false)), (some 30), .indexA 1 (.t 28) (.t 29)⟩,⟨(some (27, false)), (some 31), .load none (.t 30)⟩,⟨(some (27, false)), (some 32), .mov (.t 2)⟩,⟨(some (27, false)), (some 33), .bin .sub (.t 32) (.c (.int .i64 (1)))⟩,⟨(some (27, false)), (some 34), .indexA 1 (.t 31) (.t 33)⟩,⟨(some (27, false)), (some 35), .load none (.t 34)⟩,⟨(some (27, false)), (some 36), .mov (.t 8)⟩,⟨(some (27, false)), (some 37), .bin .neq (.t 35) (.t 36)⟩,⟨none, (some 38), .pick (.t 27) (.c (.bool true)) (.t 37)⟩,⟨none, (some 39), .mov (.t 38)⟩,⟨(some (39, false)), (some 40), .mov (.t 0)⟩,⟨(some (39, false)), (some 41), .mov (.t 1)⟩,⟨(some (39, false)), (some 42), .indexA 1 (.t 40) (.t 41)⟩,⟨(some (39, false)), (some 43), .load none (.t 42)⟩,⟨(some (39, false)), (some 44), .mov (.t 2)⟩,⟨(some (39, false)), (some 45), .bin .add (.t 44) (.c (.int .i64 (1)))⟩,⟨(some (39, false)), (some 46), .indexA 1 (.t 43) (.t 45)⟩,⟨(some (39, false)), (some 47), .load none (.t 46)⟩,⟨(some (39, false)), (some 48), .mov (.t 8)⟩,⟨(some (39, false)), (some 49), .bin .neq (.t 47) (.t 48)⟩,⟨none, (some 50), .pick (.t 39) (.c (.bool true)) (.t 49)⟩]) (.cond (.t 50) (.seq (.reg [⟨none, (some 6), .mov (.c (.int .i64 (0)))⟩,⟨none, (some 7), .mov (.c (.bool false))⟩]) (.ret (m 61 192))) (.skip))) (.seq (.reg [⟨none, (some 51), .mov (.t 8)⟩,⟨none, (some 52), .bin .mul (.c (.int .i64 (2))) (.t 51)⟩,⟨none, (some 53), .mov (.t 0)⟩,⟨none, (some 54), .mov (.t 1)⟩,⟨none, (some 55), .indexA 1 (.t 53) (.t 54)⟩,⟨none, (some 56), .load none (.t 55)⟩,⟨none, (some 57), .mov (.t 2)⟩,⟨none, (some 58), .indexA 1 (.t 56) (.t 57)⟩,⟨none, (some 59), .load none (.t 58)⟩,⟨none, (some 60), .bin .sub (.t 52) (.t 59)⟩,⟨none, (some 6), .mov (.t 60)⟩,⟨none, (some 7), .mov (.c (.bool true))⟩]) (.ret (m 61 192)))))
def F74 : XF := ⟨3, 61, [.tmp 6, .tmp 7], F74B⟩
def M74 : List (List Bool) := [(m 61 192), (m 61 192)]
def F75L0b : XC :=
 .seq (.seq (.reg [⟨none, (some 20), .mov (.t 6)⟩,⟨none, (some 21), .mov (.t 2)⟩,⟨none, (some 22), .bin .lss (.t 20) (.t 21)⟩]) (.cond (.t 22) (.skip) (.exit 4 (m 49 6197)))) (.seq (.block 5 (m 49 6261) (.seq (.reg [⟨none, (some 26), .mov (.t 0)⟩,⟨none, (some 27), .mov (.t 5)⟩,⟨none, (some 28), .mov (.t 6)⟩,⟨none, (some 29), .call 1 74 [.t 26, .t 27, .t 28]⟩,⟨none, (some 25), .mov (.t 29)⟩,⟨none, (some 30), .ext (.t 25) 0⟩,⟨none, (some 31), .ext (.t 25) 1⟩,⟨none, (some 7), .mov (.t 30)⟩,⟨none, (some 8), .mov (.t 31)⟩]) (.seq (.reg [⟨none, (some 32), .mov (.t 8)⟩,⟨none, (some 33), .mov (.t 32)⟩,⟨(some (33, true)), (some 34), .mov (.t 5)⟩,⟨(some (33, true)), (some 35), .mov (.t 6)⟩,⟨(some (33, true)), (some 36), .bin .add (.t 34) (.t 35)⟩,⟨(some (33, true)), (some 37), .bin .rem (.t 36) (.c (.int .i64 (2)))⟩,⟨(some (33, true)), (some 38), .mov (.t 4)⟩,⟨(some (33, true)), (some 39), .bin .eql (.t 37) (.t 38)⟩,⟨none, (some 40), .pick (.t 33) (.t 39) (.c (.bool false))⟩]) (.cond (.t 40) (.reg [⟨none, (some 41), .mov (.t 0)⟩,⟨none, (some 42), .mov (.t 5)⟩,⟨none, (some 43), .indexA 1 (.t 41) (.t 42)⟩,⟨none, (some 44), .load none (.t 43)⟩,⟨none, (some 45), .mov (.t 6)⟩,⟨none, (some 46), .mov (.t 7)⟩,⟨none, (some 47), .indexA 1 (.t 44) (.t 45)⟩,⟨none, none, .store 1 (.t 47) (.t 46)⟩]) (.skip))))) (.reg [⟨none, (some 23), .mov (.t 6)⟩,⟨none, (some 24), .bin .add (.t 23) (.c (.int .i64 (1)))⟩,⟨none, (some 6), .mov (.t 24)⟩]))
def F75L0 : XC := .loop (m 49 6261) F75L0b
def F75T0 : XC :=
 .reg [⟨none, (some 18), .mov (.t 5)⟩,⟨none, (some 19), .bin .add (.t 18) (.c (.int .i64 (1)))⟩,⟨none, (some 5), .mov (.t 19)⟩]
def F75L1b : XC :=
 .seq (.seq (.reg [⟨none, (some 15), .mov (.t 5)⟩,⟨none, (some 16), .mov (.t 2)⟩,⟨none, (some 17), .bin .lss (.t 15) (.t 16)⟩]) (.cond (.t 17) (.skip) (.exit 2 (m 49 6149)))) (.seq (.block 3 (m 49 6197) (.seq (.reg [⟨none, (some 6), .mov (.c (.int .i64 (1)))⟩]) (.block 4 (m 49 6197) (F75L0))))
 F75T0)
def F75L1 : XC := .loop (m 49 6197) F75L1b
def F75T1 : XC :=
 .reg [⟨none, (some 48), .bin .add (.t 12) (.c (.int .i64 (1)))⟩,⟨none, (some 12), .mov (.t 48)⟩]
def F75L2b : XC :=
 .seq (.reg [⟨none, (some 13), .bin .lss (.t 12) (.c (.int .i64 (2)))⟩]) (.seq (.cond (.t 13) (.skip) (.exit 0 (m 49 0))) (.seq (.block 1 (m 49 6149) (.seq (.reg [⟨none, (some 14), .index none 1 2 (.t 11) (.t 12)⟩,⟨none, (some 4), .mov (.t 14)⟩]) (.seq (.reg [⟨none, (some 5), .mov (.c (.int .i64 (1)))⟩]) (.block 2 (m 49 6149) (F75L1)))))
 F75T1))
def F75L2 : XC := .loop (m 49 6149) F75L2b
def F75B : XC :=
 .seq (.reg [⟨none, (some 9), .mov (.t 0)⟩,⟨none, (some 10), .call 1 91 [.t 9]⟩,⟨none, (some 2), .mov (.t 10)⟩]) (.seq (.reg [⟨none, (some 11), .build [.int .i64 (0), .int .i64 (0)] [(0, 1, .c (.int .i64 (1))), (1, 1, .c (.int .i64 (0)))]⟩,⟨none, (some 12), .mov (.c (.int .i64 (0)))⟩]) (.block 0 (m 49 0) (F75L2)))
def F75 : XF := ⟨1, 49, [], F75B⟩
def M75 : List (List Bool) := [(m 49 0), (m 49 6149), (m 49 0), (m 49 6149), (m 49 6149), (m 49 6197), (m 49 6149), (m 49 6197), (m 49 6197), (m 49 6261), (m 49 6197), (m 49 6261)]
def F76B : XC :=
 .seq (.reg [⟨none, (some 6), .mov (.c (.int .i64 (0)))⟩,⟨none, (some 7), .mov (.c (.bool false))⟩]) (.seq (.reg [⟨none, (some 9), .mov (.t 0)⟩,⟨none, (some 10), .mov (.t 1)⟩,⟨none, (some 11), .bin .sub (.t 10) (.c (.int .i64 (1)))⟩,⟨none, (some 12), .indexA 1 (.t 9) (.t 11)⟩,⟨none, (some 13), .load none (.t 12)⟩,⟨none, (some 14), .mov (.t 2)⟩,⟨none, (some 15), .indexA 1 (.t 13) (.t 14)⟩,⟨none, (some 16), .load none (.t 15)⟩,⟨none, (some 8), .mov (.t 16)⟩]) (.seq (.reg [⟨none, (some 17), .mov (.t 8)⟩,⟨none, (some 18), .bin .mul (.c (.int .i64 (2))) (.t 17)⟩,⟨none, (some 19), .mov (.t 0)⟩,⟨none, (some 20), .mov (.t 1)⟩,⟨none, (some 21), .indexA 1 (.t 19) (.t 20)⟩,⟨none, (some 22), .load none (.t 21)⟩,⟨none, (some 23), .mov (.t 2)⟩,⟨none, (some 24), .indexA 1 (.t 22) (.t 23)⟩,⟨none, (some 25), .load none (.t 24)⟩,⟨none, (some 26), .bin .sub (.t 18) (.t 25)⟩,⟨none, (some 27), .mov (.t 0)⟩,⟨none, (some 28), .mov (.t 1)⟩,⟨none, (some 29), .bin .add (.t 28) (.c (.int .i64 (1)))⟩,⟨none, (some 30), .indexA 1 (.t 27) (.t 29)⟩,⟨none, (some 31), .load none (.t 30)⟩,⟨none, (some 32), .mov (.t 2)⟩,⟨none, (some 33), .indexA 1 (.t 31) (.t 32)⟩,⟨none, (some 34), .load none (.t 33)⟩,⟨none, (some 35), .mov (.t 8)⟩,⟨none, (some 36), .bin .eql (.t 34) (.t 35)⟩,⟨none, (some 37), .mov (.t 36)⟩,⟨(some (37, true)), (some 38), .mov (.t 0)⟩,⟨(some (37, true)), (some 39), .mov (.t 1)⟩,⟨(some (37, true)), (some 40), .indexA 1 (.t 38) (.t 39)⟩,⟨(some (37, true)), (some 41), .load none (.t 40)⟩,⟨(some (37, true)), (some 42), .mov (.t 2)⟩,⟨(some (37, true)), (some 43), .bin .sub (.t 42) (.c (.int .i64 (1)))⟩,⟨(some (37, true)), (some 44), .indexA 1 (.t 41) (.t 43)⟩,⟨(some (37, true)), (some 45), .load none (.t 44)⟩,⟨(some (37, true)), (some 46), .mov (.t 8)⟩,⟨(some (37, true)), (some 47), .bin .eql (.t 45) (.t 46)⟩,⟨none, (some 48), .pick (.t 37) (.t 47) (.c (.bool false))⟩,⟨none, (some 49), .mov (.t 48)⟩,⟨(some (49, true)), (some 50), .mov (.t 0)⟩,⟨(some (49, true)), (some 51), .mov (.t 1)⟩,⟨(some (49, true)), (some 52), .indexA 1 (.t 50) (.t 51)⟩,⟨(some (49, true)), (some 53), .load none (.t 52)⟩,⟨(some (49, true)), (some 54), .mov (.t 2)⟩,⟨(some (49, true)), (some 55), .bin .add (.t 54) (.c (.int .i64 (1)))⟩,⟨(some (49, true)), (some 56), .indexA 1 (.t 53) (.t 55)⟩,⟨(some (49, true)), (some 57), .load none (.t 56)⟩,⟨(some (49, true)), (some 58), .mov (.t 8)⟩,⟨(some (49, true)), (some 59), .bin .eql (.t 57) (.t 58)⟩,⟨none, (some 60), .pick (.t 49) (.t 59) (.c (.bool false))⟩,⟨none, (some 6), .mov (.t 26)⟩,⟨none, (some 7), .mov (.t 60)⟩]) (.ret (m 61 192))))
def F76 : XF := ⟨3, 61, [.tmp 6, .tmp 7], F76B⟩
def M76 : List (List Bool) := [(m 61 192)]
def F77B : XC :=
 .seq (.reg [⟨none, (some 4), .mov (.c (.int .i64 (0)))⟩]) (.seq (.reg [⟨none, (some 4), .mov (.c (.int .i64 (0)))⟩]) (.ret (m 5 16)))
def F77 : XF := ⟨2, 5, [.tmp 4], F77B⟩
def M77 : List (List Bool) := [(m 5 16)]
def F78L0b : XC :=
 .seq (.seq (.reg [⟨none, (some 30), .mov (.t 10)⟩,⟨none, (some 31), .bin .leq (.t 30) (.c (.int .i64 (1)))⟩]) (.cond (.t 31) (.skip) (.exit 0 (m 101 0)))) (.seq (.block 1 (m 101 1911) (.seq (.reg [⟨none, (some 34), .load none (.t 5)⟩,⟨none, (some 35), .mov (.t 8)⟩,⟨none, (some 36), .indexA 1 (.t 34) (.t 35)⟩,⟨none, (some 37), .load none (.t 36)⟩,⟨none, (some 38), .mov (.t 10)⟩,⟨none, (some 39), .bin .add (.t 37) (.t 38)⟩,⟨none, (some 40), .load none (.t 2)⟩,⟨none, (some 41), .mov (.t 9)⟩,⟨none, (some 42), .indexA 1 (.t 40) (.t 41)⟩,⟨none, (some 43), .load none (.t 42)⟩,⟨none, (some 44), .mov (.t 10)⟩,⟨none, (some 45), .bin .add (.t 43) (.t 44)⟩,⟨none, (some 11), .mov (.t 39)⟩,⟨none, (some 12), .mov (.t 45)⟩]) (.seq (.seq (.reg [⟨none, (some 46), .mov (.t 11)⟩,⟨none, (some 47), .bin .lss (.t 46) (.c (.int .i64 (0)))⟩,⟨none, (some 48), .mov (.t 47)⟩,⟨(some (48, false)), (some 49), .mov (.t 11)⟩,⟨(some (48, false)), (some 50), .bin .gtr (.t 49) (.c (.int .i64 (1)))⟩,⟨none, (some 51), .pick (.t 48) (.c (.bool true)) (.t 50)⟩,⟨none, (some 52), .mov (.t 51)⟩,⟨(some (52, false)), (some 53), .mov (.t 12)⟩,⟨(some (52, false)), (some 54), .bin .lss (.t 53) (.c (.int .i64 (0)))⟩,⟨none, (some 55), .pick (.t 52) (.c (.bool true)) (.t 54)⟩,⟨none, (some 56), .mov (.t 55)⟩,⟨(some (56, false)), (some 57), .mov (.t 12)⟩,⟨(some (56, false)), (some 58), .bin .gtr (.t 57) (.c (.int .i64 (1)))⟩,⟨none, (some 59), .pick (.t 56) (.c (.bool true)) (.t 58)⟩,⟨none, (some 60), .mov (.t 59)⟩,⟨(some (60, false)), (some 61), .mov (.t 9)⟩,⟨(some (60, false)), (some 62), .load none (.t 1)⟩,⟨(some (60, false)), (some 63), .bin .sub (.t 62) (.c (.int .i64 (1)))⟩,⟨(some (60, false)), (some 64), .bin .eql (.t 61) (.t 63)⟩,⟨(some (60, false)), (some 65), .mov (.t 64)⟩,⟨(some (65, true)), (some 66), .mov (.t 11)⟩,⟨(some (65, true)), (some 67), .bin .neq (.t 66) (.c (.int .i64 (1)))⟩,⟨(some (60, false)), (some 68), .pick (.t 65) (.t 67) (.c (.bool false))⟩,⟨none, (some 69), .pick (.t 60) (.c (.bool true)) (.t 68)⟩]) (.cond (.t 69) (.exit 1 (m 101 1911)) (.skip))) (.seq (.reg [⟨none, (some 70), .load none (.t 4)⟩,⟨none, (some 71), .mov (.t 8)⟩,⟨none, (some 72), .indexA 1 (.t 70) (.t 71)⟩,⟨none, (some 73), .load none (.t 72)⟩,⟨none, (some 74), .mov (.t 9)⟩,⟨none, (some 75), .mov (.t 10)⟩,⟨none, (some 76), .indexA 1 (.t 73) (.t 74)⟩,⟨none, none, .store 1 (.t 76) (.t 75)⟩]) (.seq (.reg [⟨none, (some 77), .load none (.t 5)⟩,⟨none, (some 78), .mov (.t 8)⟩,⟨none, (some 79), .load none (.t 2)⟩,⟨none, (some 80), .mov (.t 9)⟩,⟨none, (some 81), .mov (.t 11)⟩,⟨none, (some 82), .mov (.t 12)⟩,⟨none, (some 83), .indexA 1 (.t 77) (.t 78)⟩,⟨none, none, .store 1 (.t 83) (.t 81)⟩,⟨none, (some 84), .indexA 1 (.t 79) (.t 80)⟩,⟨none, none, .store 1 (.t 84) (.t 82)⟩,⟨none, none, .apt (.t 2) (.t 83)⟩]) (.seq (.reg [⟨none, (some 85), .load none (.t 6)⟩,⟨none, (some 86), .mov (.t 0)⟩,⟨none, (some 87), .bin .add (.t 86) (.c (.int .i64 (1)))⟩,⟨none, (some 88), .calld 0 (.t 85) [.t 87]⟩]) (.reg [⟨none, (some 89), .load none (.t 5)⟩,⟨none, (some 90), .mov (.t 8)⟩,⟨none, (some 91), .load none (.t 2)⟩,⟨none, (some 92), .mov (.t 9)⟩,⟨none, (some 93), .mov (.t 11)⟩,⟨none, (some 94), .mov (.t 10)⟩,⟨none, (some 95), .bin .sub (.t 93) (.t 94)⟩,⟨none, (some 96), .mov (.t 12)⟩,⟨none, (some 97), .mov (.t 10)⟩,⟨none, (some 98), .bin .sub (.t 96) (.t 97)⟩,⟨none, (some 99), .indexA 1 (.t 89) (.t 90)⟩,⟨none, none, .store 1 (.t 99) (.t 95)⟩,⟨none, (some 100), .indexA 1 (.t 91) (.t 92)⟩,⟨none, none, .store 1 (.t 100) (.t 98)⟩,⟨none, none, .apt (.t 2) (.t 99)⟩]))))))) (.reg [⟨none, (some 32), .mov (.t 10)⟩,⟨none, (some 33), .bin .add (.t 32) (.c (.int .i64 (1)))⟩,⟨none, (some 10), .mov (.t 33)⟩]))
def F78L0 : XC := .loop (m 101 1911) F78L0b
def F78B : XC :=
 .seq (.seq (.reg [⟨none, (some 13), .mov (.t 0)⟩,⟨none, (some 14), .load none (.t 1)⟩,⟨none, (some 15), .load none (.t 1)⟩,⟨none, (some 16), .bin .mul (.t 14) (.t 15)⟩,⟨none, (some 17), .bin .eql (.t 13) (.t 16)⟩]) (.cond (.t 17) (.seq (.seq (.reg [⟨none, (some 18), .load none (.t 2)⟩,⟨none, (some 19), .call 1 79 [.t 18]⟩,⟨none, (some 20), .bin .eql (.t 19) (.c (.int .i64 (1)))⟩]) (.cond (.t 20) (.reg [⟨none, (some 21), .load none (.t 3)⟩,⟨none, (some 22), .load none (.t 4)⟩,⟨none, (some 23), .calld 0 (.t 21) [.t 22]⟩]) (.skip))) (.ret (m 101 0))) (.skip))) (.seq (.reg [⟨none, (some 24), .mov (.t 0)⟩,⟨none, (some 25), .load none (.t 1)⟩,⟨none, (some 26), .bin .quo (.t 24) (.t 25)⟩,⟨none, (some 27), .mov (.t 0)⟩,⟨none, (some 28), .load none (.t 1)⟩,⟨none, (some 29), .bin .rem (.t 27) (.t 28)⟩,⟨none, (some 8), .mov (.t 26)⟩,⟨none, (some 9), .mov (.t 29)⟩]) (.seq (.reg [⟨none, (some 10), .mov (.c (.int .i64 (-1)))⟩]) (.block 0 (m 101 0) (F78L0))))
def F78 : XF := ⟨7, 101, [], F78B⟩
def M78 : List (List Bool) := [(m 101 0), (m 101 0), (m 101 1911), (m 101 0), (m 101 1911), (m 101 1911)]
def F79L0b : XC :=
 .seq (.seq (.reg [⟨none, (some 12), .mov (.t 4)⟩,⟨none, (some 13), .mov (.t 0)⟩,⟨none, (some 14), .len (.t 13)⟩,⟨none, (some 15), .bin .lss (.t 12) (.t 14)⟩]) (.cond (.t 15) (.skip) (.exit 0 (m 25 8)))) (.seq (.block 1 (m 25 25) (.reg [⟨none, (some 18), .mov (.t 3)⟩,⟨none, (some 19), .mov (.t 0)⟩,⟨none, (some 20), .mov (.t 4)⟩,⟨none, (some 21), .indexA 1 (.t 19) (.t 20)⟩,⟨none, (some 22), .load none (.t 21)⟩,⟨none, (some 23), .mnx false [.t 18, .t 22]⟩,⟨none, (some 3), .mov (.t 23)⟩])) (.reg [⟨none, (some 16), .mov (.t 4)⟩,⟨none, (some 17), .bin .add (.t 16) (.c (.int .i64 (1)))⟩,⟨none, (some 4), .mov (.t 17)⟩]))
def F79L0 : XC := .loop (m 25 25) F79L0b
def F79T0 : XC :=
 .seq (.reg [⟨none, (some 24), .mov (.t 3)⟩,⟨none, (some 2), .mov (.t 24)⟩]) (.ret (m 25 4))
def F79B : XC :=
 .seq (.reg [⟨none, (some 2), .mov (.c (.int .i64 (0)))⟩]) (.seq (.seq (.reg [⟨none, (some 5), .mov (.t 0)⟩,⟨none, (some 6), .len (.t 5)⟩,⟨none, (some 7), .bin .lss (.t 6) (.c (.int .i64 (1)))⟩]) (.cond (.t 7) (.reg [⟨none, (some 8), .mki 9 (.c (.undef))⟩,⟨none, none, .bad⟩]) (.skip))) (.seq (.reg [⟨none, (some 9), .mov (.t 0)⟩,⟨none, (some 10), .indexA 1 (.t 9) (.c (.int .i64 (0)))⟩,⟨none, (some 11), .load none (.t 10)⟩,⟨none, (some 3), .mov (.t 11)⟩]) (.seq (.seq (.reg [⟨none, (some 4), .mov (.c (.int .i64 (1)))⟩]) (.block 0 (m 25 8) (F79L0)))
 F79T0)))
def F79 : XF := ⟨1, 25, [.tmp 2], F79B⟩
def M79 : List (List Bool) := [(m 25 8), (m 25 25), (m 25 8), (m 25 25), (m 25 4)]
def F80B : XC :=
 .seq (.reg [⟨none, (some 2), .mov (.c (.nils))⟩]) (.seq (.seq (.reg [⟨none, (some 3), .mov (.t 0)⟩,⟨none, (some 4), .eqn false (.t 3)⟩]) (.cond (.t 4) (.seq (.reg [⟨none, (some 2), .mov (.c (.nils))⟩]) (.ret (m 8 4))) (.skip))) (.seq (.reg [⟨none, (some 5), .bslice 1 0 [.int .i64 (0)] []⟩,⟨none, (some 6), .mov (.t 0)⟩,⟨none, (some 7), .app 1 8 (.t 5) (.t 6)⟩,⟨none, (some 2), .mov (.t 7)⟩]) (.ret (m 8 4))))
def F80 : XF := ⟨1, 8, [.tmp 2], F80B⟩
def M80 : List (List Bool) := [(m 8 4), (m 8 4)]
def F81B : XC :=
 .seq (.reg [⟨none, (some 5), .mov (.c (.int .i64 (0)))⟩]) (.seq (.reg [⟨none, (some 6), .mov (.t 0)⟩,⟨none, (some 7), .mov (.t 1)⟩,⟨none, (some 8), .bin .add (.t 6) (.t 7)⟩,⟨none, (some 9), .load none (.t 2)⟩,⟨none, (some 10), .mov (.t 0)⟩,⟨none, (some 11), .mov (.t 1)⟩,⟨none, (some 12), .callm 1 [(56, 66), (59, 115), (69, 117)] (.t 9) [.t 10, .t 11]⟩,⟨none, (some 13), .bin .mul (.c (.int .i64 (2))) (.t 12)⟩,⟨none, (some 14), .bin .sub (.t 8) (.t 13)⟩,⟨none, (some 5), .mov (.t 14)⟩]) (.ret (m 15 32)))
def F81 : XF := ⟨3, 15, [.tmp 5], F81B⟩
def M81 : List (List Bool) := [(m 15 32)]
def F82L0b : XC :=
 .seq (.seq (.reg [⟨none, (some 13), .mov (.t 6)⟩,⟨none, (some 14), .mov (.t 3)⟩,⟨none, (some 15), .bin .leq (.t 13) (.t 14)⟩]) (.cond (.t 15) (.skip) (.exit 0 (m 48 56)))) (.seq (.block 1 (m 48 120) (.reg [⟨none, (some 18), .mov (.t 5)⟩,⟨none, (some 19), .mov (.t 6)⟩,⟨none, (some 20), .calld 0 (.t 18) [.c (.int .i64 (1)), .t 19, .c (.int .i64 (0))]⟩])) (.reg [⟨none, (some 16), .mov (.t 6)⟩,⟨none, (some 17), .bin .add (.t 16) (.c (.int .i64 (1)))⟩,⟨none, (some 6), .mov (.t 17)⟩]))
def F82L0 : XC := .loop (m 48 120) F82L0b
def F82L1b : XC :=
 .seq (.seq (.reg [⟨none, (some 21), .mov (.t 7)⟩,⟨none, (some 22), .mov (.t 3)⟩,⟨none, (some 23), .bin .leq (.t 21) (.t 22)⟩]) (.cond (.t 23) (.skip) (.exit 2 (m 48 56)))) (.seq (.block 3 (m 48 184) (.reg [⟨none, (some 26), .mov (.t 5)⟩,⟨none, (some 27), .mov (.t 7)⟩,⟨none, (some 28), .mov (.t 3)⟩,⟨none, (some 29), .calld 0 (.t 26) [.t 27, .t 28, .c (.int .i64 (1))]⟩])) (.reg [⟨none, (some 24), .mov (.t 7)⟩,⟨none, (some 25), .bin .add (.t 24) (.c (.int .i64 (1)))⟩,⟨none, (some 7), .mov (.t 25)⟩]))
def F82L1 : XC := .loop (m 48 184) F82L1b
def F82L2b : XC :=
 .seq (.seq (.reg [⟨none, (some 31), .mov (.t 8)⟩,⟨none, (some 32), .bin .geq (.t 31) (.c (.int .i64 (1)))⟩]) (.cond (.t 32) (.skip) (.exit 4 (m 48 56)))) (.seq (.block 5 (m 48 312) (.reg [⟨none, (some 35), .mov (.t 5)⟩,⟨none, (some 36), .mov (.t 3)⟩,⟨none, (some 37), .mov (.t 8)⟩,⟨none, (some 38), .calld 0 (.t 35) [.t 36, .t 37, .c (.int .i64 (2))]⟩])) (.reg [⟨none, (some 33), .mov (.t 8)⟩,⟨none, (some 34), .bin .sub (.t 33) (.c (.int .i64 (1)))⟩,⟨none, (some 8), .mov (.t 34)⟩]))
def F82L2 : XC := .loop (m 48 312) F82L2b
def F82L3b : XC :=
 .seq (.seq (.reg [⟨none, (some 40), .mov (.t 9)⟩,⟨none, (some 41), .bin .geq (.t 40) (.c (.int .i64 (1)))⟩]) (.cond (.t 41) (.skip) (.exit 6 (m 48 16)))) (.seq (.block 7 (m 48 560) (.reg [⟨none, (some 44), .mov (.t 5)⟩,⟨none, (some 45), .mov (.t 9)⟩,⟨none, (some 46), .calld 0 (.t 44) [.t 45, .c (.int .i64 (1)), .c (.int .i64 (3))]⟩])) (.reg [⟨none, (some 42), .mov (.t 9)⟩,⟨none, (some 43), .bin .sub (.t 42) (.c (.int .i64 (1)))⟩,⟨none, (some 9), .mov (.t 43)⟩]))
def F82L3 : XC := .loop (m 48 560) F82L3b
def F82T0 : XC :=
 .seq (.reg [⟨none, (some 47), .load none (.t 4)⟩,⟨none, (some 2), .mov (.t 47)⟩]) (.ret (m 48 4))
def F82T1 : XC :=
 .seq (.seq (.reg [⟨none, (some 39), .mov (.t 3)⟩,⟨none, (some 9), .mov (.t 39)⟩]) (.block 6 (m 48 16) (F82L3)))
 F82T0
def F82T2 : XC :=
 .seq (.seq (.reg [⟨none, (some 30), .mov (.t 3)⟩,⟨none, (some 8), .mov (.t 30)⟩]) (.block 4 (m 48 56) (F82L2)))
 F82T1
def F82T3 : XC :=
 .seq (.seq (.reg [⟨none, (some 7), .mov (.c (.int .i64 (1)))⟩]) (.block 2 (m 48 56) (F82L1)))
 F82T2
def F82B : XC :=
 .seq (.reg [⟨none, (some 1), .box (.t 0)⟩,⟨none, (some 2), .mov (.c (.nils))⟩]) (.seq (.reg [⟨none, (some 10), .load none (.t 1)⟩,⟨none, (some 11), .call 1 91 [.t 10]⟩,⟨none, (some 3), .mov (.t 11)⟩]) (.seq (.reg [⟨none, (some 4), .alloc [.nils]⟩]) (.seq (.reg [⟨none, (some 12), .mkf 92 [.t 1, .t 4]⟩,⟨none, (some 5), .mov (.t 12)⟩]) (.seq (.seq (.reg [⟨none, (some 6), .mov (.c (.int .i64 (1)))⟩]) (.block 0 (m 48 56) (F82L0)))
 F82T3))))
def F82 : XF := ⟨1, 48, [.tmp 2], F82B⟩
def M82 : List (List Bool) := [(m 48 56), (m 48 120), (m 48 56), (m 48 120), (m 48 56), (m 48 184), (m 48 56), (m 48 184), (m 48 56), (m 48 312), (m 48 56), (m 48 312), (m 48 16), (m 48 560), (m 48 16), (m 48 560), (m 48 4)]
def F83L0b : XC :=
 .seq (.reg [⟨none, (some 9), .bin .lss (.t 8) (.t 7)⟩]) (.seq (.cond (.t 9) (.skip) (.exit 0 (m 19 0))) (.seq (.block 1 (m 19 393) (.seq (.reg [⟨none, (some 10), .mov (.t 8)⟩,⟨none, (some 5), .mov (.t 10)⟩]) (.seq (.reg [⟨none, (some 11), .load (some 3) (.t 3)⟩,⟨none, (some 12), .mov (.t 0)⟩,⟨none, (some 13), .mov (.t 5)⟩,⟨none, (some 14), .indexA 3 (.t 12) (.t 13)⟩,⟨none, (some 15), .load (some 3) (.t 14)⟩,⟨none, (some 16), .eqs false [true, true, true] (.t 11) (.t 15)⟩]) (.cond (.t 16) (.seq (.reg [⟨none, (some 17), .mov (.t 5)⟩,⟨none, (some 4), .mov (.t 17)⟩]) (.ret (m 19 16))) (.skip))))) (.reg [⟨none, (some 18), .bin .add (.t 8) (.c (.int .i64 (1)))⟩,⟨none, (some 8), .mov (.t 18)⟩])))
def F83L0 : XC := .loop (m 19 393) F83L0b
def F83T0 : XC :=
 .seq (.reg [⟨none, (some 4), .mov (.c (.int .i64 (-1)))⟩]) (.ret (m 19 16))
def F83B : XC :=
 .seq (.reg [⟨none, (some 3), .box (.t 1)⟩,⟨none, (some 4), .mov (.c (.int .i64 (0)))⟩]) (.seq (.seq (.reg [⟨none, (some 6), .mov (.t 0)⟩,⟨none, (some 7), .len (.t 6)⟩,⟨none, (some 8), .mov (.c (.int .i64 (0)))⟩]) (.block 0 (m 19 0) (F83L0)))
 F83T0)
def F83 : XF := ⟨2, 19, [.tmp 4], F83B⟩
def M83 : List (List Bool) := [(m 19 0), (m 19 393), (m 19 0), (m 19 393), (m 19 16), (m 19 16)]
def F84L0b : XC :=
 .seq (.reg [⟨none, (some 14), .bin .lss (.t 13) (.c (.int .i64 (4)))⟩]) (.seq (.cond (.t 14) (.skip) (.exit 2 (m 51 57))) (.seq (.block 3 (m 51 8313) (.seq (.reg [⟨none, (some 15), .mov (.t 13)⟩,⟨none, (some 7), .mov (.t 15)⟩]) (.seq (.reg [⟨none, (some 16), .mov (.t 7)⟩,⟨none, (some 17), .mov (.t 6)⟩,⟨none, (some 18), .bin .neq (.t 16) (.t 17)⟩,⟨none, (some 19), .mov (.t 18)⟩,⟨(some (19, true)), (some 20), .mov (.t 0)⟩,⟨(some (19, true)), (some 21), .fieldA 0 (.t 3)⟩,⟨(some (19, true)), (some 22), .load none (.t 21)⟩,⟨(some (19, true)), (some 23), .fieldA 1 (.t 3)⟩,⟨(some (19, true)), (some 24), .load none (.t 23)⟩,⟨(some (19, true)), (some 25), .mov (.t 7)⟩,⟨(some (19, true)), (some 26), .build [.int .i64 (0), .int .i64 (0), .int .i64 (0)] [(0, 1, .t 22), (1, 1, .t 24), (2, 1, .t 25)]⟩,⟨(some (19, true)), (some 27), .call 1 93 [.t 20, .t 26]⟩,⟨none, (some 28), .pick (.t 19) (.t 27) (.c (.bool false))⟩]) (.cond (.t 28) (.seq (.reg [⟨none, (some 29), .mov (.t 7)⟩,⟨none, (some 30), .fieldA 2 (.t 3)⟩,⟨none, none, .store 1 (.t 30) (.t 29)⟩]) (.exit 2 (m 51 57))) (.skip))))) (.reg [⟨none, (some 31), .bin .add (.t 13) (.c (.int .i64 (1)))⟩,⟨none, (some 13), .mov (.t 31)⟩])))
def F84L0 : XC := .loop (m 51 8313) F84L0b
def F84T0 : XC :=
 .seq (.reg [⟨none, (some 32), .load (some 3) (.t 3)⟩,⟨none, (some 33), .call 1 94 [.t 32]⟩,⟨none, (some 8), .alloc [.int .i64 (0), .int .i64 (0), .int .i64 (0)]⟩,⟨none, none, .store 3 (.t 8) (.t 33)⟩]) (.seq (.seq (.reg [⟨none, (some 34), .fieldA 0 (.t 8)⟩,⟨none, (some 35), .load none (.t 34)⟩,⟨none, (some 36), .fieldA 1 (.t 8)⟩,⟨none, (some 37), .load none (.t 36)⟩,⟨none, (some 38), .mnx false [.t 35, .t 37]⟩,⟨none, (some 39), .bin .lss (.t 38) (.c (.int .i64 (1)))⟩,⟨none, (some 40), .mov (.t 39)⟩,⟨(some (40, false)), (some 41), .fieldA 0 (.t 8)⟩,⟨(some (40, false)), (some 42), .load none (.t 41)⟩,⟨(some (40, false)), (some 43), .fieldA 1 (.t 8)⟩,⟨(some (40, false)), (some 44), .load none (.t 43)⟩,⟨(some (40, false)), (some 45), .mnx true [.t 42, .t 44]⟩,⟨(some (40, false)), (some 46), .mov (.t 5)⟩,⟨(some (40, false)), (some 47), .bin .gtr (.t 45) (.t 46)⟩,⟨none, (some 48), .pick (.t 40) (.c (.bool true)) (.t 47)⟩]) (.cond (.t 48) (.seq (.reg [⟨none, (some 49), .load (some 3) (.t 3)⟩,⟨none, none, .store 3 (.t 4) (.t 49)⟩]) (.ret (m 51 16))) (.skip))) (.reg [⟨none, (some 50), .load (some 3) (.t 8)⟩,⟨none, none, .store 3 (.t 3) (.t 50)⟩]))
def F84L1b : XC :=
 .block 1 (m 51 57) (.seq (.reg [⟨none, (some 11), .fieldA 2 (.t 3)⟩,⟨none, (some 12), .load none (.t 11)⟩,⟨none, (some 6), .mov (.t 12)⟩]) (.seq (.seq (.reg [⟨none, (some 13), .mov (.c (.int .i64 (0)))⟩]) (.block 2 (m 51 57) (F84L0)))
 F84T0))
def F84L1 : XC := .loop (m 51 57) F84L1b
def F84B : XC :=
 .seq (.reg [⟨none, (some 3), .box (.t 1)⟩,⟨none, (some 4), .alloc [.int .i64 (0), .int .i64 (0), .int .i64 (0)]⟩]) (.seq (.reg [⟨none, (some 9), .mov (.t 0)⟩,⟨none, (some 10), .call 1 91 [.t 9]⟩,⟨none, (some 5), .mov (.t 10)⟩]) (.block 0 (m 51 16) (F84L1)))
def F84 : XF := ⟨2, 51, [.cell 4 (some 3)], F84B⟩
def M84 : List (List Bool) := [(m 51 16), (m 51 57), (m 51 57), (m 51 57), (m 51 8313), (m 51 57), (m 51 8313), (m 51 57), (m 51 16)]
def F85B : XC :=
 .seq (.reg [⟨none, (some 4), .mov (.c (.bool false))⟩]) (.seq (.reg [⟨none, (some 5), .mov (.t 0)⟩,⟨none, (some 6), .mov (.t 1)⟩,⟨none, (some 7), .call 1 95 [.t 5, .t 6]⟩,⟨none, (some 8), .bin .geq (.t 7) (.c (.int .i64 (0)))⟩,⟨none, (some 4), .mov (.t 8)⟩]) (.ret (m 9 16)))
def F85 : XF := ⟨2, 9, [.tmp 4], F85B⟩
def M85 : List (List Bool) := [(m 9 16)]
def F86B : XC :=
 .seq (.reg [⟨none, (some 3), .mov (.c (.bool false))⟩]) (.seq (.reg [⟨none, (some 4), .mov (.t 0)⟩,⟨none, (some 5), .len (.t 4)⟩,⟨none, (some 6), .load none (.t 1)⟩,⟨none, (some 7), .len (.t 6)⟩,⟨none, (some 8), .bin .neq (.t 5) (.t 7)⟩,⟨none, (some 9), .mov (.t 8)⟩,⟨(some (9, false)), (some 10), .mov (.t 0)⟩,⟨(some (9, false)), (some 11), .call 1 87 [.t 10]⟩,⟨(some (9, false)), (some 12), .un .not (.t 11)⟩,⟨none, (some 13), .pick (.t 9) (.c (.bool true)) (.t 12)⟩,⟨none, (some 3), .mov (.t 13)⟩]) (.ret (m 14 8)))
def F86 : XF := ⟨2, 14, [.tmp 3], F86B⟩
def M86 : List (List Bool) := [(m 14 8)]
def F87L0b : XC :=
 .seq (.reg [⟨none, (some 9), .bin .lss (.t 8) (.t 7)⟩]) (.seq (.cond (.t 9) (.skip) (.exit 0 (m 32 8))) (.seq (.block 1 (m 32 456) (.seq (.reg [⟨none, (some 10), .indexA 1 (.t 6) (.t 8)⟩,⟨none, (some 11), .load none (.t 10)⟩,⟨none, (some 5), .mov (.t 11)⟩]) (.seq (.reg [⟨none, (some 12), .mov (.t 3)⟩,⟨none, (some 13), .mov (.t 5)⟩,⟨none, (some 14), .bin .add (.t 12) (.t 13)⟩,⟨none, (some 3), .mov (.t 14)⟩]) (.seq (.reg [⟨none, (some 15), .mov (.t 5)⟩,⟨none, (some 16), .bin .lss (.t 15) (.c (.int .i64 (-1)))⟩,⟨none, (some 17), .mov (.t 16)⟩,⟨(some (17, false)), (some 18), .mov (.t 5)⟩,⟨(some (17, false)), (some 19), .bin .gtr (.t 18) (.c (.int .i64 (1)))⟩,⟨none, (some 20), .pick (.t 17) (.c (.bool true)) (.t 19)⟩,⟨none, (some 21), .mov (.t 20)⟩,⟨(some (21, false)), (some 22), .mov (.t 3)⟩,⟨(some (21, false)), (some 23), .bin .lss (.t 22) (.c (.int .i64 (0)))⟩,⟨none, (some 24), .pick (.t 21) (.c (.bool true)) (.t 23)⟩,⟨none, (some 25), .mov (.t 24)⟩,⟨(some (25, false)), (some 26), .mov (.t 3)⟩,⟨(some (25, false)), (some 27), .bin .gtr (.t 26) (.c (.int .i64 (1)))⟩,⟨none, (some 28), .pick (.t 25) (.c (.bool true)) (.t 27)⟩]) (.cond (.t 28) (.seq (.reg [⟨none, (some 2), .mov (.c (.bool false))⟩]) (.ret (m 32 4))) (.skip)))))) (.reg [⟨none, (some 29), .bin .add (.t 8) (.c (.int .i64 (1)))⟩,⟨none, (some 8), .mov (.t 29)⟩])))
def F87L0 : XC := .loop (m 32 456) F87L0b
def F87T0 : XC :=
 .seq (.reg [⟨none, (some 30), .mov (.t 3)⟩,⟨none, (some 31), .bin .eql (.t 30) (.c (.int .i64 (1)))⟩,⟨none, (some 2), .mov (.t 31)⟩]) (.ret (m 32 4))
def F87B : XC :=
 .seq (.reg [⟨none, (some 2), .mov (.c (.bool false))⟩]) (.seq (.reg [⟨none, (some 3), .mov (.c (.int .i64 (0)))⟩]) (.seq (.seq (.reg [⟨none, (some 6), .mov (.t 0)⟩,⟨none, (some 7), .len (.t 6)⟩,⟨none, (some 8), .mov (.c (.int .i64 (0)))⟩]) (.block 0 (m 32 8) (F87L0)))
 F87T0))
def F87 : XF := ⟨1, 32, [.tmp 2], F87B⟩
def M87 : List (List Bool) := [(m 32 8), (m 32 456), (m 32 8), (m 32 456), (m 32 4), (m 32 4)]
def F88L0b : XC :=
 .seq (.seq (.reg [⟨none, (some 12), .mov (.t 5)⟩,⟨none, (some 13), .mov (.t 3)⟩,⟨none, (some 14), .bin .leq (.t 12) (.t 13)⟩]) (.cond (.t 14) (.skip) (.exit 0 (m 69 25)))) (.seq (.block 1 (m 69 57) (.seq (.reg [⟨none, (some 17), .mov (.t 0)⟩,⟨none, (some 18), .mov (.t 5)⟩,⟨none, (some 19), .call 1 96 [.t 17, .c (.int .i64 (0)), .t 18]⟩]) (.cond (.t 19) (.reg [⟨none, (some 20), .mov (.t 4)⟩,⟨none, (some 21), .mov (.t 5)⟩,⟨none, (some 22), .build [.int .i64 (0), .int .i64 (0), .int .i64 (0)] [(0, 1, .c (.int .i64 (1))), (1, 1, .t 21), (2, 1, .c (.int .i64 (0)))]⟩,⟨none, (some 23), .bslice 3 1 [.int .i64 (0), .int .i64 (0), .int .i64 (0)] [(0, 3, .t 22)]⟩,⟨none, (some 24), .app 3 24 (.t 20) (.t 23)⟩,⟨none, (some 4), .mov (.t 24)⟩]) (.skip)))) (.reg [⟨none, (some 15), .mov (.t 5)⟩,⟨none, (some 16), .bin .add (.t 15) (.c (.int .i64 (1)))⟩,⟨none, (some 5), .mov (.t 16)⟩]))
def F88L0 : XC := .loop (m 69 57) F88L0b
def F88L1b : XC :=
 .seq (.seq (.reg [⟨none, (some 25), .mov (.t 6)⟩,⟨none, (some 26), .mov (.t 3)⟩,⟨none, (some 27), .bin .leq (.t 25) (.t 26)⟩]) (.cond (.t 27) (.skip) (.exit 2 (m 69 25)))) (.seq (.block 3 (m 69 89) (.seq (.reg [⟨none, (some 30), .mov (.t 0)⟩,⟨none, (some 31), .mov (.t 6)⟩,⟨none, (some 32), .mov (.t 3)⟩,⟨none, (some 33), .call 1 97 [.t 30, .t 31, .t 32]⟩]) (.cond (.t 33) (.reg [⟨none, (some 34), .mov (.t 4)⟩,⟨none, (some 35), .mov (.t 6)⟩,⟨none, (some 36), .mov (.t 3)⟩,⟨none, (some 37), .build [.int .i64 (0), .int .i64 (0), .int .i64 (0)] [(0, 1, .t 35), (1, 1, .t 36), (2, 1, .c (.int .i64 (1)))]⟩,⟨none, (some 38), .bslice 3 1 [.int .i64 (0), .int .i64 (0), .int .i64 (0)] [(0, 3, .t 37)]⟩,⟨none, (some 39), .app 3 24 (.t 34) (.t 38)⟩,⟨none, (some 4), .mov (.t 39)⟩]) (.skip)))) (.reg [⟨none, (some 28), .mov (.t 6)⟩,⟨none, (some 29), .bin .add (.t 28) (.c (.int .i64 (1)))⟩,⟨none, (some 6), .mov (.t 29)⟩]))
def F88L1 : XC := .loop (m 69 89) F88L1b
def F88L2b : XC :=
 .seq (.seq (.reg [⟨none, (some 41), .mov (.t 7)⟩,⟨none, (some 42), .bin .geq (.t 41) (.c (.int .i64 (1)))⟩]) (.cond (.t 42) (.skip) (.exit 4 (m 69 25)))) (.seq (.block 5 (m 69 153) (.seq (.reg [⟨none, (some 45), .mov (.t 0)⟩,⟨none, (some 46), .mov (.t 3)⟩,⟨none, (some 47), .mov (.t 7)⟩,⟨none, (some 48), .call 1 96 [.t 45, .t 46, .t 47]⟩]) (.cond (.t 48) (.reg [⟨none, (some 49), .mov (.t 4)⟩,⟨none, (some 50), .mov (.t 3)⟩,⟨none, (some 51), .mov (.t 7)⟩,⟨none, (some 52), .build [.int .i64 (0), .int .i64 (0), .int .i64 (0)] [(0, 1, .t 50), (1, 1, .t 51), (2, 1, .c (.int .i64 (2)))]⟩,⟨none, (some 53), .bslice 3 1 [.int .i64 (0), .int .i64 (0), .int .i64 (0)] [(0, 3, .t 52)]⟩,⟨none, (some 54), .app 3 24 (.t 49) (.t 53)⟩,⟨none, (some 4), .mov (.t 54)⟩]) (.skip)))) (.reg [⟨none, (some 43), .mov (.t 7)⟩,⟨none, (some 44), .bin .sub (.t 43) (.c (.int .i64 (1)))⟩,⟨none, (some 7), .mov (.t 44)⟩]))
def F88L2 : XC := .loop (m 69 153) F88L2b
def F88L3b : XC :=
 .seq (.seq (.reg [⟨none, (some 56), .mov (.t 8)⟩,⟨none, (some 57), .bin .geq (.t 56) (.c (.int .i64 (1)))⟩]) (.cond (.t 57) (.skip) (.exit 6 (m 69 16)))) (.seq (.block 7 (m 69 273) (.seq (.reg [⟨none, (some 60), .mov (.t 0)⟩,⟨none, (some 61), .mov (.t 8)⟩,⟨none, (some 62), .call 1 97 [.t 60, .t 61, .c (.int .i64 (0))]⟩]) (.cond (.t 62) (.reg [⟨none, (some 63), .mov (.t 4)⟩,⟨none, (some 64), .mov (.t 8)⟩,⟨none, (some 65), .build [.int .i64 (0), .int .i64 (0), .int .i64 (0)] [(0, 1, .t 64), (1, 1, .c (.int .i64 (1))), (2, 1, .c (.int .i64 (3)))]⟩,⟨none, (some 66), .bslice 3 1 [.int .i64 (0), .int .i64 (0), .int .i64 (0)] [(0, 3, .t 65)]⟩,⟨none, (some 67), .app 3 24 (.t 63) (.t 66)⟩,⟨none, (some 4), .mov (.t 67)⟩]) (.skip)))) (.reg [⟨none, (some 58), .mov (.t 8)⟩,⟨none, (some 59), .bin .sub (.t 58) (.c (.int .i64 (1)))⟩,⟨none, (some 8), .mov (.t 59)⟩]))
def F88L3 : XC := .loop (m 69 273) F88L3b
def F88T0 : XC :=
 .seq (.reg [⟨none, (some 68), .mov (.t 4)⟩,⟨none, (some 2), .mov (.t 68)⟩]) (.ret (m 69 4))
def F88T1 : XC :=
 .seq (.seq (.reg [⟨none, (some 55), .mov (.t 3)⟩,⟨none, (some 8), .mov (.t 55)⟩]) (.block 6 (m 69 16) (F88L3)))
 F88T0
def F88T2 : XC :=
 .seq (.seq (.reg [⟨none, (some 40), .mov (.t 3)⟩,⟨none, (some 7), .mov (.t 40)⟩]) (.block 4 (m 69 25) (F88L2)))
 F88T1
def F88T3 : XC :=
 .seq (.seq (.reg [⟨none, (some 6), .mov (.c (.int .i64 (1)))⟩]) (.block 2 (m 69 25) (F88L1)))
 F88T2
def F88B : XC :=
 .seq (.reg [⟨none, (some 2), .mov (.c (.nils))⟩]) (.seq (.reg [⟨none, (some 9), .mov (.t 0)⟩,⟨none, (some 10), .len (.t 9)⟩,⟨none, (some 11), .bin .sub (.t 10) (.c (.int .i64 (1)))⟩,⟨none, (some 3), .mov (.t 11)⟩]) (.seq (.reg [⟨none, (some 4), .mov (.c (.nils))⟩]) (.seq (.seq (.reg [⟨none, (some 5), .mov (.c (.int .i64 (1)))⟩]) (.block 0 (m 69 25) (F88L0)))
 F88T3)))
def F88 : XF := ⟨1, 69, [.tmp 2], F88B⟩
def M88 : List (List Bool) := [(m 69 25), (m 69 57), (m 69 25), (m 69 57), (m 69 25), (m 69 89), (m 69 25), (m 69 89), (m 69 25), (m 69 153), (m 69 25), (m 69 153), (m 69 16), (m 69 273), (m 69 16), (m 69 273), (m 69 4)]
def F89L0b : XC :=
 .seq (.seq (.reg [⟨none, (some 24), .mov (.t 12)⟩,⟨none, (some 25), .bin .lss (.t 24) (.c (.int .i64 (4)))⟩]) (.cond (.t 25) (.skip) (.exit 2 (m 80 3457)))) (.seq (.block 3 (m 80 8065) (.seq (.reg [⟨none, (some 28), .mov (.t 12)⟩,⟨none, (some 29), .mov (.t 9)⟩,⟨none, (some 30), .bin .add (.t 29) (.c (.int .i64 (2)))⟩,⟨none, (some 31), .bin .rem (.t 30) (.c (.int .i64 (4)))⟩,⟨none, (some 32), .bin .neq (.t 28) (.t 31)⟩,⟨none, (some 33), .mov (.t 32)⟩,⟨(some (33, true)), (some 34), .mov (.t 0)⟩,⟨(some (33, true)), (some 35), .mov (.t 7)⟩,⟨(some (33, true)), (some 36), .mov (.t 8)⟩,⟨(some (33, true)), (some 37), .mov (.t 12)⟩,⟨(some (33, true)), (some 38), .call 1 98 [.t 34, .t 35, .t 36, .t 37]⟩,⟨none, (some 39), .pick (.t 33) (.t 38) (.c (.bool false))⟩]) (.cond (.t 39) (.reg [⟨none, (some 40), .mov (.t 12)⟩,⟨none, (some 11), .mov (.t 40)⟩]) (.skip)))) (.reg [⟨none, (some 26), .mov (.t 12)⟩,⟨none, (some 27), .bin .add (.t 26) (.c (.int .i64 (1)))⟩,⟨none, (some 12), .mov (.t 27)⟩]))
def F89L0 : XC := .loop (m 80 8065) F89L0b
def F89T0 : XC :=
 .seq (.reg [⟨none, (some 41), .mov (.t 11)⟩,⟨none, (some 9), .mov (.t 41)⟩]) (.seq (.reg [⟨none, (some 42), .mov (.t 7)⟩,⟨none, (some 43), .mov (.t 8)⟩,⟨none, (some 13), .mov (.t 42)⟩,⟨none, (some 14), .mov (.t 43)⟩]) (.seq (.seq (.reg [⟨none, (some 44), .mov (.t 9)⟩]) (.block 4 (m 80 26497) (.seq (.reg [⟨none, (some 48), .bin .eql (.t 44) (.c (.int .i64 (0)))⟩,⟨none, (some 47), .mov (.t 48)⟩]) (.cond (.t 47) (.reg [⟨none, (some 49), .mov (.t 13)⟩,⟨none, (some 50), .bin .add (.t 49) (.c (.int .i64 (1)))⟩,⟨none, (some 13), .mov (.t 50)⟩]) (.seq (.reg [⟨none, (some 52), .bin .eql (.t 44) (.c (.int .i64 (1)))⟩,⟨none, (some 51), .mov (.t 52)⟩]) (.cond (.t 51) (.reg [⟨none, (some 53), .mov (.t 14)⟩,⟨none, (some 54), .bin .sub (.t 53) (.c (.int .i64 (1)))⟩,⟨none, (some 14), .mov (.t 54)⟩]) (.seq (.reg [⟨none, (some 56), .bin .eql (.t 44) (.c (.int .i64 (2)))⟩,⟨none, (some 55), .mov (.t 56)⟩]) (.cond (.t 55) (.reg [⟨none, (some 57), .mov (.t 13)⟩,⟨none, (some 58), .bin .sub (.t 57) (.c (.int .i64 (1)))⟩,⟨none, (some 13), .mov (.t 58)⟩]) (.reg [⟨none, (some 45), .mov (.t 14)⟩,⟨none, (some 46), .bin .add (.t 45) (.c (.int .i64 (1)))⟩,⟨none, (some 14), .mov (.t 46)⟩]))))))))) (.seq (.seq (.reg [⟨none, (some 59), .mov (.t 13)⟩,⟨none, (some 60), .bin .lss (.t 59) (.c (.int .i64 (1)))⟩,⟨none, (some 61), .mov (.t 60)⟩,⟨(some (61, false)), (some 62), .mov (.t 13)⟩,⟨(some (61, false)), (some 63), .mov (.t 10)⟩,⟨(some (61, false)), (some 64), .bin .gtr (.t 62) (.t 63)⟩,⟨none, (some 65), .pick (.t 61) (.c (.bool true)) (.t 64)⟩,⟨none, (some 66), .mov (.t 65)⟩,⟨(some (66, false)), (some 67), .mov (.t 14)⟩,⟨(some (66, false)), (some 68), .bin .lss (.t 67) (.c (.int .i64 (1)))⟩,⟨none, (some 69), .pick (.t 66) (.c (.bool true)) (.t 68)⟩,⟨none, (some 70), .mov (.t 69)⟩,⟨(some (70, false)), (some 71), .mov (.t 14)⟩,⟨(some (70, false)), (some 72), .mov (.t 10)⟩,⟨(some (70, false)), (some 73), .bin .gtr (.t 71) (.t 72)⟩,⟨none, (some 74), .pick (.t 70) (.c (.bool true)) (.t 73)⟩]) (.cond (.t 74) (.seq (.reg [⟨none, (some 75), .mov (.t 7)⟩,⟨none, (some 76), .mov (.t 8)⟩,⟨none, (some 77), .mov (.t 9)⟩,⟨none, (some 4), .mov (.t 75)⟩,⟨none, (some 5), .mov (.t 76)⟩,⟨none, (some 6), .mov (.t 77)⟩]) (.ret (m 80 112))) (.skip))) (.seq (.reg [⟨none, (some 78), .mov (.t 13)⟩,⟨none, (some 7), .mov (.t 78)⟩]) (.reg [⟨none, (some 79), .mov (.t 14)⟩,⟨none, (some 8), .mov (.t 79)⟩])))))
def F89L1b : XC :=
 .block 1 (m 80 1921) (.seq (.reg [⟨none, (some 11), .mov (.c (.int .i64 (-1)))⟩]) (.seq (.seq (.reg [⟨none, (some 12), .mov (.c (.int .i64 (0)))⟩]) (.block 2 (m 80 3457) (F89L0)))
 F89T0))
def F89L1 : XC := .loop (m 80 1921) F89L1b
def F89B : XC :=
 .seq (.reg [⟨none, (some 3), .box (.t 1)⟩,⟨none, (some 4), .mov (.c (.int .i64 (0)))⟩,⟨none, (some 5), .mov (.c (.int .i64 (0)))⟩,⟨none, (some 6), .mov (.c (.int .i64 (0)))⟩]) (.seq (.reg [⟨none, (some 15), .fieldA 0 (.t 3)⟩,⟨none, (some 16), .load none (.t 15)⟩,⟨none, (some 17), .fieldA 1 (.t 3)⟩,⟨none, (some 18), .load none (.t 17)⟩,⟨none, (some 19), .fieldA 2 (.t 3)⟩,⟨none, (some 20), .load none (.t 19)⟩,⟨none, (some 7), .mov (.t 16)⟩,⟨none, (some 8), .mov (.t 18)⟩,⟨none, (some 9), .mov (.t 20)⟩]) (.seq (.reg [⟨none, (some 21), .mov (.t 0)⟩,⟨none, (some 22), .len (.t 21)⟩,⟨none, (some 23), .bin .sub (.t 22) (.c (.int .i64 (1)))⟩,⟨none, (some 10), .mov (.t 23)⟩]) (.block 0 (m 80 112) (F89L1))))
def F89 : XF := ⟨2, 80, [.tmp 4, .tmp 5, .tmp 6], F89B⟩
def M89 : List (List Bool) := [(m 80 112), (m 80 1921), (m 80 1921), (m 80 3457), (m 80 8065), (m 80 3457), (m 80 8065), (m 80 26497), (m 80 112)]
def F90B : XC :=
 .seq (.reg [⟨none, (some 5), .mov (.c (.int .i64 (0)))⟩]) (.seq (.reg [⟨none, (some 6), .load none (.t 2)⟩,⟨none, (some 7), .mov (.t 0)⟩,⟨none, (some 8), .bin .add (.t 7) (.c (.int .i64 (1)))⟩,⟨none, (some 9), .mov (.t 1)⟩,⟨none, (some 10), .bin .add (.t 9) (.c (.int .i64 (1)))⟩,⟨none, (some 11), .callm 1 [(56, 66), (59, 115), (69, 117)] (.t 6) [.t 8, .t 10]⟩,⟨none, (some 12), .load none (.t 2)⟩,⟨none, (some 13), .mov (.t 0)⟩,⟨none, (some 14), .mov (.t 1)⟩,⟨none, (some 15), .bin .add (.t 14) (.c (.int .i64 (1)))⟩,⟨none, (some 16), .callm 1 [(56, 66), (59, 115), (69, 117)] (.t 12) [.t 13, .t 15]⟩,⟨none, (some 17), .bin .sub (.t 11) (.t 16)⟩,⟨none, (some 18), .load none (.t 2)⟩,⟨none, (some 19), .mov (.t 0)⟩,⟨none, (some 20), .bin .add (.t 19) (.c (.int .i64 (1)))⟩,⟨none, (some 21), .mov (.t 1)⟩,⟨none, (some 22), .callm 1 [(56, 66), (59, 115), (69, 117)] (.t 18) [.t 20, .t 21]⟩,⟨none, (some 23), .bin .sub (.t 17) (.t 22)⟩,⟨none, (some 24), .load none (.t 2)⟩,⟨none, (some 25), .mov (.t 0)⟩,⟨none, (some 26), .mov (.t 1)⟩,⟨none, (some 27), .callm 1 [(56, 66), (59, 115), (69, 117)] (.t 24) [.t 25, .t 26]⟩,⟨none, (some 28), .bin .add (.t 23) (.t 27)⟩,⟨none, (some 5), .mov (.t 28)⟩]) (.ret (m 29 32)))
def F90 : XF := ⟨3, 29, [.tmp 5], F90B⟩
def M90 : List (List Bool) := [(m 29 32)]
def F91B : XC :=
 .seq (.reg [⟨none, (some 2), .mov (.c (.int .i64 (0)))⟩]) (.seq (.reg [⟨none, (some 3), .mov (.t 0)⟩,⟨none, (some 4), .len (.t 3)⟩,⟨none, (some 5), .bin .sub (.t 4) (.c (.int .i64 (1)))⟩,⟨none, (some 2), .mov (.t 5)⟩]) (.ret (m 6 4)))
def F91 : XF := ⟨1, 6, [.tmp 2], F91B⟩
def M91 : List (List Bool) := [(m 6 4)]
def F92B : XC :=
 .seq (.reg [⟨none, (some 9), .mov (.t 0)⟩,⟨none, (some 10), .mov (.t 1)⟩,⟨none, (some 11), .mov (.t 2)⟩,⟨none, (some 12), .build [.int .i64 (0), .int .i64 (0), .int .i64 (0)] [(0, 1, .t 9), (1, 1, .t 10), (2, 1, .t 11)]⟩,⟨none, (some 8), .alloc [.int .i64 (0), .int .i64 (0), .int .i64 (0)]⟩,⟨none, none, .store 3 (.t 8) (.t 12)⟩]) (.seq (.reg [⟨none, (some 13), .load none (.t 3)⟩,⟨none, (some 14), .load (some 3) (.t 8)⟩,⟨none, (some 15), .call 1 93 [.t 13, .t 14]⟩]) (.cond (.t 15) (.reg [⟨none, (some 16), .load none (.t 4)⟩,⟨none, (some 17), .load (some 3) (.t 8)⟩,⟨none, (some 18), .bslice 3 1 [.int .i64 (0), .int .i64 (0), .int .i64 (0)] [(0, 3, .t 17)]⟩,⟨none, (some 19), .app 3 24 (.t 16) (.t 18)⟩,⟨none, none, .store 1 (.t 4) (.t 19)⟩]) (.skip)))
def F92 : XF := ⟨5, 20, [], F92B⟩
def M92 : List (List Bool) := []
def F93B : XC :=
 .seq (.reg [⟨none, (some 3), .box (.t 1)⟩,⟨none, (some 4), .mov (.c (.bool false))⟩]) (.seq (.reg [⟨none, (some 9), .fieldA 0 (.t 3)⟩,⟨none, (some 10), .load none (.t 9)⟩,⟨none, (some 11), .fieldA 1 (.t 3)⟩,⟨none, (some 12), .load none (.t 11)⟩,⟨none, (some 5), .mov (.t 10)⟩,⟨none, (some 6), .mov (.t 12)⟩]) (.seq (.seq (.reg [⟨none, (some 13), .fieldA 2 (.t 3)⟩,⟨none, (some 14), .load none (.t 13)⟩]) (.block 0 (m 79 105) (.seq (.reg [⟨none, (some 16), .bin .eql (.t 14) (.c (.int .i64 (0)))⟩,⟨none, (some 15), .mov (.t 16)⟩]) (.cond (.t 15) (.reg [⟨none, (some 17), .mov (.t 5)⟩,⟨none, (some 18), .bin .sub (.t 17) (.c (.int .i64 (1)))⟩,⟨none, (some 5), .mov (.t 18)⟩]) (.seq (.reg [⟨none, (some 20), .bin .eql (.t 14) (.c (.int .i64 (3)))⟩,⟨none, (some 19), .mov (.t 20)⟩]) (.cond (.t 19) (.reg [⟨none, (some 21), .mov (.t 6)⟩,⟨none, (some 22), .bin .sub (.t 21) (.c (.int .i64 (1)))⟩,⟨none, (some 6), .mov (.t 22)⟩]) (.skip))))))) (.seq (.reg [⟨none, (some 23), .mov (.t 0)⟩,⟨none, (some 24), .mov (.t 5)⟩,⟨none, (some 25), .indexA 1 (.t 23) (.t 24)⟩,⟨none, (some 26), .load none (.t 25)⟩,⟨none, (some 27), .mov (.t 6)⟩,⟨none, (some 28), .indexA 1 (.t 26) (.t 27)⟩,⟨none, (some 29), .load none (.t 28)⟩,⟨none, (some 30), .mov (.t 0)⟩,⟨none, (some 31), .mov (.t 5)⟩,⟨none, (some 32), .bin .sub (.t 31) (.c (.int .i64 (1)))⟩,⟨none, (some 33), .mnx true [.t 32, .c (.int .i64 (0))]⟩,⟨none, (some 34), .indexA 1 (.t 30) (.t 33)⟩,⟨none, (some 35), .load none (.t 34)⟩,⟨none, (some 36), .mov (.t 6)⟩,⟨none, (some 37), .indexA 1 (.t 35) (.t 36)⟩,⟨none, (some 38), .load none (.t 37)⟩,⟨none, (some 39), .bin .sub (.t 29) (.t 38)⟩,⟨none, (some 40), .mov (.t 5)⟩,⟨none, (some 41), .mov (.t 6)⟩,⟨none, (some 42), .bin .add (.t 40) (.t 41)⟩,⟨none, (some 43), .bin .rem (.t 42) (.c (.int .i64 (2)))⟩,⟨none, (some 44), .bin .eql (.t 43) (.c (.int .i64 (0)))⟩,⟨none, (some 7), .mov (.t 39)⟩,⟨none, (some 8), .mov (.t 44)⟩]) (.seq (.seq (.reg [⟨none, (some 45), .fieldA 2 (.t 3)⟩,⟨none, (some 46), .load none (.t 45)⟩,⟨none, (some 47), .bin .eql (.t 46) (.c (.int .i64 (0)))⟩,⟨none, (some 48), .mov (.t 47)⟩,⟨(some (48, false)), (some 49), .fieldA 2 (.t 3)⟩,⟨(some (48, false)), (some 50), .load none (.t 49)⟩,⟨(some (48, false)), (some 51), .bin .eql (.t 50) (.c (.int .i64 (2)))⟩,⟨none, (some 52), .pick (.t 48) (.c (.bool true)) (.t 51)⟩]) (.cond (.t 52) (.reg [⟨none, (some 53), .mov (.t 0)⟩,⟨none, (some 54), .mov (.t 5)⟩,⟨none, (some 55), .indexA 1 (.t 53) (.t 54)⟩,⟨none, (some 56), .load none (.t 55)⟩,⟨none, (some 57), .mov (.t 6)⟩,⟨none, (some 58), .indexA 1 (.t 56) (.t 57)⟩,⟨none, (some 59), .load none (.t 58)⟩,⟨none, (some 60), .mov (.t 0)⟩,⟨none, (some 61), .mov (.t 5)⟩,⟨none, (some 62), .indexA 1 (.t 60) (.t 61)⟩,⟨none, (some 63), .load none (.t 62)⟩,⟨none, (some 64), .mov (.t 6)⟩,⟨none, (some 65), .bin .sub (.t 64) (.c (.int .i64 (1)))⟩,⟨none, (some 66), .mnx true [.t 65, .c (.int .i64 (0))]⟩,⟨none, (some 67), .indexA 1 (.t 63) (.t 66)⟩,⟨none, (some 68), .load none (.t 67)⟩,⟨none, (some 69), .bin .sub (.t 59) (.t 68)⟩,⟨none, (some 70), .mov (.t 5)⟩,⟨none, (some 71), .mov (.t 6)⟩,⟨none, (some 72), .bin .add (.t 70) (.t 71)⟩,⟨none, (some 73), .bin .rem (.t 72) (.c (.int .i64 (2)))⟩,⟨none, (some 74), .bin .eql (.t 73) (.c (.int .i64 (1)))⟩,⟨none, (some 7), .mov (.t 69)⟩,⟨none, (some 8), .mov (.t 74)⟩]) (.skip))) (.seq (.reg [⟨none, (some 75), .mov (.t 7)⟩,⟨none, (some 76), .bin .eql (.t 75) (.c (.int .i64 (1)))⟩,⟨none, (some 77), .mov (.t 8)⟩,⟨none, (some 78), .eqb false (.t 76) (.t 77)⟩,⟨none, (some 4), .mov (.t 78)⟩]) (.ret (m 79 16)))))))
def F93 : XF := ⟨2, 79, [.tmp 4], F93B⟩
def M93 : List (List Bool) := [(m 79 105), (m 79 16)]
def F94B : XC :=
 .seq (.reg [⟨none, (some 1), .box (.t 0)⟩,⟨none, (some 2), .alloc [.int .i64 (0), .int .i64 (0), .int .i64 (0)]⟩]) (.seq (.seq (.reg [⟨none, (some 3), .fieldA 2 (.t 1)⟩,⟨none, (some 4), .load none (.t 3)⟩]) (.block 0 (m 33 6) (.seq (.reg [⟨none, (some 10), .bin .eql (.t 4) (.c (.int .i64 (0)))⟩,⟨none, (some 9), .mov (.t 10)⟩]) (.cond (.t 9) (.reg [⟨none, (some 11), .fieldA 0 (.t 1)⟩,⟨none, (some 12), .load none (.t 11)⟩,⟨none, (some 13), .bin .sub (.t 12) (.c (.int .i64 (1)))⟩,⟨none, (some 14), .fieldA 0 (.t 1)⟩,⟨none, none, .store 1 (.t 14) (.t 13)⟩]) (.seq (.reg [⟨none, (some 16), .bin .eql (.t 4) (.c (.int .i64 (1)))⟩,⟨none, (some 15), .mov (.t 16)⟩]) (.cond (.t 15) (.reg [⟨none, (some 17), .fieldA 1 (.t 1)⟩,⟨none, (some 18), .load none (.t 17)⟩,⟨none, (some 19), .bin .add (.t 18) (.c (.int .i64 (1)))⟩,⟨none, (some 20), .fieldA 1 (.t 1)⟩,⟨none, none, .store 1 (.t 20) (.t 19)⟩]) (.seq (.reg [⟨none, (some 22), .bin .eql (.t 4) (.c (.int .i64 (2)))⟩,⟨none, (some 21), .mov (.t 22)⟩]) (.cond (.t 21) (.reg [⟨none, (some 23), .fieldA 0 (.t 1)⟩,⟨none, (some 24), .load none (.t 23)⟩,⟨none, (some 25), .bin .add (.t 24) (.c (.int .i64 (1)))⟩,⟨none, (some 26), .fieldA 0 (.t 1)⟩,⟨none, none, .store 1 (.t 26) (.t 25)⟩]) (.reg [⟨none, (some 5), .fieldA 1 (.t 1)⟩,⟨none, (some 6), .load none (.t 5)⟩,⟨none, (some 7), .bin .sub (.t 6) (.c (.int .i64 (1)))⟩,⟨none, (some 8), .fieldA 1 (.t 1)⟩,⟨none, none, .store 1 (.t 8) (.t 7)⟩]))))))))) (.seq (.reg [⟨none, (some 27), .fieldA 2 (.t 1)⟩,⟨none, (some 28), .load none (.t 27)⟩,⟨none, (some 29), .bin .add (.t 28) (.c (.int .i64 (2)))⟩,⟨none, (some 30), .bin .rem (.t 29) (.c (.int .i64 (4)))⟩,⟨none, (some 31), .fieldA 2 (.t 1)⟩,⟨none, none, .store 1 (.t 31) (.t 30)⟩]) (.seq (.reg [⟨none, (some 32), .load (some 3) (.t 1)⟩,⟨none, none, .store 3 (.t 2) (.t 32)⟩]) (.ret (m 33 4)))))
def F94 : XF := ⟨1, 33, [.cell 2 (some 3)], F94B⟩
def M94 : List (List Bool) := [(m 33 6), (m 33 4)]
def F95L0b : XC :=
 .seq (.reg [⟨none, (some 9), .bin .lss (.t 8) (.t 7)⟩]) (.seq (.cond (.t 9) (.skip) (.exit 0 (m 19 0))) (.seq (.block 1 (m 19 387) (.seq (.reg [⟨none, (some 10), .mov (.t 8)⟩,⟨none, (some 5), .mov (.t 10)⟩]) (.seq (.reg [⟨none, (some 11), .mov (.t 1)⟩,⟨none, (some 12), .mov (.t 0)⟩,⟨none, (some 13), .mov (.t 5)⟩,⟨none, (some 14), .indexA 1 (.t 12) (.t 13)⟩,⟨none, (some 15), .load none (.t 14)⟩,⟨none, (some 16), .calld 1 (.t 11) [.t 15]⟩]) (.cond (.t 16) (.seq (.reg [⟨none, (some 17), .mov (.t 5)⟩,⟨none, (some 4), .mov (.t 17)⟩]) (.ret (m 19 16))) (.skip))))) (.reg [⟨none, (some 18), .bin .add (.t 8) (.c (.int .i64 (1)))⟩,⟨none, (some 8), .mov (.t 18)⟩])))
def F95L0 : XC := .loop (m 19 387) F95L0b
def F95T0 : XC :=
 .seq (.reg [⟨none, (some 4), .mov (.c (.int .i64 (-1)))⟩]) (.ret (m 19 16))
def F95B : XC :=
 .seq (.reg [⟨none, (some 4), .mov (.c (.int .i64 (0)))⟩]) (.seq (.seq (.reg [⟨none, (some 6), .mov (.t 0)⟩,⟨none, (some 7), .len (.t 6)⟩,⟨none, (some 8), .mov (.c (.int .i64 (0)))⟩]) (.block 0 (m 19 0) (F95L0)))
 F95T0)
def F95 : XF := ⟨2, 19, [.tmp 4], F95B⟩
def M95 : List (List Bool) := [(m 19 0), (m 19 387), (m 19 0), (m 19 387), (m 19 16), (m 19 16)]
def F96B : XC :=
 .seq (.reg [⟨none, (some 6), .mov (.c (.bool false))⟩]) (.seq (.reg [⟨none, (some 7), .mov (.t 0)⟩,⟨none, (some 8), .mov (.t 1)⟩,⟨none, (some 9), .indexA 1 (.t 7) (.t 8)⟩,⟨none, (some 10), .load none (.t 9)⟩,⟨none, (some 11), .mov (.t 2)⟩,⟨none, (some 12), .indexA 1 (.t 10) (.t 11)⟩,⟨none, (some 13), .load none (.t 12)⟩,⟨none, (some 14), .mov (.t 0)⟩,⟨none, (some 15), .mov (.t 1)⟩,⟨none, (some 16), .indexA 1 (.t 14) (.t 15)⟩,⟨none, (some 17), .load none (.t 16)⟩,⟨none, (some 18), .mov (.t 2)⟩,⟨none, (some 19), .bin .sub (.t 18) (.c (.int .i64 (1)))⟩,⟨none, (some 20), .indexA 1 (.t 17) (.t 19)⟩,⟨none, (some 21), .load none (.t 20)⟩,⟨none, (some 22), .bin .sub (.t 13) (.t 21)⟩,⟨none, (some 23), .bin .eql (.t 22) (.c (.int .i64 (1)))⟩,⟨none, (some 24), .mov (.t 1)⟩,⟨none, (some 25), .mov (.t 2)⟩,⟨none, (some 26), .bin .add (.t 24) (.t 25)⟩,⟨none, (some 27), .bin .rem (.t 26) (.c (.int .i64 (2)))⟩,⟨none, (some 28), .bin .eql (.t 27) (.c (.int .i64 (1)))⟩,⟨none, (some 29), .eqb false (.t 23) (.t 28)⟩,⟨none, (some 6), .mov (.t 29)⟩]) (.ret (m 30 64)))
def F96 : XF := ⟨3, 30, [.tmp 6], F96B⟩
def M96 : List (List Bool) := [(m 30 64)]
def F97B : XC :=
 .seq (.reg [⟨none, (some 6), .mov (.c (.bool false))⟩]) (.seq (.reg [⟨none, (some 7), .mov (.t 0)⟩,⟨none, (some 8), .mov (.t 1)⟩,⟨none, (some 9), .indexA 1 (.t 7) (.t 8)⟩,⟨none, (some 10), .load none (.t 9)⟩,⟨none, (some 11), .mov (.t 2)⟩,⟨none, (some 12), .indexA 1 (.t 10) (.t 11)⟩,⟨none, (some 13), .load none (.t 12)⟩,⟨none, (some 14), .mov (.t 0)⟩,⟨none, (some 15), .mov (.t 1)⟩,⟨none, (some 16), .bin .sub (.t 15) (.c (.int .i64 (1)))⟩,⟨none, (some 17), .indexA 1 (.t 14) (.t 16)⟩,⟨none, (some 18), .load none (.t 17)⟩,⟨none, (some 19), .mov (.t 2)⟩,⟨none, (some 20), .indexA 1 (.t 18) (.t 19)⟩,⟨none, (some 21), .load none (.t 20)⟩,⟨none, (some 22), .bin .sub (.t 13) (.t 21)⟩,⟨none, (some 23), .bin .eql (.t 22) (.c (.int .i64 (1)))⟩,⟨none, (some 24), .mov (.t 1)⟩,⟨none, (some 25), .mov (.t 2)⟩,⟨none, (some 26), .bin .add (.t 24) (.t 25)⟩,⟨none, (some 27), .bin .rem (.t 26) (.c (.int .i64 (2)))⟩,⟨none, (some 28), .bin .eql (.t 27) (.c (.int .i64 (0)))⟩,⟨none, (some 29), .eqb false (.t 23) (.t 28)⟩,⟨none, (some 6), .mov (.t 29)⟩]) (.ret (m 30 64)))
def F97 : XF := ⟨3, 30, [.tmp 6], F97B⟩
def M97 : List (List Bool) := [(m 30 64)]
def F98B : XC :=
 .seq (.reg [⟨none, (some 8), .mov (.c (.bool false))⟩]) (.seq (.seq (.reg [⟨none, (some 9), .mov (.t 3)⟩]) (.block 0 (m 34 7) (.seq (.reg [⟨none, (some 11), .bin .eql (.t 9) (.c (.int .i64 (0)))⟩,⟨none, (some 10), .mov (.t 11)⟩]) (.cond (.t 10) (.seq (.reg [⟨none, (some 12), .mov (.t 0)⟩,⟨none, (some 13), .mov (.t 1)⟩,⟨none, (some 14), .mov (.t 2)⟩,⟨none, (some 15), .call 1 96 [.t 12, .t 13, .t 14]⟩,⟨none, (some 8), .mov (.t 15)⟩]) (.ret (m 34 256))) (.seq (.reg [⟨none, (some 17), .bin .eql (.t 9) (.c (.int .i64 (1)))⟩,⟨none, (some 16), .mov (.t 17)⟩]) (.cond (.t 16) (.seq (.reg [⟨none, (some 18), .mov (.t 0)⟩,⟨none, (some 19), .mov (.t 1)⟩,⟨none, (some 20), .mov (.t 2)⟩,⟨none, (some 21), .bin .sub (.t 20) (.c (.int .i64 (1)))⟩,⟨none, (some 22), .call 1 97 [.t 18, .t 19, .t 21]⟩,⟨none, (some 8), .mov (.t 22)⟩]) (.ret (m 34 256))) (.seq (.reg [⟨none, (some 24), .bin .eql (.t 9) (.c (.int .i64 (2)))⟩,⟨none, (some 23), .mov (.t 24)⟩]) (.cond (.t 23) (.seq (.reg [⟨none, (some 25), .mov (.t 0)⟩,⟨none, (some 26), .mov (.t 1)⟩,⟨none, (some 27), .bin .sub (.t 26) (.c (.int .i64 (1)))⟩,⟨none, (some 28), .mov (.t 2)⟩,⟨none, (some 29), .call 1 96 [.t 25, .t 27, .t 28]⟩,⟨none, (some 8), .mov (.t 29)⟩]) (.ret (m 34 256))) (.skip))))))))) (.seq (.reg [⟨none, (some 30), .mov (.t 0)⟩,⟨none, (some 31), .mov (.t 1)⟩,⟨none, (some 32), .mov (.t 2)⟩,⟨none, (some 33), .call 1 97 [.t 30, .t 31, .t 32]⟩,⟨none, (some 8), .mov (.t 33)⟩]) (.ret (m 34 256))))
def F98 : XF := ⟨4, 34, [.tmp 8], F98B⟩
def M98 : List (List Bool) := [(m 34 7), (m 34 256), (m 34 256), (m 34 256), (m 34 256)]
def F114B : XC :=
 .seq (.reg [⟨none, (some 2), .mov (.c (.int .i64 (0)))⟩]) (.seq (.reg [⟨none, (some 3), .mov (.t 0)⟩,⟨none, (some 4), .len (.t 3)⟩,⟨none, (some 2), .mov (.t 4)⟩]) (.ret (m 5 4)))
def F114 : XF := ⟨1, 5, [.tmp 2], F114B⟩
def M114 : List (List Bool) := [(m 5 4)]
def F115B : XC :=
 .seq (.reg [⟨none, (some 6), .mov (.c (.int .i64 (0)))⟩]) (.seq (.reg [⟨none, (some 7), .mov (.t 1)⟩,⟨none, (some 8), .mov (.t 2)⟩,⟨none, (some 9), .bin .add (.t 7) (.t 8)⟩,⟨none, (some 10), .mov (.t 0)⟩,⟨none, (some 11), .mov (.t 1)⟩,⟨none, (some 12), .indexA 1 (.t 10) (.t 11)⟩,⟨none, (some 13), .load none (.t 12)⟩,⟨none, (some 14), .mov (.t 2)⟩,⟨none, (some 15), .indexA 1 (.t 13) (.t 14)⟩,⟨none, (some 16), .load none (.t 15)⟩,⟨none, (some 17), .bin .sub (.t 9) (.t 16)⟩,⟨none, (some 18), .bin .quo (.t 17) (.c (.int .i64 (2)))⟩,⟨none, (some 6), .mov (.t 18)⟩]) (.ret (m 19 64)))
def F115 : XF := ⟨3, 19, [.tmp 6], F115B⟩
def M115 : List (List Bool) := [(m 19 64)]
def F116B : XC :=
 .seq (.reg [⟨none, (some 2), .mov (.c (.int .i64 (0)))⟩]) (.seq (.reg [⟨none, (some 3), .mov (.t 0)⟩,⟨none, (some 4), .len (.t 3)⟩,⟨none, (some 2), .mov (.t 4)⟩]) (.ret (m 5 4)))
def F116 : XF := ⟨1, 5, [.tmp 2], F116B⟩
def M116 : List (List Bool) := [(m 5 4)]
def F117L0b : XC :=
 .seq (.reg [⟨none, (some 19), .bin .lss (.t 18) (.t 17)⟩]) (.seq (.cond (.t 19) (.skip) (.exit 0 (m 29 128))) (.seq (.block 1 (m 29 458884) (.seq (.reg [⟨none, (some 20), .indexA 1 (.t 16) (.t 18)⟩,⟨none, (some 21), .load none (.t 20)⟩,⟨none, (some 9), .mov (.t 21)⟩]) (.seq (.reg [⟨none, (some 22), .mov (.t 9)⟩,⟨none, (some 23), .mov (.t 2)⟩,⟨none, (some 24), .bin .leq (.t 22) (.t 23)⟩]) (.cond (.t 24) (.reg [⟨none, (some 25), .mov (.t 7)⟩,⟨none, (some 26), .bin .add (.t 25) (.c (.int .i64 (1)))⟩,⟨none, (some 7), .mov (.t 26)⟩]) (.skip))))) (.reg [⟨none, (some 27), .bin .add (.t 18) (.c (.int .i64 (1)))⟩,⟨none, (some 18), .mov (.t 27)⟩])))
def F117L0 : XC := .loop (m 29 458884) F117L0b
def F117T0 : XC :=
 .seq (.reg [⟨none, (some 28), .mov (.t 7)⟩,⟨none, (some 6), .mov (.t 28)⟩]) (.ret (m 29 64))
def F117B : XC :=
 .seq (.reg [⟨none, (some 6), .mov (.c (.int .i64 (0)))⟩]) (.seq (.seq (.reg [⟨none, (some 10), .mov (.t 1)⟩,⟨none, (some 11), .bin .eql (.t 10) (.c (.int .i64 (0)))⟩]) (.cond (.t 11) (.seq (.reg [⟨none, (some 6), .mov (.c (.int .i64 (0)))⟩]) (.ret (m 29 64))) (.skip))) (.seq (.reg [⟨none, (some 7), .mov (.c (.int .i64 (0)))⟩]) (.seq (.seq (.reg [⟨none, (some 12), .mov (.t 0)⟩,⟨none, (some 13), .mov (.t 1)⟩,⟨none, (some 14), .bin .sub (.t 13) (.c (.int .i64 (1)))⟩,⟨none, (some 15), .indexA 1 (.t 12) (.t 14)⟩,⟨none, (some 16), .load none (.t 15)⟩,⟨none, (some 17), .len (.t 16)⟩,⟨none, (some 18), .mov (.c (.int .i64 (0)))⟩]) (.block 0 (m 29 128) (F117L0)))
 F117T0)))
def F117 : XF := ⟨3, 29, [.tmp 6], F117B⟩
def M117 : List (List Bool) := [(m 29 64), (m 29 128), (m 29 458884), (m 29 128), (m 29 458884), (m 29 64)]
def md0 (f : Nat) : Nat := if f = 21 ∨ f = 53 ∨ f = 55 ∨ f = 64 ∨ f = 75 then 0 else if f = 18 ∨ f = 54 ∨ f = 57 ∨ f = 62 ∨ f = 65 ∨ f = 69 ∨ f = 80 then 2 else 1
def mdc (f : Nat) : Nat := if f = 21 ∨ f = 53 ∨ f = 55 ∨ f = 64 ∨ f = 75 ∨ f = 1000000 then 0 else if f = 18 ∨ f = 54 ∨ f = 57 ∨ f = 62 ∨ f = 65 ∨ f = 69 ∨ f = 80 then 2 else 1
def md13 (f : Nat) : Nat := if f = 24 then 2 else md0 f
theorem ok4 : compF Go.Proofs.Try.prog md0 true M4 Go.Proofs.Try.f4 = some F4 := by kernel_rfl
theorem ok7 : compF Go.Proofs.Try.prog md0 true M7 Go.Proofs.Try.f7 = some F7 := by kernel_rfl
theorem ok8 : compF Go.Proofs.Try.prog md0 true M8 Go.Proofs.Try.f8 = some F8 := by kernel_rfl
theorem ok14 : compF Go.Proofs.Try.prog md0 true M14 Go.Proofs.Try.f14 = some F14 := by kernel_rfl
theorem ok17 : compF Go.Proofs.Try.prog md0 true M17 Go.Proofs.Try.f17 = some F17 := by kernel_rfl
theorem ok18 : compF Go.Proofs.Try.prog md0 true M18 Go.Proofs.Try.f18 = some F18 := by kernel_rfl
theorem ok19 : compF Go.Proofs.Try.prog md0 true M19 Go.Proofs.Try.f19 = some F19 := by kernel_rfl
theorem ok20 : compF Go.Proofs.Try.prog md0 true M20 Go.Proofs.Try.f20 = some F20 := by kernel_rfl
theorem ok21 : compF Go.Proofs.Try.prog md0 true M21 Go.Proofs.Try.f21 = some F21 := by kernel_rfl
theorem ok22 : compF Go.Proofs.Try.prog md0 true M22 Go.Proofs.Try.f22 = some F22 := by kernel_rfl
theorem ok23 : compF Go.Proofs.Try.prog md0 true M23 Go.Proofs.Try.f23 = some F23 := by kernel_rfl
theorem ok24 : compF Go.Proofs.Try.prog md0 true M24 Go.Proofs.Try.f24 = some F24 := by kernel_rfl
theorem ok25 : compF Go.Proofs.Try.prog md0 true M25 Go.Proofs.Try.f25 = some F25 := by kernel_rfl
theorem ok26 : compF Go.Proofs.Try.prog md0 true M26 Go.Proofs.Try.f26 = some F26 := by kernel_rfl
theorem ok27 : compF Go.Proofs.Try.prog md0 true M27 Go.Proofs.Try.f27 = some F27 := by kernel_rfl
theorem ok28 : compF Go.Proofs.Try.prog md0 true M28 Go.Proofs.Try.f28 = some F28 := by kernel_rfl
theorem ok29 : compF Go.Proofs.Try.prog md0 true M29 Go.Proofs.Try.f29 = some F29 := by kernel_rfl
theorem ok30 : compF Go.Proofs.Try.prog md0 true M30 Go.Proofs.Try.f30 = some F30 := by kernel_rfl
theorem ok31 : compF Go.Proofs.Try.prog md0 true M31 Go.Proofs.Try.f31 = some F31 := by kernel_rfl
theorem ok34 : compF Go.Proofs.Try.prog md0 true M34 Go.Proofs.Try.f34 = some F34 := by kernel_rfl
theorem ok35 : compF Go.Proofs.Try.prog md0 true M35 Go.Proofs.Try.f35 = some F35 := by kernel_rfl
theorem ok36 : compF Go.Proofs.Try.prog md0 true M36 Go.Proofs.Try.f36 = some F36 := by kernel_rfl
theorem ok37 : compF Go.Proofs.Try.prog md0 true M37 Go.Proofs.Try.f37 = some F37 := by kernel_rfl
theorem ok38 : compF Go.Proofs.Try.prog md0 true M38 Go.Proofs.Try.f38 = some F38 := by kernel_rfl
theorem ok39 : compF Go.Proofs.Try.prog md0 true M39 Go.Proofs.Try.f39 = some F39 := by kernel_rfl
theorem ok46 : compF Go.Proofs.Try.prog md0 true M46 Go.Proofs.Try.f46 = some F46 := by kernel_rfl
theorem ok47 : compF Go.Proofs.Try.prog md0 true M47 Go.Proofs.Try.f47 = some F47 := by kernel_rfl
theorem ok48 : compF Go.Proofs.Try.prog md0 true M48 Go.Proofs.Try.f48 = some F48 := by kernel_rfl
theorem ok51 : compF Go.Proofs.Try.prog md0 true M51 Go.Proofs.Try.f51 = some F51 := by kernel_rfl
theorem ok52 : compF Go.Proofs.Try.prog md0 true M52 Go.Proofs.Try.f52 = some F52 := by kernel_rfl
theorem ok53 : compF Go.Proofs.Try.prog md0 true M53 Go.Proofs.Try.f53 = some F53 := by kernel_rfl
theorem ok54 : compF Go.Proofs.Try.prog md0 true M54 Go.Proofs.Try.f54 = some F54 := by kernel_rfl
theorem ok55 : compF Go.Proofs.Try.prog mdc true M55 Go.Proofs.Try.f55 = some F55 := by kernel_rfl
theorem ok56 : compF Go.Proofs.Try.prog md0 true M56 Go.Proofs.Try.f56 = some F56 := by kernel_rfl
theorem ok57 : compF Go.Proofs.Try.prog md0 true M57 Go.Proofs.Try.f57 = some F57 := by kernel_rfl
theorem ok58 : compF Go.Proofs.Try.prog md0 true M58 Go.Proofs.Try.f58 = some F58 := by kernel_rfl
theorem ok59 : compF Go.Proofs.Try.prog md0 true M59 Go.Proofs.Try.f59 = some F59 := by kernel_rfl
theorem ok60 : compF Go.Proofs.Try.prog md0 true M60 Go.Proofs.Try.f60 = some F60 := by kernel_rfl
theorem ok61 : compF Go.Proofs.Try.prog md0 true M61 Go.Proofs.Try.f61 = some F61 := by kernel_rfl
theorem ok62 : compF Go.Proofs.Try.prog md0 true M62 Go.Proofs.Try.f62 = some F62 := by kernel_rfl
theorem ok63 : compF Go.Proofs.Try.prog md0 true M63 Go.Proofs.Try.f63 = some F63 := by kernel_rfl
theorem ok64 : compF Go.Proofs.Try.prog md0 true M64 Go.Proofs.Try.f64 = some F64 := by kernel_rfl
theorem ok65 : compF Go.Proofs.Try.prog md0 true M65 Go.Proofs.Try.f65 = some F65 := by kernel_rfl
theorem ok66 : compF Go.Proofs.Try.prog md0 true M66 Go.Proofs.Try.f66 = some F66 := by kernel_rfl
theorem ok67 : compF Go.Proofs.Try.prog md0 true M67 Go.Proofs.Try.f67 = some F67 := by kernel_rfl
theorem ok68 : compF Go.Proofs.Try.prog md0 true M68 Go.Proofs.Try.f68 = some F68 := by kernel_rfl
theorem ok69 : compF Go.Proofs.Try.prog md0 true M69 Go.Proofs.Try.f69 = some F69 := by kernel_rfl
theorem ok72 : compF Go.Proofs.Try.prog md0 true M72 Go.Proofs.Try.f72 = some F72 := by kernel_rfl
theorem ok73 : compF Go.Proofs.Try.prog md0 true M73 Go.Proofs.Try.f73 = some F73 := by kernel_rfl
theorem ok74 : compF Go.Proofs.Try.prog md0 true M74 Go.Proofs.Try.f74 = some F74 := by kernel_rfl
theorem ok75 : compF Go.Proofs.Try.prog md0 true M75 Go.Proofs.Try.f75 = some F75 := by kernel_rfl
theorem ok76 : compF Go.Proofs.Try.prog md0 true M76 Go.Proofs.Try.f76 = some F76 := by kernel_rfl
theorem ok77 : compF Go.Proofs.Try.prog md0 true M77 Go.Proofs.Try.f77 = some F77 := by kernel_rfl
theorem ok78 : compF Go.Proofs.Try.prog mdc true M78 Go.Proofs.Try.f78 = some F78 := by kernel_rfl
theorem ok79 : compF Go.Proofs.Try.prog md0 true M79 Go.Proofs.Try.f79 = some F79 := by kernel_rfl
theorem ok80 : compF Go.Proofs.Try.prog md0 true M80 Go.Proofs.Try.f80 = some F80 := by kernel_rfl
theorem ok81 : compF Go.Proofs.Try.prog md0 true M81 Go.Proofs.Try.f81 = some F81 := by kernel_rfl
theorem ok82 : compF Go.Proofs.Try.prog mdc true M82 Go.Proofs.Try.f82 = some F82 := by kernel_rfl
theorem ok83 : compF Go.Proofs.Try.prog md0 true M83 Go.Proofs.Try.f83 = some F83 := by kernel_rfl
theorem ok84 : compF Go.Proofs.Try.prog md0 true M84 Go.Proofs.Try.f84 = some F84 := by kernel_rfl
theorem ok85 : compF Go.Proofs.Try.prog md0 true M85 Go.Proofs.Try.f85 = some F85 := by kernel_rfl
theorem ok86 : compF Go.Proofs.Try.prog md0 true M86 Go.Proofs.Try.f86 = some F86 := by kernel_rfl
theorem ok87 : compF Go.Proofs.Try.prog md0 true M87 Go.Proofs.Try.f87 = some F87 := by kernel_rfl
theorem ok88 : compF Go.Proofs.Try.prog md0 true M88 Go.Proofs.Try.f88 = some F88 := by kernel_rfl
theorem ok89 : compF Go.Proofs.Try.prog md0 true M89 Go.Proofs.Try.f89 = some F89 := by kernel_rfl
theorem ok90 : compF Go.Proofs.Try.prog md0 true M90 Go.Proofs.Try.f90 = some F90 := by kernel_rfl
theorem ok91 : compF Go.Proofs.Try.prog md0 true M91 Go.Proofs.Try.f91 = some F91 := by kernel_rfl
theorem ok92 : compF Go.Proofs.Try.prog md0 true M92 Go.Proofs.Try.f92 = some F92 := by kernel_rfl
theorem ok93 : compF Go.Proofs.Try.prog md0 true M93 Go.Proofs.Try.f93 = some F93 := by kernel_rfl
theorem ok94 : compF Go.Proofs.Try.prog md0 true M94 Go.Proofs.Try.f94 = some F94 := by kernel_rfl
theorem ok95 : compF Go.Proofs.Try.prog md0 true M95 Go.Proofs.Try.f95 = some F95 := by kernel_rfl
theorem ok96 : compF Go.Proofs.Try.prog md0 true M96 Go.Proofs.Try.f96 = some F96 := by kernel_rfl
theorem ok97 : compF Go.Proofs.Try.prog md0 true M97 Go.Proofs.Try.f97 = some F97 := by kernel_rfl
theorem ok98 : compF Go.Proofs.Try.prog md0 true M98 Go.Proofs.Try.f98 = some F98 := by kernel_rfl
theorem ok114 : compF Go.Proofs.Try.prog md0 true M114 Go.Proofs.Try.f114 = some F114 := by kernel_rfl
theorem ok115 : compF Go.Proofs.Try.prog md0 true M115 Go.Proofs.Try.f115 = some F115 := by kernel_rfl
theorem ok116 : compF Go.Proofs.Try.prog md0 true M116 Go.Proofs.Try.f116 = some F116 := by kernel_rfl
theorem ok117 : compF Go.Proofs.Try.prog md0 true M117 Go.Proofs.Try.f117 = some F117 := by kernel_rfl
def EV (f : Nat) : Option XF := match f with
  | 4 => some F4
  | 7 => some F7
  | 8 => some F8
  | 14 => some F14
  | 17 => some F17
  | 18 => some F18
  | 19 => some F19
  | 20 => some F20
  | 21 => some F21
  | 22 => some F22
  | 23 => some F23
  | 24 => some F24
  | 25 => some F25
  | 26 => some F26
  | 27 => some F27
  | 28 => some F28
  | 29 => some F29
  | 30 => some F30
  | 31 => some F31
  | 34 => some F34
  | 35 => some F35
  | 36 => some F36
  | 37 => some F37
  | 38 => some F38
  | 39 => some F39
  | 46 => some F46
  | 47 => some F47
  | 48 => some F48
  | 51 => some F51
  | 52 => some F52
  | 53 => some F53
  | 54 => some F54
  | 55 => some F55
  | 56 => some F56
  | 57 => some F57
  | 58 => some F58
  | 59 => some F59
  | 60 => some F60
  | 61 => some F61
  | 62 => some F62
  | 63 => some F63
  | 64 => some F64
  | 65 => some F65
  | 66 => some F66
  | 67 => some F67
  | 68 => some F68
  | 69 => some F69
  | 72 => some F72
  | 73 => some F73
  | 74 => some F74
  | 75 => some F75
  | 76 => some F76
  | 77 => some F77
  | 78 => some F78
  | 79 => some F79
  | 80 => some F80
  | 81 => some F81
  | 82 => some F82
  | 83 => some F83
  | 84 => some F84
  | 85 => some F85
  | 86 => some F86
  | 87 => some F87
  | 88 => some F88
  | 89 => some F89
  | 90 => some F90
  | 91 => some F91
  | 92 => some F92
  | 93 => some F93
  | 94 => some F94
  | 95 => some F95
  | 96 => some F96
  | 97 => some F97
  | 98 => some F98
  | 114 => some F114
  | 115 => some F115
  | 116 => some F116
  | 117 => some F117
  | _ => none
section
variable {Y : Run} {fr : List AV} {H : Heap}
theorem in4_0 : codeL EV Y F4L0 fr H = lp EV Y F4L0 (keepA (m 68 208) fr) H := codeL_in rfl
theorem un4_0 : lp EV Y F4L0 fr H = thenX (codeL EV Y F4L0b (keepA (m 68 208) fr) H) (again EV Y F4L0 (m 68 208)) := lp_un rfl
theorem in4_1 : codeL EV Y F4L1 fr H = lp EV Y F4L1 (keepA (m 68 1808) fr) H := codeL_in rfl
theorem un4_1 : lp EV Y F4L1 fr H = thenX (codeL EV Y F4L1b (keepA (m 68 1808) fr) H) (again EV Y F4L1 (m 68 1808)) := lp_un rfl
theorem call4 {x0 : AV} (_h : 0 = 0) : callL EV Y 4 [x0] H = endX [.tmp 2] (codeL EV Y F4B (sp 68 [(0, x0)]) H) := by
  rw [callL_eq (F := F4) rfl rfl, st_in1]; rfl
theorem call7 {x0 x1 : AV} (_h : 0 = 0) : callL EV Y 7 [x0, x1] H = endX [.tmp 4] (codeL EV Y F7B (sp 61 [(1, x1), (0, x0)]) H) := by
  rw [callL_eq (F := F7) rfl rfl, st_in2]; rfl
theorem call8 {x0 x1 : AV} (_h : 0 = 0) : callL EV Y 8 [x0, x1] H = endX [.tmp 4] (codeL EV Y F8B (sp 82 [(1, x1), (0, x0)]) H) := by
  rw [callL_eq (F := F8) rfl rfl, st_in2]; rfl
theorem call14 {x0 x1 : AV} (_h : 0 = 0) : callL EV Y 14 [x0, x1] H = endX [.tmp 4] (codeL EV Y F14B (sp 103 [(1, x1), (0, x0)]) H) := by
  rw [callL_eq (F := F14) rfl rfl, st_in2]; rfl
theorem call17 {x0 : AV} (_h : 0 = 0) : callL EV Y 17 [x0] H = endX [.tmp 2, .tmp 3] (codeL EV Y F17B (sp 13 [(0, x0)]) H) := by
  rw [callL_eq (F := F17) rfl rfl, st_in1]; rfl
theorem call18 {x0 : AV} (_h : 0 = 0) : callL EV Y 18 [x0] H = endX [.tmp 2, .tmp 3] (codeL EV Y F18B (sp 15 [(0, x0)]) H) := by
  rw [callL_eq (F := F18) rfl rfl, st_in1]; rfl
theorem in19_0 : codeL EV Y F19L0 fr H = lp EV Y F19L0 (keepA (m 53 99) fr) H := codeL_in rfl
theorem un19_0 : lp EV Y F19L0 fr H = thenX (codeL EV Y F19L0b (keepA (m 53 99) fr) H) (again EV Y F19L0 (m 53 99)) := lp_un rfl
theorem in19_1 : codeL EV Y F19L1 fr H = lp EV Y F19L1 (keepA (m 53 35) fr) H := codeL_in rfl
theorem un19_1 : lp EV Y F19L1 fr H = thenX (codeL EV Y F19L1b (keepA (m 53 35) fr) H) (again EV Y F19L1 (m 53 35)) := lp_un rfl
theorem call19 {x0 x1 : AV} (_h : 0 = 0) : callL EV Y 19 [x0, x1] H = endX [.tmp 4] (codeL EV Y F19B (sp 53 [(1, x1), (0, x0)]) H) := by
  rw [callL_eq (F := F19) rfl rfl, st_in2]; rfl
theorem call20 (_h : 0 = 0) : callL EV Y 20 [] H = endX [.tmp 0] (codeL EV Y F20B (sp 98 []) H) := by
  rw [callL_eq (F := F20) rfl rfl, st_in0]; rfl
theorem in21_0 : codeL EV Y F21L0 fr H = lp EV Y F21L0 (keepA (m 67 7) fr) H := codeL_in rfl
theorem un21_0 : lp EV Y F21L0 fr H = thenX (codeL EV Y F21L0b (keepA (m 67 7) fr) H) (again EV Y F21L0 (m 67 7)) := lp_un rfl
theorem in21_1 : codeL EV Y F21L1 fr H = lp EV Y F21L1 (keepA (m 67 135) fr) H := codeL_in rfl
theorem un21_1 : lp EV Y F21L1 fr H = thenX (codeL EV Y F21L1b (keepA (m 67 135) fr) H) (again EV Y F21L1 (m 67 135)) := lp_un rfl
theorem call21 {x0 x1 x2 : AV} (_h : 0 = 0) : callL EV Y 21 [x0, x1, x2] H = endX [.tmp 6] (codeL EV Y F21B (sp 67 [(2, x2), (1, x1), (0, x0)]) H) := by
  rw [callL_eq (F := F21) rfl rfl, st_in3]; rfl
theorem in22_0 : codeL EV Y F22L0 fr H = lp EV Y F22L0 (keepA (m 56 58720274) fr) H := codeL_in rfl
theorem un22_0 : lp EV Y F22L0 fr H = thenX (codeL EV Y F22L0b (keepA (m 56 58720274) fr) H) (again EV Y F22L0 (m 56 58720274)) := lp_un rfl
theorem call22 {x0 : AV} (_h : 0 = 0) : callL EV Y 22 [x0] H = endX [.tmp 2, .tmp 3] (codeL EV Y F22B (sp 56 [(0, x0)]) H) := by
  rw [callL_eq (F := F22) rfl rfl, st_in1]; rfl
theorem in23_0 : codeL EV Y F23L0 fr H = lp EV Y F23L0 (keepA (m 35 25) fr) H := codeL_in rfl
theorem un23_0 : lp EV Y F23L0 fr H = thenX (codeL EV Y F23L0b (keepA (m 35 25) fr) H) (again EV Y F23L0 (m 35 25)) := lp_un rfl
theorem in23_1 : codeL EV Y F23L1 fr H = lp EV Y F23L1 (keepA (m 35 9) fr) H := codeL_in rfl
theorem un23_1 : lp EV Y F23L1 fr H = thenX (codeL EV Y F23L1b (keepA (m 35 9) fr) H) (again EV Y F23L1 (m 35 9)) := lp_un rfl
theorem call23 {x0 : AV} (_h : 0 = 0) : callL EV Y 23 [x0] H = endX [.tmp 2] (codeL EV Y F23B (sp 35 [(0, x0)]) H) := by
  rw [callL_eq (F := F23) rfl rfl, st_in1]; rfl
theorem in24_0 : codeL EV Y F24L0 fr H = lp EV Y F24L0 (keepA (m 23 25) fr) H := codeL_in rfl
theorem un24_0 : lp EV Y F24L0 fr H = thenX (codeL EV Y F24L0b (keepA (m 23 25) fr) H) (again EV Y F24L0 (m 23 25)) := lp_un rfl
theorem call24 {x0 : AV} (_h : 0 = 0) : callL EV Y 24 [x0] H = endX [.tmp 2] (codeL EV Y F24B (sp 23 [(0, x0)]) H) := by
  rw [callL_eq (F := F24) rfl rfl, st_in1]; rfl
theorem call25 {x0 : AV} (_h : 0 = 0) : callL EV Y 25 [x0] H = endX [.tmp 2] (codeL EV Y F25B (sp 11 [(0, x0)]) H) := by
  rw [callL_eq (F := F25) rfl rfl, st_in1]; rfl
theorem in26_0 : codeL EV Y F26L0 fr H = lp EV Y F26L0 (keepA (m 101 57) fr) H := codeL_in rfl
theorem un26_0 : lp EV Y F26L0 fr H = thenX (codeL EV Y F26L0b (keepA (m 101 57) fr) H) (again EV Y F26L0 (m 101 57)) := lp_un rfl
theorem in26_1 : codeL EV Y F26L1 fr H = lp EV Y F26L1 (keepA (m 101 25) fr) H := codeL_in rfl
theorem un26_1 : lp EV Y F26L1 fr H = thenX (codeL EV Y F26L1b (keepA (m 101 25) fr) H) (again EV Y F26L1 (m 101 25)) := lp_un rfl
theorem in26_2 : codeL EV Y F26L2 fr H = lp EV Y F26L2 (keepA (m 101 969) fr) H := codeL_in rfl
theorem un26_2 : lp EV Y F26L2 fr H = thenX (codeL EV Y F26L2b (keepA (m 101 969) fr) H) (again EV Y F26L2 (m 101 969)) := lp_un rfl
theorem in26_3 : codeL EV Y F26L3 fr H = lp EV Y F26L3 (keepA (m 101 73) fr) H := codeL_in rfl
theorem un26_3 : lp EV Y F26L3 fr H = thenX (codeL EV Y F26L3b (keepA (m 101 73) fr) H) (again EV Y F26L3 (m 101 73)) := lp_un rfl
theorem call26 {x0 : AV} (_h : 0 = 0) : callL EV Y 26 [x0] H = endX [.tmp 2] (codeL EV Y F26B (sp 101 [(0, x0)]) H) := by
  rw [callL_eq (F := F26) rfl rfl, st_in1]; rfl
theorem call27 {x0 : AV} (_h : 0 = 0) : callL EV Y 27 [x0] H = endX [.tmp 2, .tmp 3] (codeL EV Y F27B (sp 16 [(0, x0)]) H) := by
  rw [callL_eq (F := F27) rfl rfl, st_in1]; rfl
theorem call28 {x0 : AV} (_h : 0 = 0) : callL EV Y 28 [x0] H = endX [.tmp 2, .tmp 3] (codeL EV Y F28B (sp 9 [(0, x0)]) H) := by
  rw [callL_eq (F := F28) rfl rfl, st_in1]; rfl
theorem in29_0 : codeL EV Y F29L0 fr H = lp EV Y F29L0 (keepA (m 51 25952720) fr) H := codeL_in rfl
theorem un29_0 : lp EV Y F29L0 fr H = thenX (codeL EV Y F29L0b (keepA (m 51 25952720) fr) H) (again EV Y F29L0 (m 51 25952720)) := lp_un rfl
theorem in29_1 : codeL EV Y F29L1 fr H = lp EV Y F29L1 (keepA (m 51 786512) fr) H := codeL_in rfl
theorem un29_1 : lp EV Y F29L1 fr H = thenX (codeL EV Y F29L1b (keepA (m 51 786512) fr) H) (again EV Y F29L1 (m 51 786512)) := lp_un rfl
theorem call29 {x0 : AV} (_h : 0 = 0) : callL EV Y 29 [x0] H = endX [.tmp 2, .tmp 3] (codeL EV Y F29B (sp 51 [(0, x0)]) H) := by
  rw [callL_eq (F := F29) rfl rfl, st_in1]; rfl
theorem call30 {x0 : AV} (_h : 0 = 0) : callL EV Y 30 [x0] H = endX [.tmp 2, .tmp 3] (codeL EV Y F30B (sp 9 [(0, x0)]) H) := by
  rw [callL_eq (F := F30) rfl rfl, st_in1]; rfl
theorem in31_0 : codeL EV Y F31L0 fr H = lp EV Y F31L0 (keepA (m 57 946865056) fr) H := codeL_in rfl
theorem un31_0 : lp EV Y F31L0 fr H = thenX (codeL EV Y F31L0b (keepA (m 57 946865056) fr) H) (again EV Y F31L0 (m 57 946865056)) := lp_un rfl
theorem in31_1 : codeL EV Y F31L1 fr H = lp EV Y F31L1 (keepA (m 57 7340448) fr) H := codeL_in rfl
theorem un31_1 : lp EV Y F31L1 fr H = thenX (codeL EV Y F31L1b (keepA (m 57 7340448) fr) H) (again EV Y F31L1 (m 57 7340448)) := lp_un rfl
theorem call31 {x0 : AV} (_h : 0 = 0) : callL EV Y 31 [x0] H = endX [.tmp 2, .tmp 3, .tmp 4] (codeL EV Y F31B (sp 57 [(0, x0)]) H) := by
  rw [callL_eq (F := F31) rfl rfl, st_in1]; rfl
theorem call34 {x0 : AV} (_h : 0 = 0) : callL EV Y 34 [x0] H = endX [.tmp 2, .tmp 3] (codeL EV Y F34B (sp 17 [(0, x0)]) H) := by
  rw [callL_eq (F := F34) rfl rfl, st_in1]; rfl
theorem call35 {x0 : AV} (_h : 0 = 0) : callL EV Y 35 [x0] H = endX [.tmp 2, .tmp 3] (codeL EV Y F35B (sp 9 [(0, x0)]) H) := by
  rw [callL_eq (F := F35) rfl rfl, st_in1]; rfl
theorem in36_0 : codeL EV Y F36L0 fr H = lp EV Y F36L0 (keepA (m 26 35) fr) H := codeL_in rfl
theorem un36_0 : lp EV Y F36L0 fr H = thenX (codeL EV Y F36L0b (keepA (m 26 35) fr) H) (again EV Y F36L0 (m 26 35)) := lp_un rfl
theorem call36 {x0 x1 : AV} (_h : 0 = 0) : callL EV Y 36 [x0, x1] H = endX [.tmp 4] (codeL EV Y F36B (sp 26 [(1, x1), (0, x0)]) H) := by
  rw [callL_eq (F := F36) rfl rfl, st_in2]; rfl
theorem in37_0 : codeL EV Y F37L0 fr H = lp EV Y F37L0 (keepA (m 56 1009) fr) H := codeL_in rfl
theorem un37_0 : lp EV Y F37L0 fr H = thenX (codeL EV Y F37L0b (keepA (m 56 1009) fr) H) (again EV Y F37L0 (m 56 1009)) := lp_un rfl
theorem in37_1 : codeL EV Y F37L1 fr H = lp EV Y F37L1 (keepA (m 56 113) fr) H := codeL_in rfl
theorem un37_1 : lp EV Y F37L1 fr H = thenX (codeL EV Y F37L1b (keepA (m 56 113) fr) H) (again EV Y F37L1 (m 56 113)) := lp_un rfl
theorem call37 {x0 : AV} (_h : 0 = 0) : callL EV Y 37 [x0] H = endX [.tmp 2, .tmp 3] (codeL EV Y F37B (sp 56 [(0, x0)]) H) := by
  rw [callL_eq (F := F37) rfl rfl, st_in1]; rfl
theorem in38_0 : codeL EV Y F38L0 fr H = lp EV Y F38L0 (keepA (m 57 9) fr) H := codeL_in rfl
theorem un38_0 : lp EV Y F38L0 fr H = thenX (codeL EV Y F38L0b (keepA (m 57 9) fr) H) (again EV Y F38L0 (m 57 9)) := lp_un rfl
theorem call38 {x0 : AV} (_h : 0 = 0) : callL EV Y 38 [x0] H = endX [.tmp 2] (codeL EV Y F38B (sp 57 [(0, x0)]) H) := by
  rw [callL_eq (F := F38) rfl rfl, st_in1]; rfl
theorem in39_0 : codeL EV Y F39L0 fr H = lp EV Y F39L0 (keepA (m 30 25) fr) H := codeL_in rfl
theorem un39_0 : lp EV Y F39L0 fr H = thenX (codeL EV Y F39L0b (keepA (m 30 25) fr) H) (again EV Y F39L0 (m 30 25)) := lp_un rfl
theorem in39_1 : codeL EV Y F39L1 fr H = lp EV Y F39L1 (keepA (m 30 9) fr) H := codeL_in rfl
theorem un39_1 : lp EV Y F39L1 fr H = thenX (codeL EV Y F39L1b (keepA (m 30 9) fr) H) (again EV Y F39L1 (m 30 9)) := lp_un rfl
theorem call39 {x0 : AV} (_h : 0 = 0) : callL EV Y 39 [x0] H = endX [.tmp 2] (codeL EV Y F39B (sp 30 [(0, x0)]) H) := by
  rw [callL_eq (F := F39) rfl rfl, st_in1]; rfl
theorem call46 {x0 x1 x2 : AV} (_h : 0 = 0) : callL EV Y 46 [x0, x1, x2] H = endX [.tmp 6, .tmp 7] (codeL EV Y F46B (sp 55 [(2, x2), (1, x1), (0, x0)]) H) := by
  rw [callL_eq (F := F46) rfl rfl, st_in3]; rfl
theorem call47 {x0 : AV} (_h : 0 = 0) : callL EV Y 47 [x0] H = endX [.tmp 2, .tmp 3] (codeL EV Y F47B (sp 22 [(0, x0)]) H) := by
  rw [callL_eq (F := F47) rfl rfl, st_in1]; rfl
theorem in48_0 : codeL EV Y F48L0 fr H = lp EV Y F48L0 (keepA (m 30 25) fr) H := codeL_in rfl
theorem un48_0 : lp EV Y F48L0 fr H = thenX (codeL EV Y F48L0b (keepA (m 30 25) fr) H) (again EV Y F48L0 (m 30 25)) := lp_un rfl
theorem call48 {x0 : AV} (_h : 0 = 0) : callL EV Y 48 [x0] H = endX [.tmp 2] (codeL EV Y F48B (sp 30 [(0, x0)]) H) := by
  rw [callL_eq (F := F48) rfl rfl, st_in1]; rfl
theorem call51 {x0 x1 x2 : AV} (_h : 0 = 0) : callL EV Y 51 [x0, x1, x2] H = endX [.tmp 6, .tmp 7] (codeL EV Y F51B (sp 54 [(2, x2), (1, x1), (0, x0)]) H) := by
  rw [callL_eq (F := F51) rfl rfl, st_in3]; rfl
theorem in52_0 : codeL EV Y F52L0 fr H = lp EV Y F52L0 (keepA (m 56 241) fr) H := codeL_in rfl
theorem un52_0 : lp EV Y F52L0 fr H = thenX (codeL EV Y F52L0b (keepA (m 56 241) fr) H) (again EV Y F52L0 (m 56 241)) := lp_un rfl
theorem in52_1 : codeL EV Y F52L1 fr H = lp EV Y F52L1 (keepA (m 56 113) fr) H := codeL_in rfl
theorem un52_1 : lp EV Y F52L1 fr H = thenX (codeL EV Y F52L1b (keepA (m 56 113) fr) H) (again EV Y F52L1 (m 56 113)) := lp_un rfl
theorem in52_2 : codeL EV Y F52L2 fr H = lp EV Y F52L2 (keepA (m 56 49) fr) H := codeL_in rfl
theorem un52_2 : lp EV Y F52L2 fr H = thenX (codeL EV Y F52L2b (keepA (m 56 49) fr) H) (again EV Y F52L2 (m 56 49)) := lp_un rfl
theorem call52 {x0 : AV} (_h : 0 = 0) : callL EV Y 52 [x0] H = endX [.tmp 2, .tmp 3] (codeL EV Y F52B (sp 56 [(0, x0)]) H) := by
  rw [callL_eq (F := F52) rfl rfl, st_in1]; rfl
theorem in53_0 : codeL EV Y F53L0 fr H = lp EV Y F53L0 (keepA (m 130 8071) fr) H := codeL_in rfl
theorem un53_0 : lp EV Y F53L0 fr H = thenX (codeL EV Y F53L0b (keepA (m 130 8071) fr) H) (again EV Y F53L0 (m 130 8071)) := lp_un rfl
theorem in53_1 : codeL EV Y F53L1 fr H = lp EV Y F53L1 (keepA (m 130 12167) fr) H := codeL_in rfl
theorem un53_1 : lp EV Y F53L1 fr H = thenX (codeL EV Y F53L1b (keepA (m 130 12167) fr) H) (again EV Y F53L1 (m 130 12167)) := lp_un rfl
theorem in53_2 : codeL EV Y F53L2 fr H = lp EV Y F53L2 (keepA (m 130 20359) fr) H := codeL_in rfl
theorem un53_2 : lp EV Y F53L2 fr H = thenX (codeL EV Y F53L2b (keepA (m 130 20359) fr) H) (again EV Y F53L2 (m 130 20359)) := lp_un rfl
theorem call53 {x0 x1 x2 : AV} (_h : 0 = 0) : callL EV Y 53 [x0, x1, x2] H = endX [.tmp 6] (codeL EV Y F53B (sp 130 [(2, x2), (1, x1), (0, x0)]) H) := by
  rw [callL_eq (F := F53) rfl rfl, st_in3]; rfl
theorem in54_0 : codeL EV Y F54L0 fr H = lp EV Y F54L0 (keepA (m 16 25) fr) H := codeL_in rfl
theorem un54_0 : lp EV Y F54L0 fr H = thenX (codeL EV Y F54L0b (keepA (m 16 25) fr) H) (again EV Y F54L0 (m 16 25)) := lp_un rfl
theorem call54 {x0 : AV} (_h : 0 = 0) : callL EV Y 54 [x0] H = endX [.tmp 2] (codeL EV Y F54B (sp 16 [(0, x0)]) H) := by
  rw [callL_eq (F := F54) rfl rfl, st_in1]; rfl
theorem call55 {x0 x1 : AV} (_h : 0 = 0) : callL EV Y 55 [x0, x1] H = endX [] (codeL EV Y F55B (sp 17 [(1, x1), (0, x0)]) H) := by
  rw [callL_eq (F := F55) rfl rfl, st_in2]; rfl
theorem call56 {x0 x1 : AV} (_h : 0 = 0) : callL EV Y 56 [x0, x1] H = endX [] (codeL EV Y F56B (sp 8 [(1, x1), (0, x0)]) H) := by
  rw [callL_eq (F := F56) rfl rfl, st_in2]; rfl
theorem in57_0 : codeL EV Y F57L0 fr H = lp EV Y F57L0 (keepA (m 19 456) fr) H := codeL_in rfl
theorem un57_0 : lp EV Y F57L0 fr H = thenX (codeL EV Y F57L0b (keepA (m 19 456) fr) H) (again EV Y F57L0 (m 19 456)) := lp_un rfl
theorem call57 {x0 : AV} (_h : 0 = 0) : callL EV Y 57 [x0] H = endX [.tmp 2] (codeL EV Y F57B (sp 19 [(0, x0)]) H) := by
  rw [callL_eq (F := F57) rfl rfl, st_in1]; rfl
theorem call58 (_h : 0 = 0) : callL EV Y 58 [] H = endX [.tmp 0] (codeL EV Y F58B (sp 5 []) H) := by
  rw [callL_eq (F := F58) rfl rfl, st_in0]; rfl
theorem in59_0 : codeL EV Y F59L0 fr H = lp EV Y F59L0 (keepA (m 45 25) fr) H := codeL_in rfl
theorem un59_0 : lp EV Y F59L0 fr H = thenX (codeL EV Y F59L0b (keepA (m 45 25) fr) H) (again EV Y F59L0 (m 45 25)) := lp_un rfl
theorem in59_1 : codeL EV Y F59L1 fr H = lp EV Y F59L1 (keepA (m 45 9) fr) H := codeL_in rfl
theorem un59_1 : lp EV Y F59L1 fr H = thenX (codeL EV Y F59L1b (keepA (m 45 9) fr) H) (again EV Y F59L1 (m 45 9)) := lp_un rfl
theorem call59 {x0 : AV} (_h : 0 = 0) : callL EV Y 59 [x0] H = endX [.tmp 2] (codeL EV Y F59B (sp 45 [(0, x0)]) H) := by
  rw [callL_eq (F := F59) rfl rfl, st_in1]; rfl
theorem call60 {x0 x1 x2 : AV} (_h : 0 = 0) : callL EV Y 60 [x0, x1, x2] H = endX [] (codeL EV Y F60B (sp 12 [(2, x2), (1, x1), (0, x0)]) H) := by
  rw [callL_eq (F := F60) rfl rfl, st_in3]; rfl
theorem in61_0 : codeL EV Y F61L0 fr H = lp EV Y F61L0 (keepA (m 26 12291) fr) H := codeL_in rfl
theorem un61_0 : lp EV Y F61L0 fr H = thenX (codeL EV Y F61L0b (keepA (m 26 12291) fr) H) (again EV Y F61L0 (m 26 12291)) := lp_un rfl
theorem call61 {x0 x1 : AV} (_h : 0 = 0) : callL EV Y 61 [x0, x1] H = endX [.tmp 4] (codeL EV Y F61B (sp 26 [(1, x1), (0, x0)]) H) := by
  rw [callL_eq (F := F61) rfl rfl, st_in2]; rfl
theorem call62 {x0 : AV} (_h : 0 = 0) : callL EV Y 62 [x0] H = endX [.tmp 2] (codeL EV Y F62B (sp 8 [(0, x0)]) H) := by
  rw [callL_eq (F := F62) rfl rfl, st_in1]; rfl
theorem in63_0 : codeL EV Y F63L0 fr H = lp EV Y F63L0 (keepA (m 25 3609) fr) H := codeL_in rfl
theorem un63_0 : lp EV Y F63L0 fr H = thenX (codeL EV Y F63L0b (keepA (m 25 3609) fr) H) (again EV Y F63L0 (m 25 3609)) := lp_un rfl
theorem call63 {x0 : AV} (_h : 0 = 0) : callL EV Y 63 [x0] H = endX [.tmp 2] (codeL EV Y F63B (sp 25 [(0, x0)]) H) := by
  rw [callL_eq (F := F63) rfl rfl, st_in1]; rfl
theorem in64_0 : codeL EV Y F64L0 fr H = lp EV Y F64L0 (keepA (m 45 482345010) fr) H := codeL_in rfl
theorem un64_0 : lp EV Y F64L0 fr H = thenX (codeL EV Y F64L0b (keepA (m 45 482345010) fr) H) (again EV Y F64L0 (m 45 482345010)) := lp_un rfl
theorem in64_1 : codeL EV Y F64L1 fr H = lp EV Y F64L1 (keepA (m 45 12582914) fr) H := codeL_in rfl
theorem un64_1 : lp EV Y F64L1 fr H = thenX (codeL EV Y F64L1b (keepA (m 45 12582914) fr) H) (again EV Y F64L1 (m 45 12582914)) := lp_un rfl
theorem call64 {x0 : AV} (_h : 0 = 0) : callL EV Y 64 [x0] H = endX [.tmp 2, .tmp 3] (codeL EV Y F64B (sp 45 [(0, x0)]) H) := by
  rw [callL_eq (F := F64) rfl rfl, st_in1]; rfl
theorem in65_0 : codeL EV Y F65L0 fr H = lp EV Y F65L0 (keepA (m 57 1017) fr) H := codeL_in rfl
theorem un65_0 : lp EV Y F65L0 fr H = thenX (codeL EV Y F65L0b (keepA (m 57 1017) fr) H) (again EV Y F65L0 (m 57 1017)) := lp_un rfl
theorem in65_1 : codeL EV Y F65L1 fr H = lp EV Y F65L1 (keepA (m 57 505) fr) H := codeL_in rfl
theorem un65_1 : lp EV Y F65L1 fr H = thenX (codeL EV Y F65L1b (keepA (m 57 505) fr) H) (again EV Y F65L1 (m 57 505)) := lp_un rfl
theorem in65_2 : codeL EV Y F65L2 fr H = lp EV Y F65L2 (keepA (m 57 121) fr) H := codeL_in rfl
theorem un65_2 : lp EV Y F65L2 fr H = thenX (codeL EV Y F65L2b (keepA (m 57 121) fr) H) (again EV Y F65L2 (m 57 121)) := lp_un rfl
theorem in65_3 : codeL EV Y F65L3 fr H = lp EV Y F65L3 (keepA (m 57 57) fr) H := codeL_in rfl
theorem un65_3 : lp EV Y F65L3 fr H = thenX (codeL EV Y F65L3b (keepA (m 57 57) fr) H) (again EV Y F65L3 (m 57 57)) := lp_un rfl
theorem call65 {x0 : AV} (_h : 0 = 0) : callL EV Y 65 [x0] H = endX [.tmp 2] (codeL EV Y F65B (sp 57 [(0, x0)]) H) := by
  rw [callL_eq (F := F65) rfl rfl, st_in1]; rfl
theorem in66_0 : codeL EV Y F66L0 fr H = lp EV Y F66L0 (keepA (m 34 29474948) fr) H := codeL_in rfl
theorem un66_0 : lp EV Y F66L0 fr H = thenX (codeL EV Y F66L0b (keepA (m 34 29474948) fr) H) (again EV Y F66L0 (m 34 29474948)) := lp_un rfl
theorem in66_1 : codeL EV Y F66L1 fr H = lp EV Y F66L1 (keepA (m 34 114820) fr) H := codeL_in rfl
theorem un66_1 : lp EV Y F66L1 fr H = thenX (codeL EV Y F66L1b (keepA (m 34 114820) fr) H) (again EV Y F66L1 (m 34 114820)) := lp_un rfl
theorem call66 {x0 x1 x2 : AV} (_h : 0 = 0) : callL EV Y 66 [x0, x1, x2] H = endX [.tmp 6] (codeL EV Y F66B (sp 34 [(2, x2), (1, x1), (0, x0)]) H) := by
  rw [callL_eq (F := F66) rfl rfl, st_in3]; rfl
theorem in67_0 : codeL EV Y F67L0 fr H = lp EV Y F67L0 (keepA (m 47 505) fr) H := codeL_in rfl
theorem un67_0 : lp EV Y F67L0 fr H = thenX (codeL EV Y F67L0b (keepA (m 47 505) fr) H) (again EV Y F67L0 (m 47 505)) := lp_un rfl
theorem in67_1 : codeL EV Y F67L1 fr H = lp EV Y F67L1 (keepA (m 47 121) fr) H := codeL_in rfl
theorem un67_1 : lp EV Y F67L1 fr H = thenX (codeL EV Y F67L1b (keepA (m 47 121) fr) H) (again EV Y F67L1 (m 47 121)) := lp_un rfl
theorem in67_2 : codeL EV Y F67L2 fr H = lp EV Y F67L2 (keepA (m 47 25) fr) H := codeL_in rfl
theorem un67_2 : lp EV Y F67L2 fr H = thenX (codeL EV Y F67L2b (keepA (m 47 25) fr) H) (again EV Y F67L2 (m 47 25)) := lp_un rfl
theorem call67 {x0 : AV} (_h : 0 = 0) : callL EV Y 67 [x0] H = endX [.tmp 2] (codeL EV Y F67B (sp 47 [(0, x0)]) H) := by
  rw [callL_eq (F := F67) rfl rfl, st_in1]; rfl
theorem in68_0 : codeL EV Y F68L0 fr H = lp EV Y F68L0 (keepA (m 69 2040) fr) H := codeL_in rfl
theorem un68_0 : lp EV Y F68L0 fr H = thenX (codeL EV Y F68L0b (keepA (m 69 2040) fr) H) (again EV Y F68L0 (m 69 2040)) := lp_un rfl
theorem in68_1 : codeL EV Y F68L1 fr H = lp EV Y F68L1 (keepA (m 69 120) fr) H := codeL_in rfl
theorem un68_1 : lp EV Y F68L1 fr H = thenX (codeL EV Y F68L1b (keepA (m 69 120) fr) H) (again EV Y F68L1 (m 69 120)) := lp_un rfl
theorem call68 {x0 : AV} (_h : 0 = 0) : callL EV Y 68 [x0] H = endX [.tmp 2] (codeL EV Y F68B (sp 69 [(0, x0)]) H) := by
  rw [callL_eq (F := F68) rfl rfl, st_in1]; rfl
theorem in69_0 : codeL EV Y F69L0 fr H = lp EV Y F69L0 (keepA (m 35 104547) fr) H := codeL_in rfl
theorem un69_0 : lp EV Y F69L0 fr H = thenX (codeL EV Y F69L0b (keepA (m 35 104547) fr) H) (again EV Y F69L0 (m 35 104547)) := lp_un rfl
theorem in69_1 : codeL EV Y F69L1 fr H = lp EV Y F69L1 (keepA (m 35 6179) fr) H := codeL_in rfl
theorem un69_1 : lp EV Y F69L1 fr H = thenX (codeL EV Y F69L1b (keepA (m 35 6179) fr) H) (again EV Y F69L1 (m 35 6179)) := lp_un rfl
theorem call69 {x0 x1 : AV} (_h : 0 = 0) : callL EV Y 69 [x0, x1] H = endX [.tmp 4] (codeL EV Y F69B (sp 35 [(1, x1), (0, x0)]) H) := by
  rw [callL_eq (F := F69) rfl rfl, st_in2]; rfl
theorem call72 {x0 : AV} (_h : 0 = 0) : callL EV Y 72 [x0] H = endX [.tmp 2] (codeL EV Y F72B (sp 7 [(0, x0)]) H) := by
  rw [callL_eq (F := F72) rfl rfl, st_in1]; rfl
theorem in73_0 : codeL EV Y F73L0 fr H = lp EV Y F73L0 (keepA (m 65 121) fr) H := codeL_in rfl
theorem un73_0 : lp EV Y F73L0 fr H = thenX (codeL EV Y F73L0b (keepA (m 65 121) fr) H) (again EV Y F73L0 (m 65 121)) := lp_un rfl
theorem in73_1 : codeL EV Y F73L1 fr H = lp EV Y F73L1 (keepA (m 65 57) fr) H := codeL_in rfl
theorem un73_1 : lp EV Y F73L1 fr H = thenX (codeL EV Y F73L1b (keepA (m 65 57) fr) H) (again EV Y F73L1 (m 65 57)) := lp_un rfl
theorem call73 {x0 : AV} (_h : 0 = 0) : callL EV Y 73 [x0] H = endX [.tmp 2] (codeL EV Y F73B (sp 65 [(0, x0)]) H) := by
  rw [callL_eq (F := F73) rfl rfl, st_in1]; rfl
theorem call74 {x0 x1 x2 : AV} (_h : 0 = 0) : callL EV Y 74 [x0, x1, x2] H = endX [.tmp 6, .tmp 7] (codeL EV Y F74B (sp 61 [(2, x2), (1, x1), (0, x0)]) H) := by
  rw [callL_eq (F := F74) rfl rfl, st_in3]; rfl
theorem in75_0 : codeL EV Y F75L0 fr H = lp EV Y F75L0 (keepA (m 49 6261) fr) H := codeL_in rfl
theorem un75_0 : lp EV Y F75L0 fr H = thenX (codeL EV Y F75L0b (keepA (m 49 6261) fr) H) (again EV Y F75L0 (m 49 6261)) := lp_un rfl
theorem in75_1 : codeL EV Y F75L1 fr H = lp EV Y F75L1 (keepA (m 49 6197) fr) H := codeL_in rfl
theorem un75_1 : lp EV Y F75L1 fr H = thenX (codeL EV Y F75L1b (keepA (m 49 6197) fr) H) (again EV Y F75L1 (m 49 6197)) := lp_un rfl
theorem in75_2 : codeL EV Y F75L2 fr H = lp EV Y F75L2 (keepA (m 49 6149) fr) H := codeL_in rfl
theorem un75_2 : lp EV Y F75L2 fr H = thenX (codeL EV Y F75L2b (keepA (m 49 6149) fr) H) (again EV Y F75L2 (m 49 6149)) := lp_un rfl
theorem call75 {x0 : AV} (_h : 0 = 0) : callL EV Y 75 [x0] H = endX [] (codeL EV Y F75B (sp 49 [(0, x0)]) H) := by
  rw [callL_eq (F := F75) rfl rfl, st_in1]; rfl
theorem call76 {x0 x1 x2 : AV} (_h : 0 = 0) : callL EV Y 76 [x0, x1, x2] H = endX [.tmp 6, .tmp 7] (codeL EV Y F76B (sp 61 [(2, x2), (1, x1), (0, x0)]) H) := by
  rw [callL_eq (F := F76) rfl rfl, st_in3]; rfl
theorem call77 {x0 x1 : AV} (_h : 0 = 0) : callL EV Y 77 [x0, x1] H = endX [.tmp 4] (codeL EV Y F77B (sp 5 [(1, x1), (0, x0)]) H) := by
  rw [callL_eq (F := F77) rfl rfl, st_in2]; rfl
theorem in78_0 : codeL EV Y F78L0 fr H = lp EV Y F78L0 (keepA (m 101 1911) fr) H := codeL_in rfl
theorem un78_0 : lp EV Y F78L0 fr H = thenX (codeL EV Y F78L0b (keepA (m 101 1911) fr) H) (again EV Y F78L0 (m 101 1911)) := lp_un rfl
theorem call78 {x0 x1 x2 x3 x4 x5 x6 : AV} (_h : 0 = 0) : callL EV Y 78 [x0, x1, x2, x3, x4, x5, x6] H = endX [] (codeL EV Y F78B (sp 101 [(6, x6), (5, x5), (4, x4), (3, x3), (2, x2), (1, x1), (0, x0)]) H) := by
  rw [callL_eq (F := F78) rfl rfl, st_in7]; rfl
theorem in79_0 : codeL EV Y F79L0 fr H = lp EV Y F79L0 (keepA (m 25 25) fr) H := codeL_in rfl
theorem un79_0 : lp EV Y F79L0 fr H = thenX (codeL EV Y F79L0b (keepA (m 25 25) fr) H) (again EV Y F79L0 (m 25 25)) := lp_un rfl
theorem call79 {x0 : AV} (_h : 0 = 0) : callL EV Y 79 [x0] H = endX [.tmp 2] (codeL EV Y F79B (sp 25 [(0, x0)]) H) := by
  rw [callL_eq (F := F79) rfl rfl, st_in1]; rfl
theorem call80 {x0 : AV} (_h : 0 = 0) : callL EV Y 80 [x0] H = endX [.tmp 2] (codeL EV Y F80B (sp 8 [(0, x0)]) H) := by
  rw [callL_eq (F := F80) rfl rfl, st_in1]; rfl
theorem call81 {x0 x1 x2 : AV} (_h : 0 = 0) : callL EV Y 81 [x0, x1, x2] H = endX [.tmp 5] (codeL EV Y F81B (sp 15 [(2, x2), (1, x1), (0, x0)]) H) := by
  rw [callL_eq (F := F81) rfl rfl, st_in3]; rfl
theorem in82_0 : codeL EV Y F82L0 fr H = lp EV Y F82L0 (keepA (m 48 120) fr) H := codeL_in rfl
theorem un82_0 : lp EV Y F82L0 fr H = thenX (codeL EV Y F82L0b (keepA (m 48 120) fr) H) (again EV Y F82L0 (m 48 120)) := lp_un rfl
theorem in82_1 : codeL EV Y F82L1 fr H = lp EV Y F82L1 (keepA (m 48 184) fr) H := codeL_in rfl
theorem un82_1 : lp EV Y F82L1 fr H = thenX (codeL EV Y F82L1b (keepA (m 48 184) fr) H) (again EV Y F82L1 (m 48 184)) := lp_un rfl
theorem in82_2 : codeL EV Y F82L2 fr H = lp EV Y F82L2 (keepA (m 48 312) fr) H := codeL_in rfl
theorem un82_2 : lp EV Y F82L2 fr H = thenX (codeL EV Y F82L2b (keepA (m 48 312) fr) H) (again EV Y F82L2 (m 48 312)) := lp_un rfl
theorem in82_3 : codeL EV Y F82L3 fr H = lp EV Y F82L3 (keepA (m 48 560) fr) H := codeL_in rfl
theorem un82_3 : lp EV Y F82L3 fr H = thenX (codeL EV Y F82L3b (keepA (m 48 560) fr) H) (again EV Y F82L3 (m 48 560)) := lp_un rfl
theorem call82 {x0 : AV} (_h : 0 = 0) : callL EV Y 82 [x0] H = endX [.tmp 2] (codeL EV Y F82B (sp 48 [(0, x0)]) H) := by
  rw [callL_eq (F := F82) rfl rfl, st_in1]; rfl
theorem in83_0 : codeL EV Y F83L0 fr H = lp EV Y F83L0 (keepA (m 19 393) fr) H := codeL_in rfl
theorem un83_0 : lp EV Y F83L0 fr H = thenX (codeL EV Y F83L0b (keepA (m 19 393) fr) H) (again EV Y F83L0 (m 19 393)) := lp_un rfl
theorem call83 {x0 x1 : AV} (_h : 0 = 0) : callL EV Y 83 [x0, x1] H = endX [.tmp 4] (codeL EV Y F83B (sp 19 [(1, x1), (0, x0)]) H) := by
  rw [callL_eq (F := F83) rfl rfl, st_in2]; rfl
theorem in84_0 : codeL EV Y F84L0 fr H = lp EV Y F84L0 (keepA (m 51 8313) fr) H := codeL_in rfl
theorem un84_0 : lp EV Y F84L0 fr H = thenX (codeL EV Y F84L0b (keepA (m 51 8313) fr) H) (again EV Y F84L0 (m 51 8313)) := lp_un rfl
theorem in84_1 : codeL EV Y F84L1 fr H = lp EV Y F84L1 (keepA (m 51 57) fr) H := codeL_in rfl
theorem un84_1 : lp EV Y F84L1 fr H = thenX (codeL EV Y F84L1b (keepA (m 51 57) fr) H) (again EV Y F84L1 (m 51 57)) := lp_un rfl
theorem call84 {x0 x1 : AV} (_h : 0 = 0) : callL EV Y 84 [x0, x1] H = endX [.cell 4 (some 3)] (codeL EV Y F84B (sp 51 [(1, x1), (0, x0)]) H) := by
  rw [callL_eq (F := F84) rfl rfl, st_in2]; rfl
theorem call85 {x0 x1 : AV} (_h : 0 = 0) : callL EV Y 85 [x0, x1] H = endX [.tmp 4] (codeL EV Y F85B (sp 9 [(1, x1), (0, x0)]) H) := by
  rw [callL_eq (F := F85) rfl rfl, st_in2]; rfl
theorem call86 {x0 x1 : AV} (_h : 0 = 0) : callL EV Y 86 [x0, x1] H = endX [.tmp 3] (codeL EV Y F86B (sp 14 [(1, x1), (0, x0)]) H) := by
  rw [callL_eq (F := F86) rfl rfl, st_in2]; rfl
theorem in87_0 : codeL EV Y F87L0 fr H = lp EV Y F87L0 (keepA (m 32 456) fr) H := codeL_in rfl
theorem un87_0 : lp EV Y F87L0 fr H = thenX (codeL EV Y F87L0b (keepA (m 32 456) fr) H) (again EV Y F87L0 (m 32 456)) := lp_un rfl
theorem call87 {x0 : AV} (_h : 0 = 0) : callL EV Y 87 [x0] H = endX [.tmp 2] (codeL EV Y F87B (sp 32 [(0, x0)]) H) := by
  rw [callL_eq (F := F87) rfl rfl, st_in1]; rfl
theorem in88_0 : codeL EV Y F88L0 fr H = lp EV Y F88L0 (keepA (m 69 57) fr) H := codeL_in rfl
theorem un88_0 : lp EV Y F88L0 fr H = thenX (codeL EV Y F88L0b (keepA (m 69 57) fr) H) (again EV Y F88L0 (m 69 57)) := lp_un rfl
theorem in88_1 : codeL EV Y F88L1 fr H = lp EV Y F88L1 (keepA (m 69 89) fr) H := codeL_in rfl
theorem un88_1 : lp EV Y F88L1 fr H = thenX (codeL EV Y F88L1b (keepA (m 69 89) fr) H) (again EV Y F88L1 (m 69 89)) := lp_un rfl
theorem in88_2 : codeL EV Y F88L2 fr H = lp EV Y F88L2 (keepA (m 69 153) fr) H := codeL_in rfl
theorem un88_2 : lp EV Y F88L2 fr H = thenX (codeL EV Y F88L2b (keepA (m 69 153) fr) H) (again EV Y F88L2 (m 69 153)) := lp_un rfl
theorem in88_3 : codeL EV Y F88L3 fr H = lp EV Y F88L3 (keepA (m 69 273) fr) H := codeL_in rfl
theorem un88_3 : lp EV Y F88L3 fr H = thenX (codeL EV Y F88L3b (keepA (m 69 273) fr) H) (again EV Y F88L3 (m 69 273)) := lp_un rfl
theorem call88 {x0 : AV} (_h : 0 = 0) : callL EV Y 88 [x0] H = endX [.tmp 2] (codeL EV Y F88B (sp 69 [(0, x0)]) H) := by
  rw [callL_eq (F := F88) rfl rfl, st_in1]; rfl
theorem in89_0 : codeL EV Y F89L0 fr H = lp EV Y F89L0 (keepA (m 80 8065) fr) H := codeL_in rfl
theorem un89_0 : lp EV Y F89L0 fr H = thenX (codeL EV Y F89L0b (keepA (m 80 8065) fr) H) (again EV Y F89L0 (m 80 8065)) := lp_un rfl
theorem in89_1 : codeL EV Y F89L1 fr H = lp EV Y F89L1 (keepA (m 80 1921) fr) H := codeL_in rfl
theorem un89_1 : lp EV Y F89L1 fr H = thenX (codeL EV Y F89L1b (keepA (m 80 1921) fr) H) (again EV Y F89L1 (m 80 1921)) := lp_un rfl
theorem call89 {x0 x1 : AV} (_h : 0 = 0) : callL EV Y 89 [x0, x1] H = endX [.tmp 4, .tmp 5, .tmp 6] (codeL EV Y F89B (sp 80 [(1, x1), (0, x0)]) H) := by
  rw [callL_eq (F := F89) rfl rfl, st_in2]; rfl
theorem call90 {x0 x1 x2 : AV} (_h : 0 = 0) : callL EV Y 90 [x0, x1, x2] H = endX [.tmp 5] (codeL EV Y F90B (sp 29 [(2, x2), (1, x1), (0, x0)]) H) := by
  rw [callL_eq (F := F90) rfl rfl, st_in3]; rfl
theorem call91 {x0 : AV} (_h : 0 = 0) : callL EV Y 91 [x0] H = endX [.tmp 2] (codeL EV Y F91B (sp 6 [(0, x0)]) H) := by
  rw [callL_eq (F := F91) rfl rfl, st_in1]; rfl
theorem call92 {x0 x1 x2 x3 x4 : AV} (_h : 0 = 0) : callL EV Y 92 [x0, x1, x2, x3, x4] H = endX [] (codeL EV Y F92B (sp 20 [(4, x4), (3, x3), (2, x2), (1, x1), (0, x0)]) H) := by
  rw [callL_eq (F := F92) rfl rfl, st_in5]; rfl
theorem call93 {x0 x1 : AV} (_h : 0 = 0) : callL EV Y 93 [x0, x1] H = endX [.tmp 4] (codeL EV Y F93B (sp 79 [(1, x1), (0, x0)]) H) := by
  rw [callL_eq (F := F93) rfl rfl, st_in2]; rfl
theorem call94 {x0 : AV} (_h : 0 = 0) : callL EV Y 94 [x0] H = endX [.cell 2 (some 3)] (codeL EV Y F94B (sp 33 [(0, x0)]) H) := by
  rw [callL_eq (F := F94) rfl rfl, st_in1]; rfl
theorem in95_0 : codeL EV Y F95L0 fr H = lp EV Y F95L0 (keepA (m 19 387) fr) H := codeL_in rfl
theorem un95_0 : lp EV Y F95L0 fr H = thenX (codeL EV Y F95L0b (keepA (m 19 387) fr) H) (again EV Y F95L0 (m 19 387)) := lp_un rfl
theorem call95 {x0 x1 : AV} (_h : 0 = 0) : callL EV Y 95 [x0, x1] H = endX [.tmp 4] (codeL EV Y F95B (sp 19 [(1, x1), (0, x0)]) H) := by
  rw [callL_eq (F := F95) rfl rfl, st_in2]; rfl
theorem call96 {x0 x1 x2 : AV} (_h : 0 = 0) : callL EV Y 96 [x0, x1, x2] H = endX [.tmp 6] (codeL EV Y F96B (sp 30 [(2, x2), (1, x1), (0, x0)]) H) := by
  rw [callL_eq (F := F96) rfl rfl, st_in3]; rfl
theorem call97 {x0 x1 x2 : AV} (_h : 0 = 0) : callL EV Y 97 [x0, x1, x2] H = endX [.tmp 6] (codeL EV Y F97B (sp 30 [(2, x2), (1, x1), (0, x0)]) H) := by
  rw [callL_eq (F := F97) rfl rfl, st_in3]; rfl
theorem call98 {x0 x1 x2 x3 : AV} (_h : 0 = 0) : callL EV Y 98 [x0, x1, x2, x3] H = endX [.tmp 8] (codeL EV Y F98B (sp 34 [(3, x3), (2, x2), (1, x1), (0, x0)]) H) := by
  rw [callL_eq (F := F98) rfl rfl, st_in4]; rfl
theorem call114 {x0 : AV} (_h : 0 = 0) : callL EV Y 114 [x0] H = endX [.tmp 2] (codeL EV Y F114B (sp 5 [(0, x0)]) H) := by
  rw [callL_eq (F := F114) rfl rfl, st_in1]; rfl
theorem call115 {x0 x1 x2 : AV} (_h : 0 = 0) : callL EV Y 115 [x0, x1, x2] H = endX [.tmp 6] (codeL EV Y F115B (sp 19 [(2, x2), (1, x1), (0, x0)]) H) := by
  rw [callL_eq (F := F115) rfl rfl, st_in3]; rfl
theorem call116 {x0 : AV} (_h : 0 = 0) : callL EV Y 116 [x0] H = endX [.tmp 2] (codeL EV Y F116B (sp 5 [(0, x0)]) H) := by
  rw [callL_eq (F := F116) rfl rfl, st_in1]; rfl
theorem in117_0 : codeL EV Y F117L0 fr H = lp EV Y F117L0 (keepA (m 29 458884) fr) H := codeL_in rfl
theorem un117_0 : lp EV Y F117L0 fr H = thenX (codeL EV Y F117L0b (keepA (m 29 458884) fr) H) (again EV Y F117L0 (m 29 458884)) := lp_un rfl
theorem call117 {x0 x1 x2 : AV} (_h : 0 = 0) : callL EV Y 117 [x0, x1, x2] H = endX [.tmp 6] (codeL EV Y F117B (sp 29 [(2, x2), (1, x1), (0, x0)]) H) := by
  rw [callL_eq (F := F117) rfl rfl, st_in3]; rfl
end
theorem EV_known : Known Go.Proofs.Try.prog EV := by
  refine Known.of (by kernel_rfl) fun f F h => ?_
  unfold EV at h
  split at h
  · cases h; exact ⟨_, _, _, Go.Proofs.Try.func4, by decide, ok4⟩
  · cases h; exact ⟨_, _, _, Go.Proofs.Try.func7, by decide, ok7⟩
  · cases h; exact ⟨_, _, _, Go.Proofs.Try.func8, by decide, ok8⟩
  · cases h; exact ⟨_, _, _, Go.Proofs.Try.func14, by decide, ok14⟩
  · cases h; exact ⟨_, _, _, Go.Proofs.Try.func17, by decide, ok17⟩
  · cases h; exact ⟨_, _, _, Go.Proofs.Try.func18, by decide, ok18⟩
  · cases h; exact ⟨_, _, _, Go.Proofs.Try.func19, by decide, ok19⟩
  · cases h; exact ⟨_, _, _, Go.Proofs.Try.func20, by decide, ok20⟩
  · cases h; exact ⟨_, _, _, Go.Proofs.Try.func21, by decide, ok21⟩
  · cases h; exact ⟨_, _, _, Go.Proofs.Try.func22, by decide, ok22⟩
  · cases h; exact ⟨_, _, _, Go.Proofs.Try.func23, by decide, ok23⟩
  · cases h; exact ⟨_, _, _, Go.Proofs.Try.func24, by decide, ok24⟩
  · cases h; exact ⟨_, _, _, Go.Proofs.Try.func25, by decide, ok25⟩
  · cases h; exact ⟨_, _, _, Go.Proofs.Try.func26, by decide, ok26⟩
  · cases h; exact ⟨_, _, _, Go.Proofs.Try.func27, by decide, ok27⟩
  · cases h; exact ⟨_, _, _, Go.Proofs.Try.func28, by decide, ok28⟩
  · cases h; exact ⟨_, _, _, Go.Proofs.Try.func29, by decide, ok29⟩
  · cases h; exact ⟨_, _, _, Go.Proofs.Try.func30, by decide, ok30⟩
  · cases h; exact ⟨_, _, _, Go.Proofs.Try.func31, by decide, ok31⟩
  · cases h; exact ⟨_, _, _, Go.Proofs.Try.func34, by decide, ok34⟩
  · cases h; exact ⟨_, _, _, Go.Proofs.Try.func35, by decide, ok35⟩
  · cases h; exact ⟨_, _, _, Go.Proofs.Try.func36, by decide, ok36⟩
  · cases h; exact ⟨_, _, _, Go.Proofs.Try.func37, by decide, ok37⟩
  · cases h; exact ⟨_, _, _, Go.Proofs.Try.func38, by decide, ok38⟩
  · cases h; exact ⟨_, _, _, Go.Proofs.Try.func39, by decide, ok39⟩
  · cases h; exact ⟨_, _, _, Go.Proofs.Try.func46, by decide, ok46⟩
  · cases h; exact ⟨_, _, _, Go.Proofs.Try.func47, by decide, ok47⟩
  · cases h; exact ⟨_, _, _, Go.Proofs.Try.func48, by decide, ok48⟩
  · cases h; exact ⟨_, _, _, Go.Proofs.Try.func51, by decide, ok51⟩
  · cases h; exact ⟨_, _, _, Go.Proofs.Try.func52, by decide, ok52⟩
  · cases h; exact ⟨_, _, _, Go.Proofs.Try.func53, by decide, ok53⟩
  · cases h; exact ⟨_, _, _, Go.Proofs.Try.func54, by decide, ok54⟩
  · cases h; exact ⟨_, _, _, Go.Proofs.Try.func55, by decide, ok55⟩
  · cases h; exact ⟨_, _, _, Go.Proofs.Try.func56, by decide, ok56⟩
  · cases h; exact ⟨_, _, _, Go.Proofs.Try.func57, by decide, ok57⟩
  · cases h; exact ⟨_, _, _, Go.Proofs.Try.func58, by decide, ok58⟩
  · cases h; exact ⟨_, _, _, Go.Proofs.Try.func59, by decide, ok59⟩
  · cases h; exact ⟨_, _, _, Go.Proofs.Try.func60, by decide, ok60⟩
  · cases h; exact ⟨_, _, _, Go.Proofs.Try.func61, by decide, ok61⟩
  · cases h; exact ⟨_, _, _, Go.Proofs.Try.func62, by decide, ok62⟩
  · cases h; exact ⟨_, _, _, Go.Proofs.Try.func63, by decide, ok63⟩
  · cases h; exact ⟨_, _, _, Go.Proofs.Try.func64, by decide, ok64⟩
  · cases h; exact ⟨_, _, _, Go.Proofs.Try.func65, by decide, ok65⟩
  · cases h; exact ⟨_, _, _, Go.Proofs.Try.func66, by decide, ok66⟩
  · cases h; exact ⟨_, _, _, Go.Proofs.Try.func67, by decide, ok67⟩
  · cases h; exact ⟨_, _, _, Go.Proofs.Try.func68, by decide, ok68⟩
  · cases h; exact ⟨_, _, _, Go.Proofs.Try.func69, by decide, ok69⟩
  · cases h; exact ⟨_, _, _, Go.Proofs.Try.func72, by decide, ok72⟩
  · cases h; exact ⟨_, _, _, Go.Proofs.Try.func73, by decide, ok73⟩
  · cases h; exact ⟨_, _, _, Go.Proofs.Try.func74, by decide, ok74⟩
  · cases h; exact ⟨_, _, _, Go.Proofs.Try.func75, by decide, ok75⟩
  · cases h; exact ⟨_, _, _, Go.Proofs.Try.func76, by decide, ok76⟩
  · cases h; exact ⟨_, _, _, Go.Proofs.Try.func77, by decide, ok77⟩
  · cases h; exact ⟨_, _, _, Go.Proofs.Try.func78, by decide, ok78⟩
  · cases h; exact ⟨_, _, _, Go.Proofs.Try.func79, by decide, ok79⟩
  · cases h; exact ⟨_, _, _, Go.Proofs.Try.func80, by decide, ok80⟩
  · cases h; exact ⟨_, _, _, Go.Proofs.Try.func81, by decide, ok81⟩
  · cases h; exact ⟨_, _, _, Go.Proofs.Try.func82, by decide, ok82⟩
  · cases h; exact ⟨_, _, _, Go.Proofs.Try.func83, by decide, ok83⟩
  · cases h; exact ⟨_, _, _, Go.Proofs.Try.func84, by decide, ok84⟩
  · cases h; exact ⟨_, _, _, Go.Proofs.Try.func85, by decide, ok85⟩
  · cases h; exact ⟨_, _, _, Go.Proofs.Try.func86, by decide, ok86⟩
  · cases h; exact ⟨_, _, _, Go.Proofs.Try.func87, by decide, ok87⟩
  · cases h; exact ⟨_, _, _, Go.Proofs.Try.func88, by decide, ok88⟩
  · cases h; exact ⟨_, _, _, Go.Proofs.Try.func89, by decide, ok89⟩
  · cases h; exact ⟨_, _, _, Go.Proofs.Try.func90, by decide, ok90⟩
  · cases h; exact ⟨_, _, _, Go.Proofs.Try.func91, by decide, ok91⟩
  · cases h; exact ⟨_, _, _, Go.Proofs.Try.func92, by decide, ok92⟩
  · cases h; exact ⟨_, _, _, Go.Proofs.Try.func93, by decide, ok93⟩
  · cases h; exact ⟨_, _, _, Go.Proofs.Try.func94, by decide, ok94⟩
  · cases h; exact ⟨_, _, _, Go.Proofs.Try.func95, by decide, ok95⟩
  · cases h; exact ⟨_, _, _, Go.Proofs.Try.func96, by decide, ok96⟩
  · cases h; exact ⟨_, _, _, Go.Proofs.Try.func97, by decide, ok97⟩
  · cases h; exact ⟨_, _, _, Go.Proofs.Try.func98, by decide, ok98⟩
  · cases h; exact ⟨_, _, _, Go.Proofs.Try.func114, by decide, ok114⟩
  · cases h; exact ⟨_, _, _, Go.Proofs.Try.func115, by decide, ok115⟩
  · cases h; exact ⟨_, _, _, Go.Proofs.Try.func116, by decide, ok116⟩
  · cases h; exact ⟨_, _, _, Go.Proofs.Try.func117, by decide, ok117⟩
  · cases h
end Go.X
