import Derived.Test.YtdkgicdbjemalaaDoorX0
/-! What the program's package variables hold. -/
namespace Go.X
/-- The numbers of 'bits.deBruijn64tab'. -/
def dbTab : List Int := [0, 1, 56, 2, 57, 49, 28, 3, 61, 58, 42, 50, 38, 29, 17, 4, 62, 47, 59, 36, 45, 43, 51, 22, 53, 39, 33, 30, 24, 18, 12, 5, 63, 55, 48, 27, 60, 41, 37, 16, 46, 35, 44, 21, 52, 32, 23, 11, 54, 26, 40, 15, 34, 20, 31, 10, 25, 14, 19, 9, 13, 8, 7, 6]
def gval : Nat → AV
  | 0 => .cptr false [.fn 139 [], .fn 140 []]
  | 1 => .cptr false [.fn 141 [], .fn 142 []]
  | 2 => .cptr false [.fn 143 [], .fn 144 []]
  | 4 => .cptr false (dbTab.map fun n => .int .u8 n)
  | _ => .undef
end Go.X
