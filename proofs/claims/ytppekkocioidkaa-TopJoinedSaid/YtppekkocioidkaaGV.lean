import Derived.Test.YtppekkocioidkaaX0
/-! What the program's package variables hold. -/
namespace Go.X
def gval : Nat → AV := fun _ => .undef
end Go.X
