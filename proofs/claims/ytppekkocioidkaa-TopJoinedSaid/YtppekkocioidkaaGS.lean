/-! Functions that change no memory. -/
namespace Go.X
def gstill : Nat → Bool := fun _ => false
end Go.X
