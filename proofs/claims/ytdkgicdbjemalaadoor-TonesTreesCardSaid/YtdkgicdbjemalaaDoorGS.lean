/-! Functions that change no memory. -/
namespace Go.X
def gstill (f : Nat) : Bool := f == 106
end Go.X
