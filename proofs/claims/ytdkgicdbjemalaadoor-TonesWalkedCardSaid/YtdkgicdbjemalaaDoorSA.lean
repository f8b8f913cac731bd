import Derived.Test.YtdkgicdbjemalaaDoorRC
/-! Tones: ways from the first knot, each with the figures beside it: lists of sets of wires, compared in the kernel. -/
set_option linter.unusedSimpArgs false
set_option linter.unusedVariables false
set_option maxRecDepth 10000
namespace Go.X

/-- Ways from a knot on to another one, each with the figures on the knots that are left. -/
def wayY (n u : Nat) : Nat → Nat → Nat → Nat → Nat → List Ent
  | 0, _, _, _, _ => []
  | d + 1, p, left, cur, len => if p = u then mulE cur len 1 (ovY n (-1) (-2) 7 left) else (List.range n).flatMap fun k => if left.testBit k then wayY n u d k (dl left (2 ^ k)) (cur ||| eb p k) (len + 1) else []
def psY (n u : Nat) : List Ent := wayY n u 7 0 (dl (full n) 1) 0 0
def stepY (n u : Nat) : List Ent := ((List.range n).flatMap fun c => if c = u then [] else mulE (eb c u) 1 1 (psY n c)) ++ (if u = 0 then tnL n else [])
def walkB (n u : Nat) : Bool := sameE (psY n u) (stepY n u)
set_option maxRecDepth 1000000 in
theorem walk_6 : ((List.range 7).all fun n => (List.range n).all fun u => walkB n u) = true := by kernel_rfl

/-- The order of the knots that begins with a certain one. -/
def headL (n v : Nat) : List Nat := v :: (List.range n).filter fun c => c != v
/-- Each figure as often as there are knots without it. -/
def lessW (n : Nat) (L : List Ent) : List Ent := L.flatMap fun x => if x.2.1 = n then [] else [(x.1, x.2.1, ((n : Int) - (x.2.1 : Int)) * x.2.2)]
def traceB (n : Nat) : Bool := sameE ((List.range n).flatMap fun v => renE (headL n v) (psY n 0)) (lessW n (tnL n)) && (psY n 0).all fun x => Nat.blt x.1 (2 ^ (n * (n - 1) / 2))
set_option maxRecDepth 1000000 in
theorem trace_6 : ((List.range 7).all fun n => traceB n) = true := by kernel_rfl
end Go.X
