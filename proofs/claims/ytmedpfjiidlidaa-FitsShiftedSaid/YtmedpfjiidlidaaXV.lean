import Derived.Test.YtmedpfjiidlidaaXQ
import Derived.Test.YtmedpfjiidlidaaXS
/-! The mixture against which some fashions gain the same: the specification's way. -/
set_option linter.unusedSimpArgs false
set_option linter.unusedVariables false
set_option maxHeartbeats 2000000
set_option maxRecDepth 10000
namespace Go.X
open Go Go.RowKit
section
variable {Y : Run} {H : Heap}

/-- Numbers over a divisor, and whether they are above 0 just where they should be. -/
def fairL (set : Nat) (g : Int) : Nat → List Int → Bool
  | _, [] => true
  | i, x :: l => (decide (x.tdiv g > 0) == bit set i) && fairL set g (i + 1) l

theorem Gro.sl {k e n : Nat} {v : AV} {cells : List AV} (h : Gro k e H v n cells) (h0 : 0 < n) : ∃ id ver, k ≤ id ∧ v = .sl id ver e 0 n none := by
  obtain ⟨h1, ⟨rfl, rfl⟩ | ⟨id, ver, hid, rfl, hH⟩⟩ := h
  · omega
  · exact ⟨id, ver, hid, rfl⟩

theorem Gro.free {k n d : Nat} {v : AV} {l : List Int} (h : Gro k 1 H v n (l.map vI)) (h0 : 0 < n) : freeA H (d + 2) v = some (.imm false (l.map vI) l.length) := by
  obtain ⟨h1, ⟨rfl, rfl⟩ | ⟨id, ver, hid, rfl, hH⟩⟩ := h
  · omega
  · have hn : n = l.length := by simpa using h1.symm
    subst hn
    rw [free_sl, hH, freeS_some, if_pos (by simp), List.drop_zero, Nat.mul_one, List.take_of_length_le (by simp), mapM_free, freeB_some]

/-- What the specification returns for a list of numbers. -/
def resR (l : List Int) (set : Nat) : AV :=
  if sumL l = 0 then .tup [.agg [.nils, vI 0], vI 10]
  else if fairL set (divS l) 0 l = true then .tup [.agg [.imm false ((l.map fun x => x.tdiv (divS l)).map vI) l.length, vI ((sumL l).tdiv (divS l))], vI 0]
  else .tup [.agg [.nils, vI 0], vI 10]

end
end Go.X
