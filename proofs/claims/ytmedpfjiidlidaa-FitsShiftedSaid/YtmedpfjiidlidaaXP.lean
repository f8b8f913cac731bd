import Derived.Test.YtmedpfjiidlidaaXN
/-! Which mixtures last: the specification's way. -/
set_option linter.unusedSimpArgs false
set_option linter.unusedVariables false
set_option maxHeartbeats 2000000
set_option maxRecDepth 10000
namespace Go.X
open Go Go.RowKit
section
variable {Y : Run} {H : Heap}

/-- One step for one list: it grows, or it does not. -/
theorem Gro.step {k n i : Nat} {v w : AV} {l : List Int} {cs : List AV} (h : Gro k 1 H v l.length (l.map vI)) (hw : Gro k 1 H w n cs) (ha : apartW v w) (hk : k ≤ H.length) (hl : l.length ≤ 1000) :
    ∃ v' H', appA (H ++ [⟨0, [vI i]⟩]) 1 8 v (.sl H.length 0 1 0 1 none) = some (v', H') ∧ Gro k 1 H' v' (l ++ [(i : Int)]).length ((l ++ [(i : Int)]).map vI) ∧ Gro k 1 H' w n cs ∧ apartW v' w ∧ (∀ j, j < k → H'[j]? = H[j]?) ∧ H.length ≤ H'.length := by
  obtain ⟨v', H', g1, g2, g3, g4, g5⟩ := h.app2 (bytes := 8) (ys := [vI i]) hk rfl rfl (by omega) (by omega)
  have hid : ∀ j, idOf v = some j → k ≤ j := by
    intro j hj
    obtain ⟨_, ⟨_, rfl⟩ | ⟨id, ver, hid, rfl, _⟩⟩ := h
    · cases hj
    · cases hj; exact hid
  refine ⟨v', H', g1, by simpa using g2, hw.keep fun j hj => g3 j (hw.id_lt hj) fun e => ha j e hj, fun j hj => ?_, fun j hj => g3 j (by omega) fun e => by have := hid j e; omega, g4⟩
  rcases g5 with e | ⟨j', e, hge⟩
  · exact ha j (by rw [← e]; exact hj)
  · intro hw'
    have := hw.id_lt hw'
    rw [e] at hj; cases hj; omega

theorem apartW.symm {v w : AV} (h : apartW v w) : apartW w v := fun j hj e => h j e hj

end
end Go.X

/-! Both ways to find what lasts come to the same. -/
set_option linter.unusedSimpArgs false
set_option linter.unusedVariables false
set_option maxHeartbeats 2000000
set_option maxRecDepth 10000
namespace Go.X
open Go Go.RowKit
section
variable {Y : Run} {H : Heap}

/-- The fashions of a set. -/
def mem (s n : Nat) : List Nat := (List.range n).filter (bit s)

end
end Go.X
