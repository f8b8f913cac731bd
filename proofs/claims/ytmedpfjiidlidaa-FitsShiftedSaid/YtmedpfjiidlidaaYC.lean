import Derived.Test.YtmedpfjiidlidaaYA
import Derived.Test.YtmedpfjiidlidaaYB
/-! The law on lasting mixtures holds of the small machine. -/
set_option linter.unusedSimpArgs false
set_option linter.unusedVariables false
set_option maxHeartbeats 2000000
set_option maxRecDepth 10000
namespace Go.X
open Go Go.RowKit
section
variable {Y : Run} {H : Heap}

theorem mixL_drop : ∀ (l : List (List Int × Int)) (i : Nat) (hi : i < l.length), (mixL l).drop (i * 2) = .imm false (l[i].1.map vI) l[i].1.length :: vI l[i].2 :: (mixL l).drop ((i + 1) * 2)
  | [], i, hi => by simp at hi
  | x :: l, 0, hi => rfl
  | x :: l, i + 1, hi => by
    have h := mixL_drop l i (by simpa using hi)
    have e : ∀ k, (mixL (x :: l)).drop ((k + 1) * 2) = (mixL l).drop (k * 2) := by
      intro k
      have : (k + 1) * 2 = k * 2 + 2 := by omega
      rw [this]; rfl
    rw [e, e, h]; rfl

theorem mixL_len : ∀ (l : List (List Int × Int)), (mixL l).length = l.length * 2
  | [] => rfl
  | x :: l => by
    have := mixL_len l
    have e : (mixL (x :: l)).length = (mixL l).length + 2 := rfl
    rw [e, this, List.length_cons]; omega

theorem IsLst.pts {w : AV} {l : List (List Int × Int)} (h : IsLst w l.length (mixL l)) : IsPts w l := by
  rcases h with ⟨h0, rfl⟩ | ⟨s, rfl⟩
  · have : l = [] := List.eq_nil_of_length_eq_zero h0
    subst this; exact .nil
  · exact .imm s _ l (mixL_len l) fun i hi => ⟨_, .imm false _, mixL_drop l i hi⟩

theorem lasting_rows {t : List (List Int)} (hok : okTab t) : (lastingS t).length ≤ 1000 ∧ ∀ x ∈ lastingS t, x.1.length ≤ 1000 := by
  have h8 : 2 ^ t.length ≤ 8 := Nat.pow_le_pow_right (by decide) hok.2.1 (n := 2)
  constructor
  · have := List.length_filterMap_le (pickS t) (List.range' 1 (2 ^ t.length - 1))
    unfold lastingS
    rw [List.length_range'] at this
    omega
  · intro x hx
    obtain ⟨set, h1, h2⟩ := List.mem_filterMap.1 hx
    rw [List.mem_range'_1] at h1
    unfold pickS at h2
    cases hr : restS t set with
    | none => rw [hr] at h2; cases h2
    | some y =>
      rw [hr] at h2
      simp only at h2
      split at h2
      · cases h2
        obtain ⟨_, _, _, h, _⟩ := resP_some hok (by omega) (by omega) (x := x.1) (d := x.2) hr
        have := hok.2.1
        omega
      · cases h2

end
end Go.X
