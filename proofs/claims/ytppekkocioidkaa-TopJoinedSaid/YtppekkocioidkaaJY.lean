import Derived.Test.YtppekkocioidkaaJF
import Derived.Test.YtppekkocioidkaaQC
/-! The number of bits of a small number: the library's table is a string, that the small machine does not know. -/
set_option linter.unusedSimpArgs false
set_option linter.unusedVariables false
namespace Go.Proofs
open Go.RowKit

def lenB (n : Nat) : Nat := if n = 0 then 0 else if n ≤ 1 then 1 else if n ≤ 3 then 2 else if n ≤ 7 then 3 else 4

set_option maxHeartbeats 4000000 in
set_option maxRecDepth 100000 in
theorem len34 (n : Nat) (hn : n ≤ 8) (w : World) : Calls Try.prog 34 #[.int .u64 (n : Int)] w fun e w' => e = .returned (.int .i64 ((lenB n : Nat) : Int)) ∧ w' = w := by
  match n, hn with
  | 0, _ | 1, _ | 2, _ | 3, _ | 4, _ | 5, _ | 6, _ | 7, _ | 8, _ =>
    go_enter Try.func34, Try.ntmps34
    go_wp2
    go_ret
    exact ⟨by kernel_rfl, rfl⟩
  | n + 9, h => omega
end Go.Proofs

namespace Go.X
open Go Go.RowKit Go.Proofs

def yL : Run := fun f args H => if f = 34 then match args with
  | [.int .u64 x] => if 0 ≤ x ∧ x ≤ 8 then some (vI ((lenB x.toNat : Nat) : Int), H) else none
  | _ => none
  else none

theorem yL_sound {W : World} [GlobOk W] : CallSound Try.prog W yL := by
  intro f args H v H' h
  unfold yL at h
  split at h
  · rename_i hf
    subst hf
    split at h
    · rename_i x
      split at h
      · rename_i hx
        cases h
        refine ⟨⟨⟨Try.f34, Try.func34, by decide, by kernel_rfl⟩, fun _ => rfl⟩, fun G w cargs hR ha => ?_⟩
        match cargs, ha with
        | [c], ha =>
          have h2 := ha.head.1
          cases h2
          obtain ⟨n, rfl⟩ := Int.eq_ofNat_of_zero_le hx.1
          have hn : n ≤ 8 := by omega
          refine (len34 n hn w).mono ?_
          rintro e w' ⟨rfl, rfl⟩
          exact ⟨_, G, rfl, .int _ _, hR, Ext.refl G _ _, Gr.same rfl⟩
        | [], ha => exact absurd ha.1 (by simp)
        | _ :: _ :: _, ha => exact absurd ha.1 (by simp)
      · cases h
    · cases h
  · cases h
end Go.X
