import Derived.Test.YtchgifdkhknppaaUV
import Derived.Test.YtchgifdkhknppaaUT
import Derived.Test.YtchgifdkhknppaaVQ
import Derived.KernelRfl
/-! Veils: checks of all pairings. Printed by a program of our own (genpw.py). -/
set_option linter.unusedVariables false
namespace Go.X
open Go Go.RowKit

def okE (pre : List Int) (v : Nat) : Bool :=
  decide (v ≠ pre.length) && ((if v < pre.length then decide (pre.getD v 0 = pre.length) else (List.range pre.length).all fun j => decide (pre.getD j 0 ≠ v)) && (List.range pre.length).all fun j => decide (pre.getD j 0 = pre.length → v = j))
def extE (m : Nat) : Nat → List Int → List (List Int)
  | 0, pre => [pre]
  | k + 1, pre => (List.range m).flatMap fun v => if okE pre v then extE m k (pre ++ [(v : Int)]) else []
theorem extE_all {l : List Int} (hp : isPr l = true) : ∀ (k : Nat), k ≤ l.length → l ∈ extE l.length k (l.take (l.length - k))
  | 0, _ => by simp [extE]
  | k + 1, hk => by
    obtain ⟨p1, p2⟩ := isPr_at hp
    have ih := extE_all hp k (by omega)
    generalize hi : l.length - (k + 1) = i
    have hil : i < l.length := by omega
    rw [show l.length - k = i + 1 by omega, List.take_succ_eq_append_getElem hil] at ih
    obtain ⟨v, hv⟩ : ∃ v : Nat, l[i] = v := ⟨l[i].toNat, by have := (p2 i hil).1; rw [getD_get hil] at this; omega⟩
    have pi := p2 i hil
    rw [getD_get hil, hv] at pi
    rw [Int.toNat_natCast] at pi
    unfold extE
    rw [List.mem_flatMap]
    have hvl : v < l.length := by omega
    refine ⟨v, List.mem_range.2 hvl, ?_⟩
    have lt : (l.take i).length = i := by rw [List.length_take]; omega
    have gt : ∀ j, j < i → (l.take i).getD j 0 = l.getD j 0 := fun j hj => by
      rw [List.getD_eq_getElem?_getD, List.getElem?_take_of_lt hj, ← List.getD_eq_getElem?_getD]
    have ok : okE (l.take i) v = true := by
      unfold okE
      rw [lt]
      simp only [Bool.and_eq_true, decide_eq_true_eq, List.all_eq_true, List.mem_range]
      refine ⟨fun e => pi.2.2.1 (by omega), ?_, fun j hj e => ?_⟩
      · by_cases c : v < i
        · rw [if_pos c, decide_eq_true_eq, gt v c]; exact pi.2.2.2
        · rw [if_neg c, List.all_eq_true]
          intro j hj
          rw [List.mem_range] at hj
          rw [decide_eq_true_eq, gt j hj]
          intro e
          have := (p2 j (by omega)).2.2.2
          rw [e, Int.toNat_natCast, pi.2.2.2] at this
          omega
      · rw [gt j hj] at e
        have := (p2 j (by omega)).2.2.2
        rw [e, Int.toNat_natCast, getD_get hil, hv] at this
        omega
    rw [if_pos ok, ← hv]
    exact ih
def mats (n : Nat) : List (List Int) := extE (2 * n) (2 * n) []
theorem mats_all {n : Nat} {l : List Int} (hp : isPr l = true) (hl : l.length = 2 * n) : l ∈ mats n := by
  have := extE_all hp l.length (Nat.le_refl _)
  rw [Nat.sub_self, List.take_zero, hl] at this
  exact this

def cntK (n : Nat) (l : List Int) : Nat := ((pq n).filter fun c => dq n c.2 == l).length
def chkM (n : Nat) (l : List Int) : Bool := !isPr l || (isPr (arP l) && (if crossP l then crossP (arP l) else !crossP (arP l) && (Nat.ble 1 (cntK n l) && Nat.beq (cntK n (arP l)) (cntK n l))))
def chkC (n : Nat) (c : Nat × Nat) : Bool := isPr (dq n c.2) && !crossP (dq n c.2)
def chkG (n : Nat) (c : Nat × Nat) : Bool := pairP (gyr n (hgtT (dec n c.1))) n == some (arP (dq n c.2))
theorem mats1 : (mats 1).all (chkM 1) = true := by kernel_rfl
theorem ccs1 : (pq 1).all (chkC 1) = true := by kernel_rfl
theorem mats2 : (mats 2).all (chkM 2) = true := by kernel_rfl
theorem ccs2 : (pq 2).all (chkC 2) = true := by kernel_rfl
theorem mats3 : (mats 3).all (chkM 3) = true := by kernel_rfl
theorem ccs3 : (pq 3).all (chkC 3) = true := by kernel_rfl
theorem mats4 : (mats 4).all (chkM 4) = true := by kernel_rfl
theorem ccs4 : (pq 4).all (chkC 4) = true := by kernel_rfl
theorem ccs5 : (pq 5).all (chkC 5) = true := by kernel_rfl
theorem gyrs1 : (pq 1).all (chkG 1) = true := by kernel_rfl
theorem gyrs2 : (pq 2).all (chkG 2) = true := by kernel_rfl
theorem gyrs3 : (pq 3).all (chkG 3) = true := by kernel_rfl
theorem gyrs4 : (pq 4).all (chkG 4) = true := by kernel_rfl
theorem mats5_1 : (extE 10 9 [1]).all (chkM 5) = true := by kernel_rfl
theorem mats5_2 : (extE 10 9 [2]).all (chkM 5) = true := by kernel_rfl
theorem mats5_3 : (extE 10 9 [3]).all (chkM 5) = true := by kernel_rfl
theorem mats5_4 : (extE 10 9 [4]).all (chkM 5) = true := by kernel_rfl
theorem mats5_5 : (extE 10 9 [5]).all (chkM 5) = true := by kernel_rfl
theorem mats5_6 : (extE 10 9 [6]).all (chkM 5) = true := by kernel_rfl
theorem mats5_7 : (extE 10 9 [7]).all (chkM 5) = true := by kernel_rfl
theorem mats5_8 : (extE 10 9 [8]).all (chkM 5) = true := by kernel_rfl
theorem mats5_9 : (extE 10 9 [9]).all (chkM 5) = true := by kernel_rfl
theorem mats5 : (mats 5).all (chkM 5) = true := by
  rw [List.all_eq_true]
  intro l hl
  have e : mats 5 = (List.range 10).flatMap fun v => if okE [] v then extE 10 9 ([] ++ [(v : Int)]) else [] := rfl
  rw [e, List.mem_flatMap] at hl
  obtain ⟨v, hv, hl⟩ := hl
  rw [List.mem_range] at hv
  have hc : v = 0 ∨ v = 1 ∨ v = 2 ∨ v = 3 ∨ v = 4 ∨ v = 5 ∨ v = 6 ∨ v = 7 ∨ v = 8 ∨ v = 9 := by omega
  rcases hc with rfl | rfl | rfl | rfl | rfl | rfl | rfl | rfl | rfl | rfl
  · rw [if_neg (by decide)] at hl; cases hl
  · rw [if_pos (by decide)] at hl; exact List.all_eq_true.1 mats5_1 l hl
  · rw [if_pos (by decide)] at hl; exact List.all_eq_true.1 mats5_2 l hl
  · rw [if_pos (by decide)] at hl; exact List.all_eq_true.1 mats5_3 l hl
  · rw [if_pos (by decide)] at hl; exact List.all_eq_true.1 mats5_4 l hl
  · rw [if_pos (by decide)] at hl; exact List.all_eq_true.1 mats5_5 l hl
  · rw [if_pos (by decide)] at hl; exact List.all_eq_true.1 mats5_6 l hl
  · rw [if_pos (by decide)] at hl; exact List.all_eq_true.1 mats5_7 l hl
  · rw [if_pos (by decide)] at hl; exact List.all_eq_true.1 mats5_8 l hl
  · rw [if_pos (by decide)] at hl; exact List.all_eq_true.1 mats5_9 l hl
theorem gyrs5_0 : pq5_0.all (chkG 5) = true := by kernel_rfl
theorem gyrs5_1 : pq5_1.all (chkG 5) = true := by kernel_rfl
theorem gyrs5_2 : pq5_2.all (chkG 5) = true := by kernel_rfl
theorem gyrs5_3 : pq5_3.all (chkG 5) = true := by kernel_rfl
theorem gyrs5_4 : pq5_4.all (chkG 5) = true := by kernel_rfl
theorem gyrs5_5 : pq5_5.all (chkG 5) = true := by kernel_rfl
theorem gyrs5_6 : pq5_6.all (chkG 5) = true := by kernel_rfl
theorem gyrs5_7 : pq5_7.all (chkG 5) = true := by kernel_rfl
theorem gyrs5_8 : pq5_8.all (chkG 5) = true := by kernel_rfl
theorem gyrs5_9 : pq5_9.all (chkG 5) = true := by kernel_rfl
theorem gyrs5_10 : pq5_10.all (chkG 5) = true := by kernel_rfl
theorem gyrs5 : (pq 5).all (chkG 5) = true := by
  unfold pq pq5
  simp only [List.all_append, gyrs5_0, gyrs5_1, gyrs5_2, gyrs5_3, gyrs5_4, gyrs5_5, gyrs5_6, gyrs5_7, gyrs5_8, gyrs5_9, gyrs5_10, Bool.and_self]
theorem mats_ok {n : Nat} (h1 : 1 ≤ n) (h5 : n ≤ 5) : (mats n).all (chkM n) = true := by
  have : n = 1 ∨ n = 2 ∨ n = 3 ∨ n = 4 ∨ n = 5 := by omega
  rcases this with rfl | rfl | rfl | rfl | rfl
  · exact mats1
  · exact mats2
  · exact mats3
  · exact mats4
  · exact mats5
theorem ccs_ok {n : Nat} (h1 : 1 ≤ n) (h5 : n ≤ 5) : (pq n).all (chkC n) = true := by
  have : n = 1 ∨ n = 2 ∨ n = 3 ∨ n = 4 ∨ n = 5 := by omega
  rcases this with rfl | rfl | rfl | rfl | rfl
  · exact ccs1
  · exact ccs2
  · exact ccs3
  · exact ccs4
  · exact ccs5
theorem gyrs_ok {n : Nat} (h1 : 1 ≤ n) (h5 : n ≤ 5) : (pq n).all (chkG n) = true := by
  have : n = 1 ∨ n = 2 ∨ n = 3 ∨ n = 4 ∨ n = 5 := by omega
  rcases this with rfl | rfl | rfl | rfl | rfl
  · exact gyrs1
  · exact gyrs2
  · exact gyrs3
  · exact gyrs4
  · exact gyrs5
end Go.X
