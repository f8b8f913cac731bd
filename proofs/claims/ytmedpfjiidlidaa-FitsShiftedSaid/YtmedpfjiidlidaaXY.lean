import Derived.Test.YtmedpfjiidlidaaXR
import Derived.Test.YtmedpfjiidlidaaXW
/-! The mixture against which some fashions gain the same, for all tables and sets. -/
set_option linter.unusedSimpArgs false
set_option linter.unusedVariables false
set_option maxHeartbeats 2000000
set_option maxRecDepth 10000
namespace Go.X
open Go Go.RowKit
section
variable {Y : Run} {H : Heap}

/-- The parts as they come, before they are divided. -/
def numsT (t : List (List Int)) (set : Nat) : List Int :=
  match mem set t.length with
  | [i] => (List.replicate t.length 0).set i 1
  | [i, k] => ((List.replicate t.length 0).set i (tat t i k - tat t k k)).set k (tat t k i - tat t i i)
  | _ => [(tat t 0 1 - tat t 1 1) * (tat t 0 2 - tat t 2 2) - (tat t 0 2 - tat t 1 2) * (tat t 0 1 - tat t 2 1),
          (tat t 0 2 - tat t 1 2) * (tat t 0 0 - tat t 2 0) - (tat t 0 0 - tat t 1 0) * (tat t 0 2 - tat t 2 2),
          (tat t 0 0 - tat t 1 0) * (tat t 0 1 - tat t 2 1) - (tat t 0 1 - tat t 1 1) * (tat t 0 0 - tat t 2 0)]

theorem resting48 {vt : AV} {t : List (List Int)} {set : Nat} (ht : IsTab vt t) (hok : okTab t) (h0 : 0 < set) (hs : set < 2 ^ t.length) :
    freeX H (callL E Y 48 [vt, vI set] []) = some (resP (numsT t set) set, H) := by
  have hT := hok.tame
  rcases shapes hok with ⟨a, rfl⟩ | ⟨a, b, c, d, rfl⟩ | ⟨a, b, c, d, e, f, g, h, i, rfl⟩
  · obtain ⟨s, v, rfl, h1⟩ := tab_one ht
    obtain ⟨s0, rfl⟩ := row1 h1
    have hs : set < 2 := hs
    obtain rfl : set = 1 := by omega
    have e : numsT [[a]] 1 = [1] := by kernel_rfl
    rw [e]; exact c48_1
  · obtain ⟨s, v, w, rfl, h1, h2⟩ := tab_two ht
    obtain ⟨s0, rfl⟩ := row2 h1
    obtain ⟨s1, rfl⟩ := row2 h2
    have hs : set < 4 := hs
    rcases (show set = 1 ∨ set = 2 ∨ set = 3 by omega) with rfl | rfl | rfl
    · have nE : numsT [[a, b], [c, d]] 1 = [1, 0] := by kernel_rfl
      rw [nE]; exact c48_2_1 (hT [a, b] (by simp) a (by simp)) (hT [a, b] (by simp) b (by simp)) (hT [c, d] (by simp) c (by simp)) (hT [c, d] (by simp) d (by simp))
    · have nE : numsT [[a, b], [c, d]] 2 = [0, 1] := by kernel_rfl
      rw [nE]; exact c48_2_2 (hT [a, b] (by simp) a (by simp)) (hT [a, b] (by simp) b (by simp)) (hT [c, d] (by simp) c (by simp)) (hT [c, d] (by simp) d (by simp))
    · have nE : numsT [[a, b], [c, d]] 3 = [b - d, c - a] := by kernel_rfl
      rw [nE]; exact c48_2_3 (hT [a, b] (by simp) a (by simp)) (hT [a, b] (by simp) b (by simp)) (hT [c, d] (by simp) c (by simp)) (hT [c, d] (by simp) d (by simp))
  · obtain ⟨s, v, w, x, rfl, h1, h2, h3⟩ := tab_three ht
    obtain ⟨s0, rfl⟩ := row3 h1
    obtain ⟨s1, rfl⟩ := row3 h2
    obtain ⟨s2, rfl⟩ := row3 h3
    have hs : set < 8 := hs
    rcases (show set = 1 ∨ set = 2 ∨ set = 3 ∨ set = 4 ∨ set = 5 ∨ set = 6 ∨ set = 7 by omega) with rfl | rfl | rfl | rfl | rfl | rfl | rfl
    · have nE : numsT [[a, b, c], [d, e, f], [g, h, i]] 1 = [1, 0, 0] := by kernel_rfl
      rw [nE]; exact c48_3_1 (hT [a, b, c] (by simp) a (by simp)) (hT [a, b, c] (by simp) b (by simp)) (hT [a, b, c] (by simp) c (by simp)) (hT [d, e, f] (by simp) d (by simp)) (hT [d, e, f] (by simp) e (by simp)) (hT [d, e, f] (by simp) f (by simp)) (hT [g, h, i] (by simp) g (by simp)) (hT [g, h, i] (by simp) h (by simp)) (hT [g, h, i] (by simp) i (by simp))
    · have nE : numsT [[a, b, c], [d, e, f], [g, h, i]] 2 = [0, 1, 0] := by kernel_rfl
      rw [nE]; exact c48_3_2 (hT [a, b, c] (by simp) a (by simp)) (hT [a, b, c] (by simp) b (by simp)) (hT [a, b, c] (by simp) c (by simp)) (hT [d, e, f] (by simp) d (by simp)) (hT [d, e, f] (by simp) e (by simp)) (hT [d, e, f] (by simp) f (by simp)) (hT [g, h, i] (by simp) g (by simp)) (hT [g, h, i] (by simp) h (by simp)) (hT [g, h, i] (by simp) i (by simp))
    · have nE : numsT [[a, b, c], [d, e, f], [g, h, i]] 3 = [b - e, d - a, 0] := by kernel_rfl
      rw [nE]; exact c48_3_3 (hT [a, b, c] (by simp) a (by simp)) (hT [a, b, c] (by simp) b (by simp)) (hT [a, b, c] (by simp) c (by simp)) (hT [d, e, f] (by simp) d (by simp)) (hT [d, e, f] (by simp) e (by simp)) (hT [d, e, f] (by simp) f (by simp)) (hT [g, h, i] (by simp) g (by simp)) (hT [g, h, i] (by simp) h (by simp)) (hT [g, h, i] (by simp) i (by simp))
    · have nE : numsT [[a, b, c], [d, e, f], [g, h, i]] 4 = [0, 0, 1] := by kernel_rfl
      rw [nE]; exact c48_3_4 (hT [a, b, c] (by simp) a (by simp)) (hT [a, b, c] (by simp) b (by simp)) (hT [a, b, c] (by simp) c (by simp)) (hT [d, e, f] (by simp) d (by simp)) (hT [d, e, f] (by simp) e (by simp)) (hT [d, e, f] (by simp) f (by simp)) (hT [g, h, i] (by simp) g (by simp)) (hT [g, h, i] (by simp) h (by simp)) (hT [g, h, i] (by simp) i (by simp))
    · have nE : numsT [[a, b, c], [d, e, f], [g, h, i]] 5 = [c - i, 0, g - a] := by kernel_rfl
      rw [nE]; exact c48_3_5 (hT [a, b, c] (by simp) a (by simp)) (hT [a, b, c] (by simp) b (by simp)) (hT [a, b, c] (by simp) c (by simp)) (hT [d, e, f] (by simp) d (by simp)) (hT [d, e, f] (by simp) e (by simp)) (hT [d, e, f] (by simp) f (by simp)) (hT [g, h, i] (by simp) g (by simp)) (hT [g, h, i] (by simp) h (by simp)) (hT [g, h, i] (by simp) i (by simp))
    · have nE : numsT [[a, b, c], [d, e, f], [g, h, i]] 6 = [0, f - i, h - e] := by kernel_rfl
      rw [nE]; exact c48_3_6 (hT [a, b, c] (by simp) a (by simp)) (hT [a, b, c] (by simp) b (by simp)) (hT [a, b, c] (by simp) c (by simp)) (hT [d, e, f] (by simp) d (by simp)) (hT [d, e, f] (by simp) e (by simp)) (hT [d, e, f] (by simp) f (by simp)) (hT [g, h, i] (by simp) g (by simp)) (hT [g, h, i] (by simp) h (by simp)) (hT [g, h, i] (by simp) i (by simp))
    · have nE : numsT [[a, b, c], [d, e, f], [g, h, i]] 7 = [(b - e) * (c - i) - (c - f) * (b - h), (c - f) * (a - g) - (a - d) * (c - i), (a - d) * (b - h) - (b - e) * (a - g)] := by kernel_rfl
      rw [nE]; exact c48_3_7 (hT [a, b, c] (by simp) a (by simp)) (hT [a, b, c] (by simp) b (by simp)) (hT [a, b, c] (by simp) c (by simp)) (hT [d, e, f] (by simp) d (by simp)) (hT [d, e, f] (by simp) e (by simp)) (hT [d, e, f] (by simp) f (by simp)) (hT [g, h, i] (by simp) g (by simp)) (hT [g, h, i] (by simp) h (by simp)) (hT [g, h, i] (by simp) i (by simp))

/-- What all of it comes to. -/
def restS (t : List (List Int)) (set : Nat) : Option (List Int × Int) :=
  let l := numsT t set
  if sumL l ≠ 0 ∧ fairL set (divS l) 0 l = true then some (l.map (fun x => x.tdiv (divS l)), (sumL l).tdiv (divS l)) else none

/-- The parts of other fashions are 0. -/
def offL (set : Nat) : Nat → List Int → Prop
  | _, [] => True
  | i, x :: l => (bit set i = false → x = 0) ∧ offL set (i + 1) l

theorem flag1 {set : Nat} {g x : Int} (h0 : 0 < set) (hs : set < 2) : (decide (minI [x.tdiv g] ≥ 0) && ((fashS [x.tdiv g] : Int) == set)) = fairL set g 0 [x] := by
  obtain rfl : set = 1 := by omega
  simp only [minI, fashS, setS, fairL, bit, List.foldl_nil]
  generalize x.tdiv g = q
  by_cases h : q > 0
  · have : q ≥ 0 := by omega
    simp [h, this]
  · simp [h]

theorem flag2 {set : Nat} {g x y : Int} (h0 : 0 < set) (hs : set < 4) (ho : offL set 0 [x, y]) : (decide (minI [x.tdiv g, y.tdiv g] ≥ 0) && ((fashS [x.tdiv g, y.tdiv g] : Int) == set)) = fairL set g 0 [x, y] := by
  have hx : bit set 0 = false → x.tdiv g = 0 := fun h => by rw [ho.1 h]; exact Int.zero_tdiv _
  have hy : bit set 1 = false → y.tdiv g = 0 := fun h => by rw [ho.2.1 h]; exact Int.zero_tdiv _
  simp only [minI, fashS, setS, fairL, List.foldl_nil, List.foldl_cons]
  generalize x.tdiv g = q at *
  generalize y.tdiv g = r at *
  rcases (show set = 1 ∨ set = 2 ∨ set = 3 by omega) with rfl | rfl | rfl
  · have hy := hy (by decide)
    subst hy
    by_cases h : q > 0
    · have : min q 0 ≥ 0 := by omega
      simp [h, this, bit]
    · simp [h, bit]
  · have hx := hx (by decide)
    subst hx
    by_cases h : r > 0
    · have : min 0 r ≥ 0 := by omega
      simp [h, this, bit]
    · simp [h, bit]
  · by_cases h : q > 0 <;> by_cases h2 : r > 0
    · have : min q r ≥ 0 := by omega
      simp [h, h2, this, bit]
    all_goals simp [h, h2, bit]

theorem flag3 {set : Nat} {g x y z : Int} (h0 : 0 < set) (hs : set < 8) (ho : offL set 0 [x, y, z]) : (decide (minI [x.tdiv g, y.tdiv g, z.tdiv g] ≥ 0) && ((fashS [x.tdiv g, y.tdiv g, z.tdiv g] : Int) == set)) = fairL set g 0 [x, y, z] := by
  have hx : bit set 0 = false → x.tdiv g = 0 := fun h => by rw [ho.1 h]; exact Int.zero_tdiv _
  have hy : bit set 1 = false → y.tdiv g = 0 := fun h => by rw [ho.2.1 h]; exact Int.zero_tdiv _
  have hz : bit set 2 = false → z.tdiv g = 0 := fun h => by rw [ho.2.2.1 h]; exact Int.zero_tdiv _
  simp only [minI, fashS, setS, fairL, List.foldl_nil, List.foldl_cons]
  generalize x.tdiv g = q at *
  generalize y.tdiv g = r at *
  generalize z.tdiv g = p at *
  rcases (show set = 1 ∨ set = 2 ∨ set = 3 ∨ set = 4 ∨ set = 5 ∨ set = 6 ∨ set = 7 by omega) with rfl | rfl | rfl | rfl | rfl | rfl | rfl
  · obtain rfl := hy (by decide)
    obtain rfl := hz (by decide)
    by_cases h : q > 0
    · have : min (min q 0) 0 ≥ 0 := by omega
      simp [h, this, bit]
      try omega
    · simp [h, bit]
  · obtain rfl := hx (by decide)
    obtain rfl := hz (by decide)
    by_cases h : r > 0
    · have : min (min 0 r) 0 ≥ 0 := by omega
      simp [h, this, bit]
      try omega
    · simp [h, bit]
  · obtain rfl := hz (by decide)
    by_cases h : q > 0 <;> by_cases h2 : r > 0
    · have : min (min q r) 0 ≥ 0 := by omega
      simp [h, h2, this, bit]
      try omega
    all_goals simp [h, h2, bit]
  · obtain rfl := hx (by decide)
    obtain rfl := hy (by decide)
    by_cases h : p > 0
    · have : min (min 0 0) p ≥ 0 := by omega
      simp [h, this, bit]
      try omega
    · simp [h, bit]
  · obtain rfl := hy (by decide)
    by_cases h : q > 0 <;> by_cases h2 : p > 0
    · have : min (min q 0) p ≥ 0 := by omega
      simp [h, h2, this, bit]
      try omega
    all_goals simp [h, h2, bit]
  · obtain rfl := hx (by decide)
    by_cases h : r > 0 <;> by_cases h2 : p > 0
    · have : min (min 0 r) p ≥ 0 := by omega
      simp [h, h2, this, bit]
      try omega
    all_goals simp [h, h2, bit]
  · by_cases h : q > 0 <;> by_cases h2 : r > 0 <;> by_cases h3 : p > 0
    · have : min (min q r) p ≥ 0 := by omega
      simp [h, h2, h3, this, bit]
      try omega
    all_goals simp [h, h2, h3, bit]

/-- What is known of the parts as they come. -/
theorem nums_ok {t : List (List Int)} {set : Nat} (hok : okTab t) (h0 : 0 < set) (hs : set < 2 ^ t.length) :
    (numsT t set).length = t.length ∧ small (numsT t set) ∧ offL set 0 (numsT t set) := by
  have hT := hok.tame
  rcases shapes hok with ⟨a, rfl⟩ | ⟨a, b, c, d, rfl⟩ | ⟨a, b, c, d, e, f, g, h, i, rfl⟩
  · have hs : set < 2 := hs
    obtain rfl : set = 1 := by omega
    have nE : numsT [[a]] 1 = [1] := by kernel_rfl
    rw [nE]
    exact ⟨rfl, by intro x hx; simp at hx; omega, by simp [offL, bit]⟩
  · have hs : set < 4 := hs
    have b1 := hT [a, b] (by simp) a (by simp)
    have b2 := hT [a, b] (by simp) b (by simp)
    have b3 := hT [c, d] (by simp) c (by simp)
    have b4 := hT [c, d] (by simp) d (by simp)
    rcases (show set = 1 ∨ set = 2 ∨ set = 3 by omega) with rfl | rfl | rfl
    · have nE : numsT [[a, b], [c, d]] 1 = [1, 0] := by kernel_rfl
      rw [nE]
      exact ⟨rfl, by intro x hx; simp only [List.mem_cons, List.not_mem_nil, or_false] at hx; rcases hx with rfl | rfl <;> omega, by simp [offL, bit]⟩
    · have nE : numsT [[a, b], [c, d]] 2 = [0, 1] := by kernel_rfl
      rw [nE]
      exact ⟨rfl, by intro x hx; simp only [List.mem_cons, List.not_mem_nil, or_false] at hx; rcases hx with rfl | rfl <;> omega, by simp [offL, bit]⟩
    · have nE : numsT [[a, b], [c, d]] 3 = [b - d, c - a] := by kernel_rfl
      rw [nE]
      exact ⟨rfl, by intro x hx; simp only [List.mem_cons, List.not_mem_nil, or_false] at hx; rcases hx with rfl | rfl <;> omega, by simp [offL, bit]⟩
  · have hs : set < 8 := hs
    have b1 := hT [a, b, c] (by simp) a (by simp)
    have b2 := hT [a, b, c] (by simp) b (by simp)
    have b3 := hT [a, b, c] (by simp) c (by simp)
    have b4 := hT [d, e, f] (by simp) d (by simp)
    have b5 := hT [d, e, f] (by simp) e (by simp)
    have b6 := hT [d, e, f] (by simp) f (by simp)
    have b7 := hT [g, h, i] (by simp) g (by simp)
    have b8 := hT [g, h, i] (by simp) h (by simp)
    have b9 := hT [g, h, i] (by simp) i (by simp)
    rcases (show set = 1 ∨ set = 2 ∨ set = 3 ∨ set = 4 ∨ set = 5 ∨ set = 6 ∨ set = 7 by omega) with rfl | rfl | rfl | rfl | rfl | rfl | rfl
    · have nE : numsT [[a, b, c], [d, e, f], [g, h, i]] 1 = [1, 0, 0] := by kernel_rfl
      rw [nE]
      exact ⟨rfl, by intro x hx; simp only [List.mem_cons, List.not_mem_nil, or_false] at hx; rcases hx with rfl | rfl | rfl <;> omega, by simp [offL, bit]⟩
    · have nE : numsT [[a, b, c], [d, e, f], [g, h, i]] 2 = [0, 1, 0] := by kernel_rfl
      rw [nE]
      exact ⟨rfl, by intro x hx; simp only [List.mem_cons, List.not_mem_nil, or_false] at hx; rcases hx with rfl | rfl | rfl <;> omega, by simp [offL, bit]⟩
    · have nE : numsT [[a, b, c], [d, e, f], [g, h, i]] 3 = [b - e, d - a, 0] := by kernel_rfl
      rw [nE]
      exact ⟨rfl, by intro x hx; simp only [List.mem_cons, List.not_mem_nil, or_false] at hx; rcases hx with rfl | rfl | rfl <;> omega, by simp [offL, bit]⟩
    · have nE : numsT [[a, b, c], [d, e, f], [g, h, i]] 4 = [0, 0, 1] := by kernel_rfl
      rw [nE]
      exact ⟨rfl, by intro x hx; simp only [List.mem_cons, List.not_mem_nil, or_false] at hx; rcases hx with rfl | rfl | rfl <;> omega, by simp [offL, bit]⟩
    · have nE : numsT [[a, b, c], [d, e, f], [g, h, i]] 5 = [c - i, 0, g - a] := by kernel_rfl
      rw [nE]
      exact ⟨rfl, by intro x hx; simp only [List.mem_cons, List.not_mem_nil, or_false] at hx; rcases hx with rfl | rfl | rfl <;> omega, by simp [offL, bit]⟩
    · have nE : numsT [[a, b, c], [d, e, f], [g, h, i]] 6 = [0, f - i, h - e] := by kernel_rfl
      rw [nE]
      exact ⟨rfl, by intro x hx; simp only [List.mem_cons, List.not_mem_nil, or_false] at hx; rcases hx with rfl | rfl | rfl <;> omega, by simp [offL, bit]⟩
    · have nE : numsT [[a, b, c], [d, e, f], [g, h, i]] 7 = [(b - e) * (c - i) - (c - f) * (b - h), (c - f) * (a - g) - (a - d) * (c - i), (a - d) * (b - h) - (b - e) * (a - g)] := by kernel_rfl
      rw [nE]
      have p0 := mulB (A := 40) (B := 40) (a := b - e) (b := c - i) (by omega) (by omega)
      have q0 := mulB (A := 40) (B := 40) (a := c - f) (b := b - h) (by omega) (by omega)
      have p1 := mulB (A := 40) (B := 40) (a := c - f) (b := a - g) (by omega) (by omega)
      have q1 := mulB (A := 40) (B := 40) (a := a - d) (b := c - i) (by omega) (by omega)
      have p2 := mulB (A := 40) (B := 40) (a := a - d) (b := b - h) (by omega) (by omega)
      have q2 := mulB (A := 40) (B := 40) (a := b - e) (b := a - g) (by omega) (by omega)
      exact ⟨rfl, by intro x hx; simp only [List.mem_cons, List.not_mem_nil, or_false] at hx; rcases hx with rfl | rfl | rfl <;> omega, by simp [offL, bit]⟩

theorem flag {set : Nat} {l : List Int} (g : Int) (hl : 1 ≤ l.length ∧ l.length ≤ 3) (h0 : 0 < set) (hs : set < 2 ^ l.length) (ho : offL set 0 l) :
    (decide (minI (l.map fun x => x.tdiv g) ≥ 0) && ((fashS (l.map fun x => x.tdiv g) : Int) == set)) = fairL set g 0 l := by
  match l, hl, hs, ho with
  | [x], _, hs, _ => exact flag1 h0 (by simpa using hs)
  | [x, y], _, hs, ho => exact flag2 h0 (by simpa using hs) ho
  | [x, y, z], _, hs, ho => exact flag3 h0 (by simpa using hs) ho

theorem resP_some {t : List (List Int)} {set : Nat} {x : List Int} {d : Int} (hok : okTab t) (h0 : 0 < set) (hs : set < 2 ^ t.length) (h : restS t set = some (x, d)) :
    resP (numsT t set) set = .tup [.agg [.imm false (x.map vI) x.length, vI d], .bool true] ∧ resR (numsT t set) set = .tup [.agg [.imm false (x.map vI) x.length, vI d], vI 0] ∧ fashS x = set ∧ x.length = t.length ∧ small x := by
  obtain ⟨n1, n2, n3⟩ := nums_ok hok h0 hs
  unfold restS at h
  simp only at h
  split at h
  · rename_i hc
    obtain ⟨rfl, rfl⟩ : _ ∧ _ := by simpa using h
    have hf := flag (divS (numsT t set)) (by rw [n1]; exact ⟨hok.1, hok.2.1⟩) h0 (by rw [n1]; exact hs) n3
    rw [hc.2] at hf
    have hf2 := hf
    simp only [Bool.and_eq_true, beq_iff_eq] at hf2
    refine ⟨?_, ?_, by omega, by simpa using n1, ?_⟩
    · unfold resP
      rw [if_neg hc.1, hf, List.length_map]
    · unfold resR
      rw [if_neg hc.1, if_pos hc.2, List.length_map]
    · intro x hx
      obtain ⟨y, hy, rfl⟩ := List.mem_map.1 hx
      have h1 := n2 y hy
      have : (y.tdiv (divS (numsT t set))).natAbs ≤ y.natAbs := by rw [Int.natAbs_tdiv]; exact Nat.div_le_self _ _
      omega
  · cases h

theorem resP_none {t : List (List Int)} {set : Nat} (hok : okTab t) (h0 : 0 < set) (hs : set < 2 ^ t.length) (h : restS t set = none) :
    (∃ l d, resP (numsT t set) set = .tup [.agg [l, vI d], .bool false] ∧ (l = .nils ∨ ∃ q : List Int, l = .imm false (q.map vI) q.length)) ∧ resR (numsT t set) set = .tup [.agg [.nils, vI 0], vI 10] := by
  obtain ⟨n1, n2, n3⟩ := nums_ok hok h0 hs
  have hf := flag (divS (numsT t set)) (by rw [n1]; exact ⟨hok.1, hok.2.1⟩) h0 (by rw [n1]; exact hs) n3
  unfold restS at h
  simp only at h
  split at h
  · cases h
  · rename_i hc
    by_cases c0 : sumL (numsT t set) = 0
    · refine ⟨⟨.nils, 0, ?_, .inl rfl⟩, ?_⟩
      · unfold resP; rw [if_pos c0]
      · unfold resR; rw [if_pos c0]
    · have c1 : ¬ fairL set (divS (numsT t set)) 0 (numsT t set) = true := fun e => hc ⟨c0, e⟩
      have c2 : fairL set (divS (numsT t set)) 0 (numsT t set) = false := by simpa using c1
      rw [c2] at hf
      refine ⟨⟨.imm false (((numsT t set).map fun x => x.tdiv (divS (numsT t set))).map vI) ((numsT t set).map fun x => x.tdiv (divS (numsT t set))).length, (sumL (numsT t set)).tdiv (divS (numsT t set)), ?_, .inr ⟨_, rfl⟩⟩, ?_⟩
      · unfold resP; rw [if_neg c0, hf, List.length_map]
      · unfold resR; rw [if_neg c0, if_neg c1]
end
end Go.X

/-! All mixtures that last: the program's way and the specification's. -/
set_option linter.unusedSimpArgs false
set_option linter.unusedVariables false
set_option maxHeartbeats 2000000
set_option maxRecDepth 10000
namespace Go.X
open Go Go.RowKit
section
variable {Y : Run} {H : Heap}

theorem Gro.more {k e n : Nat} {v : AV} {cells : List AV} (h : Gro k e H v n cells) (o : Ob) : Gro k e (H ++ [o]) v n cells :=
  h.keep fun j hj => by rw [List.getElem?_append_left (h.id_lt hj)]

/-- A list that is handed out. -/
def IsLst (w : AV) (n : Nat) (cells : List AV) : Prop := (n = 0 ∧ w = .nils) ∨ ∃ s, w = .imm s cells n

theorem mapM_id {f : AV → Option AV} : ∀ (l : List AV), (∀ c ∈ l, f c = some c) → l.mapM f = some l
  | [], _ => rfl
  | c :: l, h => by rw [mapM_cons', h c (by simp), mapM_id l fun c hc => h c (List.mem_cons_of_mem _ hc)]; rfl

theorem Gro.freeL {k e n d : Nat} {v : AV} {cells : List AV} (h : Gro k e H v n cells) (hc : ∀ c ∈ cells, freeA H (d + 1) c = some c) : ∃ w, freeA H (d + 2) v = some w ∧ IsLst w n cells := by
  obtain ⟨h1, ⟨rfl, rfl⟩ | ⟨id, ver, hid, rfl, hH⟩⟩ := h
  · exact ⟨.nils, rfl, .inl ⟨rfl, rfl⟩⟩
  · exact ⟨.imm false cells n, by rw [free_sl, hH, freeS_some, if_pos (by simp; omega), List.drop_zero, List.take_of_length_le (by omega), mapM_id _ hc, freeB_some], .inr ⟨false, rfl⟩⟩

/-- A mixture's two cells. -/
def mixC (x : List Int × Int) : List AV := [.imm false (x.1.map vI) x.1.length, vI x.2]
def mixL (l : List (List Int × Int)) : List AV := l.flatMap mixC

def pickS (t : List (List Int)) (set : Nat) : Option (List Int × Int) :=
  match restS t set with
  | some x => if lastsP t x.1 then some x else none
  | none => none

/-- The mixtures that last. -/
def lastingS (t : List (List Int)) : List (List Int × Int) := (List.range' 1 (2 ^ t.length - 1)).filterMap (pickS t)

theorem L17 {vt vl : AV} {t : List (List Int)} (ht : IsTab vt t) (hl : IsTab vl t) (hok : okTab t) (d : Nat) : ∀ (set : Nat) (l : List (List Int × Int)) (v : AV) (R : Heap), set + d = 2 ^ t.length → 0 < set → l.length ≤ set → Gro 0 2 R v l.length (mixL l) →
    ∃ R' v', lp E Y F17L0 (st 45 [(0, vl), (4, vt), (6, .fn 48 []), (7, .fn 49 []), (8, v), (9, vI set)]) R = some (.x 0, st 45 [(8, v')], R') ∧
      Gro 0 2 R' v' (l ++ (List.range' set d).filterMap (pickS t)).length (mixL (l ++ (List.range' set d).filterMap (pickS t))) := by
  have h8 : 2 ^ t.length ≤ 8 := Nat.pow_le_pow_right (by decide) hok.2.1 (n := 2)
  have s1 := shlW (i := t.length) (by have := hok.2.1; omega)
  simp only [binA] at s1
  induction d with
  | zero =>
    intro set l v R hs h0 hle hG
    refine ⟨R, v, ?_, by simpa using hG⟩
    rw [un17_0]
    have : ¬ ((set : Int) < ((2 ^ t.length : Nat) : Int)) := by omega
    simp only [F17L0b, SS, insA, wantedA, Opd.ev, putA, binA, eqbA, unA, fldA, partA, reduceIte, reduceCtorEq, Nat.reduceMod, Nat.reduceDiv, Nat.reduceBEq, resultA, resA, vI, Nat.reduceMul, Nat.reduceAdd, Nat.reduceSub, Nat.reduceEqDiff, Nat.reduceLT, Nat.reducePow, Nat.reduceLeDiff, st, Option.bind_eq_bind, Option.pure_def, List.length_nil, Int.cast_ofNat_Int, List.reverse_nil, UU, idxP, cellsAt, storeA, fillA, zerosA, putAll, optNat, sliceA, row, Int.reduceLT, Int.reduceLE, Int.reduceGT, Int.reduceGE, Int.reduceEq, Int.reduceNe, Int.reduceToNat, Int.reduceBEq, Int.reduceBNe, Nat.reduceLeDiff, Nat.reduceLT, Nat.reduceBNe, Nat.reduceGT, List.drop_nil, List.take_nil, Option.isSome_none, Int.ofNat_one, Int.ofNat_zero, hl.len, s1, this]
  | succ d ih =>
    intro set l v R hs h0 hle hG
    have hc : ((set : Int) < ((2 ^ t.length : Nat) : Int)) := by omega
    have hw := wrap_succ (n := set) (by omega)
    have k1 := fun H => resting48 (Y := Y) (H := H) ht hok h0 (by omega)
    rw [un17_0, List.range'_succ, List.filterMap_cons]
    cases hr : restS t set with
    | none =>
      obtain ⟨⟨pl, pd, e1, hpl⟩, _⟩ := resP_none hok h0 (by omega) hr
      have e2 : pickS t set = none := by unfold pickS; rw [hr]
      simp only [e1] at k1
      obtain ⟨R', v', q1, q2⟩ := ih (set + 1) l v (R ++ [⟨0, [pl, vI pd]⟩]) (by omega) (by omega) (by omega) (hG.more _)
      refine ⟨R', v', ?_, by rw [e2]; exact q2⟩
      simp only [SS, insA, wantedA, Opd.ev, putA, binA, eqbA, unA, fldA, partA, reduceIte, reduceCtorEq, Nat.reduceMod, Nat.reduceDiv, Nat.reduceBEq, resultA, resA, vI, Nat.reduceMul, Nat.reduceAdd, Nat.reduceSub, Nat.reduceEqDiff, Nat.reduceLT, Nat.reducePow, Nat.reduceLeDiff, st, Option.bind_eq_bind, Option.pure_def, List.length_nil, Int.cast_ofNat_Int, List.reverse_nil] at q1 k1
      rcases hpl with rfl | ⟨q, rfl⟩
      · simp only [F17L0b, SS, insA, wantedA, Opd.ev, putA, binA, eqbA, unA, fldA, partA, reduceIte, reduceCtorEq, Nat.reduceMod, Nat.reduceDiv, Nat.reduceBEq, resultA, resA, vI, Nat.reduceMul, Nat.reduceAdd, Nat.reduceSub, Nat.reduceEqDiff, Nat.reduceLT, Nat.reducePow, Nat.reduceLeDiff, st, Option.bind_eq_bind, Option.pure_def, List.length_nil, Int.cast_ofNat_Int, List.reverse_nil, UU, idxP, cellsAt, storeA, fillA, zerosA, putAll, optNat, sliceA, row, Int.reduceLT, Int.reduceLE, Int.reduceGT, Int.reduceGE, Int.reduceEq, Int.reduceNe, Int.reduceToNat, Int.reduceBEq, Int.reduceBNe, Nat.reduceLeDiff, Nat.reduceLT, Nat.reduceBNe, Nat.reduceGT, List.drop_nil, List.take_nil, Option.isSome_none, Int.ofNat_one, Int.ofNat_zero, hl.len, ht.snap, s1, hc, hw, k1, get_last, set_last, q1]
      · simp only [F17L0b, SS, insA, wantedA, Opd.ev, putA, binA, eqbA, unA, fldA, partA, reduceIte, reduceCtorEq, Nat.reduceMod, Nat.reduceDiv, Nat.reduceBEq, resultA, resA, vI, Nat.reduceMul, Nat.reduceAdd, Nat.reduceSub, Nat.reduceEqDiff, Nat.reduceLT, Nat.reducePow, Nat.reduceLeDiff, st, Option.bind_eq_bind, Option.pure_def, List.length_nil, Int.cast_ofNat_Int, List.reverse_nil, UU, idxP, cellsAt, storeA, fillA, zerosA, putAll, optNat, sliceA, row, Int.reduceLT, Int.reduceLE, Int.reduceGT, Int.reduceGE, Int.reduceEq, Int.reduceNe, Int.reduceToNat, Int.reduceBEq, Int.reduceBNe, Nat.reduceLeDiff, Nat.reduceLT, Nat.reduceBNe, Nat.reduceGT, List.drop_nil, List.take_nil, Option.isSome_none, Int.ofNat_one, Int.ofNat_zero, hl.len, ht.snap, s1, hc, hw, k1, get_last, set_last, q1]
    | some x =>
      obtain ⟨x, den⟩ := x
      obtain ⟨e1, _, hf, hxl, hxs⟩ := resP_some hok h0 (by omega) hr
      have k2 := fun H => lasts49 (Y := Y) (H := H) (den := den) ht hok (row_is (s := false) (l := x)) hxl hxs (by omega)
      have k3 := fun H => lasts49 (Y := Y) (H := H) (den := den) ht hok (row_is (s := true) (l := x)) hxl hxs (by omega)
      simp only [e1] at k1
      cases hp : lastsP t x
      · have e2 : pickS t set = none := by unfold pickS; rw [hr]; simp [hp]
        obtain ⟨R', v', q1, q2⟩ := ih (set + 1) l v (R ++ [⟨0, [.imm false (x.map vI) x.length, vI den]⟩]) (by omega) (by omega) (by omega) (hG.more _)
        refine ⟨R', v', ?_, by rw [e2]; exact q2⟩
        simp only [hp] at k2
        simp only [SS, insA, wantedA, Opd.ev, putA, binA, eqbA, unA, fldA, partA, reduceIte, reduceCtorEq, Nat.reduceMod, Nat.reduceDiv, Nat.reduceBEq, resultA, resA, vI, Nat.reduceMul, Nat.reduceAdd, Nat.reduceSub, Nat.reduceEqDiff, Nat.reduceLT, Nat.reducePow, Nat.reduceLeDiff, st, Option.bind_eq_bind, Option.pure_def, List.length_nil, Int.cast_ofNat_Int, List.reverse_nil] at q1 k1 k2
        simp only [F17L0b, SS, insA, wantedA, Opd.ev, putA, binA, eqbA, unA, fldA, partA, reduceIte, reduceCtorEq, Nat.reduceMod, Nat.reduceDiv, Nat.reduceBEq, resultA, resA, vI, Nat.reduceMul, Nat.reduceAdd, Nat.reduceSub, Nat.reduceEqDiff, Nat.reduceLT, Nat.reducePow, Nat.reduceLeDiff, st, Option.bind_eq_bind, Option.pure_def, List.length_nil, Int.cast_ofNat_Int, List.reverse_nil, UU, idxP, cellsAt, storeA, fillA, zerosA, putAll, optNat, sliceA, row, Int.reduceLT, Int.reduceLE, Int.reduceGT, Int.reduceGE, Int.reduceEq, Int.reduceNe, Int.reduceToNat, Int.reduceBEq, Int.reduceBNe, Nat.reduceLeDiff, Nat.reduceLT, Nat.reduceBNe, Nat.reduceGT, List.drop_nil, List.take_nil, Option.isSome_none, Int.ofNat_one, Int.ofNat_zero, hl.len, ht.snap, s1, hc, hw, k1, k2, get_last, set_last, q1]
      · have e2 : pickS t set = some (x, den) := by unfold pickS; rw [hr]; simp [hp]
        obtain ⟨v2, H2, g1, g2, g3, g4⟩ := (hG.more ⟨0, [.imm false (x.map vI) x.length, vI den]⟩).app (bytes := 32) (ys := [.imm false (x.map vI) x.length, vI den]) (by omega) rfl rfl (by omega) (by omega)
        have g5 : Gro 0 2 H2 v2 (l ++ [(x, den)]).length (mixL (l ++ [(x, den)])) := by
          simpa [mixL, mixC] using g2
        obtain ⟨R', v', q1, q2⟩ := ih (set + 1) (l ++ [(x, den)]) v2 H2 (by omega) (by omega) (by simp; omega) g5
        refine ⟨R', v', ?_, by rw [e2]; simpa using q2⟩
        simp only [hp] at k2
        simp only [SS, insA, wantedA, Opd.ev, putA, binA, eqbA, unA, fldA, partA, reduceIte, reduceCtorEq, Nat.reduceMod, Nat.reduceDiv, Nat.reduceBEq, resultA, resA, vI, Nat.reduceMul, Nat.reduceAdd, Nat.reduceSub, Nat.reduceEqDiff, Nat.reduceLT, Nat.reducePow, Nat.reduceLeDiff, st, Option.bind_eq_bind, Option.pure_def, List.length_nil, Int.cast_ofNat_Int, List.reverse_nil] at q1 k1 k2
        simp only [SS, insA, wantedA, Opd.ev, putA, binA, eqbA, unA, fldA, partA, reduceIte, reduceCtorEq, Nat.reduceMod, Nat.reduceDiv, Nat.reduceBEq, resultA, resA, vI, Nat.reduceMul, Nat.reduceAdd, Nat.reduceSub, Nat.reduceEqDiff, Nat.reduceLT, Nat.reducePow, Nat.reduceLeDiff, st, Option.bind_eq_bind, Option.pure_def, List.length_nil, Int.cast_ofNat_Int, List.reverse_nil, List.append_assoc, List.length_append] at g1
        simp only [F17L0b, SS, insA, wantedA, Opd.ev, putA, binA, eqbA, unA, fldA, partA, reduceIte, reduceCtorEq, Nat.reduceMod, Nat.reduceDiv, Nat.reduceBEq, resultA, resA, vI, Nat.reduceMul, Nat.reduceAdd, Nat.reduceSub, Nat.reduceEqDiff, Nat.reduceLT, Nat.reducePow, Nat.reduceLeDiff, st, Option.bind_eq_bind, Option.pure_def, List.length_nil, Int.cast_ofNat_Int, List.reverse_nil, UU, idxP, cellsAt, storeA, fillA, zerosA, putAll, optNat, sliceA, row, Int.reduceLT, Int.reduceLE, Int.reduceGT, Int.reduceGE, Int.reduceEq, Int.reduceNe, Int.reduceToNat, Int.reduceBEq, Int.reduceBNe, Nat.reduceLeDiff, Nat.reduceLT, Nat.reduceBNe, Nat.reduceGT, List.drop_nil, List.take_nil, Option.isSome_none, Int.ofNat_one, Int.ofNat_zero, hl.len, ht.snap, s1, hc, hw, k1, k2, get_last, set_last, g1, q1]
theorem mix_free {d : Nat} {l : List (List Int × Int)} : ∀ c ∈ mixL l, freeA H (d + 1) c = some c := by
  intro c hc
  obtain ⟨x, _, hx⟩ := List.mem_flatMap.1 hc
  simp only [mixC, List.mem_cons, List.not_mem_nil, or_false] at hx
  rcases hx with rfl | rfl <;> rfl

theorem lasting17 {vt : AV} {t : List (List Int)} (ht : IsTab vt t) (hs : t.length < 1000) (hok : okTab t) :
    ∃ w, IsLst w (lastingS t).length (mixL (lastingS t)) ∧ ∀ H, freeX H (callL E Y 17 [vt] []) = some (.tup [w, vI 0], H) := by
  obtain ⟨R', v', q1, q2⟩ := L17 (Y := Y) ht ht hok (2 ^ t.length - 1) 1 [] .nils [] (by have := Nat.two_pow_pos t.length; omega) (by omega) (by simp) (Gro.nil _ _ _)
  rw [List.nil_append] at q2
  obtain ⟨w, hw, hi⟩ := q2.freeL (d := 3) mix_free
  refine ⟨w, hi, fun H => ?_⟩
  have r := read47 (Y := Y) (H := []) ht hs
  rw [call17 rfl]
  simp only [SS, insA, wantedA, Opd.ev, putA, binA, eqbA, unA, fldA, partA, reduceIte, reduceCtorEq, Nat.reduceMod, Nat.reduceDiv, Nat.reduceBEq, resultA, resA, vI, Nat.reduceMul, Nat.reduceAdd, Nat.reduceSub, Nat.reduceEqDiff, Nat.reduceLT, Nat.reducePow, Nat.reduceLeDiff, st, Option.bind_eq_bind, Option.pure_def, List.length_nil, Int.cast_ofNat_Int, List.reverse_nil, Int.ofNat_one] at q1
  simp only [F17B, F17T0, in17_0, SS, insA, wantedA, Opd.ev, putA, binA, eqbA, unA, fldA, partA, reduceIte, reduceCtorEq, Nat.reduceMod, Nat.reduceDiv, Nat.reduceBEq, resultA, resA, vI, Nat.reduceMul, Nat.reduceAdd, Nat.reduceSub, Nat.reduceEqDiff, Nat.reduceLT, Nat.reducePow, Nat.reduceLeDiff, st, Option.bind_eq_bind, Option.pure_def, List.length_nil, Int.cast_ofNat_Int, List.reverse_nil, UU, idxP, cellsAt, storeA, fillA, zerosA, putAll, optNat, sliceA, row, Int.reduceLT, Int.reduceLE, Int.reduceGT, Int.reduceGE, Int.reduceEq, Int.reduceNe, Int.reduceToNat, Int.reduceBEq, Int.reduceBNe, Nat.reduceLeDiff, Nat.reduceLT, Nat.reduceBNe, Nat.reduceGT, List.drop_nil, List.take_nil, Option.isSome_none, Int.ofNat_one, Int.ofNat_zero, r, hok, decide_true, q1, hw]

end
end Go.X
